/-
  PART 5 OF THE PROOF (no conditions).
-/
import Derived.Test.YteapjkmnfbpidaaGreatDoorST4
import Derived.Calls
import Derived.LaidMore
import Derived.MakeChecks
import Derived.OpenShut
import Derived.ProofKit
import Derived.Stop.Joined
import Derived.Test.YteapjkmnfbpidaaGreatDoorRows
import GoSem.ClaimJoined
set_option linter.unusedSectionVars false
set_option linter.unusedSimpArgs false
set_option linter.unusedVariables false
set_option linter.constructorNameAsVariable false
set_option linter.defProp false
noncomputable section
set_option maxRecDepth 100000
namespace Go.Am
namespace Sx
section
variable [Val] {C:Cfg} {B:Below} {N:Tb} {pts:Tz} {ops:Tm}
def nI{i:Nat}{post:Tz}:∀(pre:Tz),(∀k∈pre,∀σ σ₁ σ':St,ae C B pts ops k σ σ₁->ae C B pts ops i σ₁ σ'->∃τ,ae C B pts ops i σ τ/\ae C B pts ops k τ σ')->
  ∀σ σ':St,aT C B pts ops (pre++i :: post) σ σ'->aT C B pts ops (i :: (pre++post)) σ σ'
 | [],_,σ,σ',h=>h
 |k :: pre,hc,σ,σ',⟨σ₁,h1,h2⟩=>by
  obtain⟨σ₂,h3,h4⟩:=nI pre (λk hk=>hc k (by simp[hk])) σ₁ σ' h2
  obtain⟨τ,h5,h6⟩:=hc k (by simp) σ σ₁ σ₂ h1 h3
  exact⟨τ,h5,σ₂,h6,h4⟩
inductive Anc(ops:Tm)(k:Nat):Nat->Prop
 |edge {i:Nat} {o:Oper} {e:Edge} (ho:ops[i]?=some o) (he:e∈o.after.toList) (hb:Region.binds .any e=true) (hk:e.on=k):Anc ops k i
 |step {i:Nat} {o:Oper} {e:Edge} (ho:ops[i]?=some o) (he:e∈o.after.toList) (hb:Region.binds .any e=true) (h:Anc ops k e.on):Anc ops k i
def ancOf_ok{acc:Tz}(hacc:∀(i k:Nat),(acc.getD i 0).testBit k=true->Anc ops k i){i:Nat}{o:Oper}(ho:ops[i]?=some o){k:Nat}(h:(ancOf acc o).testBit k=true):Anc ops k i:=by
 unfold ancOf at h
 have main:∀(l:List Edge) (m:Nat),(∀e∈l,e∈o.after.toList)->(m.testBit k=true->Anc ops k i)->
   (l.foldl (λm e=>match Region.binds .any e with
    |true=>Nat.lor (Nat.lor m (Nat.shiftLeft 1 e.on)) (acc.getD e.on 0)
    |false=>m) m).testBit k=true->Anc ops k i:=by
  intro l
  induction l with
  |nil=>intro m _ hm h;exact hm h
  |cons e l ih=>
   intro m hl hm h
   simp only[qb1]at h
   refine ih _ (λe he=>hl e (by simp[he])) (λhb=>?_) h
   cases hbi:Region.binds .any e with
   |false=>simp only[hbi]at hb;exact hm hb
   |true=>
    simp only[hbi]at hb
    have hb':((m ||| (1 <<< e.on)) ||| acc.getD e.on 0).testBit k=true:=hb
    rw[Nat.testBit_or,Nat.testBit_or,qaX,qaX]at hb'
    rcases hb' with(hb'|hb')|hb'
    ·exact hm hb'
    ·rw[Nat.one_shiftLeft,Nat.testBit_two_pow]at hb'
     exact .edge ho (hl e (by simp)) hbi (by simpa using hb')
    ·exact .step ho (hl e (by simp)) hbi (hacc _ _ hb')
 exact main _ 0 (λ_ h=>h) (λh=>by simp at h) h
def kV:∀(l:Tv) (acc:Tz),ops.toList.drop acc.length=l->(∀(i k:Nat),(acc.getD i 0).testBit k=true->Anc ops k i)->∀(i k:Nat),((ancs l acc).getD i 0).testBit k=true->Anc ops k i
 | [],acc,_,hacc=>hacc
 |o :: l,acc,hl,hacc=>by
  have ho:ops[acc.length]?=some o:=by
   have:(ops.toList.drop acc.length)[0]?=some o:=by rw[hl];rfl
   simpa using this
  refine kV l (acc++[ancOf acc o]) (by rw[qaG,←qbD,hl];rfl) λi k h=>?_
  rw[List.getD_eq_getElem?_getD,qcJ]at h
  split at h
  ·exact hacc i k (by rw[List.getD_eq_getElem?_getD];exact h)
  next hge=>
   by_cases hi:i=acc.length
   ·subst hi
    simp at h
    exact ancOf_ok hacc ho h
   ·rw[qae (by simp;omega)]at h
    simp at h
def dX:Tv->Nat->Bool
 | [],_=>true
 |o :: l,i=>(o.after.toList.all λe=>!Region.binds .any e||Nat.blt e.on i)&&dX l (i+1)
def oJ(N:Tb)(pts:Tz)(ops:Tm)(b:Oper)(m:Nat):Tv->Nat->Bool
 | [],_=>true
 |a :: l,k=>(Nat.testBit m k||vc N pts ops a b)&&oJ N pts ops b m l (k+1)
def pE(N:Tb)(pts:Tz)(ops:Tm)(ms:Tz):Tv->Tv->Nat->Bool
 |_,[],_=>true
 |pre,b :: l,i=>oJ N pts ops b (ms.getD i 0) pre 0&&pE N pts ops ms (pre++[b]) l (i+1)
def rz(N:Tb)(pts:Tz)(ops:Tm):Bool:=
 dX ops.toList 0&&pE N pts ops (ancs ops.toList []) [] ops.toList 0
def dp:∀ {l:Tv} {i:Nat},dX l i=true->∀(j:Nat) o,l[j]?=some o->∀e∈o.after.toList,Region.binds .any e=true->e.on<i+j
 | [],i,_,j,o,h,_,_,_=>by simp at h
 |o :: l,i,h,j,p,hj,e,he,hb=>by
  simp only[dX,qaa,qab]at h
  cases j with
  |zero=>
   simp at hj
   subst hj
   have:=h.1 e he
   rw[hb]at this
   simpa[qaU]using this
  |succ j=>
   have:=dp h.2 j p (by simpa using hj) e he hb
   omega
def ni{b:Oper}{m:Nat}:∀ {l:Tv} {k:Nat},oJ N pts ops b m l k=true->∀(j:Nat) a,l[j]?=some a->m.testBit (k+j)=true∨vc N pts ops a b=true
 | [],k,_,j,a,h=>by simp at h
 |a :: l,k,h,j,c,hj=>by
  simp only[oJ,qaa,qaX]at h
  cases j with
  |zero=>simp at hj;subst hj;exact h.1
  |succ j=>
   have:=ni h.2 j c (by simpa using hj)
   rwa [show k+1+j=k+(j+1)by omega]at this
def nR{ms:Tz}:∀ {l pre:Tv} {i:Nat},pre.length=i->pE N pts ops ms pre l i=true->∀(j:Nat) b,l[j]?=some b->∀(k:Nat) a,k<i+j->(pre++l)[k]?=some a->(ms.getD (i+j) 0).testBit k=true∨vc N pts ops a b=true
 | [],pre,i,_,_,j,b,h,_,_,_,_=>by simp at h
 |b :: l,pre,i,hp,h,j,c,hj,k,a,hk,ha=>by
  simp only[pE,qaa]at h
  cases j with
  |zero=>
   simp at hj
   subst hj
   rw[qaf (by omega)]at ha
   have:=ni h.1 k a ha
   simpa using this
  |succ j=>
   have:=nR (pre:=pre++[b]) (i:=i+1) (by simp[hp]) h.2 j c (by simpa using hj) k a (by omega) (by simpa using ha)
   rwa [show i+1+j=i+(j+1)by omega]at this
def vI(h:rz N pts ops=true){i k:Nat}{a b:Oper}(hb:ops[i]?=some b)(ha:ops[k]?=some a)(hk:k<i):Anc ops k i∨vc N pts ops a b=true:=by
 simp only[rz,qaa]at h
 have:=nR (pre:=[]) (i:=0) rfl h.2 i b (by simpa using hb) k a (by omega) (by simpa using ha)
 rw[qaF]at this
 exact this.imp (λh=>kV ops.toList [] rfl (λi k h=>by simp at h) i k h) id
def vH(h:rz N pts ops=true){i:Nat}{o:Oper}(ho:ops[i]?=some o){e:Edge}(he:e∈o.after.toList)(hb:Region.binds .any e=true):e.on<i:=by
 simp only[rz,qaa]at h
 have:=dp h.1 i o (by simpa using ho) e he hb
 omega
def unl(n:Nat)(listed:Array Bool):Tz:=(List.range n).filter λi=>!listed.getD i true
def mY{listed:Array Bool}(hcl:∀(x:Nat) o,listed.getD x true=true->ops[x]?=some o->∀e∈o.after.toList,Region.binds .any e=true->listed.getD e.on false=true){k i:Nat}(h:Anc ops k i)
  (hr:∀o,ops[i]?=some o->∀e∈o.after.toList,Region.binds .any e=true->listed.getD e.on false=true):listed.getD k false=true:=by
 induction h with
 |edge ho he hb hk=>rw[←hk];exact hr _ ho _ he hb
 |step ho he hb h ih=>
  have h1:=hr _ ho _ he hb
  refine ih λo ho2 e he2 hb2=>hcl _ o ?_ ho2 e he2 hb2
  rename_i e0
  rw[qal]at h1 ⊢
  cases hx:listed[e0.on]? with
  |none=>rfl
  |some b=>rw[hx]at h1;exact h1
abbrev _root_.Tx:=Nat->Bool
def fM{p:Tx}{i:Nat}:∀ {l:Tz},l.Nodup->i∈l.filter p->∃pre post,l.filter p=pre++i :: post/\(l.filter λj=>p j&&j != i)=pre++post/\(∀k∈pre,k∈l.filter p/\k≠i)
 | [],_,h=>by simp at h
 |x :: l,hn,h=>by
  rw[qcr]at hn
  by_cases hx:x=i
  ·subst hx
   have hp:p x=true:=(qaR.1 h).2
   refine⟨[],l.filter p,by simp[hp],?_,by simp⟩
   simp only[qaw,qck,hp,bne_self_eq_false,Bool.and_false,qaj,if_false]
   refine qcZ λj hj=>?_
   have:j≠x:=λe=>hn.1 (e▸hj)
   simp[this]
  ·have h':i∈l.filter p:=by
    rw[qaR]at h ⊢
    exact⟨(qap.1 h.1).resolve_left λe=>hx e.symm,h.2⟩
   obtain⟨pre,post,e1,e2,e3⟩:=fM hn.2 h'
   by_cases hp:p x=true
   ·refine⟨x :: pre,post,by simp[qck,hp,e1],?_,λk hk=>?_⟩
    ·simp only[qck,hp,qc1,qax]
     rw[qdq (by simpa using hx),e2]
    ·rcases qap.1 hk with rfl|hk
     ·exact⟨by simp[qaR,hp],hx⟩
     ·obtain⟨q1,q2⟩:=e3 k hk
      rw[qaR]at q1 ⊢
      exact⟨⟨by simp[q1.1],q1.2⟩,q2⟩
   ·refine⟨pre,post,by simp[qck,hp,e1],?_,λk hk=>?_⟩
    ·simp only[qck,hp,Bool.false_and,qaj,if_false]
     exact e2
    ·obtain⟨q1,q2⟩:=e3 k hk
     rw[qaR]at q1 ⊢
     exact⟨⟨by simp[q1.1],q1.2⟩,q2⟩
def jM{p:Tx}:∀ {n:Nat} {pre post:Tz} {i:Nat},(List.range n).filter p=pre++i :: post->∀k∈pre,k<i:=by
 intro n pre post i h k hk
 have hs:((List.range n).filter p).Pairwise (· < ·):=qcI _ qcc
 rw[h,qcK]at hs
 exact hs.2.2 k hk i (by simp)
def go_ok(hN:NeuB N B)(hreg:rz N pts ops=true):∀(fuel t:Nat) (listed:Array Bool),listed.size=ops.size->(unl ops.size listed).length=fuel->
  (∀(x:Nat) o,listed.getD x true=true->ops[x]?=some o->∀e∈o.after.toList,Region.binds .any e=true->listed.getD e.on false=true)->
  ∀σ σ':St,aT C B pts ops (unl ops.size listed) σ σ'->aT C B pts ops (Region.linearise.go .any ops fuel t listed []) σ σ'
 |0,t,listed,_,hl,_,σ,σ',h=>by
  have:unl ops.size listed=[]:=qa9.1 hl
  rw[this]at h
  simpa[Region.linearise.go]using h
 |fuel+1,t,listed,hsz,hl,hcl,σ,σ',h=>by
  simp only[Region.linearise.go]
  generalize hrs:((List.range ops.size).filter λi=>!listed.getD i true&&((ops[i]?).map (·.after.all λe=>!Region.binds .any e||listed.getD e.on false)).getD false)=rs
  have hready:∀i∈rs,i<ops.size/\listed.getD i true=false/\∀o,ops[i]?=some o->∀e∈o.after.toList,Region.binds .any e=true->listed.getD e.on false=true:=by
   intro i hi
   rw[←hrs,qaR,qah]at hi
   obtain⟨h1,h2⟩:=hi
   simp only[qaa,qbB]at h2
   refine⟨h1,h2.1,λo ho e he hb=>?_⟩
   have h3:=h2.2
   rw[ho]at h3
   simp only[qau,qbg]at h3
   rw[qcq]at h3
   have:=h3 e (by simpa using he)
   rw[hb]at this
   simpa using this
  have hne:rs≠[]:=by
   have hu:unl ops.size listed≠[]:=by intro e;rw[e]at hl;cases hl
   obtain⟨i0,tl,hu0⟩:=qcS hu
   have hi0:i0∈unl ops.size listed:=by rw[hu0];simp
   have hi1:=hi0
   rw[unl,qaR,qah]at hi1
   have hmem:i0∈rs:=by
    rw[←hrs,qaR,qah]
    refine⟨hi1.1,?_⟩
    simp only[qaa]
    refine⟨hi1.2,?_⟩
    have ho:ops[i0]?=some ops[i0]:=by simp[hi1.1]
    rw[ho]
    simp only[qau,qbg]
    rw[qcq]
    intro e he
    cases hb:Region.binds .any e with
    |false=>simp
    |true=>
     have hlt:=vH hreg ho (by simpa using he) hb
     simp only[qaK,qcN]
     by_cases hlis:listed.getD e.on true=true
     ·have hs:e.on<listed.size:=by omega
      rw[qal]at hlis ⊢
      rw[qbm hs]at hlis ⊢
      exact hlis
     ·exfalso
      have hm:e.on∈unl ops.size listed:=by
       rw[unl,qaR,qah]
       exact⟨by omega,by simpa using hlis⟩
      rw[hu0]at hm
      rcases qap.1 hm with hm|hm
      ·omega
      ·have hs:(unl ops.size listed).Pairwise (· < ·):=qcI _ qcc
       rw[hu0,qce]at hs
       have:=hs.1 _ hm
       omega
   intro e;rw[e]at hmem;cases hmem
  have hlen:0<rs.length:=List.length_pos_iff.2 hne
  have hget:rs[t%rs.length]?=some (rs[t%rs.length]'(qbV _ hlen)):=qas (qbV _ hlen)
  rw[hget]
  simp only
  generalize hi:rs[t%rs.length]'(qbV _ hlen)=i
  have hmem:i∈rs:=by rw[←hi];exact qc6 _
  obtain⟨i1,i2,i3⟩:=hready i hmem
  rw[linearise_go_acc,List.reverse_singleton,List.singleton_append]
  have hiu:i∈(List.range ops.size).filter λj=>!listed.getD j true:=by
   rw[qaR,qah];exact⟨i1,by simp[i2]⟩
  obtain⟨pre,post,e1,e2,e3⟩:=fM List.nodup_range hiu
  have hord:=jM e1
  have hnew:unl ops.size (listed.setIfInBounds i true)=pre++post:=by
   rw[←e2]
   unfold unl
   refine qcZ λj hj=>?_
   rw[qal,qal,qbb]
   by_cases hji:i=j
   ·subst hji
    rw[qdq rfl,qdq (by omega)]
    simp
   ·rw[qdr hji]
    have:(j != i)=true:=by simpa using λe=>hji e.symm
    simp[this]
  have hmf:=nI (C:=C) (B:=B) (pts:=pts) (ops:=ops) (i:=i) (post:=post) pre (λk hk σ σ₁ σ' s1 s2=>by
   obtain⟨m1,m2⟩:=e3 k hk
   rw[qaR,qah]at m1
   have ha:ops[k]?=some ops[k]:=by simp[m1.1]
   have hb:ops[i]?=some ops[i]:=by simp[i1]
   rcases vI hreg hb ha (hord k hk)with hanc|hcm
   ·exfalso
    have:=mY hcl hanc i3
    have m3:=m1.2
    rw[qal]at this m3
    rw[qbm (by omega)]at this m3
    simp only[qbg]at this m3
    rw[this]at m3
    cases m3
   ·exact swap_ok hN ha hb hcm s1 s2) σ σ'
  obtain⟨σ₁,s1,s2⟩:=hmf (by rw[←e1];exact h)
  refine⟨σ₁,s1,go_ok hN hreg fuel _ _ (by simp[hsz]) ?_ ?_ σ₁ σ' (by rw[hnew];exact s2)⟩
  ·rw[hnew]
   have:(unl ops.size listed).length=(pre++post).length+1:=by
    show(List.filter _ _).length=_
    rw[e1];simp;omega
   omega
  ·intro x o hx ho e he hb
   have keep:∀y,listed.getD y false=true->(listed.setIfInBounds i true).getD y false=true:=by
    intro y hy
    rw[qal]at hy ⊢
    rw[qbb]
    split
    next h1=>
     subst h1
     rw[qdq (by omega)];rfl
    ·exact hy
   by_cases hxi:x=i
   ·subst hxi;exact keep _ (i3 o ho e he hb)
   ·refine keep _ (hcl x o ?_ ho e he hb)
    rw[qal,qbb,qdr (λe=>hxi e.symm)]at hx
    rw[qal];exact hx
def any_ok(hN:NeuB N B)(hreg:rz N pts ops=true){σ σ':St}(h:aT C B pts ops (List.range ops.size) σ σ'):dm C B pts ops σ σ':=by
 refine .inl λt=>?_
 have hz:unl ops.size (Array.replicate ops.size false)=List.range ops.size:=by
  unfold unl
  rw[qcp]
  intro i hi
  rw[qah]at hi
  rw[qal,qbh,qdq hi]
  rfl
 refine go_ok hN hreg ops.size t (Array.replicate ops.size false) (by simp) (by rw[hz];simp) (λx o hx ho=>?_) σ σ' (by rw[hz];exact h)
 have hlt:x<ops.size:=(qaz.1 ho).1
 rw[qal,qbh,qdq hlt]at hx
 cases hx
end
end Sx
namespace Sx
section
variable [Val] [Kno] {C:Cfg}
def Lo(v:Value):Prop:=match v with
 | .pointer (some p)=>p.spot=some 0
 |_=>True
def ut{v:Value}(h:plain v=true):Lo v:=by
 cases v<;>try trivial
 rename_i a
 cases a<;>first|trivial|(simp[plain,gI,scalar,gz]at h)
def clearV_lo{keys:Tz}{v:Value}(h:Lo v):Lo (gF keys v):=by
 unfold gF
 repeat' split
 all_goals first|exact h|trivial
def LoS(as0:Tz)(σ:St):Prop:=∀a∈as0,∀v,σ.tmps[a]?=some v->Lo v
def rj(N:Tb)(pts as0:Tz)(o:Oper):Bool:=
 (match al N pts o with
 |some .no=>true
 |some (.row _ _)=>true
 |some (.neu _)=>true
 |_=>false) &&
 match o.dst with
 |some d=>!as0.contains d||(Nat.beq (pts.getD d 0) (d+2)&&match o.op with
  | .alloc _=>true
  | .box _ _=>true
  |_=>false)
 |none=>true
def neuC(N:Tb)(pts as0:Tz):Code->Bool
 | .skip | .label _ | .ret | .exit _=>true
 | .seq a b=>neuC N pts as0 a&&neuC N pts as0 b
 | .cond _ a b=>neuC N pts as0 a&&neuC N pts as0 b
 | .block _ b=>neuC N pts as0 b
 | .loop b=>neuC N pts as0 b
 | .scope b=>neuC N pts as0 b
 | .region _ ops _=>ops.toList.all (rj N pts as0)
 |_=>false
def rdOp(N:Tb)(pts:Tz)(o:Oper):Bool:=match al N pts o with
 |some .no=>true
 |some (.row _ _)=>true
 |some (.neu _)=>true
 |some .hr=>true
 |_=>false
def rdC(N:Tb)(pts:Tz):Code->Bool
 | .skip | .label _ | .ret | .exit _=>true
 | .seq a b=>rdC N pts a&&rdC N pts b
 | .cond _ a b=>rdC N pts a&&rdC N pts b
 | .block _ b=>rdC N pts b
 | .loop b=>rdC N pts b
 | .scope b=>rdC N pts b
 | .region _ ops _=>ops.toList.all (rdOp N pts)
 |_=>false
def fy(l:List ResultVar):Tz:=l.filterMap λr=>match r with
 | .cell a _=>some a
 | .tmp _=>none
def neuF(N:Tb)(C:Cfg)(f:TJ)(n:Nat):Bool:=
 match C.P.funcs[f]? with
 |some fn=>match fn.body with
  |some b=>match Nat.beq (n%2) 0 with
   |true=>neuC N (C.pts f) (fy fn.results.toList) b&&(fy fn.results.toList).all λa=>Nat.ble (n / 2) a
   |false=>C.opq f||rdC N (C.pts f) b
  |none=>false
 |none=>false
def rl{pts:Tz}{d:Nat}{t:TI}{v:Value}{e:Eff}(hp:pts.getD d 0=d+2)(he:bM C pts (some d) t v=some e):∃s vs,e = .lnew s vs:=by
 unfold bM at he
 split at he
 ·cases he
 ·simp only at he
  split at he
  ·cases he
  ·exact⟨_,_,(qan he).symm⟩
def uy{as0:Tz}{σ τ:St}{dst:Tn}{v:Value}(h:LoS as0 σ)(ht:τ.tmps=σ.tmps)(hv:(∀d,dst=some d->d∉as0)∨Lo v):LoS as0 (τ.put dst v):=by
 intro a ha x hx
 cases dst with
 |none=>exact h a ha x (by rw[←ht];exact hx)
 |some d=>
  simp only[St.put,qaD,ht]at hx
  split at hx
  next hd=>
   subst hd
   split at hx
   ·cases hx
    rcases hv with hv|hv
    ·exact absurd ha (hv _ rfl)
    ·exact hv
   ·cases hx
  ·exact h a ha x hx
def uJ{N:Tb}{B:Below}(hN:NeuB N B){pts as0:Tz}{ops:Tm}(hops:ops.toList.all (rj N pts as0)=true){i:Nat}{σ σ':St}(hl:LoS as0 σ)(h:ae C B pts ops i σ σ') :
  σ'.heap=σ.heap/\LoS as0 σ'/\∀H,ae C B pts ops i { σ with heap:=H } { σ' with heap:=H }:=by
 cases hi:ops[i]? with
 |none=>
  have:σ'=σ:=by simpa[ae,hi]using h
  subst this
  exact⟨rfl,hl,λH=>by simp[ae,hi]⟩
 |some o=>
  have ho:rj N pts as0 o=true:=qab.1 hops o (by
   have:=qcf hi
   simpa using this)
  unfold rj at ho
  rw[qaa]at ho
  obtain⟨o1,o2⟩:=ho
  have hm:al N pts o≠none:=by intro e;rw[e]at o1;cases o1
  obtain⟨e,rfl,te,le⟩:=eX hN hi hm h
  have hh:e.hp=none:=by
   cases he:e.hp with
   |none=>rfl
   |some x=>
    have:=te.2 (by rw[he];simp)
    rw[this]at o1;cases o1
  refine⟨by rw[dg,hh];rfl,?_,λH=>?_⟩
  ·by_cases hd:∀d,o.dst=some d->d∉as0
   ·unfold Ef.on
    exact uy hl rfl (.inl hd)
   · -- a local row is laid
    obtain⟨d,hd⟩:=Classical.not_forall.1 hd
    obtain⟨hdst,hd⟩:=Classical.not_imp.1 hd
    have hd:=Classical.not_not.1 hd
    rw[hdst]at o2
    simp only[qbZ,hd,decide_true,qaK,qcN,qaa]at o2
    have hp:pts.getD d 0=d+2:=by simpa using o2.1
    unfold ae at h
    simp only[hi]at h
    split at h
    ·exact h.elim
    ·rw[h];exact uy hl rfl (.inr trivial)
    ·rcases h with⟨ef,h1,h2⟩|⟨v,h1,h2⟩
     ·have hef:∃s vs,ef = .lnew s vs:=by
       have o3:=o2.2
       obtain⟨dst,op,ty,pos,after,guard⟩:=o
       simp only at hdst o3
       subst hdst
       cases op<;>first|cases o3|skip
       ·simp only[ak]at h1
        obtain⟨z,_,hz⟩:=qai.1 h1
        exact rl hp hz
       ·exact rl hp h1
      obtain⟨s,vs,rfl⟩:=hef
      obtain⟨p,hp1,hp2⟩:=h2
      rw[hp2]
      simp only[aA]at hp1
      split at hp1
      ·cases hp1
       exact uy hl rfl (.inr rfl)
      ·cases hp1
     ·rw[h2]
      exact uy hl rfl (.inr (ut h1.2.2.1))
  ·have hs:Sees N pts ops o σ { σ with heap:=H }:=by
    refine⟨λt _=>rfl,?_⟩
    cases hmm:al N pts o with
    |none=>trivial
    |some m=>rw[hmm]at o1;cases m<;>first|trivial|cases o1|rfl
   have:=le _ hs
   have e2:e.on o.dst { σ with heap:=H } = { e.on o.dst σ with heap:=H }:=by
    unfold Ef.on
    rw[hh]
    cases o.dst<;>rfl
   rw[e2]at this
   exact this
def sF{N:Tb}{B:Below}(hN:NeuB N B){pts as0:Tz}{ops:Tm}(hops:ops.toList.all (rj N pts as0)=true):∀(l:Tz) {σ σ':St},LoS as0 σ->aT C B pts ops l σ σ'->
  σ'.heap=σ.heap/\LoS as0 σ'/\∀H,aT C B pts ops l { σ with heap:=H } { σ' with heap:=H }
 | [],σ,σ',hl,h=>by
  have:σ'=σ:=h
  subst this
  exact⟨rfl,hl,λH=>rfl⟩
 |i :: l,σ,σ',hl,⟨σ₁,h1,h2⟩=>by
  obtain⟨a1,a2,a3⟩:=uJ hN hops hl h1
  obtain⟨b1,b2,b3⟩:=sF hN hops l a2 h2
  exact⟨b1.trans a1,b2,λH=>⟨_,a3 H,b3 H⟩⟩
def nY{as0:Tz}{σ σ':St}(hl:LoS as0 σ)(h:eB σ σ'):LoS as0 σ':=by
 intro a ha v hv
 obtain⟨_,_,h3,h4⟩:=h
 have hlt:a<σ'.tmps.length:=(qaV.1 hv).1
 have hx:σ.tmps[a]?=some (σ.tmps[a]'(by omega)):=qas _
 rcases h4 a _ _ hx hv with e|⟨_,h5,_⟩
 ·rw[e];exact hl a ha _ hx
 ·exact ut h5
def jW{σ σ':St}(h:eB σ σ')(H:Ts):eB { σ with heap:=H } { σ' with heap:=H }:=⟨h.1,rfl,h.2.2.1,h.2.2.2⟩
def ui{N:Tb}{B:Below}(hN:NeuB N B){pts as0:Tz}{ops:Tm}(hops:ops.toList.all (rj N pts as0)=true):∀(l:Tz) {σ σ':St},LoS as0 σ->eh C B pts ops l σ σ'->
  σ'.heap=σ.heap/\LoS as0 σ'/\∀H,eh C B pts ops l { σ with heap:=H } { σ' with heap:=H }
 | [],σ,σ',hl,h=>by
  have:σ'=σ:=h
  subst this
  exact⟨rfl,hl,λH=>rfl⟩
 |i :: l,σ,σ',hl,⟨σ₀,σ₁,h0,h1,h2⟩=>by
  obtain⟨a1,a2,a3⟩:=uJ hN hops (nY hl h0) h1
  obtain⟨b1,b2,b3⟩:=ui hN hops l a2 h2
  exact⟨b1.trans (a1.trans h0.2.1),b2,λH=>⟨_,_,jW h0 H,a3 H,b3 H⟩⟩
def clear_lo{as0:Tz}{σ:St}{keys:Tz}(hl:LoS as0 σ):LoS as0 (σ.clear keys):=by
 unfold St.clear
 split
 ·exact hl
 ·intro a ha v hv
  simp only[qaA,qad]at hv
  obtain⟨x,hx,rfl⟩:=hv
  exact clearV_lo (hl a ha x hx)
def clearHp(σ:St)(keys:Tz)(H:Ts):St.clear { σ with heap:=H } keys = { σ.clear keys with heap:=H }:=by
 unfold St.clear
 split<;>rfl
def tv(σ:St)(keys:Tz):(σ.clear keys).heap=σ.heap:=by
 unfold St.clear
 split<;>rfl
def vL{σ:St}{r:ResultVar}{as0:Tz}(hl:LoS as0 σ)(ha:∀a∈fy [r],a∈as0)(H:Ts):ej C { σ with heap:=H } r=ej C σ r:=by
 cases r with
 |tmp t=>rfl
 |cell a t=>
  have hm:a∈as0:=ha a (by simp[fy])
  unfold ej
  simp only
  cases hv:σ.tmps[a]? with
  |none=>simp[List.getD_eq_getElem?_getD,hv,undef]
  |some v=>
   have:=hl a hm v hv
   simp only[List.getD_eq_getElem?_getD,hv,qbg]
   cases v<;>try rfl
   rename_i p
   cases p with
   |none=>rfl
   |some p=>
    have hs:p.spot=some 0:=this
    simp only[hs]
def mm{σ:St}{as0:Tz}(hl:LoS as0 σ)(H:Ts):∀(l:List ResultVar),(∀a∈fy l,a∈as0)->cv C { σ with heap:=H } l=cv C σ l
 | [],_=>rfl
 |r :: l,ha=>by
  have h1:=vL (C:=C) (r:=r) hl (λa h=>ha a (by cases r<;>simp[fy]at h ⊢;exact .inl h)) H
  have h2:=mm hl H l (λa h=>ha a (by cases r<;>simp[fy]at h ⊢<;>first|exact h|exact .inr h))
  simp only[cv,h1,h2]
def new_neu{N:Tb}{pts as0:Tz}{o:Oper}(h:cI pts o=true)(hn:rj N pts as0 o=true):False:=by
 have hm:al N pts o=some .hw:=by
  obtain⟨dst,op,ty,pos,after,guard⟩:=o
  cases op<;>simp only[cI,qaj]at h<;>first|rfl|skip
  ·cases dst with
   |none=>cases h
   |some d=>
    simp only[al]
    rw[qdr (λe=>by
     have h:(!Nat.beq (pts.getD d 0) (d+2))=true:=h
     rw[e,show Nat.beq (d+2) (d+2)=true from qbN _]at h;cases h)]
  ·cases dst with
   |none=>cases h
   |some d=>
    simp only[al]
    rw[qdr (λe=>by
     have h:(!Nat.beq (pts.getD d 0) (d+2))=true:=h
     rw[e,show Nat.beq (d+2) (d+2)=true from qbN _]at h;cases h)]
  next c=>
   simp only[al]
   split at h
   next hc=>rw[hc]
   ·cases h
 unfold rj at hn
 rw[hm]at hn
 cases hn
def step_rd{N:Tb}{B:Below}(hN:NeuB N B){pts:Tz}{ops:Tm}(hops:ops.toList.all (rdOp N pts)=true){i:Nat}{σ σ':St}(h:ae C B pts ops i σ σ'):σ'.heap=σ.heap:=by
 cases hi:ops[i]? with
 |none=>
  have:σ'=σ:=by simpa[ae,hi]using h
  rw[this]
 |some o=>
  have ho:rdOp N pts o=true:=qab.1 hops o (by
   have:=qcf hi
   simpa using this)
  have hm:al N pts o≠none:=by intro e;unfold rdOp at ho;rw[e]at ho;cases ho
  obtain⟨e,rfl,te,_⟩:=eX hN hi hm h
  have hh:e.hp=none:=by
   cases he:e.hp with
   |none=>rfl
   |some x=>
    have:=te.2 (by rw[he];simp)
    unfold rdOp at ho
    rw[this]at ho;cases ho
  rw[dg,hh];rfl
def ops_rd{N:Tb}{B:Below}(hN:NeuB N B){pts:Tz}{ops:Tm}(hops:ops.toList.all (rdOp N pts)=true):∀(l:Tz) {σ σ':St},aT C B pts ops l σ σ'->σ'.heap=σ.heap
 | [],_,_,h=>by cases h;rfl
 |_ :: l,_,_,⟨_,h1,h2⟩=>(ops_rd hN hops l h2).trans (step_rd hN hops h1)
def opsR_rd{N:Tb}{B:Below}(hN:NeuB N B){pts:Tz}{ops:Tm}(hops:ops.toList.all (rdOp N pts)=true):∀(l:Tz) {σ σ':St},eh C B pts ops l σ σ'->σ'.heap=σ.heap
 | [],_,_,h=>by cases h;rfl
 |_ :: l,_,_,⟨_,_,h0,h1,h2⟩=>(opsR_rd hN hops l h2).trans ((step_rd hN hops h1).trans h0.2.1)
def new_rd{N:Tb}{pts:Tz}{o:Oper}(h:cI pts o=true)(hn:rdOp N pts o=true):False:=by
 have hm:al N pts o=some .hw:=by
  obtain⟨dst,op,ty,pos,after,guard⟩:=o
  cases op<;>simp only[cI,qaj]at h<;>first|rfl|skip
  ·cases dst with
   |none=>cases h
   |some d=>
    simp only[al]
    rw[qdr (λe=>by
     have h:(!Nat.beq (pts.getD d 0) (d+2))=true:=h
     rw[e,show Nat.beq (d+2) (d+2)=true from qbN _]at h;cases h)]
  ·cases dst with
   |none=>cases h
   |some d=>
    simp only[al]
    rw[qdr (λe=>by
     have h:(!Nat.beq (pts.getD d 0) (d+2))=true:=h
     rw[e,show Nat.beq (d+2) (d+2)=true from qbN _]at h;cases h)]
  next c=>
   simp only[al]
   split at h
   next hc=>rw[hc]
   ·cases h
 unfold rdOp at hn
 rw[hm]at hn
 cases hn
def rk{N:Tb}(hN:∀f n,N f=some n->neuF N C f n=true)(hk:∀f args H r H',Kno.kh f args H r H'->N f=none∨(N f=some (2*args.length+1)/\H'=H)):∀n,(NeuB N (sm C n).toBelow/\∀pts c,rdC N pts c=true->∀σ e σ',(sm C n).ex pts c σ e σ'->σ'.heap=σ.heap)/\
  ∀pts as0 c,neuC N pts as0 c=true->∀σ e σ',LoS as0 σ->(sm C n).ex pts c σ e σ'->σ'.heap=σ.heap/\LoS as0 σ'/\∀H,(sm C n).ex pts c { σ with heap:=H } e { σ' with heap:=H }
 |0=>⟨⟨⟨λf args H r H' hf h=>(by
   rcases h with h|h
   ·exact⟨h.2,λH2=>.inl ⟨h.1,rfl⟩⟩
   ·have hf:N f=some (2*args.length):=hf
    rcases hk f args H r H' h with e|⟨e,_⟩
    ·rw[e]at hf;cases hf
    ·rw[e]at hf
     have:=qan hf
     omega),λf args H r H' hf h=>(by
   rcases h with h|h
   ·exact h.2
   ·have hf:N f=some (2*args.length+1):=hf
    rcases hk f args H r H' h with e|⟨_,e⟩
    ·rw[e]at hf;cases hf
    ·exact e)⟩,λ_ _ _ _ _ _ h=>absurd h id⟩,λ_ _ _ _ _ _ _ _ h=>absurd h id⟩
 |n+1=>by
  obtain⟨⟨ihc,ihr⟩,ihe⟩:=rk hN hk n
  refine⟨⟨⟨λf args H r H' hf h=>?_,λf args H r H' hf h=>?_⟩,λpts c hc σ e σ' h=>?_⟩,λpts as0 c hc σ e σ' hl h=>?_⟩
  rotate_left
  ·rcases h with h|⟨fn,b,e,σ,vs,c1,c2,c3,c4,c5,c6,c7,c8,c9⟩
   ·rcases h with h|h
    ·exact h.2
    ·have hf:N f=some (2*args.length+1):=hf
     rcases hk f args H r H' h with e|⟨_,e⟩
     ·rw[e]at hf;cases hf
     ·exact e
   ·have hn:=hN f _ hf
    have c3':=(qbI.1 c3).2
    unfold neuF at hn
    have hodd:Nat.beq ((2*args.length+1)%2) 0=false:=by
     rw[show(2*args.length+1)%2=1 by omega];rfl
    simp only[c1,c2,hodd,c3',qcN]at hn
    exact c9.trans (ihr _ _ hn _ _ _ c4)
  ·have h:lE C (sm C n) pts c σ e σ':=h
   cases c with
   |skip=>obtain⟨rfl,rfl⟩:=h;rfl
   |label l=>obtain⟨rfl,rfl⟩:=h;rfl
   |ret=>obtain⟨rfl,rfl⟩:=h;rfl
   |exit id=>obtain⟨rfl,rfl⟩:=h;rfl
   |seq a b=>
    simp only[rdC,qaa]at hc
    obtain⟨e₁,σ₁,h1,h2⟩:=h
    have a1:=ihr _ _ hc.1 _ _ _ h1
    rcases h2 with⟨rfl,h2⟩|⟨h2,rfl,rfl⟩
    ·exact(ihr _ _ hc.2 _ _ _ h2).trans a1
    ·exact a1
   |cond x a b=>
    simp only[rdC,qaa]at hc
    obtain⟨t,h1,h2⟩:=h
    cases t with
    |true=>exact ihr _ _ hc.1 _ _ _ h2
    |false=>exact ihr _ _ hc.2 _ _ _ h2
   |block id b=>
    obtain⟨e₁,h1,rfl⟩:=h
    exact ihr pts b hc _ _ _ h1
   |scope b=>exact ihr pts b hc _ _ _ h
   |loop b=>
    obtain⟨e₁,σ₁,h1,h2⟩:=h
    have a1:=ihr pts b hc _ _ _ h1
    rw[tv]at a1
    rcases h2 with⟨rfl,h2⟩|⟨h2,rfl,rfl⟩
    ·exact(ihr pts (.loop b) hc _ _ _ h2).trans a1
    ·exact a1
   |region id ops draw=>
    obtain⟨rfl,hq⟩:=h
    cases draw with
    |true=>
     obtain⟨σ₀,h0,h1⟩ : ∃σ₀,eB σ σ₀/\dm C (sm C n).toBelow pts ops σ₀ σ':=hq
     rcases h1 with h1|⟨sl,m,q1,_⟩
     ·exact(ops_rd ihc hc _ (h1 0)).trans h0.2.1
     ·exfalso
      obtain⟨o,o1,o2⟩:=qc5.1 q1
      exact new_rd o2 (qab.1 hc o o1)
    |false=>
     have hq:eh C (sm C n).toBelow pts ops (List.range ops.size) σ σ':=hq
     exact opsR_rd ihc hc _ hq
   |_=>cases hc
  rotate_right
  ·rcases h with h|⟨fn,b,e,σ,vs,c1,c2,c3,c4,c5,c6,c7,c8,c9⟩
   ·rcases h with h|h
    ·exact⟨h.2,λH2=>.inl (.inl ⟨h.1,rfl⟩)⟩
    ·have hf:N f=some (2*args.length):=hf
     rcases hk f args H r H' h with e|⟨e,_⟩
     ·rw[e]at hf;cases hf
     ·rw[e]at hf
      have:=qan hf
      omega
   ·have hn:=hN f _ hf
    unfold neuF at hn
    have hev:Nat.beq (2*args.length%2) 0=true:=by
     rw[show 2*args.length%2=0 by omega];rfl
    simp only[c1,c2,hev,qaa,qab,show 2*args.length / 2=args.length by omega]at hn
    have hl:LoS (fy fn.results.toList) (jK fn args H):=by
     intro a ha v hv
     have hge:args.length<=a:=by simpa using hn.2 a ha
     simp only[jK]at hv
     rw[qak hge,qaM]at hv
     split at hv
     ·cases hv;trivial
     ·cases hv
    obtain⟨d1,d2,d3⟩:=ihe _ _ _ hn.1 _ _ _ hl c4
    refine⟨c9.trans d1,λH2=>.inr ⟨fn,b,e,_,vs,c1,c2,c3,d3 H2,c5,?_,c7,c8,rfl⟩⟩
    rw[mm d2 H2 _ (λa h=>h)]
    exact c6
  ·have h:lE C (sm C n) pts c σ e σ':=h
   show _/\_/\∀H,lE C (sm C n) pts c { σ with heap:=H } e { σ' with heap:=H }
   cases c with
   |skip=>obtain⟨rfl,rfl⟩:=h;exact⟨rfl,hl,λH=>⟨rfl,rfl⟩⟩
   |label l=>obtain⟨rfl,rfl⟩:=h;exact⟨rfl,hl,λH=>⟨rfl,rfl⟩⟩
   |ret=>obtain⟨rfl,rfl⟩:=h;exact⟨rfl,hl,λH=>⟨rfl,rfl⟩⟩
   |exit id=>obtain⟨rfl,rfl⟩:=h;exact⟨rfl,hl,λH=>⟨rfl,rfl⟩⟩
   |seq a b=>
    simp only[neuC,qaa]at hc
    obtain⟨e₁,σ₁,h1,h2⟩:=h
    obtain⟨a1,a2,a3⟩:=ihe _ _ _ hc.1 _ _ _ hl h1
    rcases h2 with⟨rfl,h2⟩|⟨h2,rfl,rfl⟩
    ·obtain⟨b1,b2,b3⟩:=ihe _ _ _ hc.2 _ _ _ a2 h2
     exact⟨b1.trans a1,b2,λH=>⟨_,_,a3 H,.inl ⟨rfl,b3 H⟩⟩⟩
    ·exact⟨a1,a2,λH=>⟨_,_,a3 H,.inr ⟨h2,rfl,rfl⟩⟩⟩
   |cond x a b=>
    simp only[neuC,qaa]at hc
    obtain⟨t,h1,h2⟩:=h
    cases t with
    |true=>
     obtain⟨b1,b2,b3⟩:=ihe _ _ _ hc.1 _ _ _ hl h2
     exact⟨b1,b2,λH=>⟨true,h1,b3 H⟩⟩
    |false=>
     obtain⟨b1,b2,b3⟩:=ihe _ _ _ hc.2 _ _ _ hl h2
     exact⟨b1,b2,λH=>⟨false,h1,b3 H⟩⟩
   |block id b=>
    obtain⟨e₁,h1,rfl⟩:=h
    obtain⟨b1,b2,b3⟩:=ihe pts as0 b hc _ _ _ hl h1
    exact⟨b1,b2,λH=>⟨_,b3 H,rfl⟩⟩
   |scope b=>exact ihe pts as0 b hc _ _ _ hl h
   |loop b=>
    obtain⟨e₁,σ₁,h1,h2⟩:=h
    obtain⟨a1,a2,a3⟩:=ihe pts as0 b hc _ _ _ (clear_lo hl) h1
    rw[tv]at a1
    rcases h2 with⟨rfl,h2⟩|⟨h2,rfl,rfl⟩
    ·obtain⟨b1,b2,b3⟩:=ihe pts as0 (.loop b) hc _ _ _ a2 h2
     exact⟨b1.trans a1,b2,λH=>⟨_,_,by rw[clearHp];exact a3 H,.inl ⟨rfl,b3 H⟩⟩⟩
    ·exact⟨a1,a2,λH=>⟨_,_,by rw[clearHp];exact a3 H,.inr ⟨h2,rfl,rfl⟩⟩⟩
   |region id ops draw=>
    obtain⟨rfl,hq⟩:=h
    cases draw with
    |true=>
     obtain⟨σ₀,h0,h1⟩ : ∃σ₀,eB σ σ₀/\dm C (sm C n).toBelow pts ops σ₀ σ':=hq
     have hl0:=nY hl h0
     rcases h1 with h1|⟨sl,m,q1,_⟩
     case inr=>
      exfalso
      obtain⟨o,o1,o2⟩:=qc5.1 q1
      exact new_neu o2 (qab.1 hc o o1)
     obtain⟨a1,a2,_⟩:=sF ihc hc _ hl0 (h1 0)
     refine⟨a1.trans h0.2.1,a2,λH=>⟨rfl,⟨_,jW h0 H,.inl λt=>?_⟩⟩⟩
     exact(sF ihc hc _ hl0 (h1 t)).2.2 H
    |false=>
     have hq:eh C (sm C n).toBelow pts ops (List.range ops.size) σ σ':=hq
     obtain⟨a1,a2,a3⟩:=ui ihc hc _ hl hq
     exact⟨a1,a2,λH=>⟨rfl,a3 H⟩⟩
   |_=>cases hc
def dr_ok{N:Tb}(hN:∀f n,N f=some n->neuF N C f n=true)(hk:∀f args H r H',Kno.kh f args H r H'->N f=none∨(N f=some (2*args.length+1)/\H'=H))(pts:Tz)(ops:Tm)(h:rz N pts ops=true)(n:Nat)(σ σ':St)(hx:aT C (sm C n).toBelow pts ops (List.range ops.size) σ σ') :
  dm C (sm C n).toBelow pts ops σ σ':=any_ok (rk hN hk n).1.1 h hx
end
end Sx
def LK.plain:LK->Bool
 | .v=>false
 |_=>true
def SK.plain:SK->Bool
 | .leaf k=>k.plain
 | .agg ks=>ks.all LK.plain
def Sig.plain(s:Sig):Bool:=s.ps.all SK.plain&&s.rs.all SK.plain
namespace Sx
section
variable [Val] [Kno]
variable {w:TB}
def sH(k:TF)(c:Int)(K:Int->RT):outG k c K=K (k.wrap c):=by
 unfold outG
 cases e:fits k c with
 |true=>rw[qH e]
 |false=>exact ja _ _
def out64_eq(c:Int)(K:Int->RT):out64 c K=K (IntKind.wrap .i64 c):=by
 refine Eq.trans ?_ (sH .i64 c K)
 cases c<;>rfl
def outU8_eq(c:Int)(K:Int->RT):outU8 c K=K (IntKind.wrap .u8 c):=by
 refine Eq.trans ?_ (sH .u8 c K)
 cases c<;>rfl
def md(k:TF)(c:Int)(K:Int->RT):outK k c K=K (k.wrap c):=by
 cases k<;>first|exact sH _ _ _|exact out64_eq _ _|exact outU8_eq _ _
def addK_eq(a b:Int)(K:Int->RT):addK a b K=K (a+b):=by
 unfold addK
 cases a with
 |ofNat m=>
  cases b with
  |ofNat n=>exact congrArg K rfl
  |negSucc n=>
   simp only[fq]
   cases e:Nat.blt n m with
   |true=>rw[qaU]at e;exact congrArg K (show Int.ofNat (m - (n+1))=Int.ofNat m+Int.negSucc n by simp only[qaW,qbp];omega)
   |false=>
    have e:¬n<m:=λh=>by rw[←qaU,e]at h;cases h
    exact congrArg K (show Int.negSucc (n - m)=Int.ofNat m+Int.negSucc n by simp only[qaW,qbp];omega)
 |negSucc m=>
  cases b with
  |ofNat n=>
   simp only[fq]
   cases e:Nat.blt m n with
   |true=>rw[qaU]at e;exact congrArg K (show Int.ofNat (n - (m+1))=Int.negSucc m+Int.ofNat n by simp only[qaW,qbp];omega)
   |false=>
    have e:¬m<n:=λh=>by rw[←qaU,e]at h;cases h
    exact congrArg K (show Int.negSucc (m - n)=Int.negSucc m+Int.ofNat n by simp only[qaW,qbp];omega)
  |negSucc n=>exact congrArg K (show Int.negSucc (m+n+1)=Int.negSucc m+Int.negSucc n by simp only[qbp];omega)
def subK_eq(a b:Int)(K:Int->RT):subK a b K=K (a - b):=by
 unfold subK
 cases a with
 |ofNat m=>
  cases b with
  |ofNat n=>
   simp only[fq]
   cases e:Nat.ble n m with
   |true=>rw[qbx]at e;exact congrArg K (show Int.ofNat (m - n)=Int.ofNat m - Int.ofNat n by simp only[qaW];omega)
   |false=>
    have e:¬n<=m:=λh=>by rw[←qbx,e]at h;cases h
    exact congrArg K (show Int.negSucc (n - (m+1))=Int.ofNat m - Int.ofNat n by simp only[qaW,qbp];omega)
  |negSucc n=>exact congrArg K (show Int.ofNat (m+n+1)=Int.ofNat m - Int.negSucc n by simp only[qaW,qbp];omega)
 |negSucc m=>
  cases b with
  |ofNat n=>exact congrArg K (show Int.negSucc (m+n)=Int.negSucc m - Int.ofNat n by simp only[qaW,qbp];omega)
  |negSucc n=>
   simp only[fq]
   cases e:Nat.ble m n with
   |true=>rw[qbx]at e;exact congrArg K (show Int.ofNat (n - m)=Int.negSucc m - Int.negSucc n by simp only[qaW,qbp];omega)
   |false=>
    have e:¬m<=n:=λh=>by rw[←qbx,e]at h;cases h
    exact congrArg K (show Int.negSucc (m - (n+1))=Int.negSucc m - Int.negSucc n by simp only[qbp];omega)
def mulK_eq(a b:Int)(K:Int->RT):mulK a b K=K (a*b):=by
 unfold mulK
 cases a with
 |ofNat m=>
  cases b with
  |ofNat n=>exact congrArg K rfl
  |negSucc n=>
   cases m with
   |zero=>exact congrArg K (show Int.ofNat 0=Int.ofNat 0*Int.negSucc n by simp)
   |succ m=>
    refine congrArg K (show Int.negSucc ((m+1)*n+m)=Int.ofNat (m+1)*Int.negSucc n from ?_)
    simp only[qaW,qbp,qda,qdb]
    simp only[qdc,Int.mul_neg,Int.mul_add,Int.add_mul]
    omega
 |negSucc m=>
  cases b with
  |ofNat n=>
   cases n with
   |zero=>exact congrArg K (show Int.ofNat 0=Int.negSucc m*Int.ofNat 0 by simp)
   |succ n=>
    refine congrArg K (show Int.negSucc (m*(n+1)+n)=Int.negSucc m*Int.ofNat (n+1)from ?_)
    simp only[qaW,qbp,qda,qdb]
    simp only[qdc,Int.neg_mul,Int.mul_add,Int.add_mul]
    omega
  |negSucc n=>
   refine congrArg K (show Int.ofNat ((m+1)*(n+1))=Int.negSucc m*Int.negSucc n from ?_)
   simp only[qaW,qbp,qda,qdb]
   simp only[qdc,Int.neg_mul_neg]
def quoK_eq(a b:Int)(K:Int->RT):quoK a b K=K (Int.tdiv a b):=by
 unfold quoK
 cases a with
 |ofNat m=>
  cases b with
  |ofNat n=>exact congrArg K rfl
  |negSucc n=>exact ja _ _
 |negSucc m=>exact ja _ _
def remK_eq(a b:Int)(K:Int->RT):remK a b K=K (Int.tmod a b):=by
 unfold remK
 cases a with
 |ofNat m=>
  cases b with
  |ofNat n=>exact congrArg K rfl
  |negSucc n=>exact ja _ _
 |negSucc m=>exact ja _ _
def qR{b:Int}(h:isZ b=false):b≠0:=by
 intro e;subst e;cases h
def fitsK{k:TF}{c:Int}{K:Int->RT}(h:outK k c K=some w):K (k.wrap c)=some w:=(md k c K).symm.trans h
def ariB_ok{op:BinOp}{k:TF}{a b:Int}{K:Int->RT}(h:ariB op k a b K=some w):∃n,ou op k a b n/\K n=some w:=by
 cases op<;>simp only[ariB,reduceCtorEq]at h
 ·rw[addK_eq,md]at h
  exact⟨_,λP t w=>by simp[binOp,Op.intArith],h⟩
 ·rw[subK_eq,md]at h
  exact⟨_,λP t w=>by simp[binOp,Op.intArith],h⟩
 ·rw[mulK_eq,md]at h
  exact⟨_,λP t w=>by simp[binOp,Op.intArith],h⟩
 ·cases hb:isZ b with
  |true=>rw[hb]at h;cases h
  |false=>
   rw[hb]at h
   simp only[quoK_eq,md]at h
   have hb:=qR hb
   exact⟨_,λP t w=>by simp[binOp,Op.intDiv,hb],h⟩
 ·cases hb:isZ b with
  |true=>rw[hb]at h;cases h
  |false=>
   rw[hb]at h
   simp only[remK_eq]at h
   have hb:=qR hb
   exact⟨_,λP t w=>by simp[binOp,Op.intDiv,hb],h⟩
 ·split at h
  next hb=>
   have hb:=eqI_iff.1 hb
   subst hb
   rw[ja]at h
   exact⟨_,mn rfl,h⟩
  ·split at h
   ·rw[ja]at h
    exact⟨_,sN _ _,fitsK h⟩
   ·cases h
 ·split at h
  ·rw[ja]at h
   exact⟨_,vO _ _,fitsK h⟩
  ·cases h
 ·split at h
  ·rw[ja]at h
   exact⟨_,sQ _ _,fitsK h⟩
  ·cases h
def eqI_eq(x y:Int):eqI x y=(x==y):=by rw[qby,eqI_iff,beq_iff_eq]
def sa(x y:Int):eqZK x y=(x==y):=by
 rw[←eqI_eq]
 cases x<;>cases y<;>rfl
def leZ_eq(x y:Int):leZ x y=decide (x<=y):=by rw[qby,leZ_iff,decide_eq_true_iff]
def notK_eq(b:Bool):notK b = !b:=by cases b<;>rfl
def cmpB_ok{op:BinOp}{a b:Int}{K:Bool->RT}(h:cmpB op a b K=some w):∃t,nh op a b=some t/\K t=some w:=by
 cases op<;>simp only[cmpB,reduceCtorEq,sa,leZ_eq,notK_eq]at h
 ·exact⟨_,rfl,h⟩
 ·exact⟨_,rfl,h⟩
 ·exact⟨_,rfl,by rw[show decide (a<b) = !decide (b<=a)by rw[qby];simp];exact h⟩
 ·exact⟨_,rfl,h⟩
 ·exact⟨_,rfl,by rw[show decide (a > b) = !decide (a<=b)by rw[qby];simp];exact h⟩
 ·exact⟨_,rfl,h⟩
def eqLf_eq(a b:Lf):eqLf a b=fK a b:=by
 cases a<;>cases b<;>try rfl
 ·exact sa _ _
 next x y=>cases x<;>cases y<;>rfl
def eqsV_eq(l:List (Lf×Lf)):eqsV l=bP l:=by
 unfold bP
 induction l with
 |nil=>rfl
 |cons p l ih=>
  show(Bool.rec false (eqsV l) (eqLf p.1 p.2):Bool)=_
  rw[eqLf_eq,qbF,ih]
  cases fK p.1 p.2<;>rfl
def eqsB_ok{l:List (Lf×Lf)}{K:Bool->RT}(h:eqsB l K=some w):K (bP l)=some w:=by
 rw[←eqsV_eq];exact h
structure CallBOk(C:Cfg)(Sg:Tc)(T:Tt)(call:ac):Prop where
 f:∀g ls h K w,dB ls->call (.f g) ls h K=some w->∃rs h',aW C Sg g ls (absH T (toL h)) rs (absH T (toL h'))/\K rs h'=some w
 y:∀κ vs l ls h K w st pd xs,h.at l=some (.lp κ st pd vs)->Told ((T κ).params.map (·.2)) ls xs->call (.y κ vs l) ls h K=some w->
  ∃b h',iQ C l (ai xs) (absH T (toL h)) (.bool b) (absH T (toL h'))/\K [.b b] h'=some w
def lL(T:Tt)(h:HL):getH T h=λi=>(absH T h)[i]?:=by
 funext i
 simp only[getH,absH,qaA]
 cases h[i]?<;>rfl
def getT_eq(T:Tt)(h:HTr):getT T h=λi=>(absH T (toL h))[i]?:=by
 funext i
 simp only[getT,absH,qaA,jD,Option.map_map]
 cases h.at i<;>rfl
def kK(T:Tt)(h:HTr):getT T h=getH T (toL h):=(getT_eq T h).trans (lL T (toL h)).symm
def lK{T:Tt}{h:HTr}{i:Nat}{x:HOT}(e:h.at i=some x):getH T (toL h) i=some (absO T x.ho):=by
 rw[←kK];unfold getT;rw[e]
def ig(T:Tt)(h:HL):(absH T h).length=h.length:=by simp[absH]
def ij(T:Tt)(h:HL)(i:Nat)(o:HO):absH T (h.set i o)=(absH T h).set i (absO T o):=by simp[absH,List.map_set]
def ii(T:Tt)(h:HL)(o:HO):absH T (h++[o])=absH T h++[absO T o]:=by simp[absH]
def iV(T:Tt):∀(l:List Act1) (h:HL),absH T (cm h l)=fk (absH T h) l
 | [],h=>rfl
 |a :: l,h=>by
  have ih:=iV T l (a.onH h)
  show absH T (cm (a.onH h) l)=fk (a.on (absH T h)) l
  rw[ih]
  congr 1
  cases a with
  |set i o=>exact ij T h i _
  |push o=>exact ii T h _
def ox:∀ {l:List Act1} {h:HTr} {k:HTr->RT},uT l h k=some w->∃h',toL h'=cm (toL h) l/\k h'=some w
 | [],h,k,hk=>⟨h,rfl,hk⟩
 | .set i o :: l,h,k,hk=>by
  have hk:(qU o λo=>putK h i o λh=>uT l h k)=some w:=hk
  obtain⟨x,e1,e2⟩:=iz (o:=o) (k:=λo=>putK h i o λh=>uT l h k)
  rw[e2,fT]at hk
  obtain⟨h',e,hk⟩:=ox hk
  exact⟨h',by rw[e,fX,e1];rfl,hk⟩
 | .push o :: l,h,k,hk=>by
  have hk:(qU o λo=>jt h o λh=>uT l h k)=some w:=hk
  obtain⟨x,e1,e2⟩:=iz (o:=o) (k:=λo=>jt h o λh=>uT l h k)
  rw[e2,gj]at hk
  obtain⟨h',e,hk⟩:=ox hk
  exact⟨h',by rw[e,gu,e1];rfl,hk⟩
def uI(s:Tp):spot0 s=(s != some 0):=by
 cases s with
 |none=>rfl
 |some k=>cases k<;>rfl
def tL(v:Value):goodF v=aY v:=by
 unfold goodF
 split
 next a=>
  rw[uI]
  simp[aY,noLoc,bg,co,bF,aZ,aB]
 next a _ _=>
  rw[uI]
  simp[aY,noLoc,bg,co,bF,aZ,aB]
 ·rfl
def ss{α:Type}(l:List α):lenR l=l.length:=by
 induction l with
 |nil=>rfl
 |cons a l ih=>exact congrArg Nat.succ ih
def ldB_ok{T:Tt}{n:Nat}{p:Value}{h:HTr}{K:Tl->RT}(hk:ldB n p h K=some w):∃cs,ldP n p (getH T (toL h))=some cs/\K cs=some w:=by
 unfold ldB at hk
 split at hk
 next a=>
  split at hk
  next hs=>
   split at hk
   next m e rw' c hat=>
    split at hk
    next hle=>
     rw[qbx]at hle
     refine⟨_,?_,hk⟩
     unfold ldP
     simp only[hs,fA,lK hat,HOT.ho,absO,qag,cut]
     rw[qdq (by rw[aS];exact hle),iI c n a.off m hle]
    ·cases hk
   ·cases hk
  ·cases hk
 ·cases hk
def lgB_ok{T:Tt}{C:Cfg}{n:Nat}{p:Value}{h:HTr}{K:Tl->RT}(hk:lgB C n p h K=some w):∃cs,lgP C n p (getH T (toL h))=some cs/\K cs=some w:=by
 unfold lgB at hk
 split at hk
 next a=>
  split at hk
  next hs=>
   split at hk
   next m e rw' c hat=>
    split at hk
    next hle=>
     rw[qbx]at hle
     refine⟨_,?_,hk⟩
     unfold lgP
     simp only[hs,fA,lK hat,HOT.ho,absO,qag,cut]
     rw[qdq (by rw[aS];exact hle),iI c n a.off m hle]
    ·cases hk
   ·cases hk
  next k hs=>
   split at hk
   next hb=>
    split at hk
    next vs hg=>
     split at hk
     next cs hc=>
      refine⟨cs,?_,hk⟩
      unfold lgP
      simp only[hs,hb,hg,qag]
      rw[lw]at hc
      exact hc
     ·cases hk
    ·cases hk
   ·cases hk
 ·cases hk
def stB_ok{T:Tt}{p:Value}{new:Tl}{h:HTr}{K:Tl->HTr->RT}{n0:Nat}(hk:stB p new h K=some w) :
  ∃acts cs h',stP p new (getH T (toL h)) n0=some (acts,cs)/\toL h'=cm (toL h) acts/\K cs h'=some w:=by
 unfold stB at hk
 split at hk
 next a=>
  split at hk
  next hs=>
   split at hk
   next m e c hat=>
    split at hk
    next hle=>
     rw[qbx,ss]at hle
     rw[lO,fT]at hk
     refine⟨[.set a.block (.cells (bT (insT new a.off c) m) e true)],[],_,?_,?_,hk⟩
     ·unfold stP
      simp only[hs,lK hat,HOT.ho,absO,splice]
      rw[qdq (by rw[aS];exact hle),ne hle]
      rfl
     ·rw[fX];rfl
    ·cases hk
   ·cases hk
  ·cases hk
 ·cases hk
def uN{s:Tp}{esz:Nat}:tagB s esz=true↔s=tag esz:=by
 unfold tagB tag
 cases s with
 |none=>simp
 |some k=>simp only[Nat.beq_eq,qar];try rfl
def slB_ok{C:Cfg}{T:Tt}{esz:Nat}{x:Value}{h:HTr}{K:Tl->Nat->RT}(hk:slB C T esz x h K=some w) :
  ∃l n,slG C esz (getH T (toL h)) x=some (l,n)/\K l n=some w:=by
 have gen:∀ {x:Value},(match slG C esz (getT T h) x with|some p=>K p.1 p.2|none=>none)=some w->∃l n,slG C esz (getH T (toL h)) x=some (l,n)/\K l n=some w:=by
  intro x hk
  split at hk
  next p e=>
   rw[kK]at e
   exact⟨p.1,p.2,e,hk⟩
  ·cases hk
 unfold slB at hk
 split at hk
 next a len cx=>
  split at hk
  next ht=>
   have ht:=uN.1 ht
   split at hk
   next m e rw' c hat=>
    split at hk
    next h1 h2=>
     have h1:=qac h1
     rw[qbx]at h2
     subst h1
     refine⟨_,_,?_,hk⟩
     unfold slG
     simp only[lK hat,HOT.ho,absO]
     rw[qdr (by rw[ht];simp[tag]),qdq ht]
     first|rw[qdq rfl]|rw[qdq trivial]
     rw[cut,qdq (by rw[aS];exact h2),iI c _ a.off m h2]
     rfl
    ·cases hk
   ·cases hk
  ·exact gen hk
 ·exact gen hk
def tM{c:Tr Value}{m off wd esz:Nat}{new:Tl}{k:HOT->RT}(hle:off+wd<=m)(hk:growB c m off wd esz new k=some w) :
  ∃x:HOT,x.ho = .o (.cells (((bT c m).drop off).take wd++new) esz true)/\k x=some w:=by
 unfold growB at hk
 split at hk
 next h1 h2=>
  have h1:=qac h1
  have h2:=qac h2
  subst h1 h2
  rw[lO,fq,ss]at hk
  refine⟨_,?_,hk⟩
  show HO.o (.cells (bT (insT new wd c) (wd+new.length)) esz true)=_
  rw[ll,qbq,qaJ (by rw[aS];exact qam _)]
 ·rw[iI c wd off m hle]at hk
  obtain⟨x,e1,e2⟩:=iz (o:=.cells (((bT c m).drop off).take wd++new) esz true) (k:=k)
  rw[e2]at hk
  exact⟨x,e1,hk⟩
def apB_ok{C:Cfg}{T:Tt}{esz bytes:Nat}{s x:Value}{h:HTr}{K:Tl->HTr->RT}(hk:apB T C esz bytes s x h K=some w) :
  ∃acts cs h',apG C esz bytes s x (getH T (toL h)) (toL h).length=some (acts,cs)/\toL h'=cm (toL h) acts/\K cs h'=some w:=by
 obtain⟨new,n,hsl,hk⟩:=slB_ok hk
 unfold apG
 rw[hsl,fi]
 simp only at hk ⊢
 split at hk
 ·cases n with
  |zero=>exact⟨_,_,h,rfl,rfl,hk⟩
  |succ n=>
   simp only at hk
   split at hk
   next hz=>
    obtain⟨y,e1,e2⟩:=iz (o:=.cells new esz true) (k:=λo=>jt h o λh'=>fN (n+1) λn=>K [.slice (some ⟨h.n,0,tag esz⟩) n 0] h')
    rw[e2,gj,fq]at hk
    refine⟨[.push (.cells new esz true)],_,_,?_,?_,hk⟩
    ·show(if n+1=0 then some ([],[Value.slice none 0 0])else if ch (n+1) bytes then _ else none)=_
     rw[qdr (by omega),qdq hz]
    ·rw[gu,e1];rfl
   ·cases hk
 next a len cx _=>
  split at hk
  ·cases hk
  next ht=>
   have ht:=uN.1 ht
   split at hk
   next m e rw' c hat=>
    split at hk
    next h1 h2=>
     have h1:=qac h1
     rw[qbx]at h2
     subst h1
     have hb:a.off+len*e<=m:=h2
     have hcut:cut (bT c m) a.off (len*e)=some (((bT c m).drop a.off).take (len*e)):=by rw[cut,qdq (by rw[aS];exact hb)]
     simp only[ht,ne_eq,not_true_eq_false,if_false,lK hat,HOT.ho,absO,hcut]
     cases cx with
     |zero=>
      simp only at hk ⊢
      cases n with
      |zero=>exact⟨[],_,h,by first|rw[qdq rfl]|rw[qdq trivial],rfl,hk⟩
      |succ n=>
       simp only at hk
       split at hk
       next q1 q2=>
        obtain⟨y,e1,hk⟩:=tM hb hk
        rw[fT,gj,fq]at hk
        refine⟨[.set a.block .dead,.push (.cells (((bT c m).drop a.off).take (len*e)++new) e true)],_,_,by rw[qdr (by omega),qdq (by rw[q2];rfl)],?_,hk⟩
        rw[gu,fX,e1];rfl
       ·cases hk
     |succ cap=>
      simp only at hk ⊢
      split at hk
      next q0=>
       rw[qbx]at q0
       split at hk
       next q1 q2=>
        rw[qbx,ss]at q2
        have q2:a.off+len*e+new.length<=m:=q2
        rw[lO,fT,fq]at hk
        refine⟨[.set a.block (.cells ((bT c m).take (a.off+len*e)++new++(bT c m).drop (a.off+len*e+new.length)) e true)],_,_,by rw[qdq q0,qdq rfl,splice,qdq (by rw[aS];exact q2)];rfl,?_,hk⟩
        rw[fX]
        show(toL h).set a.block (.o (.cells (bT (insT new (a.off+len*e) c) m) e true))=_
        rw[ne q2];rfl
       ·cases hk
      next q0=>
       have q0:¬len+n<=cap:=λh=>by rw[←qbx,q0]at h;cases h
       split at hk
       next q1=>
        obtain⟨y,e1,hk⟩:=tM hb hk
        rw[gj,fq]at hk
        refine⟨[.push (.cells (((bT c m).drop a.off).take (len*e)++new) e true)],_,_,by rw[qdr q0,qdq q1],?_,hk⟩
        rw[gu,e1];rfl
       ·cases hk
    ·cases hk
   ·cases hk
 ·cases hk
def heapB_ok{T:Tt}{f:Hp}{h:HTr}{K:Tl->HTr->RT}(hk:heapB T f h K=some w) :
  ∃acts cs h',f.run (getH T (toL h)) (toL h).length=some (acts,cs)/\toL h'=cm (toL h) acts/\K cs h'=some w:=by
 unfold heapB at hk
 cases f with
 |st p new=>exact stB_ok (n0:=(toL h).length) hk
 |ap C esz bytes s x=>exact apB_ok hk
 |fn f=>
  simp only at hk
  rw[kK]at hk
  split at hk
  next p e=>
   rw[mg]at hk
   obtain⟨h',e2,hk⟩:=ox hk
   exact⟨p.1,p.2,h',by rw[fi];exact e,e2,hk⟩
  ·cases hk
def toSL_ok{k:LK}{v:Value}{l:SL}(h:toSL k v=some l):l.is k=true/\l.val=v/\l.good:=by
 cases k with
 |i k=>
  cases v<;>simp only[toSL]at h<;>first|cases h|skip
  split at h
  next e=>cases h;exact⟨e,rfl,trivial⟩
  ·cases h
 |b=>
  cases v<;>simp only[toSL]at h<;>cases h
  exact⟨rfl,rfl,trivial⟩
 |v=>
  simp only[toSL]at h
  split at h
  next e=>cases h;exact⟨rfl,rfl,e⟩
  ·cases h
def uQ:∀ {ks:TE} {vs:Tl} {xs:List SL},toSLs ks vs=some xs->aG xs ks=true/\xs.map SL.val=vs/\∀x∈xs,x.good
 | [],[],xs,h=>by cases h;exact⟨rfl,rfl,λ_ h=>by cases h⟩
 |k :: ks,v :: vs,xs,h=>by
  simp only[toSLs]at h
  split at h
  next x e=>
   split at h
   next ys e2=>
    cases h
    obtain⟨a1,a2,a3⟩:=toSL_ok e
    obtain⟨b1,b2,b3⟩:=uQ e2
    refine⟨by simp[aG,a1,b1],by simp[a2,b2],λy hy=>?_⟩
    rcases qap.1 hy with rfl|hy
    ·exact a3
    ·exact b3 y hy
   ·cases h
  ·cases h
 | [],_ :: _,_,h=>by cases h
 |_ :: _,[],_,h=>by cases h
def toS0_ok{sk:SK}{v:Value}{x:S0}(h:toS0 sk v=some x):x.is sk=true/\x.val=v/\x.good:=by
 cases sk with
 |leaf k=>
  obtain⟨l,e,rfl⟩:=qad.1 h
  obtain⟨a1,a2,a3⟩:=toSL_ok e
  refine⟨a1,a2,λy hy=>?_⟩
  simp only[S0.cells,qay]at hy
  subst hy;exact a3
 |agg ks=>
  cases v<;>simp only[toS0]at h<;>first|cases h|skip
  obtain⟨l,e,rfl⟩:=qad.1 h
  obtain⟨a1,a2,a3⟩:=uQ e
  exact⟨a1,by simp[S0.val,a2],a3⟩
def pX:∀ {sks:TG} {vs:Tl} {xs:List S0},toS0s sks vs=some xs->bO xs sks=true/\ai xs=vs/\∀x∈xs,x.good
 | [],[],xs,h=>by cases h;exact⟨rfl,rfl,λ_ h=>by cases h⟩
 |k :: ks,v :: vs,xs,h=>by
  simp only[toS0s]at h
  split at h
  next x e=>
   split at h
   next ys e2=>
    cases h
    obtain⟨a1,a2,a3⟩:=toS0_ok e
    obtain⟨b1,b2,b3⟩:=pX e2
    refine⟨by simp[bO,a1,b1],by simp only[ai,qat,a2]at b2 ⊢;rw[b2],λy hy=>?_⟩
    rcases qap.1 hy with rfl|hy
    ·exact a3
    ·exact b3 y hy
   ·cases h
  ·cases h
 | [],_ :: _,_,h=>by cases h
 |_ :: _,[],_,h=>by cases h
def eqLK_ok{a b:LK}(h:eqLK a b=true):a=b:=by
 cases a<;>cases b<;>simp only[eqLK]at h<;>first|rfl|cases h|skip
 rw[cT h]
def tG:∀ {a b:TE},eqLKs a b=true->a=b
 | [],[],_=>rfl
 |a :: l,b :: m,h=>by
  simp only[eqLKs,qaa]at h
  rw[eqLK_ok h.1,tG h.2]
 | [],_ :: _,h=>by cases h
 |_ :: _,[],h=>by cases h
def eqSK_ok{a b:SK}(h:eqSK a b=true):a=b:=by
 cases a<;>cases b<;>simp only[eqSK]at h<;>first|cases h|skip
 ·rw[eqLK_ok h]
 ·rw[tG h]
def oP:∀ {a b:TG},eqSKs a b=true->a=b
 | [],[],_=>rfl
 |a :: l,b :: m,h=>by
  simp only[eqSKs,qaa]at h
  rw[eqSK_ok h.1,oP h.2]
 | [],_ :: _,h=>by cases h
 |_ :: _,[],h=>by cases h
def eJ:∀ {ls:TB},gG ls=true->dB ls
 | [],_=>λ_ h=>by cases h
 | .i n :: ls,h=>λl hl=>by
  rcases qap.1 hl with rfl|hl
  ·trivial
  ·exact eJ (ls:=ls) h l hl
 | .b n :: ls,h=>λl hl=>by
  rcases qap.1 hl with rfl|hl
  ·trivial
  ·exact eJ (ls:=ls) h l hl
 | .v n :: ls,h=>λl hl=>by
  have h:(match goodF n with|true=>gG ls|false=>false)=true:=h
  split at h
  next e=>
   rw[tL]at e
   rcases qap.1 hl with rfl|hl
   ·exact e
   ·exact eJ (ls:=ls) h l hl
  ·cases h
def tu{C:Cfg}{Sg:Tc}{T:Tt}{call:ac}(hc:CallBOk C Sg T call){g:TJ}{ls:TB}{h:HTr}{K:TB->HTr->RT}(hk:callB call g ls h K=some w) :
  ∃rs h',aW C Sg g ls (absH T (toL h)) rs (absH T (toL h'))/\K rs h'=some w:=by
 unfold callB at hk
 split at hk
 next e=>exact hc.f g ls h K w (eJ e) hk
 ·cases hk
def kX{C:Cfg}{Sg:Tc}{T:Tt}{call:ac}(hc:CallBOk C Sg T call){g:TJ}{hs:Option (TG)}{vals:Tl}{h:HTr}{K:TB->HTr->RT}(hk:kB Sg call g hs vals h K=some w) :
  ∃sg rs ys h',Sg g=some sg/\(∀x,hs=some x->sg.rs=x)/\Told sg.rs rs ys/\gD C g vals (absH T (toL h)) (eM (ai ys)) (absH T (toL h'))/\K rs h'=some w:=by
 unfold kB at hk
 split at hk
 ·cases hk
 next sg e=>
  split at hk
  ·cases hk
  next e2=>
   split at hk
   ·cases hk
   next xs e3=>
    obtain⟨rs,h',⟨sg',xs',ys,c1,c2,c3,c4⟩,hk⟩:=tu hc hk
    rw[e]at c1
    cases c1
    obtain⟨d1,d2,d3⟩:=pX e3
    obtain⟨w1,_⟩:=cz c2.1 d1 c2.2.1
    rw[w1,d2]at c4
    refine⟨sg,rs,ys,h',e,λx hx=>?_,c3,c4,hk⟩
    subst hx
    exact oP e2
def iy{T:Tt}{h:HTr}{l κ:Nat}{st:LoopState}{pd:Tk}{vs:Tl}(e:h.at l=some (.lp κ st pd vs)):dG (absH T (toL h)) l=some { lpOf (T κ) κ vs with state:=st,pending:=pd }:=by
 unfold dG absH
 rw[qaA,jD,e]
 rfl
def callvB_ok{C:Cfg}{Sg:Tc}{T:Tt}{call:ac}(hc:CallBOk C Sg T call){v:Value}{args:Tl}{hs:TG}{h:HTr}{K:TB->HTr->RT}(hk:callvB Sg T call v args hs h K=some w) :
  ∃rs h',qe C v args hs (absH T (toL h)) rs (absH T (toL h'))/\K rs h'=some w:=by
 unfold callvB at hk
 split at hk
 next fn first cap=>
  split at hk
  next g=>
   obtain⟨sg,rs,ys,h',c1,c2,c3,c4,c5⟩:=kX hc hk
   rw[c2 _ rfl]at c3
   exact⟨rs,h',⟨ys,c3,.inl ⟨g,first,cap,rfl,c4⟩⟩,c5⟩
  next l=>
   split at hk
   next e1 e2=>
    have e1:first = #[]:=qaZ.1 e1
    have e2:cap = #[]:=qaZ.1 e2
    subst e1 e2
    split at hk
    next κ st pd vs e=>
     split at hk
     ·cases hk
     next e3=>
      have e3:=oP e3
      subst e3
      split at hk
      ·cases hk
      next xs e4=>
       split at hk
       next e5=>
        obtain⟨d1,d2,d3⟩:=pX e4
        obtain⟨b,h',y1,y2⟩:=hc.y κ vs l _ h K w st pd xs e ⟨d1,rfl,d3⟩ hk
        rw[d2]at y1
        refine⟨[.b b],h',⟨[.leaf (.b b)],⟨rfl,rfl,λx hx=>?_⟩,.inr ⟨l,rfl,y1⟩⟩,y2⟩
        simp only[qay]at hx
        subst hx
        intro y hy
        simp only[S0.cells,qay]at hy
        subst hy;trivial
       ·cases hk
    ·cases hk
   ·cases hk
  ·cases hk
 ·cases hk
def rfunB_ok{C:Cfg}{Sg:Tc}{T:Tt}{call:ac}(hc:CallBOk C Sg T call){κ:Nat}{v:Value}{vals:Tl}{h:HTr}{K:Tk->HTr->RT}(hk:rfunB Sg call κ v vals h K=some w) :
  ∃g first cap r H1 lp h2,v = .func (.func g) first cap/\gD C g (first.toList++[.func (.yield (absH T (toL h)).length) #[] #[]]++cap.toList) (absH T (toL h)++[.loop (lpOf (T κ) κ vals)]) r H1/\
   dG H1 (absH T (toL h)).length=some lp/\lp.state≠.busy/\absH T (toL h2)=H1.set (absH T (toL h)).length (.loop { lp with state:=.exhausted })/\K lp.pending h2=some w:=by
 unfold rfunB at hk
 split at hk
 next fn first cap=>
  split at hk
  next g=>
   rw[gj]at hk
   obtain⟨sg,rs,ys,h',_,_,c3,c4,c5⟩:=kX hc hk
   have hlen:(absH T (toL h)).length=h.n:=by rw[ig,fi]
   split at c5
   next κ' st pd vs e=>
    have hl:=iy (T:=T) e
    rw[gu,ii]at c4
    have fin:∀(hst:st≠.busy),(putK h' h.n (.lp κ' .exhausted pd vs) λh2=>K pd h2)=some w->∃g' first' cap' r H1 lp h2,(Value.func (.func g) first cap) = .func (.func g') first' cap'/\gD C g' (first'.toList++[.func (.yield (absH T (toL h)).length) #[] #[]]++cap'.toList) (absH T (toL h)++[.loop (lpOf (T κ) κ vals)]) r H1/\
      dG H1 (absH T (toL h)).length=some lp/\lp.state≠.busy/\absH T (toL h2)=H1.set (absH T (toL h)).length (.loop { lp with state:=.exhausted })/\K lp.pending h2=some w:=by
     intro hst hk
     rw[fT]at hk
     refine⟨g,first,cap,eM (ai ys),absH T (toL h'),{ lpOf (T κ') κ' vs with state:=st,pending:=pd },h'.put h.n (.lp κ' .exhausted pd vs),rfl,?_,?_,hst,?_,hk⟩
     ·rw[hlen];exact c4
     ·rw[hlen];exact hl
     ·rw[fX,ij,hlen];rfl
    cases st with
    |busy=>cases c5
    |_=>exact fin (by simp) c5
   ·cases c5
  ·cases hk
 ·cases hk
def rr{id:Nat}:∀ {ks:List (Nat×RT)},(List.rec none (λp _ ih=>match Nat.beq p.1 id with|true=>p.2|false=>ih) ks:RT)=some w->
  ∃id' x,some (Code.exit id)=some (Code.exit id')/\(id',x)∈ks/\x=some w
 | [],h=>by cases h
 |p :: ks,h=>by
  have h:(match Nat.beq p.1 id with|true=>p.2|false=>(List.rec none (λp _ ih=>match Nat.beq p.1 id with|true=>p.2|false=>ih) ks:RT))=some w:=h
  split at h
  next e=>
   exact⟨id,p.2,rfl,by rw[←qac e];exact qaQ,h⟩
  ·obtain⟨id',x,a,b,c⟩:=rr h
   exact⟨id',x,a,qao _ b,c⟩
def shfB_ok{op:BinOp}{k k':TF}{a b:Int}{K:Int->RT}(h:shfB op k a k' b K=some w):∃n,ShRun op k a k' b n/\K n=some w:=by
 unfold shfB at h
 split at h
 next hb=>
  have hb:¬b<0:=by have:=leZ_iff.1 hb;omega
  split at h
  ·rw[ja]at h
   exact⟨_,λP t w=>by simp[binOp,Op.shift,hb],h⟩
  ·rw[ja]at h
   exact⟨_,λP t w=>by simp[binOp,Op.shift,hb],h⟩
  ·cases h
 ·cases h
def BA_ok{C:Cfg}{Sg:Tc}{T:Tt}{call:ac}(hc:CallBOk C Sg T call):AlgOk (BA Sg T call) C Sg T (λb=>b=some w) (λh=>absH T (toL h)) where
 fail:=by intro h;cases h
 cond:=by
  intro b x y h
  cases b
  ·exact .inr ⟨rfl,h⟩
  ·exact .inl ⟨rfl,h⟩
 ari:=λop k a b K h=>ariB_ok h
 shf:=λop k a k' b K h=>shfB_ok h
 cmp:=λop a b K h=>cmpB_ok h
 eqs:=λl K h=>eqsB_ok h
 conv:=λk a K h=>fitsK h
 sel:=by intro t a b K h;cases t<;>exact h
 opt:=by
  intro α o K h
  cases o with
  |none=>cases h
  |some x=>exact⟨x,rfl,h⟩
 chk:=by
  intro v K h
  have h:chkB v K=some w:=h
  unfold chkB at h
  split at h
  next e=>rw[tL]at e;exact⟨e,h⟩
  ·cases h
 unI:=by
  intro ls K h
  match ls,h with
  | .i n :: r,h=>exact⟨n,r,rfl,h⟩
 unB:=by
  intro ls K h
  match ls,h with
  | .b n :: r,h=>exact⟨n,r,rfl,h⟩
 unV:=by
  intro ls K h
  match ls,h with
  | .v n :: r,h=>exact⟨n,r,rfl,h⟩
 un0:=by
  intro ls K h
  match ls,h with
  | [],h=>exact⟨rfl,h⟩
 ucI:=by
  intro k ls K h
  match ls,h with
  | .int k' n :: r,h=>
   have h:(match dz k k' with|true=>K n r|false=>none)=some w:=h
   split at h
   next e=>rw[cT e];exact⟨n,r,rfl,h⟩
   ·cases h
 ucB:=by
  intro ls K h
  match ls,h with
  | .bool n :: r,h=>exact⟨n,r,rfl,h⟩
 ucV:=by
  intro ls K h
  match ls,h with
  |n :: r,h=>exact⟨n,r,rfl,h⟩
 uc0:=by
  intro ls K h
  match ls,h with
  | [],h=>exact⟨rfl,h⟩
 peek:=by
  intro f h K hk
  have hk:peekB T f h K=some w:=hk
  unfold peekB at hk
  rw[←lL]
  cases f with
  |ld n p=>exact ldB_ok hk
  |lg C n p=>exact lgB_ok hk
  |fn f=>
   simp only at hk
   rw[kK]at hk
   split at hk
   next x e=>exact⟨x,e,hk⟩
   ·cases hk
 heap:=by
  intro f h K hk
  have hk:heapB T f h K=some w:=hk
  obtain⟨acts,cs,h',a1,a2,a3⟩:=heapB_ok hk
  exact⟨acts,cs,h',by rw[←lL,ig];exact a1,by rw[a2];exact iV T acts (toL h),a3⟩
 new:=by
  intro o h K hk
  have hk:newB o h K=some w:=hk
  unfold newB at hk
  obtain⟨x,e1,e2⟩:=iz (o:=o) (k:=λo=>jt h o λh'=>K h.n h')
  rw[e2,gj]at hk
  exact⟨h.push x,by rw[gu,e1];exact ii T (toL h) _,by rw[ig,fi];exact hk⟩
 call:=λg ls h K hk=>tu hc hk
 callv:=λv args hs h K hk=>callvB_ok hc hk
 join:=λb m h=>h
 loop:=by
  intro F ls h hk
  refine⟨λn=>Nat.rec (motive:=λ_=>TB->HTr->RT) (λ_ _=>none) (λ_ ih ls h=>F ih ls h) n,λls h=>(by simp),λn ls h=>rfl,1000000,hk⟩
 rfun:=λκ v vals h K hk=>rfunB_ok hc hk
 pend:=by
  intro pd kn kr ks h
  cases pd with
  |none=>exact .inl ⟨rfl,h⟩
  |some c=>
   cases c<;>first|exact .inr (.inl ⟨rfl,h⟩)|skip
   case exit id=>
    exact .inr (.inr (rr h))
   all_goals cases h
 lp1:=by
  intro l h K hk
  have hk:lp1B l h K=some w:=hk
  unfold lp1B at hk
  split at hk
  next κ st pd vs e=>
   split at hk
   ·rw[fT]at hk
    exact⟨_,_,iy e,rfl,by rw[fX];exact ij T (toL h) l _,hk⟩
   ·cases hk
  ·cases hk
 lp2:=by
  intro l j h K hk
  have hk:lp2B l j h K=some w:=hk
  unfold lp2B at hk
  split at hk
  next κ st pd vs e=>
   cases j with
   |none=>
    have hk:putK h l (.lp κ .ready none vs) K=some w:=hk
    rw[fT]at hk
    exact⟨_,h.put l (.lp κ .ready none vs),iy e,(congrArg (absH T) (fX h l (.lp κ .ready none vs))).trans (ij T (toL h) l (.lp κ .ready none vs)),hk⟩
   |some c=>
    have hk:putK h l (.lp κ .done (some c) vs) K=some w:=hk
    rw[fT]at hk
    exact⟨_,h.put l (.lp κ .done (some c) vs),iy e,(congrArg (absH T) (fX h l (.lp κ .done (some c) vs))).trans (ij T (toL h) l (.lp κ .done (some c) vs)),hk⟩
  ·cases hk
inductive TabOk(C:Cfg)(Sg:Tc)(X:Ctxt)(dr:Dr)(A:Alg RT HTr)(f:TJ)(ls:TB)(h:HTr)(K:TB->HTr->RT)(w:TB):Prop
 |run (fn:Fn1) (hi:FnIs X Sg f fn) (he:af A X Sg dr fn ls h K=some w)
 |known (rs:TB) (hc:∀H,aW C Sg f ls H rs H) (hk:K rs h=some w)
 |alone (fn:Fn1) (rs:TB) (sg:Sig) (hi:FnIs X Sg f fn) (hs:Sg f=some sg) (hp:sg.plain=true) (he:af A X Sg dr fn ls .empty (λrs _=>some rs)=some rs) (hk:K rs h=some w)
end
end Sx
namespace Sx
def gfl(v:Value):Bool:=match v with
 | .pointer (some a)=>a.spot==some 1
 | .slice (some a) _ _=>a.spot==some 1
 |v=>scalar v
section
variable [Val]
def objR_keep [Glo]{mu:HMap}{p:Pl}{x y:Option Obj}{o:HObj}(hxy:∀a,x=some a->y=some a)(h:objR mu p x o):objR mu p y o:=by
 cases o with
 |cells vs esz rw=>
  obtain⟨h1,h2,h3,c,e,fr,h4,h5⟩:=h
  exact⟨h1,h2,h3,c,e,fr,hxy _ h4,h5⟩
 |map es clock=>
  obtain⟨es',h1,h2⟩:=h
  exact⟨es',hxy _ h1,h2⟩
 |loop r=>
  obtain⟨L,h1,h2⟩:=h
  exact⟨L,hxy _ h1,h2⟩
 |siter s pos=>exact hxy _ h
 |dead=>trivial
def flatVRs [Glo]{la:LMap}{mu mu':HMap}{vs cs:Tl}(hf:vs.all flat=true)(h:VRs la mu vs cs):VRs la mu' vs cs:=by
 refine⟨h.1,λi x y hx hy=>?_⟩
 have h1:=h.2 i x y hx hy
 have h2:flat x=true:=qab.1 hf x (qaq hx)
 rw[oY h2 h1]
 exact .of_flat h2
def gflVR [Glo]{la la':LMap}{mu mu':HMap}{v c:Value}(hf:gfl v=true)(h:VR la mu v c):VR la' mu' v c:=by
 cases h with
 |poison c=>cases hf
 |sym h=>cases hf
 |scalar h=>exact .scalar h
 |agg _ _=>cases hf
 |tuple _ _ _=>cases hf
 |func _ _ _ _ _=>cases hf
 |yield _=>cases hf
 |lptr _=>cases hf
 |hptr _=>cases hf
 |gptr=>exact .gptr
 |hslice _ _ _ _=>simp[gfl,tag]at hf
 |hslice0 _=>simp[gfl,tag]at hf
 |gslice hl hx=>exact .gslice hl hx
 |gslice0 hx=>exact .gslice0 hx
 |map _=>cases hf
def tJ [Glo]{mu mu':HMap}{vs:Tl}{c:Tj}{o:Nat}(hf:vs.all gfl=true)(h:bE mu vs c o):bE mu' vs c o:=by
 intro i v hv
 obtain⟨v',h1,h2⟩:=h i v hv
 exact⟨v',h1,gflVR (qab.1 hf v (qaq hv)) h2⟩
def no_own{mu:HMap}{b:Nat}:¬Own mu [] b:=by
 rintro⟨id,o,p,h,_⟩
 simp at h
def frame_ok{C:Cfg}(hG:∀g vs,C.G g=some vs->vs.all gfl=true){f:TJ}{args:Tl}{r:Value}{H':Ts}(h:eG C f args [] r H')(ha:args.all flat=true)(hr:flat r=true)(H:Ts):eG C f args H r H:=by
 intro _ base mu w args' hb hargs hW cs
 have hW0:WR C w.heap.size (λ_=>none) [] w:=by
  refine⟨λid o h=>by simp at h,λi j oi oj pi pj h=>by simp at h,λi o p h=>by simp at h,λi o p h=>by simp at h,λ_ _=>rfl,λg vs hg=>?_⟩
  obtain⟨h1,h2,c,e,fr,h3,h4⟩:=hW.glob g vs hg
  exact⟨by omega,h2,c,e,fr,h3,tJ (hG g vs hg) h4⟩
 obtain⟨v,mu',w',a1,a2,a3,a4,a5⟩:=h _ w.heap.size (λ_=>none) w args' (qam _) (flatVRs ha hargs) hW0 cs
 have hkeep:∀(b:Nat) x,w.heap[b]?=some x->w'.heap[b]?=some x:=by
  intro b x hx
  have hlt:b<w.heap.size:=by
   rcases qaC b w.heap.size with h|h
   ·exact h
   ·rw[qbw h]at hx;cases hx
  rw[a3.keep b hlt no_own];exact hx
 refine⟨v,mu,w',?_,?_,?_,a4,a5⟩
 ·rw[oY hr a1];exact .of_flat hr
 ·refine⟨λid o h1 h2=>?_,hW.inj,hW.own,hW.ro,hW.dom,λg vs hg=>?_⟩
  ·obtain⟨p,h3,h4⟩:=hW.obj id o h1 h2
   exact⟨p,h3,objR_keep (hkeep p.b) h4⟩
  ·obtain⟨h1,h2,c,e,fr,h3,h4⟩:=hW.glob g vs hg
   exact⟨h1,h2,c,e,fr,hkeep _ _ h3,h4⟩
 ·exact⟨qam _,λ_ _=>rfl,a3.size,λb hb _=>a3.keep b hb no_own,λb h=>.inr h,a3.os,a3.tape,a3.output,a3.dr⟩
end
section
variable [Val] [Kno]
end
end Sx
namespace Sx
def fp(F:Tz)(H H2:Ts):Prop:=∀r∈F,∀x,H[r]?=some x->x.alive=true->H2[r]?=some x
structure HEff where
 set:Option (Nat×HObj)
 push:Option (HObj×(Nat->Value))
 v:Value
def HEff.put(e:HEff)(H:Ts):Ts:=match e.set with
 |some p=>H.set p.1 p.2
 |none=>H
def HEff.heap(e:HEff)(H:Ts):Ts:=match e.push with
 |some p=>e.put H++[p.1]
 |none=>e.put H
def HEff.val(e:HEff)(n:Nat):Value:=match e.push with
 |some p=>p.2 n
 |none=>e.v
def LocF(nw:Prop)(F W:Tz)(f:Ts->Option (List HObj×Value))(H:Ts):Prop:=
 ∀H' v,f H=some (H',v)->∃e:HEff,H'=e.heap H/\v=e.val H.length/\(∀p,e.set=some p->p.1∈W/\∃x,H[p.1]?=some x/\x.alive=true)/\(∀p,e.push=some p->nw/\Fresh p.2/\p.1.alive=true)/\
  ∀H2,fp F H H2->f H2=some (e.heap H2,e.val H2.length)
def LocG(F:Tz)(f:Ts->Ti)(H:Ts):Prop:=∀v,f H=some v->∀H2,fp F H H2->f H2=some v
def cG{F:Tz}{H H2:Ts}(h:fp F H H2){r:Nat}(hr:r∈F){vs:Tl}{e:Nat}{b:Bool}(hx:H[r]?=some (.cells vs e b)):H2[r]?=some (.cells vs e b):=h r hr _ hx rfl
def bH{F:Tz}{H H2:Ts}(h:fp F H H2){r:Nat}(hr:r∈F){es:Th}{c:Nat}(hx:hmap H r=some (es,c)):H[r]?=some (.map es c)/\hmap H2 r=some (es,c):=by
 unfold hmap at hx
 split at hx
 next e=>
  cases hx
  exact⟨e,by unfold hmap;rw[h r hr _ e rfl]⟩
 ·cases hx
def gN{C:Cfg}{H H2:Ts}{esz:Nat}{x:Value}{p:List Value×Nat}(hc:ce C H esz x=some p){F:Tz}(hF:∀r∈adr x,r∈F)(h:fp F H H2):ce C H2 esz x=some p:=by
 unfold ce at hc ⊢
 split at hc
 ·exact hc
 next a len cx=>
  split at hc
  next hs=>simp only[hs,if_true];exact hc
  next hs=>
   split at hc
   next ht=>
    simp only[hs,if_false,ht,if_true]
    split at hc
    next vs e b hid=>
     have hm:a.block∈adr (.slice (some a) len cx):=by
      simp[adr,ht,tag]
     rw[cG h (hF _ hm) hid]
     exact hc
    ·cases hc
   ·cases hc
 ·exact hc
 ·cases hc
def su{nw:Prop}{F W:Tz}{H:Ts}(hnw:nw)(x:HObj)(mk:Nat->Value)(hx:x.alive=true)(hm:Fresh mk):LocF nw F W (λH=>some (H++[x],mk H.length)) H:=by
 intro H' v h
 cases h
 exact⟨⟨none,some (x,mk),undef⟩,rfl,rfl,λp hp=>(by cases hp),λp hp=>by cases hp;exact⟨hnw,hm,hx⟩,λH2 _=>rfl⟩
def eW{nw:Prop}{F W:Tz}{f:Ts->Option (List HObj×Value)}{H:Ts}{v:Value}(h:f H=some (H,v))(h2:∀H2,fp F H H2->f H2=some (H2,v)) :
  ∃e:HEff,H=e.heap H/\v=e.val H.length/\(∀p,e.set=some p->p.1∈W/\∃x,H[p.1]?=some x/\x.alive=true)/\(∀p,e.push=some p->nw/\Fresh p.2/\p.1.alive=true)/\∀H2,fp F H H2->f H2=some (e.heap H2,e.val H2.length):=
 ⟨⟨none,none,v⟩,rfl,rfl,λp hp=>(by cases hp),λp hp=>(by cases hp),h2⟩
def pw{nw:Prop}{F W:Tz}{f:Ts->Option (List HObj×Value)}{H:Ts}{x:HObj}{mk:Nat->Value}(hnw:nw)(hx:x.alive=true)(hm:Fresh mk)(h2:∀H2,fp F H H2->f H2=some (H2++[x],mk H2.length)) :
  ∃e:HEff,H++[x]=e.heap H/\mk H.length=e.val H.length/\(∀p,e.set=some p->p.1∈W/\∃x,H[p.1]?=some x/\x.alive=true)/\(∀p,e.push=some p->nw/\Fresh p.2/\p.1.alive=true)/\∀H2,fp F H H2->f H2=some (e.heap H2,e.val H2.length):=
 ⟨⟨none,some (x,mk),undef⟩,rfl,rfl,λp hp=>(by cases hp),λp hp=>by cases hp;exact⟨hnw,hm,hx⟩,h2⟩
def eE{nw:Prop}{F W:Tz}{f:Ts->Option (List HObj×Value)}{H:Ts}{i:Nat}{x y:HObj}{v:Value}(hi:i∈W)(hy:H[i]?=some y)(ha:y.alive=true)(h2:∀H2,fp F H H2->f H2=some (H2.set i x,v)) :
  ∃e:HEff,H.set i x=e.heap H/\v=e.val H.length/\(∀p,e.set=some p->p.1∈W/\∃x,H[p.1]?=some x/\x.alive=true)/\(∀p,e.push=some p->nw/\Fresh p.2/\p.1.alive=true)/\∀H2,fp F H H2->f H2=some (e.heap H2,e.val H2.length):=
 ⟨⟨some (i,x),none,v⟩,rfl,rfl,λp hp=>by cases hp;exact⟨hi,y,hy,ha⟩,λp hp=>(by cases hp),h2⟩
def vt{nw:Prop}{C:Cfg}{t:TI}{s x:Value}{H:Ts}{F W:Tz}(hnw:nw)(hs:∀r∈adr s,r∈F/\r∈W)(hx:∀r∈adr x,r∈F):LocF nw F W (eC C t s x) H:=by
 intro H' v hf
 unfold eC at hf
 split at hf
 case h_2=>cases hf
 rename_i elem hu
 split at hf
 ·cases hf
 rename_i info hi
 split at hf
 ·cases hf
 rename_i hsz
 split at hf
 ·cases hf
 rename_i hz
 split at hf
 ·cases hf
 rename_i new n hcv
 have base:∀H2,fp F H H2->eC C t s x H2=(match (motive:=Value->Option (List HObj×Value)) s with
   | .slice none 0 0=>
    if n=0 then some (H2,.slice none 0 0)
    else if ch n info.bytes then some (H2++[.cells new info.size true],.slice (some ⟨H2.length,0,tag info.size⟩) n 0)else none
   | .slice (some a) len cx=>
    if a.spot≠tag info.size then none else
    match H2[a.block]? with
    |some (.cells vs e rw)=>
     if e≠info.size then none else
     match cut vs a.off (len*info.size)with
     |none=>none
     |some old=>
      match cx with
      |0=>
       if n=0 then some (H2,.slice (some a) len 0)
       else if rw&&ch (len+n) info.bytes then
        some (H2.set a.block .dead++[.cells (old++new) info.size true],.slice (some ⟨H2.length,0,tag info.size⟩) (len+n) 0)
       else none
      |cap+1=>
       if len+n<=cap then
        if rw then(splice vs (a.off+len*info.size) new).map λvs'=>(H2.set a.block (.cells vs' e true),.slice (some a) (len+n) (cap+1))
        else if n=0 then some (H2,.slice (some a) len (cap+1))else none
       else if ch (len+n) info.bytes then
        some (H2++[.cells (old++new) info.size true],.slice (some ⟨H2.length,0,tag info.size⟩) (len+n) 0)
       else none
    |_=>none
   |_=>none):=by
  intro H2 h2
  unfold eC
  simp only[hu,hi,hsz,if_false,hz,gN hcv hx h2]
  rfl
 split at hf
 ·split at hf
  next hn=>
   cases hf
   exact eW (by rw[base H λ_ _ _ h _=>h];simp only[hn,if_true]) λH2 h2=>by rw[base H2 h2];simp only[hn,if_true]
  next hn=>
   split at hf
   next hok=>
    cases hf
    exact pw (mk:=λk=>.slice (some ⟨k,0,tag info.size⟩) n 0) hnw rfl (.slice _ _ _) λH2 h2=>by rw[base H2 h2];simp only[hn,if_false,hok,if_true]
   ·cases hf
 next a len cx=>
  split at hf
  ·cases hf
  rename_i hsp
  have hm:a.block∈adr (.slice (some a) len cx):=by
   simp only[ne_eq,Classical.not_not]at hsp
   simp[adr,hsp,tag]
  split at hf
  case h_2=>cases hf
  rename_i vs e rw0 hid
  split at hf
  ·cases hf
  rename_i he
  split at hf
  ·cases hf
  rename_i old hcut
  have hid2:∀ {H2},fp F H H2->H2[a.block]?=some (.cells vs e rw0):=λh2=>cG h2 (hs _ hm).1 hid
  split at hf
  ·split at hf
   next hn=>
    cases hf
    exact eW (by rw[base H λ_ _ _ h _=>h];simp only[hsp,hid,he,hcut,hn,if_true,if_false]) λH2 h2=>by rw[base H2 h2];simp only[hsp,hid2 h2,he,hcut,hn,if_true,if_false]
   next hn=>
    split at hf
    next hok=>
     cases hf
     refine⟨⟨some (a.block,.dead),some (.cells (old++new) info.size true,λk=>.slice (some ⟨k,0,tag info.size⟩) (len+n) 0),undef⟩,rfl,rfl,λp hp=>by cases hp;exact⟨(hs _ hm).2,_,hid,rfl⟩,λp hp=>by cases hp;exact⟨hnw,.slice _ _ _,rfl⟩,λH2 h2=>?_⟩
     rw[base H2 h2];simp only[hsp,hid2 h2,he,hcut,hn,hok,if_true,if_false];rfl
    ·cases hf
  ·split at hf
   next cap hle=>
    split at hf
    next hrw=>
     obtain⟨vs',hspl,hq⟩:=qad.1 hf
     cases hq
     exact eE (hs _ hm).2 hid rfl λH2 h2=>by rw[base H2 h2];simp only[hsp,hid2 h2,he,hcut,hle,hrw,if_true,if_false,hspl,qau]
    next hrw=>
     split at hf
     next hn=>
      cases hf
      exact eW (by rw[base H λ_ _ _ h _=>h];simp only[hsp,hid,he,hcut,hle,hn,hrw,if_true,if_false];simp[hn];omega) λH2 h2=>by rw[base H2 h2];simp only[hsp,hid2 h2,he,hcut,hle,hrw,hn,if_true,if_false];simp[hn];omega
     ·cases hf
   next cap hle=>
    split at hf
    next hok=>
     cases hf
     exact pw (mk:=λk=>.slice (some ⟨k,0,tag info.size⟩) (len+n) 0) hnw rfl (.slice _ _ _) λH2 h2=>by rw[base H2 h2];simp only[hsp,hid2 h2,he,hcut,hle,hok,if_true,if_false]
    ·cases hf
 ·cases hf
def loc_copy{nw:Prop}{C:Cfg}{t:TI}{d x:Value}{H:Ts}{F W:Tz}(hs:∀r∈adr d,r∈F/\r∈W)(hx:∀r∈adr x,r∈F):LocF nw F W (lr C t d x) H:=by
 intro H' v hf
 unfold lr at hf
 split at hf
 next elem hu=>
  split at hf
  ·cases hf
  rename_i hsz
  obtain⟨p,hp,hq⟩:=qad.1 hf
  cases hq
  exact eW (by unfold lr;simp only[hu,hsz,if_false,hp,qau]) λH2 h2=>by unfold lr;simp only[hu,hsz,if_false,gN hp hx h2,qau]
 next elem a dlen cx hu=>
  split at hf
  ·cases hf
  rename_i hsz
  split at hf
  ·cases hf
  rename_i hsp
  split at hf
  case h_2=>cases hf
  rename_i new n vs e hcv hid
  split at hf
  ·cases hf
  rename_i he
  obtain⟨vs',hspl,hq⟩:=qad.1 hf
  cases hq
  have hm:a.block∈adr (.slice (some a) dlen cx):=by
   simp only[ne_eq,Classical.not_not]at hsp
   simp[adr,hsp,tag]
  refine eE (hs _ hm).2 hid rfl λH2 h2=>?_
  unfold lr
  simp only[hu,hsz,hsp,he,if_false,gN hcv hx h2,cG h2 (hs _ hm).1 hid,hspl,qau]
 ·cases hf
def loc_clear{nw:Prop}{C:Cfg}{t:TI}{x:Value}{H:Ts}{F W:Tz}(hs:∀r∈adr x,r∈F/\r∈W):LocF nw F W (fD C t x) H:=by
 intro H' v hf
 unfold fD at hf
 split at hf
 next elem hu=>
  cases hf
  exact eW (by unfold fD;simp only[hu]) λH2 h2=>by unfold fD;simp only[hu]
 next elem a n cx hu=>
  split at hf
  ·cases hf
  rename_i hsz
  split at hf
  ·cases hf
  rename_i hsp
  split at hf
  case h_2=>cases hf
  rename_i z vs e hz hid
  split at hf
  ·cases hf
  rename_i he
  obtain⟨vs',hspl,hq⟩:=qad.1 hf
  cases hq
  have hm:a.block∈adr (.slice (some a) n cx):=by
   simp only[ne_eq,Classical.not_not]at hsp
   simp[adr,hsp,tag]
  refine eE (hs _ hm).2 hid rfl λH2 h2=>?_
  unfold fD
  simp only[hu,hsz,hsp,he,if_false,hz,cG h2 (hs _ hm).1 hid,hspl,qau]
 ·cases hf
def loc_store{nw:Prop}{C:Cfg}{t:TI}{id off:Nat}{x:Value}{H:Ts}{F W:Tz}(h1:id∈F)(h2:id∈W):LocF nw F W (gS C t id off x) H:=by
 intro H' v hf
 unfold gS at hf
 split at hf
 next vs e hid=>
  obtain⟨vs',hw,hq⟩:=qad.1 hf
  cases hq
  refine eE h2 hid rfl λH2 h3=>?_
  unfold gS
  simp only[cG h3 h1 hid,hw,qau]
 ·cases hf
def nC{nw:Prop}{C:Cfg}{t:TI}{m k x:Value}{H:Ts}{F W:Tz}(hs:∀r∈adr m,r∈F/\r∈W):LocF nw F W (bL C t m k x) H:=by
 intro H' v hf
 unfold bL at hf
 split at hf
 case h_2=>cases hf
 rename_i kt et id hu
 split at hf
 ·cases hf
 rename_i hok
 split at hf
 ·cases hf
 rename_i es c hm
 obtain⟨f1,w1⟩:=hs id (by simp[adr])
 have g1:=(bH (λ_ _ _ h _=>h:fp F H H) f1 hm).1
 split at hf
 ·cases hf
 next hfi=>
  cases hf
  refine eE w1 g1 rfl λH2 h2=>?_
  unfold bL
  simp only[hu,hok,(bH h2 f1 hm).2,hfi]
  rfl
 next i hfi=>
  split at hf
  next hb=>
   cases hf
   refine eE w1 g1 rfl λH2 h2=>?_
   unfold bL
   simp only[hu,hok,(bH h2 f1 hm).2,hfi,hb]
   rfl
  ·cases hf
def loc_entry{nw:Prop}{C:Cfg}{t:TI}{m k:Value}{H:Ts}{F W:Tz}(hs:∀r∈adr m,r∈F/\r∈W):LocF nw F W (bK C t m k) H:=by
 intro H' v hf
 unfold bK at hf
 split at hf
 case h_2=>cases hf
 rename_i kt et id hu
 split at hf
 ·cases hf
 rename_i hok
 split at hf
 ·cases hf
 rename_i es c hm
 obtain⟨f1,w1⟩:=hs id (by simp[adr])
 have g1:=(bH (λ_ _ _ h _=>h:fp F H H) f1 hm).1
 split at hf
 ·cases hf
 next hfi=>
  split at hf
  ·cases hf
  rename_i z hz
  cases hf
  refine eE w1 g1 rfl λH2 h2=>?_
  unfold bK
  simp only[hu,hok,(bH h2 f1 hm).2,hfi,hz]
  rfl
 next i hfi=>
  split at hf
  ·cases hf
  rename_i e hei
  split at hf
  next hb=>
   cases hf
   refine eE w1 g1 rfl λH2 h2=>?_
   unfold bK
   simp only[hu,hok,(bH h2 f1 hm).2,hfi,hei,hb]
   rfl
  ·cases hf
def vw{nw:Prop}{m s x:Value}{H:Ts}{F W:Tz}(hs:∀r∈adr m,r∈F/\r∈W):LocF nw F W (bV m s x) H:=by
 intro H' v hf
 unfold bV at hf
 split at hf
 case h_2=>cases hf
 rename_i id b hb
 split at hf
 ·cases hf
 rename_i hok
 split at hf
 ·cases hf
 rename_i es c hm
 obtain⟨f1,w1⟩:=hs id (by simp[adr])
 have g1:=(bH (λ_ _ _ h _=>h:fp F H H) f1 hm).1
 split at hf
 next i hfi=>
  cases hf
  refine eE w1 g1 rfl λH2 h2=>?_
  unfold bV
  simp only[hb,hok,(bH h2 f1 hm).2,hfi]
  rfl
 ·cases hf
def vu{nw:Prop}{C:Cfg}{t:TI}{m k:Value}{H:Ts}{F W:Tz}(hs:∀r∈adr m,r∈F/\r∈W):LocF nw F W (db C t m k) H:=by
 intro H' v hf
 unfold db at hf
 split at hf
 case h_2=>cases hf
 rename_i kt et hu
 split at hf
 ·cases hf
 rename_i hok
 split at hf
 ·cases hf
  exact eW (by unfold db;simp only[hu,hok];rfl) λH2 h2=>by unfold db;simp only[hu,hok];rfl
 next id=>
  obtain⟨f1,w1⟩:=hs id (by simp[adr])
  split at hf
  ·cases hf
  rename_i es c hm
  have g1:=(bH (λ_ _ _ h _=>h:fp F H H) f1 hm).1
  split at hf
  ·cases hf
  next hfi=>
   cases hf
   exact eW (by unfold db;simp only[hu,hok,hm,hfi];rfl) λH2 h2=>by unfold db;simp only[hu,hok,(bH h2 f1 hm).2,hfi];rfl
  next i hfi=>
   cases hf
   refine eE w1 g1 rfl λH2 h2=>?_
   unfold db
   simp only[hu,hok,(bH h2 f1 hm).2,hfi]
   rfl
 ·cases hf
def loc_make{nw:Prop}{C:Cfg}{t:TI}{l c:Value}{H:Ts}{F W:Tz}(hnw:nw):LocF nw F W (cO C t l c) H:=by
 intro H' v hf
 unfold cO at hf
 split at hf
 case h_2=>cases hf
 rename_i ln cn e h1 h2 hu
 split at hf
 case h_2=>cases hf
 rename_i info hi
 split at hf
 ·cases hf
 rename_i hsz
 split at hf
 case h_2=>cases hf
 rename_i z hz
 split at hf
 next hb=>
  cases hf
  refine pw (mk:=λk=>.slice (some ⟨k,0,tag info.size⟩) ln.toNat (cn.toNat+1)) hnw rfl (.slice _ _ _) λH2 _=>?_
  unfold cO
  simp only[h1,h2,hu,hi,hsz,hz,hb,and_self,if_true,if_false]
 ·cases hf
def vx{C:Cfg}{t:TI}{m k:Value}{ok:Bool}{H:Ts}{F:Tz}(hs:∀r∈adr m,r∈F):LocG F (bW C t m k ok) H:=by
 intro v hf H2 h2
 unfold bW at hf
 unfold bW
 split at hf
 case h_2=>cases hf
 rename_i kt et hu
 split at hf
 ·cases hf
 rename_i hok
 simp only[hok]
 split at hf
 ·cases hf
 rename_i z hz
 split at hf
 ·exact hf
 next id=>
  have f1:=hs id (by simp[adr])
  split at hf
  ·cases hf
  rename_i es c hm
  simp only[(bH h2 f1 hm).2]
  exact hf
 ·cases hf
def loc_arr{C:Cfg}{t:TI}{a:Addr}{lo hi mx:Ti}{H:Ts}{F:Tz}(hs:∀r∈adr (.pointer (some a)),r∈F):LocG F (cj C t a lo hi mx) H:=by
 intro v hf H2 h2
 unfold cj at hf
 unfold cj
 split at hf
 case h_2=>cases hf
 rename_i n elem hu
 split at hf
 ·cases hf
 rename_i hsz
 simp only[hsz,if_false]
 split at hf
 ·cases hf
 rename_i l h m hb
 split at hf
 next hsp=>
  simp only[hsp,if_true];exact hf
 next hsp=>
  simp only[hsp,if_false]
  split at hf
  next hn=>
   simp only[hn,if_true]
   split at hf
   next vs e b hid=>
    rw[cG h2 (hs _ (by simp[adr,hn])) hid]
    exact hf
   ·cases hf
  ·cases hf
end Sx
namespace Sx
def fpo(pts:Tz)(ρ:Tf)(o:Oper):Tz:=(cA pts o).1.flatMap λx=>adrK (cA pts o).2 (ρ x)
def wpo(pts:Tz)(ρ:Tf)(o:Oper):Tz:=(dM pts o).flatMap λx=>adr (ρ x)
def okS(N:Tb)(pts:Tz)(o:Oper):Bool:=
 match al N pts o with
 |some .hw=>(match o.op with
  | .call c=>(match c.callee with
   | .builtin _=>true
   |_=>false)
  |_=>true)
 |some .hr=>(match o.op with
  | .call c=>(match c.callee with
   | .builtin _=>true
   |_=>false)
  |_=>true)
 |some _=>true
 |none=>false
def cP{C:Cfg}{ρ:Tf}{o:Oper}{e:Eff}(h:bN C ρ o=some e):∃v,e = .val v:=by
 unfold bN at h
 split at h
 ·split at h
  ·split at h
   ·cases h;exact⟨_,rfl⟩
   ·cases h
  ·cases h
 ·cases h
def cV{x:Ti}{e:Eff}(h:x.map Eff.val=some e):∃v,e = .val v:=by
 obtain⟨v,_,rfl⟩:=qad.1 h
 exact⟨v,rfl⟩
def nohop_or{a:Ti}{b:Option Eff}{e:Eff}(hb:b=some e->∃v,e = .val v)(h:mb a b=some e):∃v,e = .val v:=by
 unfold mb at h
 split at h
 ·cases h;exact⟨_,rfl⟩
 ·exact hb h
def LocE(Q nw:Prop)(F W:Tz):Eff->Prop
 | .hop f=>∀H,LocF nw F W f H
 | .hget f=>∀H,LocG F f H
 | .call _ _=>Q
 | .yield _ _=>Q
 |_=>True
def bp{Q nw:Prop}{F W:Tz}{e:Eff}(h:∃v,e = .val v):LocE Q nw F W e:=by
 obtain⟨v,rfl⟩:=h;trivial
def gR{v:Value}{p:Nat×Nat}(h:fR v=some p):adr v=[p.1]:=by
 unfold fR at h
 split at h
 next a=>
  split at h
  next hs=>
   cases h
   cases hsp:a.spot with
   |none=>simp[adr,hsp]
   |some k=>rw[hsp]at hs;cases hs
  ·cases h
 ·cases h
def tR{Q nw:Prop}{C:Cfg}{pts:Tz}{d:Tn}{t:TI}{v:Value}{e:Eff}{F W:Tz}(hnw:∀x,d=some x->pts.getD x 0≠x+2->nw)(h:bM C pts d t v=some e):LocE Q nw F W e:=by
 unfold bM at h
 split at h
 ·cases h
 ·split at h
  ·cases h
  ·split at h
   ·cases h
   ·split at h
    ·cases h;trivial
    next hpt=>
     cases h
     exact λH=>su (hnw _ rfl hpt) (.cells v.cells.toList (jz C.P t) true) (λn=>.pointer (some ⟨n,0,none⟩)) rfl .ptr
def effOf_loc{C:Cfg}{pts:Tz}{ρ:Tf}{o:Oper}{e:Eff}(he:ak C pts ρ o=some e):LocE (∃c f,o.op = .call c/\c.callee = .value f) (cI pts o=true) (fpo pts ρ o) (wpo pts ρ o) e:=by
 unfold ak at he
 split at he
 ·cases he;trivial
 ·cases he;trivial
 ·split at he
  ·cases he;trivial
  ·cases he
 next t ho=>
  obtain⟨z,_,he⟩:=qai.1 he
  exact tR (λx hx hp=>by simp only[cI,ho,hx];cases hb:Nat.beq (pts.getD x 0) (x+2)with
   |false=>rfl
   |true=>exact absurd (qac hb) hp) he
 next t x ho=>
  exact tR (λx hx hp=>by simp only[cI,ho,hx];cases hb:Nat.beq (pts.getD x 0) (x+2)with
   |false=>rfl
   |true=>exact absurd (qac hb) hp) he
 ·split at he
  ·exact bp (cV he)
  ·cases he
 next t n ps ho=>
  split at he
  ·obtain⟨r,_,rfl⟩:=qad.1 he
   exact λH=>su (by simp only[cI,ho]) (.cells r.2 r.1 true) (λk=>.slice (some ⟨k,0,tag r.1⟩) n (n+1)) rfl (.slice _ _ _)
  ·cases he
 next t a ho=>
  unfold de at he
  split at he
  next hk=>
   split at he
   next p hp=>
    cases he
    intro H v hv H2 h2
    obtain⟨vs,h3,h4⟩:=qai.1 hv
    have hm:p.1∈fpo pts ρ o:=by simp[fpo,cA,adrK,ho,hk,gR hp]
    refine qai.2 ⟨vs,?_,h4⟩
    unfold ea at h3 ⊢
    split at h3
    next hid=>cases h3;rw[cG h2 hm hid]
    ·cases h3
   ·obtain⟨p,_,rfl⟩:=qad.1 he
    exact λH v hv H2 _=>hv
  ·obtain⟨p,_,he⟩:=qai.1 he
   exact bp (cV he)
  ·obtain⟨p,_,rfl⟩:=qad.1 he
   trivial
 next t a x ho=>
  unfold dL at he
  split at he
  ·cases he
  ·split at he
   next hk=>
    obtain⟨p,hp,rfl⟩:=qad.1 he
    exact λH=>loc_store (by simp[fpo,cA,adrK,ho,hk,gR hp]) (by simp[wpo,dM,ho,hk,gR hp])
   ·cases he
   ·obtain⟨p,_,rfl⟩:=qad.1 he
    trivial
 ·split at he<;>cases he<;>trivial
 ·split at he
  ·split at he
   ·split at he
    ·cases he;trivial
    ·cases he
   ·exact bp (cP he)
  ·split at he
   ·split at he
    ·cases he;trivial
    ·cases he
   ·exact bp (cP he)
  ·exact bp (cP he)
 ·split at he
  ·cases he
  ·cases he;trivial
 next t r ho=>
  split at he
  ·cases he
   exact λH=>su (by simp only[cI,ho]) (.map [] 0) (λn=>.map (some n)) rfl .map
  ·cases he
 next t l c ho=>
  cases he
  exact λH=>loc_make (by simp only[cI,ho])
 next t x lo hi mx ho=>
  split at he
  next a hx=>
   split at he
   ·exact bp (cV he)
   ·cases he
    exact λH=>loc_arr λr hr=>by simp[fpo,cA,adrK,adrP,ho,hx];exact hr
  ·exact bp (nohop_or cP he)
 ·exact bp (cV he)
 ·exact bp (cV he)
 ·exact bp (cV he)
 ·exact bp (cV he)
 next t m k ok ho=>
  split at he
  ·exact bp (cV he)
  ·cases he
   exact λH=>vx λr hr=>by simp[fpo,cA,adrK,ho];exact hr
 next t m k v ho=>
  cases he
  exact λH=>nC λr hr=>⟨by simp[fpo,cA,adrK,ho];exact hr,by simp[wpo,dM,ho];exact hr⟩
 next t m k v ho=>
  cases he
  exact λH=>nC λr hr=>⟨by simp[fpo,cA,adrK,ho];exact hr,by simp[wpo,dM,ho];exact hr⟩
 next t m k ho=>
  cases he
  exact λH=>loc_entry λr hr=>⟨by simp[fpo,cA,adrK,ho];exact hr,by simp[wpo,dM,ho];exact hr⟩
 next t m s v ho=>
  cases he
  exact λH=>vw λr hr=>⟨by simp[fpo,cA,adrK,ho];exact hr,by simp[wpo,dM,ho];exact hr⟩
 ·split at he
  ·split at he
   ·cases he
   ·exact bp (cV he)
  ·cases he
 next c ho=>
  unfold eR at he
  simp only at he
  cases hc:c.callee with
  |invoke r m=>simp only[hc]at he;cases he
  |builtin b=>
   simp only[hc]at he
   unfold aJ at he
   split at he
   next s x t ha ht=>
    split at he
    ·cases he
    ·cases he
     have two:∃a b,c.args.toList=[a,b]/\ρ a=s/\ρ b=x:=by
      match c.args.toList,ha with
      | [a,b],ha=>simp at ha;exact⟨a,b,rfl,ha.1,ha.2⟩
     obtain⟨a,b,e1,rfl,rfl⟩:=two
     exact λH=>vt (by simp only[cI,ho,hc]) (λr hr=>⟨by simp[fpo,cA,adrK,ho,hc,e1,hr],by simp[wpo,dM,ho,hc,e1,hr]⟩) λr hr=>by simp[fpo,cA,adrK,ho,hc,e1,hr]
   next x t ha ht=>
    split at he
    ·cases he;trivial
    next id hu=>
     cases he
     have one:∃a,c.args.toList=[a]/\ρ a = .map (some id):=by
      cases hl:c.args.toList with
      |nil=>rw[hl]at ha;cases ha
      |cons a l=>
       rw[hl]at ha
       cases l with
       |nil=>exact⟨a,rfl,by simpa using ha⟩
       |cons b l=>simp at ha
     obtain⟨a,e1,e2⟩:=one
     intro H v hv H2 h2
     obtain⟨p,h3,h4⟩:=qad.1 hv
     have hm:id∈fpo pts ρ o:=by simp[fpo,cA,adrK,adrM,ho,hc,e1,e2]
     exact qad.2 ⟨p,(bH h2 hm h3).2,h4⟩
    ·cases he;trivial
    ·exact bp (cP he)
   ·split at he
    ·cases he;trivial
    ·cases he;trivial
    ·cases he;trivial
    ·cases he
   next d x t ha ht=>
    cases he
    have two:∃a b,c.args.toList=[a,b]/\ρ a=d/\ρ b=x:=by
     match c.args.toList,ha with
     | [a,b],ha=>simp at ha;exact⟨a,b,rfl,ha.1,ha.2⟩
    obtain⟨a,b,e1,rfl,rfl⟩:=two
    exact λH=>loc_copy (λr hr=>⟨by simp[fpo,cA,adrK,ho,hc,e1,hr],by simp[wpo,dM,ho,hc,e1,hr]⟩) λr hr=>by simp[fpo,cA,adrK,ho,hc,e1,hr]
   next m k t ha ht=>
    cases he
    have two:∃a b,c.args.toList=[a,b]/\ρ a=m/\ρ b=k:=by
     match c.args.toList,ha with
     | [a,b],ha=>simp at ha;exact⟨a,b,rfl,ha.1,ha.2⟩
    obtain⟨a,b,e1,rfl,rfl⟩:=two
    exact λH=>vu λr hr=>⟨by simp[fpo,cA,adrK,ho,hc,e1,hr],by simp[wpo,dM,ho,hc,e1,hr]⟩
   next x t ha ht=>
    cases he
    have one:∃a,c.args.toList=[a]/\ρ a=x:=by
     match c.args.toList,ha with
     | [a],ha=>simp at ha;exact⟨a,rfl,ha⟩
    obtain⟨a,e1,rfl⟩:=one
    exact λH=>loc_clear λr hr=>⟨by simp[fpo,cA,adrK,ho,hc,e1,hr],by simp[wpo,dM,ho,hc,e1,hr]⟩
   ·exact bp (cP he)
  |value f=>
   simp only[hc]at he
   split at he
   ·cases he
   ·split at he
    ·split at he
     ·cases he;exact⟨c,f,ho,hc⟩
     ·cases he
    ·split at he
     ·cases he;exact⟨c,f,ho,hc⟩
     ·cases he
    ·cases he
 ·exact bp (cP he)
 ·exact bp (cP he)
 ·cases he
section
variable [Val] {C:Cfg} {B:Below} {N:Tb} {pts:Tz} {ops:Tm}
def ow(N:Tb)(pts:Tz)(ops:Tm)(o:Oper)(σ τ:St):Prop:=
 (∀t∈aF ops o,τ.tmps[t]?=σ.tmps[t]?)/\(match al N pts o with
 |some (.row s _)=>τ.loc[s]?=σ.loc[s]?
 |_=>True)/\fp (fpo pts (oval σ.tmps) o) σ.heap τ.heap
def dY(dst:Tn)(e:HEff)(rw:Option (Nat×Option (Tl)))(k:Tp)(τ:St):St:=
 ({ tmps:=τ.tmps,loc:=(match rw with|some p=>τ.loc.set p.1 p.2|none=>τ.loc),heap:=(match k with
  |none=>e.heap τ.heap
  |some k=>match e.push with
   |some p=>(e.put τ.heap).set k p.1
   |none=>e.put τ.heap) }:St).put dst (match k with
  |none=>e.val τ.heap.length
  |some k=>e.val k)
def local_okS(hN:NeuB N B){i:Nat}{o:Oper}(hi:ops[i]?=some o)(hc:okS N pts o=true){σ σ':St}(hs:ae C B pts ops i σ σ') :
  ∃(e:HEff) (rw:Option (Nat×Option (Tl))),σ'=dY o.dst e rw none σ/\(∀p,rw=some p->al N pts o=some (.row p.1 true))/\(e.push≠none->al N pts o=some .hw)/\
   (∀p,e.set=some p->p.1∈wpo pts (oval σ.tmps) o/\∃x,σ.heap[p.1]?=some x/\x.alive=true)/\(∀p,e.push=some p->cI pts o=true/\Fresh p.2/\p.1.alive=true)/\
   ∀τ,ow N pts ops o σ τ->∀sl:Nat->Option Nat,
    (e.push=none->sl i=none->di C B pts ops sl i τ (dY o.dst e rw none τ))/\
    (∀p k,e.push=some p->sl i=some k->(e.put τ.heap)[k]?=some .dead->di C B pts ops sl i τ (dY o.dst e rw (some k) τ)):=by
 have hm:al N pts o≠none:=by intro h;unfold okS at hc;rw[h]at hc;cases hc
 by_cases hcl:al N pts o=some .hr∨al N pts o=some .hw
 case neg=>
  obtain⟨e,h1,h2,h3⟩:=eX hN hi hm hs
  have hh:e.hp=none:=by
   cases he:e.hp with
   |none=>rfl
   |some x=>exact absurd (.inr (h2.2 (by rw[he];simp))) hcl
  have hon:∀τ,e.on o.dst τ=dY o.dst ⟨none,none,e.v⟩ e.rw none τ:=λτ=>by
   unfold Ef.on dY
   rw[hh]
   rfl
  refine⟨⟨none,none,e.v⟩,e.rw,by rw[h1,hon],h2.1,λh=>absurd rfl h,λp hp=>(by cases hp),λp hp=>(by cases hp),λτ hτ sl=>⟨λ_ hsl=>?_,λp k hp=>(by cases hp)⟩⟩
  unfold di
  rw[hsl]
  rw[←hon]
  refine h3 τ ⟨hτ.1,?_⟩
  have:=hτ.2.1
  cases hmm:al N pts o with
  |none=>exact absurd hmm hm
  |some m=>
   rw[hmm]at this hcl
   cases m with
   |hr=>exact absurd (.inl rfl) hcl
   |hw=>exact absurd (.inr rfl) hcl
   |row s w=>exact this
   |_=>trivial
 case pos=>
  unfold ae at hs
  simp only[hi]at hs
  have hwτ:∀τ,ow N pts ops o σ τ->bD ops τ.tmps o=bD ops σ.tmps o:=λτ hτ=>hQ hτ.1
  have val:∀v:Value,σ'=σ.put o.dst v->(∀τ,ow N pts ops o σ τ->ae C B pts ops i τ (τ.put o.dst v))->
    ∃(e:HEff) (rw:Option (Nat×Option (Tl))),σ'=dY o.dst e rw none σ/\(∀p,rw=some p->al N pts o=some (.row p.1 true))/\(e.push≠none->al N pts o=some .hw)/\
     (∀p,e.set=some p->p.1∈wpo pts (oval σ.tmps) o/\∃x,σ.heap[p.1]?=some x/\x.alive=true)/\(∀p,e.push=some p->cI pts o=true/\Fresh p.2/\p.1.alive=true)/\
     ∀τ,ow N pts ops o σ τ->∀sl:Nat->Option Nat,
      (e.push=none->sl i=none->di C B pts ops sl i τ (dY o.dst e rw none τ))/\
      (∀p k,e.push=some p->sl i=some k->(e.put τ.heap)[k]?=some .dead->di C B pts ops sl i τ (dY o.dst e rw (some k) τ)):=by
   intro v hv h
   refine⟨⟨none,none,v⟩,none,hv,λp hp=>(by cases hp),λh=>absurd rfl h,λp hp=>(by cases hp),λp hp=>(by cases hp),λτ hτ sl=>⟨λ_ hsl=>?_,λp k hp=>(by cases hp)⟩⟩
   unfold di
   rw[hsl]
   exact h τ hτ
  split at hs
  ·exact hs.elim
  next hw=>
   refine val undef hs λτ hτ=>?_
   unfold ae
   simp only[hi,hwτ τ hτ,hw]
  next hw=>
   have step:∀ {τ τ':St},ow N pts ops o σ τ->((∃e,ak C pts (oval τ.tmps) o=some e/\im B e o.dst τ τ')∨(∃v,gK C τ.tmps o v/\τ'=τ.put o.dst v))->ae C B pts ops i τ τ':=by
    intro τ τ' hτ h
    unfold ae
    simp only[hi,hwτ τ hτ,hw]
    exact h
   rcases hs with⟨e,he,hr⟩|⟨v,hv,rfl⟩
   ·have heτ:∀τ,ow N pts ops o σ τ->ak C pts (oval τ.tmps) o=some e:=λτ hτ=>by
     rw[gO N pts hm (kQ hτ.1)];exact he
    have hfit:=fQ (N:=N) (λ_=>rfl) hm he
    have hloc:=effOf_loc he
    cases e with
    |val v=>
     obtain⟨p,hp,rfl⟩:=hr
     cases hp
     exact val v rfl λτ hτ=>step hτ (.inl ⟨_,heτ τ hτ,_,rfl,rfl⟩)
    |lnew s vs=>
     have hfit:al N pts o=some (.row s true):=hfit
     rw[hfit]at hcl;rcases hcl with h|h<;>cases h
    |lget s f=>
     have hfit:al N pts o=some (.row s false):=hfit
     rw[hfit]at hcl;rcases hcl with h|h<;>cases h
    |lset s f=>
     have hfit:al N pts o=some (.row s true):=hfit
     rw[hfit]at hcl;rcases hcl with h|h<;>cases h
    |hget f=>
     obtain⟨p,hp,rfl⟩:=hr
     simp only[aA]at hp
     obtain⟨v,hv,rfl⟩:=qad.1 hp
     refine val v rfl λτ hτ=>step hτ (.inl ⟨_,heτ τ hτ,(τ,v),?_,rfl⟩)
     simp only[aA,hloc _ _ hv _ hτ.2.2,qau]
    |hop f=>
     obtain⟨p,hp,rfl⟩:=hr
     simp only[aA]at hp
     obtain⟨q,hv,rfl⟩:=qad.1 hp
     obtain⟨e,l1,l2,l3,l4,l5⟩:=hloc σ.heap q.1 q.2 hv
     refine⟨e,none,?_,λp hp=>(by cases hp),λ_=>hfit,l3,l4,λτ hτ sl=>⟨λhp hsl=>?_,λp k hp hsl hd=>?_⟩⟩
     ·unfold dY
      rw[l1,l2]
     ·unfold di
      rw[hsl]
      exact step hτ (.inl ⟨_,heτ τ hτ,({ τ with heap:=e.heap τ.heap },e.val τ.heap.length),by simp only[aA,l5 _ hτ.2.2,qau],rfl⟩)
     ·unfold di
      rw[hsl]
      refine⟨o,f,e.put τ.heap,p.1,p.2,hi,by rw[hwτ τ hτ];exact hw,heτ τ hτ,?_,?_,hd,(l4 p hp).2.1,?_⟩
      ·rw[l5 _ hτ.2.2]
       unfold HEff.heap HEff.val
       rw[hp]
      ·unfold HEff.put
       split<;>simp
      ·unfold dY HEff.val
       rw[hp]
    |call f args=>
     exfalso
     have hfit:(al N pts o=some (.neu f)/\N f=some (2*args.length))∨(al N pts o=some .hr/\N f=some (2*args.length+1))∨al N pts o=some .hw:=hfit
     rcases hfit with⟨h,_⟩|⟨h,_⟩|h
     ·rw[h]at hcl;rcases hcl with h|h<;>cases h
     ·obtain⟨c,g,q1,q2⟩:=hloc
      unfold okS at hc
      simp only[h,q1,q2]at hc
      cases hc
     ·obtain⟨c,g,q1,q2⟩:=hloc
      unfold okS at hc
      simp only[h,q1,q2]at hc
      cases hc
    |yield l args=>
     exfalso
     have hfit:al N pts o=some .hw:=hfit
     obtain⟨c,g,q1,q2⟩:=hloc
     unfold okS at hc
     simp only[hfit,q1,q2]at hc
     cases hc
   ·refine val v rfl λτ hτ=>step hτ (.inr ⟨v,?_,rfl⟩)
    obtain⟨h1,h2,h3,h4⟩:=hv
    have hops:=kQ hτ.1
    refine⟨h1,?_,h3,λw=>?_⟩
    ·rw[qab]at h2 ⊢
     intro x hx
     rw[hops x hx];exact h2 x hx
    ·rw[execOp_congr N pts hm (ρ':=λx=>den (oval σ.tmps x)) λx hx=>by rw[hops x hx]]
     exact h4 w
end
end Sx
namespace Sx
section
variable [Val] {C:Cfg} {B:Below} {N:Tb} {pts:Tz} {ops:Tm}
def runR(S:Nat->St->St->Prop):Tz->St->St->Prop
 | [],σ,σ'=>σ'=σ
 |i :: l,σ,σ'=>∃σ₁,S i σ σ₁/\runR S l σ₁ σ'
def lU{S:Nat->St->St->Prop}{i:Nat}{post:Tz}:∀(pre:Tz),(∀k∈pre,∀σ σ₁ σ':St,S k σ σ₁->S i σ₁ σ'->∃τ,S i σ τ/\S k τ σ')->
  ∀σ σ':St,runR S (pre++i :: post) σ σ'->runR S (i :: (pre++post)) σ σ'
 | [],_,σ,σ',h=>h
 |k :: pre,hc,σ,σ',⟨σ₁,h1,h2⟩=>by
  obtain⟨σ₂,h3,h4⟩:=lU pre (λk hk=>hc k (by simp[hk])) σ₁ σ' h2
  obtain⟨τ,h5,h6⟩:=hc k (by simp) σ σ₁ σ₂ h1 h3
  exact⟨τ,h5,σ₂,h6,h4⟩
def tK{S:Nat->St->St->Prop}(hback:∀(i:Nat) o,ops[i]?=some o->∀e∈o.after.toList,Region.binds .any e=true->e.on<i)
  (hpair:∀i k:Nat,i<ops.size->k<i->Anc ops k i∨∀σ σ₁ σ':St,S k σ σ₁->S i σ₁ σ'->∃τ,S i σ τ/\S k τ σ'):∀(fuel t:Nat) (listed:Array Bool),listed.size=ops.size->(unl ops.size listed).length=fuel->
  (∀(x:Nat) o,listed.getD x true=true->ops[x]?=some o->∀e∈o.after.toList,Region.binds .any e=true->listed.getD e.on false=true)->
  ∀σ σ':St,runR S (unl ops.size listed) σ σ'->runR S (Region.linearise.go .any ops fuel t listed []) σ σ'/\(Region.linearise.go .any ops fuel t listed []).Nodup/\∀x∈Region.linearise.go .any ops fuel t listed [],listed.getD x true=false
 |0,t,listed,_,hl,_,σ,σ',h=>by
  have:unl ops.size listed=[]:=qa9.1 hl
  rw[this]at h
  simpa[Region.linearise.go]using h
 |fuel+1,t,listed,hsz,hl,hcl,σ,σ',h=>by
  simp only[Region.linearise.go]
  generalize hrs:((List.range ops.size).filter λi=>!listed.getD i true&&((ops[i]?).map (·.after.all λe=>!Region.binds .any e||listed.getD e.on false)).getD false)=rs
  have hready:∀i∈rs,i<ops.size/\listed.getD i true=false/\∀o,ops[i]?=some o->∀e∈o.after.toList,Region.binds .any e=true->listed.getD e.on false=true:=by
   intro i hi
   rw[←hrs,qaR,qah]at hi
   obtain⟨h1,h2⟩:=hi
   simp only[qaa,qbB]at h2
   refine⟨h1,h2.1,λo ho e he hb=>?_⟩
   have h3:=h2.2
   rw[ho]at h3
   simp only[qau,qbg]at h3
   rw[qcq]at h3
   have:=h3 e (by simpa using he)
   rw[hb]at this
   simpa using this
  have hne:rs≠[]:=by
   have hu:unl ops.size listed≠[]:=by intro e;rw[e]at hl;cases hl
   obtain⟨i0,tl,hu0⟩:=qcS hu
   have hi0:i0∈unl ops.size listed:=by rw[hu0];simp
   have hi1:=hi0
   rw[unl,qaR,qah]at hi1
   have hmem:i0∈rs:=by
    rw[←hrs,qaR,qah]
    refine⟨hi1.1,?_⟩
    simp only[qaa]
    refine⟨hi1.2,?_⟩
    have ho:ops[i0]?=some ops[i0]:=by simp[hi1.1]
    rw[ho]
    simp only[qau,qbg]
    rw[qcq]
    intro e he
    cases hb:Region.binds .any e with
    |false=>simp
    |true=>
     have hlt:=hback i0 _ ho e (by simpa using he) hb
     simp only[qaK,qcN]
     by_cases hlis:listed.getD e.on true=true
     ·have hs:e.on<listed.size:=by omega
      rw[qal]at hlis ⊢
      rw[qbm hs]at hlis ⊢
      exact hlis
     ·exfalso
      have hm:e.on∈unl ops.size listed:=by
       rw[unl,qaR,qah]
       exact⟨by omega,by simpa using hlis⟩
      rw[hu0]at hm
      rcases qap.1 hm with hm|hm
      ·omega
      ·have hs:(unl ops.size listed).Pairwise (· < ·):=qcI _ qcc
       rw[hu0,qce]at hs
       have:=hs.1 _ hm
       omega
   intro e;rw[e]at hmem;cases hmem
  have hlen:0<rs.length:=List.length_pos_iff.2 hne
  have hget:rs[t%rs.length]?=some (rs[t%rs.length]'(qbV _ hlen)):=qas (qbV _ hlen)
  rw[hget]
  simp only
  generalize hi:rs[t%rs.length]'(qbV _ hlen)=i
  have hmem:i∈rs:=by rw[←hi];exact qc6 _
  obtain⟨i1,i2,i3⟩:=hready i hmem
  rw[linearise_go_acc,List.reverse_singleton,List.singleton_append]
  have hiu:i∈(List.range ops.size).filter λj=>!listed.getD j true:=by
   rw[qaR,qah];exact⟨i1,by simp[i2]⟩
  obtain⟨pre,post,e1,e2,e3⟩:=fM List.nodup_range hiu
  have hord:=jM e1
  have hnew:unl ops.size (listed.setIfInBounds i true)=pre++post:=by
   rw[←e2]
   unfold unl
   refine qcZ λj hj=>?_
   rw[qal,qal,qbb]
   by_cases hji:i=j
   ·subst hji
    rw[qdq rfl,qdq (by omega)]
    simp
   ·rw[qdr hji]
    have:(j != i)=true:=by simpa using λe=>hji e.symm
    simp[this]
  have hmf:=lU (S:=S) (i:=i) (post:=post) pre (λk hk σ σ₁ σ' s1 s2=>by
   obtain⟨m1,m2⟩:=e3 k hk
   rw[qaR,qah]at m1
   rcases hpair i k i1 (hord k hk)with hanc|hcm
   ·exfalso
    have:=mY hcl hanc i3
    have m3:=m1.2
    rw[qal]at this m3
    rw[qbm (by omega)]at this m3
    simp only[qbg]at this m3
    rw[this]at m3
    cases m3
   ·exact hcm _ _ _ s1 s2) σ σ'
  obtain⟨σ₁,s1,s2⟩:=hmf (by rw[←e1];exact h)
  obtain⟨r1,r2,r3⟩:=tK hback hpair fuel (t / rs.length) (listed.setIfInBounds i true) (by simp[hsz]) (by
    rw[hnew]
    have:(unl ops.size listed).length=(pre++post).length+1:=by
     show(List.filter _ _).length=_
     rw[e1];simp;omega
    omega) (by
    intro x o hx ho e he hb
    have keep:∀y,listed.getD y false=true->(listed.setIfInBounds i true).getD y false=true:=by
     intro y hy
     rw[qal]at hy ⊢
     rw[qbb]
     split
     next h1=>
      subst h1
      rw[qdq (by omega)];rfl
     ·exact hy
    by_cases hxi:x=i
    ·subst hxi;exact keep _ (i3 o ho e he hb)
    ·refine keep _ (hcl x o ?_ ho e he hb)
     rw[qal,qbb,qdr (λe=>hxi e.symm)]at hx
     rw[qal];exact hx) σ₁ σ' (by rw[hnew];exact s2)
  have hout:∀x∈Region.linearise.go .any ops fuel (t / rs.length) (listed.setIfInBounds i true) [],x≠i/\listed.getD x true=false:=by
   intro x hx
   have:=r3 x hx
   rw[qal,qbb]at this
   by_cases hxi:i=x
   ·subst hxi
    rw[qdq rfl,qdq (by omega)]at this
    cases this
   ·rw[qdr hxi]at this
    exact⟨qb9 hxi,by rw[qal];exact this⟩
  refine⟨⟨σ₁,s1,r1⟩,qcr.2 ⟨λhm=>(hout i hm).1 rfl,r2⟩,λx hx=>?_⟩
  rcases qap.1 hx with rfl|hx
  ·exact i2
  ·exact(hout x hx).2
end
end Sx
namespace Sx
def dK(ws:List (Nat×HObj))(H:Ts):Ts:=ws.foldl (λH p=>H.set p.1 p.2) H
def ek:∀(ws:List (Nat×HObj)) (H:Ts),(dK ws H).length=H.length
 | [],H=>rfl
 |p :: ws,H=>by
  show(dK ws (H.set p.1 p.2)).length=_
  rw[ek ws];simp
def iM{r:Nat}:∀ {ws:List (Nat×HObj)} {H:Ts},(∀p∈ws,p.1≠r)->(dK ws H)[r]?=H[r]?
 | [],H,_=>rfl
 |p :: ws,H,h=>by
  show(dK ws (H.set p.1 p.2))[r]?=_
  rw[iM λq hq=>h q (qao _ hq),qav (h p (by simp))]
def rH{i:Nat}{x:HObj}:∀ {ws:List (Nat×HObj)} {H:Ts},(∀p∈ws,p.1≠i)->dK ws (H.set i x)=(dK ws H).set i x
 | [],H,_=>rfl
 |p :: ws,H,h=>by
  show dK ws ((H.set i x).set p.1 p.2)=(dK ws (H.set p.1 p.2)).set i x
  rw[List.set_comm _ _ (qb9 (h p (by simp))),rH λq hq=>h q (qao _ hq)]
def gp:∀ {a b:List (Nat×HObj)} {H:Ts},(∀p∈a,∀q∈b,p.1≠q.1)->dK a (dK b H)=dK b (dK a H)
 | [],b,H,_=>rfl
 |p :: a,b,H,h=>by
  show dK a ((dK b H).set p.1 p.2)=dK b (dK a (H.set p.1 p.2))
  rw[←rH λq hq=>qb9 (h p (by simp) q hq)]
  exact gp λq hq=>h q (qao _ hq)
section
variable [Val] {C:Cfg} {B:Below} {N:Tb} {pts:Tz} {ops:Tm}
structure Rec where
 σ:St
 e:HEff
 rw:Option (Nat×Option (Tl))
 k:Option Nat
def Rec.on(r:Rec)(o:Oper)(τ:St):St:=dY o.dst r.e r.rw r.k τ
def Rec.sees(N:Tb)(pts:Tz)(ops:Tm)(r:Rec)(o:Oper)(τ:St):Prop:=
 ow N pts ops o r.σ τ/\∀k,r.k=some k->(r.e.put τ.heap)[k]?=some .dead
def Rec.slot(r:Rec):List (Nat×HObj):=match r.k,r.e.push with
 |some k,some p=>[(k,p.1)]
 |_,_=>[]
def Rec.ws(r:Rec):List (Nat×HObj):=r.e.set.toList++r.slot
structure Rec.Ok(C:Cfg)(B:Below)(N:Tb)(pts:Tz)(ops:Tm)(i:Nat)(o:Oper)(r:Rec):Prop where
 row:∀p,r.rw=some p->al N pts o=some (.row p.1 true)
 wr:∀p,r.e.set=some p->p.1∈wpo pts (oval r.σ.tmps) o
 kp:r.k=none↔r.e.push=none
 fr:∀p,r.e.push=some p->Fresh p.2/\al N pts o=some .hw/\cI pts o=true
 step:∀τ,r.sees N pts ops o τ->∀sl:Nat->Option Nat,sl i=r.k->di C B pts ops sl i τ (r.on o τ)
def dJ(e:HEff)(H:Ts):e.put H=dK e.set.toList H:=by
 unfold HEff.put
 cases e.set<;>rfl
def eY{r:Rec}{o:Oper}{τ:St}(h:r.k=none↔r.e.push=none):(r.on o τ).heap=dK r.ws τ.heap:=by
 unfold Rec.on dY
 rw[dI]
 unfold Rec.ws Rec.slot
 cases hk:r.k with
 |none=>
  simp only[HEff.heap,h.1 hk,dJ,qa2]
 |some k=>
  cases hp:r.e.push with
  |none=>rw[h.2 hp]at hk;cases hk
  |some p=>
   simp only[dJ]
   show(dK r.e.set.toList τ.heap).set k p.1=_
   unfold dK
   rw[List.foldl_append]
   rfl
def ma{r:Rec}{o:Oper}{τ:St}:(r.on o τ).loc=(match r.rw with|some p=>τ.loc.set p.1 p.2|none=>τ.loc):=by
 unfold Rec.on dY
 rw[pI]
 all_goals (cases r.rw<;>rfl)
def Rec.val(r:Rec):Value:=match r.k with
 |some k=>r.e.val k
 |none=>r.e.v
def kN{r:Rec}{o:Oper}{τ:St}(h:r.k=none↔r.e.push=none):(r.on o τ).tmps=(match o.dst with|some d=>τ.tmps.set d r.val|none=>τ.tmps):=by
 unfold Rec.on dY
 rw[pJ]
 unfold Rec.val
 cases hk:r.k with
 |none=>simp only[HEff.val,h.1 hk];all_goals (cases o.dst<;>rfl)
 |some k=>cases o.dst<;>rfl
def rowOk:MC->MC->Bool
 | .row s w,.row s' w'=>!Nat.beq s s'||(!w && !w')
 |_,_=>true
def stat2(N:Tb)(pts:Tz)(ops:Tm)(a b:Oper):Bool:=
 match al N pts a,al N pts b with
 |some m,some n=>rowOk m n&&aR a.dst (aF ops b)&&aR b.dst (aF ops a)&&aK a.dst b.dst
 |_,_=>false
def nk{d:Tn}{l:Tz}(hd:aR d l=true):∀t∈l,∀x,d=some x->x≠t:=by
 intro t ht x hx he
 subst hx he
 simp only[aR,qbB,qbZ,decide_eq_false_iff_not]at hd
 exact hd ht
def unseenR{a b:Oper}{m n:MC}{ra rb:Rec}{ia:Nat}(ha:al N pts a=some m)(hb:al N pts b=some n)(oka:ra.Ok C B N pts ops ia a)(hrow:rowOk m n=true∨rowOk n m=true)(hd:aR a.dst (aF ops b)=true)
  (d1:∀p∈ra.ws,p.1∉fpo pts (oval rb.σ.tmps) b) {τ:St}:ow N pts ops b rb.σ (ra.on a τ)↔ow N pts ops b rb.σ τ:=by
 have ht:∀t∈aF ops b,(ra.on a τ).tmps[t]?=τ.tmps[t]?:=λt ht=>by
  unfold Rec.on dY
  exact ju λx hx=>nk hd t ht x hx
 have hl:∀s w,al N pts b=some (.row s w)->(ra.on a τ).loc[s]?=τ.loc[s]?:=λs w hm=>by
  rw[ma]
  cases hrw:ra.rw with
  |none=>rfl
  |some p=>
   have h1:=oka.row p hrw
   rw[ha]at h1
   rw[hb]at hm
   cases h1;cases hm
   have:p.1≠s:=by
    intro he
    subst he
    rcases hrow with h|h<;>simp[rowOk]at h
   show(τ.loc.set p.1 p.2)[s]?=_
   rw[qav this]
 have hh:∀r∈fpo pts (oval rb.σ.tmps) b,(ra.on a τ).heap[r]?=τ.heap[r]?:=λr hr=>by
  rw[eY oka.kp]
  exact iM λp hp e=>d1 p hp (e▸hr)
 constructor
 ·rintro⟨q1,q2,q3⟩
  refine⟨λt h=>by rw[←ht t h];exact q1 t h,?_,λr hr x hx hal=>by rw[←hh r hr];exact q3 r hr x hx hal⟩
  rw[hb]at q2 ⊢
  cases n<;>first|trivial|(rename_i s w;exact(hl s w hb).symm.trans q2)
 ·rintro⟨q1,q2,q3⟩
  refine⟨λt h=>by rw[ht t h];exact q1 t h,?_,λr hr x hx hal=>by rw[hh r hr];exact q3 r hr x hx hal⟩
  rw[hb]at q2 ⊢
  cases n<;>first|trivial|(rename_i s w;exact(hl s w hb).trans q2)
def swapR{a b:Oper}{ra rb:Rec}{ia ib:Nat}(oka:ra.Ok C B N pts ops ia a)(okb:rb.Ok C B N pts ops ib b)(hs:stat2 N pts ops a b=true)
  (d1:∀p∈ra.ws,p.1∉fpo pts (oval rb.σ.tmps) b) (d2:∀p∈rb.ws,p.1∉fpo pts (oval ra.σ.tmps) a) (d3:∀p∈ra.ws,∀q∈rb.ws,p.1≠q.1) {τ:St} (ha:ra.sees N pts ops a τ) (hb:rb.sees N pts ops b (ra.on a τ)) :
  rb.sees N pts ops b τ/\ra.sees N pts ops a (rb.on b τ)/\rb.on b (ra.on a τ)=ra.on a (rb.on b τ):=by
 unfold stat2 at hs
 split at hs
 case h_2=>cases hs
 rename_i m n hm hn
 simp only[qaa]at hs
 obtain⟨⟨⟨c1,c2⟩,c3⟩,c4⟩:=hs
 have ub:=unseenR (rb:=rb) hm hn oka (.inl c1) c2 d1 (τ:=τ)
 have ua:=unseenR (rb:=ra) hn hm okb (.inr c1) c3 d2 (τ:=τ)
 refine⟨⟨ub.1 hb.1,λk hk=>?_⟩,⟨ua.2 ha.1,λk hk=>?_⟩,?_⟩
 ·have h1:=hb.2 k hk
  have hkb:∃p,rb.e.push=some p:=by
   cases hp:rb.e.push with
   |none=>rw[okb.kp.2 hp]at hk;cases hk
   |some p=>exact⟨p,rfl⟩
  obtain⟨p,hp⟩:=hkb
  have hmem:(k,p.1)∈rb.ws:=by simp[Rec.ws,Rec.slot,hk,hp]
  rw[eY oka.kp,dJ,←gp (λq hq s hs e=>d3 q hq s (qaO _ hs) e),iM (λq hq e=>d3 q hq _ hmem e)]at h1
  rw[dJ];exact h1
 ·have h1:=ha.2 k hk
  have hka:∃p,ra.e.push=some p:=by
   cases hp:ra.e.push with
   |none=>rw[oka.kp.2 hp]at hk;cases hk
   |some p=>exact⟨p,rfl⟩
  obtain⟨p,hp⟩:=hka
  have hmem:(k,p.1)∈ra.ws:=by simp[Rec.ws,Rec.slot,hk,hp]
  rw[eY okb.kp,dJ,gp (λq hq s hs e=>d3 q (qaO _ hq) s hs e),iM (λq hq e=>d3 _ hmem q hq e.symm)]
  rw[dJ]at h1;exact h1
 ·have h1:(rb.on b (ra.on a τ)).tmps=(ra.on a (rb.on b τ)).tmps:=by
   rw[kN okb.kp,kN oka.kp,kN oka.kp,kN okb.kp]
   cases hx:a.dst with
   |none=>rfl
   |some x=>
    cases hy:b.dst with
    |none=>rfl
    |some y=>
     rw[hx,hy]at c4
     have:x≠y:=by
      intro he;subst he;simp[aK]at c4
     exact set_comm _ _ _ this
  have h2:(rb.on b (ra.on a τ)).loc=(ra.on a (rb.on b τ)).loc:=by
   rw[ma,ma,ma,ma]
   cases hx:ra.rw with
   |none=>rfl
   |some p=>
    cases hy:rb.rw with
    |none=>rfl
    |some q=>
     have e1:=oka.row p hx
     have e2:=okb.row q hy
     rw[hm]at e1
     rw[hn]at e2
     cases e1;cases e2
     have:p.1≠q.1:=by
      intro he
      rw[he]at c1
      simp[rowOk]at c1
     exact set_comm _ _ _ this
  have h3:(rb.on b (ra.on a τ)).heap=(ra.on a (rb.on b τ)).heap:=by
   rw[eY okb.kp,eY oka.kp,eY oka.kp,eY okb.kp]
   exact(gp d3).symm
  generalize rb.on b (ra.on a τ)=x at *
  generalize ra.on a (rb.on b τ)=y at *
  cases x;cases y
  simp only at h1 h2 h3
  subst h1;subst h2;subst h3
  rfl
end
end Sx
namespace Sx
section
variable [Val] {C:Cfg} {B:Below} {N:Tb} {pts:Tz} {ops:Tm}
def St.padTo(σ:St)(m:Nat):St:=σ.pad (m - σ.heap.length)
def recS(N:Tb)(pts:Tz)(ops:Tm)(rc:Nat->Rec)(i:Nat)(τ τ':St):Prop:=∃o,ops[i]?=some o/\(rc i).sees N pts ops o τ/\τ'=(rc i).on o τ
def iL{D:Ts}:∀ {ws:List (Nat×HObj)} {H:Ts},(∀p∈ws,p.1<H.length)->dK ws (H++D)=dK ws H++D
 | [],H,_=>rfl
 |p :: ws,H,h=>by
  show dK ws ((H++D).set p.1 p.2)=dK ws (H.set p.1 p.2)++D
  rw[qcM _ _ (h p (by simp)),iL λq hq=>by
   have:=h q (qao _ hq)
   simpa using this]
structure RunOk(C:Cfg)(B:Below)(N:Tb)(pts:Tz)(ops:Tm)(l:Tz)(σ σ':St)(rc:Nat->Rec):Prop where
 len:σ.heap.length<=σ'.heap.length
 ok:∀i∈l,∀o,ops[i]?=some o->(rc i).Ok C B N pts ops i o
 slot:∀i∈l,∀k,(rc i).k=some k->σ.heap.length<=k/\k<σ'.heap.length
 inj:∀i∈l,∀j∈l,∀k,(rc i).k=some k->(rc j).k=some k->i=j
 keep:∀t,(∀j∈l,∀o,ops[j]?=some o->o.dst≠some t)->σ'.tmps[t]?=σ.tmps[t]?
 args:∀i∈l,∀t,(∀j∈l,i<=j->∀o,ops[j]?=some o->o.dst≠some t)->σ'.tmps[t]?=(rc i).σ.tmps[t]?
 res:∀i∈l,∀o d v,ops[i]?=some o->o.dst=some d->(∀j∈l,i<j->∀o,ops[j]?=some o->o.dst≠some d)->σ'.tmps[d]?=some v->v=(rc i).val
 run:∀m,σ'.heap.length<=m->runR (recS N pts ops rc) l (St.padTo σ m) (St.padTo σ' m)
def effOn_len{dst:Tn}{e:HEff}{rw:Option (Nat×Option (Tl))}{σ:St}:(dY dst e rw none σ).heap.length=σ.heap.length+(match e.push with|some _=>1|none=>0):=by
 unfold dY
 rw[dI]
 simp only[HEff.heap,HEff.put]
 cases e.push<;>cases e.set<;>simp
def iZ{dst:Tn}{e:HEff}{rw:Option (Nat×Option (Tl))}{k:Tp}{σ:St}:(dY dst e rw k σ).tmps=(match dst with|some d=>σ.tmps.set d (match k with|none=>e.val σ.heap.length|some k=>e.val k)|none=>σ.tmps):=by
 unfold dY
 rw[pJ]
 all_goals (cases dst<;>rfl)
def rec_one(hN:NeuB N B){i:Nat}{o:Oper}(hi:ops[i]?=some o)(hc:okS N pts o=true){σ σ₁:St}(hs:ae C B pts ops i σ σ₁) :
  ∃r:Rec,r.σ=σ/\r.Ok C B N pts ops i o/\σ.heap.length<=σ₁.heap.length/\(∀k,r.k=some k->k=σ.heap.length/\k<σ₁.heap.length)/\
   (∀t,o.dst≠some t->σ₁.tmps[t]?=σ.tmps[t]?)/\(∀d v,o.dst=some d->σ₁.tmps[d]?=some v->v=r.val)/\
   ∀m,σ₁.heap.length<=m->r.sees N pts ops o (St.padTo σ m)/\St.padTo σ₁ m=r.on o (St.padTo σ m):=by
 obtain⟨e,rw,h1,h2,h3,h4,h5,h6⟩:=local_okS (N:=N) hN hi hc hs
 have hlen:σ₁.heap.length=σ.heap.length+(match e.push with|some _=>1|none=>0):=by rw[h1];exact effOn_len
 refine⟨⟨σ,e,rw,match e.push with|some _=>some σ.heap.length|none=>none⟩,rfl,⟨h2,λp hp=>(h4 p hp).1,?_,λp hp=>⟨(h5 p hp).2.1,h3 (by rw[show e.push=some p from hp];simp),(h5 p hp).1⟩,?_⟩,by omega,?_,?_,?_,?_⟩
 ·cases hp:e.push<;>simp
 ·intro τ hτ sl hsl
  unfold Rec.on
  simp only at hsl ⊢
  cases hp:e.push with
  |none=>
   rw[hp]at hsl
   exact(h6 τ hτ.1 sl).1 hp hsl
  |some p=>
   rw[hp]at hsl
   refine(h6 τ hτ.1 sl).2 p _ hp hsl (hτ.2 _ ?_)
   simp only[hp]
 ·intro k hk
  simp only at hk
  cases hp:e.push with
  |none=>rw[hp]at hk;cases hk
  |some p=>
   rw[hp]at hk hlen
   cases hk
   exact⟨rfl,by simp only at hlen;omega⟩
 ·intro t ht
  rw[h1]
  unfold dY
  exact ju λx hx e=>ht (by rw[hx,e])
 ·intro d v hd hv
  rw[h1,iZ,hd]at hv
  simp only[qaD]at hv
  split at hv
  ·split at hv
   ·cases hv
    unfold Rec.val
    simp only[HEff.val]
    cases hp:e.push<;>rfl
   ·cases hv
  next hne=>exact absurd trivial hne
 ·intro m hm
  have hD:(St.padTo σ m).heap=σ.heap++List.replicate (m - σ.heap.length) .dead:=rfl
  have hset:∀p∈e.set.toList,p.1<σ.heap.length:=λp hp=>by
   obtain⟨_,x,hx,_⟩:=h4 p (by simpa using hp)
   exact(qaV.1 hx).1
  refine⟨⟨⟨λt _=>rfl,?_,λr _ x hx _=>?_⟩,λk hk=>?_⟩,?_⟩
  ·cases al N pts o with
   |none=>trivial
   |some mc=>cases mc<;>first|trivial|rfl
  ·rw[hD,qaf (qaV.1 hx).1]
   exact hx
  ·simp only at hk
   cases hp:e.push with
   |none=>rw[hp]at hk;cases hk
   |some p=>
    rw[hp]at hk hlen
    cases hk
    simp only at hlen ⊢
    rw[dJ,hD,iL hset,qak (by rw[ek];exact qam _),ek,qbv,qaM,qdq (by omega)]
  · -- the same state
   have e1:(St.padTo σ₁ m).tmps=((⟨σ,e,rw,match e.push with|some _=>some σ.heap.length|none=>none⟩ : Rec).on o (St.padTo σ m)).tmps:=by
    show σ₁.tmps=_
    unfold Rec.on
    rw[h1,iZ,iZ]
    show _=(match o.dst with|some d=>σ.tmps.set d _|none=>σ.tmps)
    cases o.dst with
    |none=>rfl
    |some d=>
     simp only[HEff.val]
     cases hp:e.push<;>rfl
   have e2:(St.padTo σ₁ m).loc=((⟨σ,e,rw,match e.push with|some _=>some σ.heap.length|none=>none⟩ : Rec).on o (St.padTo σ m)).loc:=by
    show σ₁.loc=_
    unfold Rec.on
    rw[h1]
    unfold dY
    rw[pI,pI]
    rfl
   have e3:(St.padTo σ₁ m).heap=((⟨σ,e,rw,match e.push with|some _=>some σ.heap.length|none=>none⟩ : Rec).on o (St.padTo σ m)).heap:=by
    show σ₁.heap++List.replicate (m - σ₁.heap.length) .dead=_
    unfold Rec.on
    have hh:σ₁.heap=e.heap σ.heap:=by rw[h1];unfold dY;rw[dI]
    unfold dY
    rw[dI,hD]
    cases hp:e.push with
    |none=>
     rw[hp]at hlen
     simp only[hp,HEff.heap,dJ]at hh ⊢
     rw[iL hset,hh]
     simp only[ek]
    |some p=>
     rw[hp]at hlen
     simp only at hlen
     simp only[hp,HEff.heap,dJ]at hh ⊢
     rw[iL hset,hh]
     have hn:m - σ.heap.length=(m - σ.heap.length - 1)+1:=by omega
     rw[hn,qb6]
     rw[qbW _ _ (by rw[ek];exact qam _),ek,qbv,qcT]
     simp only[qaB,qaG,ek,qaP,qbR,qax,qaw]
     rw[show m - (σ.heap.length+(0+1))=m - σ.heap.length - 1 by omega]
   generalize hX:(⟨σ,e,rw,match e.push with|some _=>some σ.heap.length|none=>none⟩ : Rec).on o (St.padTo σ m)=X at *
   generalize St.padTo σ₁ m=Y at *
   cases X;cases Y
   simp only at e1 e2 e3
   subst e1;subst e2;subst e3
   rfl
def nZ{S S':Nat->St->St->Prop}:∀ {l:Tz},(∀i∈l,∀σ σ',S i σ σ'->S' i σ σ')->∀ {σ σ':St},runR S l σ σ'->runR S' l σ σ'
 | [],_,_,_,h=>h
 |i :: l,hs,σ,σ',⟨σ₁,h1,h2⟩=>⟨σ₁,hs i (by simp) _ _ h1,nZ (λj hj=>hs j (qao _ hj)) h2⟩
def recs_of(hN:NeuB N B):∀(l:Tz) (σ σ':St),l.Pairwise (· < ·)->(∀i∈l,∃o,ops[i]?=some o/\okS N pts o=true)->aT C B pts ops l σ σ'->∃rc:Nat->Rec,RunOk C B N pts ops l σ σ' rc
 | [],σ,σ',_,_,h=>by
  have:σ'=σ:=h
  subst this
  exact⟨λ_=>⟨σ',⟨none,none,undef⟩,none,none⟩,qam _,λ_ h=>(by cases h),λ_ h=>(by cases h),λ_ h=>(by cases h),λ_ _=>rfl,λ_ h=>(by cases h),λ_ h=>(by cases h),λ_ _=>rfl⟩
 |i :: l,σ,σ',hp,hok,⟨σ₁,h1,h2⟩=>by
  obtain⟨o,hi,hc⟩:=hok i (by simp)
  obtain⟨r,rfl,r1,r2,r3,r4,r5,r6⟩:=rec_one hN hi hc h1
  rw[qce]at hp
  obtain⟨rc,R⟩:=recs_of hN l σ₁ σ' hp.2 (λj hj=>hok j (qao _ hj)) h2
  have hne:∀j∈l,j≠i:=λj hj e=>by have:=hp.1 j hj;omega
  have hat:∀j∈l,(if j=i then r else rc j)=rc j:=λj hj=>qdr (hne j hj)
  refine⟨λj=>if j=i then r else rc j,qbO r2 R.len,?_,?_,?_,?_,?_,?_,?_⟩
  ·intro j hj o' ho'
   rcases qap.1 hj with rfl|hj
   ·simp only[if_true]
    rw[hi]at ho';cases ho';exact r1
   ·simp only[hat j hj];exact R.ok j hj o' ho'
  ·intro j hj k hk
   rcases qap.1 hj with rfl|hj
   ·simp only[if_true]at hk
    obtain⟨e1,e2⟩:=r3 k hk
    have:=R.len
    omega
   ·simp only[hat j hj]at hk
    have:=R.slot j hj k hk
    omega
  ·intro j hj j' hj' k hk hk'
   rcases qap.1 hj with q1|q1<;>rcases qap.1 hj' with q2|q2
   ·rw[q1,q2]
   ·simp only[q1,if_true]at hk
    simp only[hat j' q2]at hk'
    have e1:=r3 k hk
    have e2:=R.slot j' q2 k hk'
    omega
   ·simp only[q2,if_true]at hk'
    simp only[hat j q1]at hk
    have e1:=r3 k hk'
    have e2:=R.slot j q1 k hk
    omega
   ·simp only[hat j q1]at hk
    simp only[hat j' q2]at hk'
    exact R.inj j q1 j' q2 k hk hk'
  ·intro t ht
   rw[R.keep t λj hj=>ht j (qao _ hj)]
   exact r4 t (ht i (by simp) o hi)
  ·intro j hj t ht
   rcases qap.1 hj with rfl|hj
   ·simp only[if_true]
    have hall:∀j'∈l,∀o',ops[j']?=some o'->o'.dst≠some t:=λj' hj'=>ht j' (qao _ hj') (Nat.le_of_lt (hp.1 j' hj'))
    rw[R.keep t hall]
    exact r4 t (ht j (by simp) (qam _) o hi)
   ·simp only[hat j hj]
    exact R.args j hj t λj' hj'=>ht j' (qao _ hj')
  ·intro j hj o' d v ho' hd hlt hv
   rcases qap.1 hj with rfl|hj
   ·simp only[if_true]
    rw[hi]at ho';cases ho'
    refine r5 d v hd ?_
    rw[←R.keep d λj' hj'=>hlt j' (qao _ hj') (hp.1 j' hj')]
    exact hv
   ·simp only[hat j hj]
    exact R.res j hj o' d v ho' hd (λj' hj'=>hlt j' (qao _ hj')) hv
  ·intro m hm
   obtain⟨s1,s2⟩:=r6 m (qbO R.len hm)
   refine⟨St.padTo σ₁ m,⟨o,hi,?_,?_⟩,?_⟩
   ·simp only[if_true];exact s1
   ·simp only[if_true];exact s2
   ·refine nZ (λj hj τ τ' h=>?_) (R.run m hm)
    obtain⟨o',q1,q2,q3⟩:=h
    exact⟨o',q1,by simp only[hat j hj];exact q2,by simp only[hat j hj];exact q3⟩
end
end Sx
namespace Sx
section
variable [Val] {C:Cfg} {B:Below} {N:Tb} {pts:Tz} {ops:Tm}
def rF(o:Oper)(σ:St):Sees N pts ops o σ σ:=by
 refine⟨λ_ _=>rfl,?_⟩
 cases al N pts o with
 |none=>trivial
 |some m=>cases m<;>first|trivial|rfl
def sees_symm{o:Oper}{σ τ:St}(h:Sees N pts ops o σ τ):Sees N pts ops o τ σ:=by
 refine⟨λt ht=>(h.1 t ht).symm,?_⟩
 have h:=h.2
 cases hm:al N pts o with
 |none=>trivial
 |some m=>rw[hm]at h;cases m<;>first|trivial|exact h.symm
def dR{o:Oper}{σ τ ρ:St}(h:Sees N pts ops o σ τ)(h':Sees N pts ops o τ ρ):Sees N pts ops o σ ρ:=by
 refine⟨λt ht=>(h'.1 t ht).trans (h.1 t ht),?_⟩
 have h:=h.2
 have h':=h'.2
 cases hm:al N pts o with
 |none=>trivial
 |some m=>rw[hm]at h h';cases m<;>first|trivial|exact h'.trans h
structure Loc(C:Cfg)(B:Below)(N:Tb)(pts:Tz)(ops:Tm)(j:Nat)(b:Oper)(f:Ef)(τ τ':St):Prop where
 is:τ'=f.on b.dst τ
 tc:qf (al N pts b) f
 st:∀ρ,Sees N pts ops b τ ρ->ae C B pts ops j ρ (f.on b.dst ρ)
def mN(N:Tb)(pts:Tz)(ops:Tm)(a b:Oper):Bool:=
 match al N pts a,al N pts b with
 |some m,some n=>m.ok2 n&&aR a.dst (aF ops b)&&aR b.dst (aF ops a)&&aK a.dst b.dst
 |_,_=>false
def uK{i j:Nat}{a b:Oper}{e f:Ef}(hc:mN N pts ops a b=true){τ τ₁ τ':St}(h1:Loc C B N pts ops i a e τ τ₁)(h2:Loc C B N pts ops j b f τ₁ τ') :
  Loc C B N pts ops j b f τ (f.on b.dst τ)/\Loc C B N pts ops i a e (f.on b.dst τ) τ'/\Sees N pts ops b τ₁ τ:=by
 unfold mN at hc
 split at hc
 next m n hm hn=>
  simp only[qaa]at hc
  obtain⟨⟨⟨c1,c2⟩,c3⟩,c4⟩:=hc
  have s1:Sees N pts ops b τ₁ τ:=by
   rw[h1.is]
   exact sees_symm (uS hm hn (.inl c1) c2 h1.tc τ)
  have s2:Sees N pts ops a τ (f.on b.dst τ):=uS hn hm (.inr c1) c3 h2.tc τ
  refine⟨⟨rfl,h2.tc,λρ hρ=>h2.st ρ (dR s1 hρ)⟩,⟨?_,h1.tc,λρ hρ=>h1.st ρ (dR s2 hρ)⟩,s1⟩
  rw[h2.is,h1.is]
  exact on_comm hm hn c1 c4 h1.tc h2.tc τ
 ·cases hc
def reOk(N:Tb)(pts:Tz)(ops:Tm)(a b:Oper):Bool:=
 (match al N pts a with
 |some .hr=>true
 |_=>false)&&((match al N pts b with
 |some .hw=>true
 |_=>false)&&(aR a.dst (aF ops b)&&(aR b.dst (aF ops a)&&(aR a.dst (aF ops a)&&aK a.dst b.dst))))
def fH{o:Oper}(hm:al N pts o=some .hr){e:Ef}(ht:qf (al N pts o) e):e.rw=none/\e.hp=none:=by
 rw[hm]at ht
 constructor
 ·cases h:e.rw with
  |none=>rfl
  |some p=>have:=ht.1 p h;cases this
 ·cases h:e.hp with
  |none=>rfl
  |some p=>have:=ht.2 (by rw[h];simp);cases this
def fm{e:Ef}{d:Tn}{σ:St}{t:Nat}(h:∀x,d=some x->x≠t):(e.on d σ).tmps[t]?=σ.tmps[t]?:=by
 unfold Ef.on
 exact ju h
def bi{d:Tn}{l:Tz}(h:aR d l=true){t:Nat}(ht:t∈l):∀x,d=some x->x≠t:=by
 intro x hx e
 subst e
 rw[hx]at h
 simp only[aR,qbB,qbZ,decide_eq_false_iff_not]at h
 exact h ht
def swap_re{k i:Nat}{a b:Oper}{e f:Ef}(hc:reOk N pts ops a b=true){τ τ₁ τ':St}(h1:Loc C B N pts ops k a e τ τ₁)(h2:Loc C B N pts ops i b f τ₁ τ')(h3:∀ρ,Sees N pts ops a τ' ρ->ae C B pts ops k ρ (e.on a.dst ρ)) :
  Loc C B N pts ops i b f τ (f.on b.dst τ)/\Loc C B N pts ops k a e (f.on b.dst τ) τ'/\Sees N pts ops a τ' (f.on b.dst τ):=by
 unfold reOk at hc
 simp only[qaa]at hc
 obtain⟨c1,c2,c3,c4,c5,c6⟩:=hc
 have hm:al N pts a=some .hr:=by
  split at c1
  ·assumption
  ·cases c1
 have hn:al N pts b=some .hw:=by
  split at c2
  ·assumption
  ·cases c2
 obtain⟨e1,e2⟩:=fH hm h1.tc
 have heap:∀σ:St,(e.on a.dst σ).heap=σ.heap:=λσ=>by rw[dg,e2];rfl
 have s1:Sees N pts ops b τ₁ τ:=by
  refine⟨λt ht=>?_,?_⟩
  ·rw[h1.is];exact(fm (bi c3 ht)).symm
  ·rw[hn];show τ.heap=τ₁.heap;rw[h1.is,heap]
 have hx:τ'=e.on a.dst (f.on b.dst τ):=by
  rw[h2.is,h1.is]
  have g1:(f.on b.dst (e.on a.dst τ)).tmps=(e.on a.dst (f.on b.dst τ)).tmps:=by
   simp only[jj]
   cases hx:a.dst with
   |none=>rfl
   |some x=>
    cases hy:b.dst with
    |none=>rfl
    |some y=>
     rw[hx,hy]at c6
     have:x≠y:=by intro he;subst he;simp[aK]at c6
     exact set_comm _ _ _ this
  have g2:(f.on b.dst (e.on a.dst τ)).loc=(e.on a.dst (f.on b.dst τ)).loc:=by
   simp only[ug,e1]
  have g3:(f.on b.dst (e.on a.dst τ)).heap=(e.on a.dst (f.on b.dst τ)).heap:=by
   simp only[dg,e2,qcH]
  generalize f.on b.dst (e.on a.dst τ)=x at *
  generalize e.on a.dst (f.on b.dst τ)=y at *
  cases x;cases y
  simp only at g1 g2 g3
  subst g1;subst g2;subst g3
  rfl
 have s3:Sees N pts ops a τ' (f.on b.dst τ):=by
  rw[hx]
  refine⟨λt ht=>(fm (bi c5 ht)).symm,?_⟩
  rw[hm];exact(heap _).symm
 exact⟨⟨rfl,h2.tc,λρ hρ=>h2.st ρ (dR s1 hρ)⟩,⟨hx,h1.tc,λρ hρ=>h3 ρ (dR s3 hρ)⟩,s3⟩
def rowX(q:Nat->Nat->Oper->Oper->Bool)(j:Nat)(b:Oper)(m:Nat):Tv->Nat->Bool
 | [],_=>true
 |a :: l,n=>(Nat.testBit m n||q n j a b)&&rowX q j b m l (n+1)
def sK(q:Nat->Nat->Oper->Oper->Bool)(ms:Tz):Tv->Tv->Nat->Bool
 |_,[],_=>true
 |pre,b :: l,i=>rowX q i b (ms.getD i 0) pre 0&&sK q ms (pre++[b]) l (i+1)
def rowX_ok{q:Nat->Nat->Oper->Oper->Bool}{i:Nat}{b:Oper}{m:Nat}:∀ {l:Tv} {k:Nat},rowX q i b m l k=true->∀(j:Nat) a,l[j]?=some a->m.testBit (k+j)=true∨q (k+j) i a b=true
 | [],k,_,j,a,h=>by simp at h
 |a :: l,k,h,j,c,hj=>by
  simp only[rowX,qaa,qaX]at h
  cases j with
  |zero=>simp at hj;subst hj;exact h.1
  |succ j=>
   have:=rowX_ok h.2 j c (by simpa using hj)
   rwa [show k+1+j=k+(j+1)by omega]at this
def pD{q:Nat->Nat->Oper->Oper->Bool}{ms:Tz}:∀ {l pre:Tv} {i:Nat},pre.length=i->sK q ms pre l i=true->∀(j:Nat) b,l[j]?=some b->∀(k:Nat) a,k<i+j->(pre++l)[k]?=some a->(ms.getD (i+j) 0).testBit k=true∨q k (i+j) a b=true
 | [],pre,i,_,_,j,b,h,_,_,_,_=>by simp at h
 |b :: l,pre,i,hp,h,j,c,hj,k,a,hk,ha=>by
  simp only[sK,qaa]at h
  cases j with
  |zero=>
   simp at hj
   subst hj
   rw[qaf (by omega)]at ha
   have:=rowX_ok h.1 k a ha
   simpa using this
  |succ j=>
   have:=pD (pre:=pre++[b]) (i:=i+1) (by simp[hp]) h.2 j c (by simpa using hj) k a (by omega) (by simpa using ha)
   rwa [show i+1+j=i+(j+1)by omega]at this
def allX(q:Nat->Oper->Bool):Tv->Nat->Bool
 | [],_=>true
 |b :: l,i=>q i b&&allX q l (i+1)
def allX_ok{q:Nat->Oper->Bool}:∀ {l:Tv} {i:Nat},allX q l i=true->∀(j:Nat) b,l[j]?=some b->q (i+j) b=true
 | [],i,_,j,b,h=>by simp at h
 |a :: l,i,h,j,b,hj=>by
  simp only[allX,qaa]at h
  cases j with
  |zero=>simp at hj;subst hj;exact h.1
  |succ j=>
   have:=allX_ok h.2 j b (by simpa using hj)
   rwa [show i+1+j=i+(j+1)by omega]at this
def splQ(N:Tb)(pts:Tz)(ops:Tm)(k i n j:Nat)(a b:Oper):Bool:=
 match Nat.beq j i,Nat.beq n i with
 |true,_=>Nat.beq n k
 |_,true=>false
 |_,_=>mN N pts ops a b
def rK(N:Tb)(pts:Tz)(ops:Tm)(k i:Nat):Bool:=
 dX ops.toList 0&&(Nat.blt k i&&(ops.toList.all (λo=>(al N pts o).isSome)&&(sK (splQ N pts ops k i) (ancs ops.toList []) [] ops.toList 0 &&
  match ops[k]?,ops[i]? with
  |some a,some b=>reOk N pts ops a b&&(a.dst.isSome&&allX (λj o=>Nat.beq j k||aR o.dst a.dst.toList) ops.toList 0)
  |_,_=>false)))
def jP(hN:NeuB N B)(hall:∀(j:Nat) b,ops[j]?=some b->al N pts b≠none){j:Nat}{b:Oper}(hj:ops[j]?=some b){τ τ':St}(h:ae C B pts ops j τ τ'):∃f,Loc C B N pts ops j b f τ τ':=by
 obtain⟨f,h1,h2,h3⟩:=eX hN hj (hall j b hj) h
 exact⟨f,h1,h2,h3⟩
def splS(C:Cfg)(B:Below)(N:Tb)(pts:Tz)(ops:Tm)(k i:Nat)(a:Oper)(e:Ef)(j:Nat)(τ τ':St):Prop:=
 ∃b f,ops[j]?=some b/\Loc C B N pts ops j b f τ τ'/\(j=k->f=e)/\(j=i->∀ρ,Sees N pts ops a τ' ρ->ae C B pts ops k ρ (e.on a.dst ρ))
def spl_pair{k i:Nat}{a b:Oper}{e:Ef}(ha:ops[k]?=some a)(hb:ops[i]?=some b)(hre:reOk N pts ops a b=true)(hp:sK (splQ N pts ops k i) (ancs ops.toList []) [] ops.toList 0=true)(j n:Nat)(hj:j<ops.size)(hn:n<j) :
  Anc ops n j∨∀τ τ₁ τ':St,splS C B N pts ops k i a e n τ τ₁->splS C B N pts ops k i a e j τ₁ τ'->∃ρ,splS C B N pts ops k i a e j τ ρ/\splS C B N pts ops k i a e n ρ τ':=by
 have e1:ops[j]?=some ops[j]:=by simp[hj]
 have e2:ops[n]?=some (ops[n]'(by omega)):=by simp[show n<ops.size by omega]
 generalize ops[j]=y at e1
 generalize ops[n]'(by omega)=x at e2
 have hq:=pD (pre:=[]) (i:=0) rfl hp j y (by simpa using e1) n x (by omega) (by simpa using e2)
 rw[qaF]at hq
 rcases hq with hq|hq
 ·exact .inl (kV ops.toList [] rfl (λi k h=>by simp at h) j n hq)
 right
 rintro τ τ₁ τ' ⟨x',f,h1,h2,h3,h4⟩ ⟨y',g,h5,h6,h7,h8⟩
 rw[e2]at h1;cases h1
 rw[e1]at h5;cases h5
 unfold splQ at hq
 cases hji:Nat.beq j i with
 |true=>
  rw[hji]at hq
  have hji:=qac hji
  have hnk:=qac hq
  subst hji hnk
  rw[ha]at e2;cases e2
  rw[hb]at e1;cases e1
  obtain rfl:=h3 rfl
  obtain⟨w1,w2,w3⟩:=swap_re hre h2 h6 (h8 rfl)
  exact⟨_,⟨_,g,hb,w1,h7,λ_ ρ hρ=>h8 rfl ρ (dR w3 hρ)⟩,_,f,ha,w2,λ_=>rfl,λhh=>absurd hh (by omega)⟩
 |false=>
  rw[hji]at hq
  cases hni:Nat.beq n i with
  |true=>rw[hni]at hq;cases hq
  |false=>
   rw[hni]at hq
   have hq:mN N pts ops x y=true:=hq
   have hji:j≠i:=λh=>by subst h;rw[show Nat.beq j j=true from qbN j]at hji;cases hji
   have hni:n≠i:=λh=>by subst h;rw[show Nat.beq n n=true from qbN n]at hni;cases hni
   obtain⟨w1,w2,_⟩:=uK hq h2 h6
   exact⟨_,⟨y,g,e1,w1,h7,λh=>absurd h hji⟩,x,f,e2,w2,h3,λh=>absurd h hni⟩
def ops_app{l₁ l₂:Tz}:∀ {σ σ':St},aT C B pts ops (l₁++l₂) σ σ'->∃σ₁,aT C B pts ops l₁ σ σ₁/\aT C B pts ops l₂ σ₁ σ':=by
 induction l₁ with
 |nil=>intro σ σ' h;exact⟨σ,rfl,h⟩
 |cons x l ih=>
  rintro σ σ' ⟨σ₁,h1,h2⟩
  obtain⟨σ₂,h3,h4⟩:=ih h2
  exact⟨σ₂,⟨σ₁,h1,h3⟩,h4⟩
def sO{S:Nat->St->St->Prop}{l₁ l₂:Tz}:∀ {σ σ₁ σ':St},runR S l₁ σ σ₁->runR S l₂ σ₁ σ'->runR S (l₁++l₂) σ σ':=by
 induction l₁ with
 |nil=>intro σ σ₁ σ' h1 h2;cases h1;exact h2
 |cons x l ih=>
  rintro σ σ₁ σ' ⟨σ₂,h1,h3⟩ h2
  exact⟨σ₂,h1,ih h3 h2⟩
def jl{S:Nat->St->St->Prop}(hS:∀i σ σ',S i σ σ'->ae C B pts ops i σ σ'):∀ {l:Tz} {σ σ':St},runR S l σ σ'->aT C B pts ops l σ σ'
 | [],_,_,h=>h
 |_ :: _,_,_,⟨σ₁,h1,h2⟩=>⟨σ₁,hS _ _ _ h1,jl hS h2⟩
def gm{S:Nat->St->St->Prop}:∀ {l:Tz},(∀i∈l,∀σ σ',ae C B pts ops i σ σ'->S i σ σ')->∀ {σ σ':St},aT C B pts ops l σ σ'->runR S l σ σ'
 | [],_,_,_,h=>h
 |_ :: _,hS,_,_,⟨σ₁,h1,h2⟩=>⟨σ₁,hS _ (by simp) _ _ h1,gm (λi hi=>hS i (qao _ hi)) h2⟩
def uj(hN:NeuB N B)(hall:∀(j:Nat) b,ops[j]?=some b->al N pts b≠none){d:Nat}:∀ {l:Tz},(∀j∈l,∀b,ops[j]?=some b->∀x,b.dst=some x->x≠d)->∀ {σ σ':St},aT C B pts ops l σ σ'->σ'.tmps[d]?=σ.tmps[d]?
 | [],_,_,_,h=>by cases h;rfl
 |j :: l,hd,σ,σ',⟨σ₁,h1,h2⟩=>by
  rw[uj hN hall (λi hi=>hd i (qao _ hi)) h2]
  cases hj:ops[j]? with
  |none=>
   have:σ₁=σ:=by simpa[ae,hj]using h1
   rw[this]
  |some b=>
   obtain⟨f,h3⟩:=jP hN hall hj h1
   rw[h3.is]
   exact fm (hd j (by simp) b hj)
def any_spl(hN:NeuB N B){k i:Nat}(hreg:rK N pts ops k i=true){σ σ₁ σ₂ σ':St}(h1:aT C B pts ops (List.range' 0 (ops.toList.take (i+1)).length) σ σ₁)(h2:ae C B pts ops k σ₁ σ₂)(hs:SameAt ops k σ₁ σ₂)
  (h3:aT C B pts ops (List.range' (i+1) (ops.toList.drop (i+1)).length) σ₁ σ'):dm C B pts ops σ σ':=by
 unfold rK at hreg
 simp only[qaa]at hreg
 obtain⟨g1,g2,g3,g4,g5⟩:=hreg
 have hki:k<i:=by simpa[qaU]using g2
 have hall:∀(j:Nat) b,ops[j]?=some b->al N pts b≠none:=by
  intro j b hj he
  have hm:b∈ops.toList:=by have:=qcf hj;simpa using this
  have:=qab.1 g3 b hm
  rw[he]at this;cases this
 split at g5
 case h_2=>cases g5
 rename_i a b ha hb
 simp only[qaa]at g5
 obtain⟨hre,hds,g6⟩:=g5
 obtain⟨d,hd⟩:=qa3.1 hds
 have hi:i<ops.size:=(qaz.1 hb).1
 have ht:(ops.toList.take (i+1)).length=i+1:=by simp;omega
 rw[ht]at h1
 have hsp:List.range' 0 (i+1)=List.range' 0 k++(k :: (List.range' (k+1) (i - k - 1)++[i])):=by
  have e1:List.range' 0 (i+1)=List.range' 0 k++List.range' (0+k) (i+1 - k):=by rw[qcL];congr 1;omega
  have e2:List.range' (0+k) (i+1 - k)=k :: List.range' (k+1) (i - k):=by
   rw[show i+1 - k=(i - k)+1 by omega,qcl,qaF]
  have e3:List.range' (k+1) (i - k)=List.range' (k+1) (i - k - 1)++[i]:=by
   have:List.range' (k+1) (i - k)=List.range' (k+1) (i - k - 1)++List.range' (k+1+(i - k - 1)) 1:=by rw[qcL];congr 1;omega
   rw[this,show k+1+(i - k - 1)=i by omega];rfl
  rw[e1,e2,e3]
 rw[hsp]at h1
 obtain⟨τ0,p1,τ1,p2,p3⟩:=ops_app h1
 obtain⟨τ2,p4,τ3,p5,p6⟩:=ops_app p3
 cases p6
 obtain⟨e,he⟩:=jP hN hall ha p2
 have hm:al N pts a=some .hr:=by
  have hre:=hre
  unfold reOk at hre
  simp only[qaa]at hre
  have c1:=hre.1
  split at c1
  ·assumption
  ·cases c1
 obtain⟨e1,e2⟩:=fH hm he.tc
 have hother:∀j,j≠k->∀b,ops[j]?=some b->∀x,b.dst=some x->x≠d:=by
  intro j hjk b hj x hx
  have:=allX_ok g6 j b (by simpa using hj)
  rw[qaF]at this
  cases hjb:Nat.beq j k with
  |true=>exact absurd (qac hjb) hjk
  |false=>
   rw[hjb,qcN,hd]at this
   exact bi this (by simp) x hx
 have hkeep:σ₁.tmps[d]?=τ1.tmps[d]?:=by
  have:aT C B pts ops (List.range' (k+1) (i - k - 1)++[i]) τ1 σ₁:=p3
  refine uj hN hall (λj hj=>hother j ?_) this
  rw[qaH,qcx,qay]at hj
  omega
 obtain⟨g,hg⟩:=jP hN hall ha h2
 obtain⟨f1,f2⟩:=fH hm hg.tc
 have hge:g=e:=by
  obtain⟨a',d',x,q1,q2,q3,q4⟩:=hs
  rw[ha]at q1;cases q1
  rw[hd]at q2;cases q2
  rw[hg.is,jj,hd]at q4
  simp only[qaD]at q4
  rw[qdq trivial,qdq (qaV.1 q3).1]at q4
  rw[hkeep,he.is,jj,hd]at q3
  simp only[qaD]at q3
  rw[qdq trivial]at q3
  split at q3
  ·cases g;cases e
   simp only at *
   cases q3;cases q4
   simp_all
  ·cases q3
 subst hge
 have hrest:∀j,j≠k->j≠i->j<ops.size->∀τ τ',ae C B pts ops j τ τ'->splS C B N pts ops k i a g j τ τ':=by
  intro j hk hji hj τ τ' h
  have hj':ops[j]?=some ops[j]:=by simp[hj]
  obtain⟨f,hf⟩:=jP hN hall hj' h
  exact⟨_,f,hj',hf,λh=>absurd h hk,λh=>absurd h hji⟩
 have hrun:runR (splS C B N pts ops k i a g) (List.range ops.size) σ σ':=by
  have e0:List.range ops.size=List.range' 0 (i+1)++List.range' (i+1) (ops.toList.drop (i+1)).length:=by
   have:(ops.toList.drop (i+1)).length=ops.size - (i+1):=by simp
   rw[this,qbu]
   have:=qcL (s:=0) (m:=i+1) (n:=ops.size - (i+1))
   rw[qaF]at this
   rw[this];congr 1;omega
  rw[e0,hsp]
  refine sO (sO (σ₁:=τ0) (gm (λj hj=>?_) p1) ⟨τ1,⟨a,g,ha,he,λ_=>rfl,λh=>absurd h (by omega)⟩,sO (σ₁:=τ2) (gm (λj hj=>?_) p4) ⟨σ₁,?_,rfl⟩⟩) (gm (λj hj=>?_) h3)
  ·rw[qcx]at hj
   exact hrest j (by omega) (by omega) (by omega)
  ·rw[qcx]at hj
   exact hrest j (by omega) (by omega) (by omega)
  ·obtain⟨f,hf⟩:=jP hN hall hb p5
   exact⟨b,f,hb,hf,λh=>absurd h (by omega),λ_=>hg.st⟩
  ·rw[qcx]at hj
   have:(ops.toList.drop (i+1)).length=ops.size - (i+1):=by simp
   exact hrest j (by omega) (by omega) (by omega)
 have hback:∀(i:Nat) o,ops[i]?=some o->∀e∈o.after.toList,Region.binds .any e=true->e.on<i:=by
  intro i o ho e he hb
  have:=dp g1 i o (by simpa using ho) e he hb
  omega
 have hz:unl ops.size (Array.replicate ops.size false)=List.range ops.size:=by
  unfold unl
  rw[qcp]
  intro i hi
  rw[qah]at hi
  rw[qal,qbh,qdq hi]
  rfl
 refine .inl λt=>?_
 obtain⟨r1,_,_⟩:=tK (S:=splS C B N pts ops k i a g) hback (λj n hj hn=>spl_pair ha hb hre g4 j n hj hn) ops.size t (Array.replicate ops.size false) (by simp) (by rw[hz];simp) (λx o hx ho=>by
  have hlt:x<ops.size:=(qaz.1 ho).1
  rw[qal,qbh,qdq hlt]at hx
  cases hx) σ σ' (by rw[hz];exact hrun)
 refine jl (λj τ τ' hS=>?_) r1
 obtain⟨b',f,q1,q2,_,_⟩:=hS
 rw[q2.is]
 exact q2.st τ (rF b' τ)
end
end Sx
namespace Sx
section
variable [Val] {C:Cfg} {B:Below} {N:Tb} {pts:Tz} {ops:Tm}
def vC{a b:Tn}(hd:aK a b=true){e f:Ef}(e1:e.rw=none)(e2:e.hp=none)(τ:St):f.on b (e.on a τ)=e.on a (f.on b τ):=by
 have heap:∀σ:St,(e.on a σ).heap=σ.heap:=λσ=>by rw[dg,e2];rfl
 have g1:(f.on b (e.on a τ)).tmps=(e.on a (f.on b τ)).tmps:=by
  simp only[jj]
  cases a with
  |none=>rfl
  |some x=>
   cases b with
   |none=>rfl
   |some y=>
    have:x≠y:=by intro he;subst he;simp[aK]at hd
    exact set_comm _ _ _ this
 have g2:(f.on b (e.on a τ)).loc=(e.on a (f.on b τ)).loc:=by
  simp only[ug,e1]
 have g3:(f.on b (e.on a τ)).heap=(e.on a (f.on b τ)).heap:=by
  simp only[dg,e2,qcH]
 generalize f.on b (e.on a τ)=x at *
 generalize e.on a (f.on b τ)=y at *
 cases x;cases y
 simp only at g1 g2 g3
 subst g1;subst g2;subst g3
 rfl
def sM{a b:Oper}(hc:reOk N pts ops a b=true):al N pts a=some .hr/\al N pts b=some .hw/\aR a.dst (aF ops b)=true/\aR b.dst (aF ops a)=true/\aR a.dst (aF ops a)=true/\aK a.dst b.dst=true:=by
 unfold reOk at hc
 simp only[qaa]at hc
 obtain⟨c1,c2,c3,c4,c5,c6⟩:=hc
 have hm:al N pts a=some .hr:=by
  split at c1
  ·assumption
  ·cases c1
 have hn:al N pts b=some .hw:=by
  split at c2
  ·assumption
  ·cases c2
 exact⟨hm,hn,c3,c4,c5,c6⟩
def swap_er{k i:Nat}{a b:Oper}{e f:Ef}(hc:reOk N pts ops b a=true){τ τ₁ τ':St}(h1:Loc C B N pts ops k a e τ τ₁)(h2:Loc C B N pts ops i b f τ₁ τ')(h3:∀ρ,Sees N pts ops b τ ρ->ae C B pts ops i ρ (f.on b.dst ρ)) :
  Loc C B N pts ops i b f τ (f.on b.dst τ)/\Loc C B N pts ops k a e (f.on b.dst τ) τ':=by
 obtain⟨hm,hn,c3,c4,c5,c6⟩:=sM hc
 obtain⟨f1,f2⟩:=fH hm h2.tc
 refine⟨⟨rfl,h2.tc,h3⟩,⟨?_,h1.tc,λρ hρ=>h1.st ρ (dR ⟨λt ht=>fm (bi c3 ht),?_⟩ hρ)⟩⟩
 ·rw[h2.is,h1.is]
  exact(vC c6 f1 f2 τ).symm
 ·rw[hn];show(f.on b.dst τ).heap=τ.heap;rw[dg,f2];rfl
def memPr(k i:Nat):List (Nat×Nat)->Bool
 | []=>false
 |p :: l=>match Nat.beq p.1 k,Nat.beq p.2 i with
  |true,true=>true
  |_,_=>memPr k i l
def py{k i:Nat}:∀ {l:List (Nat×Nat)},memPr k i l=true->(k,i)∈l
 | [],h=>by cases h
 |p :: l,h=>by
  unfold memPr at h
  split at h
  next h1 h2=>
   rw[←qac h1,←qac h2]
   exact qaQ
  ·exact qao _ (py h)
def manQ(N:Tb)(pts:Tz)(ops:Tm)(ps:List (Nat×Nat))(n j:Nat)(a b:Oper):Bool:=
 mN N pts ops a b||((reOk N pts ops a b&&memPr n j ps)||(reOk N pts ops b a&&memPr j n ps))
def ssaM(ops:Tm):Tv->Bool
 | []=>true
 |b :: l=>aR b.dst (aF ops b)&&((l.all λa=>aR a.dst (aF ops b)&&aK a.dst b.dst)&&ssaM ops l)
def tU(N:Tb)(pts:Tz)(ops:Tm)(ps:List (Nat×Nat)):Bool:=
 dX ops.toList 0&&(ops.toList.all (λo=>(al N pts o).isSome)&&(ssaM ops ops.toList&&sK (manQ N pts ops ps) (ancs ops.toList []) [] ops.toList 0))
def ta:∀ {l:Tv},ssaM ops l=true->∀(j:Nat) b,l[j]?=some b->∀(n:Nat) a,l[n]?=some a->(j<=n->aR a.dst (aF ops b)=true)/\(j<n->aK a.dst b.dst=true)
 | [],_,j,b,h,_,_,_=>by simp at h
 |c :: l,h,j,b,hj,n,a,hn=>by
  simp only[ssaM,qaa,qab]at h
  obtain⟨h1,h2,h3⟩:=h
  cases j with
  |zero=>
   simp at hj
   subst hj
   cases n with
   |zero=>simp at hn;subst hn;exact⟨λ_=>h1,λh=>absurd h (by omega)⟩
   |succ n=>
    have:=h2 a (qaq (by simpa using hn))
    exact⟨λ_=>this.1,λ_=>this.2⟩
  |succ j=>
   cases n with
   |zero=>exact⟨λh=>absurd h (by omega),λh=>absurd h (by omega)⟩
   |succ n=>
    have:=ta h3 j b (by simpa using hj) n a (by simpa using hn)
    exact⟨λh=>this.1 (by omega),λh=>this.2 (by omega)⟩
def tr_st{σ':St}:∀(m i:Nat) (τ:St) (hs:List (Ts)),opsTr C B pts ops (List.range' i m) τ hs σ'->
  ∃st:Nat->St,st i=τ/\st (i+m)=σ'/\(∀j,i<=j->j<i+m->ae C B pts ops j (st j) (st (j+1)))/\∀j,j<m->hs[j]?=some (st (i+j+1)).heap
 |0,i,τ,hs,h=>by
  obtain⟨_,rfl⟩:=h
  exact⟨λ_=>σ',rfl,rfl,λj _ _=>absurd (show j<i+0 by assumption) (by omega),λj hj=>absurd hj (by omega)⟩
 |m+1,i,τ,hs,h=>by
  rw[qcl]at h
  obtain⟨σ₁,hs',h1,e,h2⟩:=h
  subst e
  obtain⟨st,s1,s2,s3,s4⟩:=tr_st m (i+1) σ₁ hs' h2
  refine⟨λj=>if j=i then τ else st j,by simp,?_,λj h1' h2'=>?_,λj hj=>?_⟩
  ·show(if i+(m+1)=i then τ else st (i+(m+1)))=σ'
   rw[qdr (by omega),show i+(m+1)=i+1+m by omega]
   exact s2
  ·show ae C B pts ops j (if j=i then τ else st j) (if j+1=i then τ else st (j+1))
   rw[qdr (show ¬j+1=i by omega)]
   by_cases hji:j=i
   ·subst hji
    rw[qdq rfl,s1]
    exact h1
   ·rw[qdr hji]
    exact s3 j (by omega) (by omega)
  ·show _=some (if i+j+1=i then τ else st (i+j+1)).heap
   rw[qdr (by omega)]
   cases j with
   |zero=>rw[show i+0+1=i+1 by omega,s1];rfl
   |succ j=>
    rw[qa6,s4 j (by omega)]
    rw[show i+1+j+1=i+(j+1)+1 by omega]
def manS(C:Cfg)(B:Below)(N:Tb)(pts:Tz)(ops:Tm)(e:Nat->Ef)(st:Nat->St)(σ':St)(j:Nat)(τ τ':St):Prop:=
 ∃b,ops[j]?=some b/\Loc C B N pts ops j b (e j) τ τ'/\(∀t∈aF ops b,τ.tmps[t]?=σ'.tmps[t]?)/\(al N pts b=some .hw->τ.heap=(st j).heap/\τ'.heap=(st (j+1)).heap)
def hp_none{o:Oper}{e:Ef}(ht:qf (al N pts o) e)(hm:al N pts o≠some .hw):e.hp=none:=by
 cases h:e.hp with
 |none=>rfl
 |some p=>exact absurd (ht.2 (by rw[h];simp)) hm
def tw{a b:Oper}(hc:mN N pts ops a b=true):al N pts a≠some .hw∨al N pts b≠some .hw:=by
 unfold mN at hc
 split at hc
 next m n hm hn=>
  simp only[qaa]at hc
  by_cases h1:al N pts a=some .hw
  ·by_cases h2:al N pts b=some .hw
   ·rw[h1]at hm;rw[h2]at hn
    cases hm;cases hn
    exact absurd hc.1.1.1 (by decide)
   ·exact .inr h2
  ·exact .inl h1
 ·cases hc
def vb{a b:Oper}(hc:mN N pts ops a b=true):aR b.dst (aF ops a)=true:=by
 unfold mN at hc
 split at hc
 ·simp only[qaa]at hc
  exact hc.1.2
 ·cases hc
def man_pair{ps:List (Nat×Nat)}{e:Nat->Ef}{st:Nat->St}{σ':St}(hf:∀k i,(k,i)∈ps->i<ops.size->∀a,ops[k]?=some a->al N pts a=some .hr->∀ρ,Sees N pts ops a { σ' with heap:=(if k<=i then(st (i+1)).heap else(st i).heap) } ρ->ae C B pts ops k ρ ((e k).on a.dst ρ))
  (hp:sK (manQ N pts ops ps) (ancs ops.toList []) [] ops.toList 0=true) (j n:Nat) (hj:j<ops.size) (hn:n<j) :
  Anc ops n j∨∀τ τ₁ τ':St,manS C B N pts ops e st σ' n τ τ₁->manS C B N pts ops e st σ' j τ₁ τ'->∃ρ,manS C B N pts ops e st σ' j τ ρ/\manS C B N pts ops e st σ' n ρ τ':=by
 have e1:ops[j]?=some ops[j]:=by simp[hj]
 have e2:ops[n]?=some (ops[n]'(by omega)):=by simp[show n<ops.size by omega]
 generalize ops[j]=y at e1
 generalize ops[n]'(by omega)=x at e2
 have hq:=pD (pre:=[]) (i:=0) rfl hp j y (by simpa using e1) n x (by omega) (by simpa using e2)
 rw[qaF]at hq
 rcases hq with hq|hq
 ·exact .inl (kV ops.toList [] rfl (λi k h=>by simp at h) j n hq)
 right
 rintro τ τ₁ τ' ⟨x',h1,h2,h3,h4⟩ ⟨y',h5,h6,h7,h8⟩
 rw[e2]at h1;cases h1
 rw[e1]at h5;cases h5
 unfold manQ at hq
 simp only[qaX,qaa]at hq
 have k1:τ₁.heap=(e n).hp.getD τ.heap:=by rw[h2.is,dg]
 have k2:τ'.heap=(e j).hp.getD τ₁.heap:=by rw[h6.is,dg]
 have k3:((e j).on y.dst τ).heap=(e j).hp.getD τ.heap:=dg
 rcases hq with hq|⟨hq,hm⟩|⟨hq,hm⟩
 ·obtain⟨w1,w2,w3⟩:=uK hq h2 h6
  refine⟨_,⟨y,e1,w1,λt ht=>(w3.1 t ht).trans (h7 t ht),λhw=>?_⟩,x,e2,w2,λt ht=>(fm (bi (vb hq) ht)).trans (h3 t ht),λhw=>?_⟩
  ·have hx:al N pts x≠some .hw:=(tw hq).resolve_right λh=>h hw
   rw[hp_none h2.tc hx]at k1
   obtain⟨a1,a2⟩:=h8 hw
   rw[k3,←show τ₁.heap=τ.heap from k1,←k2]
   exact⟨a1,a2⟩
  ·have hy:al N pts y≠some .hw:=(tw hq).resolve_left λh=>h hw
   rw[hp_none h6.tc hy]at k2 k3
   obtain⟨a1,a2⟩:=h4 hw
   exact⟨(show _=τ.heap from k3).trans a1,(show _=τ₁.heap from k2).trans a2⟩
 ·obtain⟨c1,c2,c3,c4,c5,c6⟩:=sM hq
  obtain⟨a1,a2⟩:=h8 c2
  have hx:(e n).hp=none:=(fH c1 h2.tc).2
  rw[hx]at k1
  have k1:τ₁.heap=τ.heap:=k1
  have hsee:∀ρ,Sees N pts ops x τ' ρ->Sees N pts ops x { σ' with heap:=(if n<=j then(st (j+1)).heap else(st j).heap) } ρ:=by
   intro ρ hρ
   refine⟨λt ht=>?_,?_⟩
   ·rw[hρ.1 t ht,h6.is,fm (bi c4 ht),h2.is,fm (bi c5 ht)]
    exact h3 t ht
   ·rw[c1]
    show ρ.heap=if n<=j then(st (j+1)).heap else(st j).heap
    rw[qdq (by omega),←a2]
    have:=hρ.2
    rw[c1]at this
    exact this
  obtain⟨w1,w2,_⟩:=swap_re hq h2 h6 λρ hρ=>hf n j (py hm) hj x e2 c1 ρ (hsee ρ hρ)
  refine⟨_,⟨y,e1,w1,λt ht=>?_,λ_=>?_⟩,x,e2,w2,λt ht=>(fm (bi c4 ht)).trans (h3 t ht),λhw=>?_⟩
  ·rw[←h7 t ht,h2.is]
   exact(fm (bi c3 ht)).symm
  ·rw[k3,←k1,←k2]
   exact⟨a1,a2⟩
  ·rw[c1]at hw;cases hw
 ·obtain⟨c1,c2,c3,c4,c5,c6⟩:=sM hq
  obtain⟨a1,a2⟩:=h4 c2
  have hy:(e j).hp=none:=(fH c1 h6.tc).2
  rw[hy]at k2 k3
  have k2:τ'.heap=τ₁.heap:=k2
  have k3:((e j).on y.dst τ).heap=τ.heap:=k3
  have hF:∀t∈aF ops y,τ.tmps[t]?=σ'.tmps[t]?:=λt ht=>by
   rw[←h7 t ht,h2.is]
   exact(fm (bi c4 ht)).symm
  have hsee:∀ρ,Sees N pts ops y τ ρ->Sees N pts ops y { σ' with heap:=(if j<=n then(st (n+1)).heap else(st n).heap) } ρ:=by
   intro ρ hρ
   refine⟨λt ht=>?_,?_⟩
   ·rw[hρ.1 t ht]
    exact hF t ht
   ·rw[c1]
    show ρ.heap=if j<=n then(st (n+1)).heap else(st n).heap
    rw[qdr (by omega),←a1]
    have:=hρ.2
    rw[c1]at this
    exact this
  obtain⟨w1,w2⟩:=swap_er hq h2 h6 λρ hρ=>hf j n (py hm) (by omega) y e1 c1 ρ (hsee ρ hρ)
  refine⟨_,⟨y,e1,w1,hF,λhw=>?_⟩,x,e2,w2,λt ht=>(fm (bi c3 ht)).trans (h3 t ht),λ_=>?_⟩
  ·rw[c1]at hw;cases hw
  ·rw[k3,k2]
   exact⟨a1,a2⟩
def st_keep(hN:NeuB N B)(hall:∀(j:Nat) b,ops[j]?=some b->al N pts b≠none){st:Nat->St}{t i:Nat}:∀(m:Nat),(∀j,i<=j->j<i+m->ae C B pts ops j (st j) (st (j+1))/\∀b,ops[j]?=some b->∀x,b.dst=some x->x≠t)->(st (i+m)).tmps[t]?=(st i).tmps[t]?
 |0,_=>rfl
 |m+1,h=>by
  obtain⟨h1,h2⟩:=h (i+m) (by omega) (by omega)
  rw[←st_keep hN hall m λj h3 h4=>h j h3 (by omega),show i+(m+1)=i+m+1 by omega]
  cases hj:ops[i+m]? with
  |none=>
   have:st (i+m+1)=st (i+m):=by simpa[ae,hj]using h1
   rw[this]
  |some b=>
   obtain⟨f,h3⟩:=jP hN hall hj h1
   rw[h3.is]
   exact fm (h2 b hj)
def run_st{S:Nat->St->St->Prop}{st:Nat->St}:∀(m i:Nat),(∀j,i<=j->j<i+m->S j (st j) (st (j+1)))->runR S (List.range' i m) (st i) (st (i+m))
 |0,i,_=>rfl
 |m+1,i,h=>by
  rw[qcl]
  refine⟨st (i+1),h i (by omega) (by omega),?_⟩
  have:=run_st m (i+1) λj h1 h2=>h j (by omega) (by omega)
  rwa [show i+1+m=i+(m+1)by omega]at this
def any_man(hN:NeuB N B){ps:List (Nat×Nat)}(hreg:tU N pts ops ps=true){σ σ':St}{hs:List (Ts)}(h1:opsTr C B pts ops (List.range ops.size) σ hs σ')(h2:AgainAt C B pts ops σ hs σ' ps):dm C B pts ops σ σ':=by
 unfold tU at hreg
 simp only[qaa]at hreg
 obtain⟨g1,g2,g3,g4⟩:=hreg
 have hall:∀(j:Nat) b,ops[j]?=some b->al N pts b≠none:=by
  intro j b hj he
  have hm:b∈ops.toList:=by have:=qcf hj;simpa using this
  have:=qab.1 g2 b hm
  rw[he]at this;cases this
 have hsz:∀ {i:Nat} {o:Oper},ops[i]?=some o->i<ops.size:=λhi=>(qaz.1 hi).1
 rw[qbu]at h1
 obtain⟨st,s1,s2,s3,s4⟩:=tr_st ops.size 0 σ hs h1
 rw[qaF]at s2
 have s3:∀j,j<ops.size->ae C B pts ops j (st j) (st (j+1)):=λj hj=>s3 j (by omega) (by omega)
 have s4:∀j,j<ops.size->hs[j]?=some (st (j+1)).heap:=λj hj=>by have:=s4 j hj;rwa [qaF]at this
 have hex:∀j,∃f,∀b,ops[j]?=some b->Loc C B N pts ops j b f (st j) (st (j+1)):=by
  intro j
  cases hj:ops[j]? with
  |none=>exact⟨⟨.nilFunc,none,none⟩,λb h=>by cases h⟩
  |some b=>
   obtain⟨f,hf⟩:=jP hN hall hj (s3 j (hsz hj))
   exact⟨f,λb' h=>by cases h;exact hf⟩
 obtain⟨e,he⟩:=Classical.axiomOfChoice hex
 have hkeep:∀(j:Nat) (t:Nat),j<=ops.size->(∀n,j<=n->∀a,ops[n]?=some a->∀x,a.dst=some x->x≠t)->σ'.tmps[t]?=(st j).tmps[t]?:=by
  intro j t hj h
  have:=st_keep (t:=t) (i:=j) hN hall (ops.size - j) λn h3 h4=>⟨s3 n (by omega),h n h3⟩
  rwa [show j+(ops.size - j)=ops.size by omega,s2]at this
 have hreads:∀(j:Nat) b,ops[j]?=some b->∀t∈aF ops b,(st j).tmps[t]?=σ'.tmps[t]?:=by
  intro j b hj t ht
  refine(hkeep j t (Nat.le_of_lt (hsz hj)) λn hn a ha x hx=>?_).symm
  exact bi ((ta g3 j b (by simpa using hj) n a (by simpa using ha)).1 hn) ht x hx
 have hat:∀k i,i<ops.size->atM σ.heap hs (k,i)=if k<=i then(st (i+1)).heap else(st i).heap:=by
  intro k i hi
  unfold atM
  show List.getD (σ.heap :: hs) (match Nat.ble k i with|true=>i+1|false=>i) σ.heap=_
  by_cases hk:k<=i
  ·rw[qa5 hk,qdq hk,List.getD_eq_getElem?_getD,qa6,s4 i hi]
   rfl
  ·rw[show Nat.ble k i=false by rw[←qaS];exact λh=>hk (Nat.le_of_ble_eq_true h),qdr hk,List.getD_eq_getElem?_getD]
   cases i with
   |zero=>rw[s1];rfl
   |succ i=>rw[qa6,s4 i (by omega)];rfl
 have hf:∀k i,(k,i)∈ps->i<ops.size->∀a,ops[k]?=some a->al N pts a=some .hr->∀ρ,Sees N pts ops a { σ' with heap:=(if k<=i then(st (i+1)).heap else(st i).heap) } ρ->ae C B pts ops k ρ ((e k).on a.dst ρ):=by
  intro k i hm hi a ha hr
  obtain⟨σ₂,r1,o,d,x,q1,q2,q3,q4⟩:=h2 (k,i) hm
  have q1:ops[k]?=some o:=q1
  rw[ha]at q1;cases q1
  rw[hat k i hi]at r1
  obtain⟨g,hg⟩:=jP hN hall ha r1
  have hl:=he k a ha
  obtain⟨f1,f2⟩:=fH hr hg.tc
  obtain⟨f3,f4⟩:=fH hr hl.tc
  have hge:g=e k:=by
   have hk:σ'.tmps[d]?=(st (k+1)).tmps[d]?:=hkeep (k+1) d (hsz ha) λn hn b hb y hy=>by
    have:=(ta g3 k a (by simpa using ha) n b (by simpa using hb)).2 (by omega)
    intro h
    subst h
    rw[hy,q2]at this
    simp[aK]at this
   have u1:(g.on a.dst { σ' with heap:=(if k<=i then(st (i+1)).heap else(st i).heap) }).tmps[d]?=some x:=by rw[←hg.is];exact q4
   have u2:((e k).on a.dst (st k)).tmps[d]?=some x:=by rw[←hl.is,←hk];exact q3
   rw[jj,q2]at u1 u2
   simp only[qaD]at u1 u2
   rw[qdq trivial]at u1 u2
   split at u1
   ·split at u2
    ·generalize e k=z at *
     cases g;cases z
     simp only at *
     cases u1;cases u2
     simp_all
    ·cases u2
   ·cases u1
  subst hge
  exact hg.st
 have hrun:runR (manS C B N pts ops e st σ') (List.range ops.size) σ σ':=by
  rw[qbu]
  have:=run_st (S:=manS C B N pts ops e st σ') (st:=st) ops.size 0 λj _ hj=>by
   rw[qaF]at hj
   have hb:ops[j]?=some ops[j]:=by simp[hj]
   exact⟨_,hb,he j _ hb,hreads j _ hb,λ_=>⟨rfl,rfl⟩⟩
  rwa [qaF,s1,s2]at this
 have hback:∀(i:Nat) o,ops[i]?=some o->∀e∈o.after.toList,Region.binds .any e=true->e.on<i:=by
  intro i o ho e he hb
  have:=dp g1 i o (by simpa using ho) e he hb
  omega
 have hz:unl ops.size (Array.replicate ops.size false)=List.range ops.size:=by
  unfold unl
  rw[qcp]
  intro i hi
  rw[qah]at hi
  rw[qal,qbh,qdq hi]
  rfl
 refine .inl λt=>?_
 obtain⟨r1,_,_⟩:=tK (S:=manS C B N pts ops e st σ') hback (λj n hj hn=>man_pair hf g4 j n hj hn) ops.size t (Array.replicate ops.size false) (by simp) (by rw[hz];simp) (λx o hx ho=>by
  have hlt:x<ops.size:=hsz ho
  rw[qal,qbh,qdq hlt]at hx
  cases hx) σ σ' (by rw[hz];exact hrun)
 refine jl (λj τ τ' hS=>?_) r1
 obtain⟨b',q1,q2,_,_⟩:=hS
 rw[q2.is]
 exact q2.st τ (rF b' τ)
end
end Sx
namespace Sx
section
variable [Val] {C:Cfg} {B:Below} {N:Tb} {pts:Tz} {ops:Tm}
def uA(q:Oper->Oper->Bool)(b:Oper)(m:Nat):Tv->Nat->Bool
 | [],_=>true
 |a :: l,k=>(Nat.testBit m k||q a b)&&uA q b m l (k+1)
def pC(q:Oper->Oper->Bool)(ms:Tz):Tv->Tv->Nat->Bool
 |_,[],_=>true
 |pre,b :: l,i=>uA q b (ms.getD i 0) pre 0&&pC q ms (pre++[b]) l (i+1)
def rA{q:Oper->Oper->Bool}{b:Oper}{m:Nat}:∀ {l:Tv} {k:Nat},uA q b m l k=true->∀(j:Nat) a,l[j]?=some a->m.testBit (k+j)=true∨q a b=true
 | [],k,_,j,a,h=>by simp at h
 |a :: l,k,h,j,c,hj=>by
  simp only[uA,qaa,qaX]at h
  cases j with
  |zero=>simp at hj;subst hj;exact h.1
  |succ j=>
   have:=rA h.2 j c (by simpa using hj)
   rwa [show k+1+j=k+(j+1)by omega]at this
def nQ{q:Oper->Oper->Bool}{ms:Tz}:∀ {l pre:Tv} {i:Nat},pre.length=i->pC q ms pre l i=true->∀(j:Nat) b,l[j]?=some b->∀(k:Nat) a,k<i+j->(pre++l)[k]?=some a->(ms.getD (i+j) 0).testBit k=true∨q a b=true
 | [],pre,i,_,_,j,b,h,_,_,_,_=>by simp at h
 |b :: l,pre,i,hp,h,j,c,hj,k,a,hk,ha=>by
  simp only[pC,qaa]at h
  cases j with
  |zero=>
   simp at hj
   subst hj
   rw[qaf (by omega)]at ha
   have:=rA h.1 k a ha
   simpa using this
  |succ j=>
   have:=nQ (pre:=pre++[b]) (i:=i+1) (by simp[hp]) h.2 j c (by simpa using hj) k a (by omega) (by simpa using ha)
   rwa [show i+1+j=i+(j+1)by omega]at this
def qx{b:Oper}{m i:Nat}:∀ {l:Tv} {k:Nat} (j:Nat) a,l[j]?=some a->m.testBit (k+j)=false->conf pts a b=true->(k+j,i)∈qw pts b m i l k
 | [],k,j,a,h,_,_=>by simp at h
 |a :: l,k,j,c,hj,hb,hc=>by
  unfold qw
  cases j with
  |zero=>
   simp at hj
   subst hj
   simp only[qcD]at hb ⊢
   rw[hb,hc]
   simp
  |succ j=>
   have:=qx (i:=i) (k:=k+1) j c (by simpa using hj) (by rwa [show k+1+j=k+(j+1)by omega]) hc
   rw[show k+1+j=k+(j+1)by omega]at this
   split
   ·exact this
   ·exact qao _ this
def qv{ms:Tz}:∀ {l pre:Tv} {i:Nat},pre.length=i->∀(j:Nat) b,l[j]?=some b->∀(k:Nat) a,k<i+j->(pre++l)[k]?=some a->(ms.getD (i+j) 0).testBit k=false->conf pts a b=true->(k,i+j)∈tC pts ms pre l i
 | [],pre,i,_,j,b,h,_,_,_,_,_,_=>by simp at h
 |b :: l,pre,i,hp,j,c,hj,k,a,hk,ha,ht,hc=>by
  unfold tC
  rw[qaH]
  cases j with
  |zero=>
   simp at hj
   subst hj
   rw[qaf (by omega)]at ha
   have:=qx (pts:=pts) (i:=i) (k:=0) k a ha (by simpa using ht) hc
   left
   simpa using this
  |succ j=>
   right
   have:=qv (pre:=pre++[b]) (i:=i+1) (by simp[hp]) j c (by simpa using hj) k a (by omega) (by simpa using ha) (by rwa [show i+1+j=i+(j+1)by omega]) hc
   rwa [show i+1+j=i+(j+1)by omega]at this
def opT(pts:Tz)(o:Oper):Tz:=((cA pts o).1++dM pts o).filterMap λx=>match x with
 | .tmp t=>some t
 |_=>none
def ssaB(pts:Tz):Tv->Tv->Bool
 |_,[]=>true
 |pre,b :: l=>aR b.dst (opT pts b)&&(pre.all λa=>aR b.dst (opT pts a)&&aK a.dst b.dst)&&ssaB pts (pre++[b]) l
def sZ:∀ {l pre:Tv},ssaB pts pre l=true->∀(j:Nat) b,l[j]?=some b->∀(k:Nat) a,(pre++l)[k]?=some a->(k<=pre.length+j->aR b.dst (opT pts a)=true)/\(k<pre.length+j->aK a.dst b.dst=true)
 | [],pre,_,j,b,h,_,_,_=>by simp at h
 |b :: l,pre,h,j,c,hj,k,a,ha=>by
  simp only[ssaB,qaa,qab]at h
  obtain⟨⟨h1,h2⟩,h3⟩:=h
  cases j with
  |zero=>
   simp at hj
   subst hj
   refine⟨λhk=>?_,λhk=>?_⟩
   ·rcases qaC k pre.length with hlt|hge
    ·rw[qaf hlt]at ha
     exact(h2 a (qaq ha)).1
    ·obtain rfl:k=pre.length:=by omega
     rw[qak (qam _),qbv]at ha
     simp at ha
     subst ha
     exact h1
   ·rw[qaf (by omega)]at ha
    exact(h2 a (qaq ha)).2
  |succ j=>
   have:=sZ h3 j c (by simpa using hj) k a (by simpa using ha)
   simp only[qaG,qaP,qbR]at this
   exact⟨λhk=>this.1 (by omega),λhk=>this.2 (by omega)⟩
def sepReg(N:Tb)(pts:Tz)(ops:Tm):Bool:=
 dX ops.toList 0&&(ops.toList.all (okS N pts)&&(ops.toList.any (cI pts)&&(ops.toList.all (λo=>!cI pts o||o.dst.isSome)&&(ssaB pts [] ops.toList&&pC (λa b=>stat2 N pts ops a b && !eH a b) (ancs ops.toList []) [] ops.toList 0))))
def splK(N:Tb)(pts:Tz)(ops:Tm)(i:Nat):Nat->Option Nat
 |0=>none
 |k+1=>match ops[k]?,ops[i]? with
  |some a,some b=>match reOk N pts ops a b&&rK N pts ops k i with
   |true=>some k
   |false=>splK N pts ops i k
  |_,_=>none
def splI(N:Tb)(pts:Tz)(ops:Tm):Nat->Option (List (Nat×Nat))
 |0=>none
 |i+1=>match splK N pts ops i i with
  |some k=>some [(k+1000,i)]
  |none=>splI N pts ops i
def tV(N:Tb)(pts:Tz)(ops:Tm)(j:Nat)(b:Oper)(m:Nat):Tv->Nat->List (Nat×Nat)
 | [],_=>[]
 |a :: l,n=>match Nat.testBit m n||mN N pts ops a b,reOk N pts ops a b with
  |true,_=>tV N pts ops j b m l (n+1)
  |false,true=>(n,j) :: tV N pts ops j b m l (n+1)
  |false,false=>(j,n) :: tV N pts ops j b m l (n+1)
def manAll(N:Tb)(pts:Tz)(ops:Tm)(ms:Tz):Tv->Tv->Nat->List (Nat×Nat)
 |_,[],_=>[]
 |pre,b :: l,i=>tV N pts ops i b (ms.getD i 0) pre 0++manAll N pts ops ms (pre++[b]) l (i+1)
def manI(N:Tb)(pts:Tz)(ops:Tm):Option (List (Nat×Nat)):=
 match tU N pts ops (manAll N pts ops (ancs ops.toList []) [] ops.toList 0)with
 |true=>some ((5000,0) :: manAll N pts ops (ancs ops.toList []) [] ops.toList 0)
 |false=>none
def drOf(N:Tb):Dr:=λpts ops=>match tD pts ops with
 | []=>match rz N pts ops with
  |true=>some []
  |false=>match splI N pts ops ops.size with
   |some ps=>match manyOf ps with
    |none=>some ps
    |some _=>none
   |none=>manI N pts ops
 |p :: ps=>match manyOf (p :: ps),splOf (p :: ps),sepReg N pts ops with
  |none,none,true=>some (p :: ps)
  |_,_,_=>none
def splK_ok{i:Nat}:∀ {n k:Nat},splK N pts ops i n=some k->rK N pts ops k i=true
 |0,k,h=>by cases h
 |n+1,k,h=>by
  unfold splK at h
  split at h
  ·split at h
   next hq=>
    cases h
    simp only[qaa]at hq
    exact hq.2
   ·exact splK_ok h
  ·cases h
def splI_ok:∀ {n:Nat} {ps:List (Nat×Nat)},splI N pts ops n=some ps->∃k i,ps=[(k+1000,i)]/\rK N pts ops k i=true
 |0,ps,h=>by cases h
 |n+1,ps,h=>by
  unfold splI at h
  split at h
  next k hk=>
   cases h
   exact⟨k,n,rfl,splK_ok hk⟩
  ·exact splI_ok h
def hcls0{o:Oper}(h:hCls pts o=0):(cA pts o).1=[]/\dM pts o=[]/\cI pts o=false:=by
 obtain⟨dst,op,ty,pos,after,guard⟩:=o
 cases op<;>simp only[hCls]at h<;>first|(exact⟨rfl,rfl,rfl⟩)|(exact absurd h (by decide))|skip
 case alloc t=>cases hn:cI pts ⟨dst,.alloc t,ty,pos,after,guard⟩with
  |true=>rw[hn]at h;cases h
  |false=>exact⟨rfl,rfl,rfl⟩
 case box t x=>cases hn:cI pts ⟨dst,.box t x,ty,pos,after,guard⟩with
  |true=>rw[hn]at h;cases h
  |false=>exact⟨rfl,rfl,rfl⟩
 case load t a=>
  split at h
  ·cases h
  next hk=>
   refine⟨?_,rfl,rfl⟩
   simp only[cA]
 case store t a x=>
  split at h
  ·cases h
  next hk=>
   refine⟨?_,?_,rfl⟩
   ·simp only[cA]
   ·simp only[dM]
 case call c=>
  cases hc:c.callee with
  |builtin b=>
   rw[hc]at h
   simp only[cA,dM,cI,hc]
   cases b<;>first|(exact⟨rfl,rfl,rfl⟩)|(exact absurd h (by simp))
  |value f=>simp only[cA,dM,cI,hc];exact⟨trivial,trivial,trivial⟩
  |invoke r m=>simp only[cA,dM,cI,hc];exact⟨trivial,trivial,trivial⟩
def hcls1{o:Oper}(h:hCls pts o=1):dM pts o=[]/\cI pts o=false:=by
 obtain⟨dst,op,ty,pos,after,guard⟩:=o
 cases op<;>simp only[hCls]at h<;>first|(exact⟨rfl,rfl⟩)|(exact absurd h (by decide))|skip
 case alloc t=>cases hn:cI pts ⟨dst,.alloc t,ty,pos,after,guard⟩with
  |true=>rw[hn]at h;cases h
  |false=>exact⟨rfl,rfl⟩
 case box t x=>cases hn:cI pts ⟨dst,.box t x,ty,pos,after,guard⟩with
  |true=>rw[hn]at h;cases h
  |false=>exact⟨rfl,rfl⟩
 case store t a x=>split at h<;>cases h
 case call c=>
  cases hc:c.callee with
  |builtin b=>
   rw[hc]at h
   simp only[dM,cI,hc]
   cases b<;>first|(exact⟨rfl,rfl⟩)|(exact absurd h (by simp))
  |value f=>simp only[dM,cI,hc];exact⟨trivial,trivial⟩
  |invoke r m=>simp only[dM,cI,hc];exact⟨trivial,trivial⟩
def pc(o:Oper):hCls pts o=0∨hCls pts o=1∨hCls pts o=2:=by
 obtain⟨dst,op,ty,pos,after,guard⟩:=o
 cases op<;>simp only[hCls]<;>first|(exact .inl trivial)|(exact .inr (.inl trivial))|(exact .inr (.inr trivial))|skip
 case alloc t=>split<;>simp
 case box t x=>split<;>simp
 case load t a=>split<;>simp
 case store t a x=>split<;>simp
 case call c=>split<;>first|(split<;>simp)|simp
end
end Sx
namespace Sx
section
variable [Val] {C:Cfg} {B:Below} {N:Tb} {pts:Tz} {ops:Tm}
def fresh_adr{mk:Nat->Value}(h:Fresh mk)(k:Nat):adr (mk k)=[k]:=by
 cases h<;>simp[adr,tag]
def uH{S:Nat->St->St->Prop}{sl:Nat->Tp}(hS:∀i σ σ',S i σ σ'->di C B pts ops sl i σ σ'):∀ {l:Tz},l.Nodup->∀ {σ σ':St},runR S l σ σ'->gq C B pts ops sl l σ σ'
 | [],_,_,_,h=>h
 |i :: l,hn,σ,σ',⟨σ₁,h1,h2⟩=>by
  rw[qcr]at hn
  exact⟨hn.1,σ₁,hS i _ _ h1,uH hS hn.2 h2⟩
def opT_mem{o:Oper}{t:Nat}(h:Operand.tmp t∈(cA pts o).1++dM pts o):t∈opT pts o:=by
 unfold opT
 exact qbj.2 ⟨.tmp t,h,rfl⟩
def any_okS [Kno](hN:NeuB N B)(hreg:sepReg N pts ops=true){σ σ':St}(h:aT C B pts ops (List.range ops.size) σ σ')(hsep:SepAt pts ops σ'.tmps (tD pts ops)):dm C B pts ops σ σ':=by
 simp only[sepReg,qaa]at hreg
 obtain⟨g1,g2,g3,g4,g5,g6⟩:=hreg
 have hok:∀i∈List.range ops.size,∃o,ops[i]?=some o/\okS N pts o=true:=by
  intro i hi
  rw[qah]at hi
  exact⟨ops[i],by simp[hi],qab.1 g2 _ (by simp)⟩
 obtain⟨rc,R⟩:=recs_of hN (List.range ops.size) σ σ' qcc hok h
 have hsz:∀ {i:Nat} {o:Oper},ops[i]?=some o->i<ops.size:=λhi=>(qaz.1 hi).1
 have hrg:∀ {i:Nat} {o:Oper},ops[i]?=some o->i∈List.range ops.size:=λhi=>qah.2 (hsz hi)
 have hl:∀ {i:Nat} {o:Oper},ops[i]?=some o->ops.toList[i]?=some o:=λhi=>by simpa using hi
 have hop:∀ {i:Nat} {o:Oper},ops[i]?=some o->∀x∈(cA pts o).1++dM pts o,oval σ'.tmps x=oval (rc i).σ.tmps x:=by
  intro i o hi x hx
  refine jo λt ht=>?_
  subst ht
  refine R.args i (hrg hi) t λj hj hij o' ho' hd=>?_
  have:=(sZ g5 j o' (hl ho') i o (by simpa using hi)).1 (by simpa using hij)
  exact nk this t (opT_mem hx) t hd rfl
 have hF:∀ {i:Nat} {o:Oper},ops[i]?=some o->∀r∈fpo pts (oval (rc i).σ.tmps) o,r∈fAt pts σ'.tmps o:=by
  intro i o hi r hr
  unfold fpo at hr
  unfold fAt
  obtain⟨x,hx,hr⟩:=qcb.1 hr
  exact qcb.2 ⟨x,hx,by rw[hop hi x (qaO _ hx)];exact hr⟩
 have hW:∀ {i:Nat} {o:Oper},ops[i]?=some o->dstIn pts σ'.tmps o->∀p∈(rc i).ws,p.1∈wAt pts σ'.tmps o:=by
  intro i o hi hdi p hp
  have K:=R.ok i (hrg hi) o hi
  unfold Rec.ws at hp
  unfold wAt
  rw[qcb]
  rcases qaH.1 hp with hp|hp
  ·have:=K.wr p (by simpa using hp)
   unfold wpo at this
   obtain⟨x,hx,hr⟩:=qcb.1 this
   exact⟨x,qaO _ hx,by rw[hop hi x (qa4 _ hx)];exact hr⟩
  ·unfold Rec.slot at hp
   split at hp
   next k q hk hq=>
    have hp:p=(k,q.1):=by simpa using hp
    subst hp
    obtain⟨f1,f2,f3⟩:=K.fr q hq
    have hc2:hCls pts o=2:=by
     rcases pc (pts:=pts) o with h0|h0|h0
     ·rw[(hcls0 h0).2.2]at f3;cases f3
     ·rw[(hcls1 h0).2]at f3;cases f3
     ·exact h0
    have hds:o.dst.isSome=true:=by
     have:=qab.1 g4 o (qaq (hl hi))
     rw[f3]at this
     simpa using this
    obtain⟨d,hd⟩:=qa3.1 hds
    obtain⟨v,hv⟩:=hdi d hd hc2
    have hval:=R.res i (hrg hi) o d v hi hd (λj hj hij o' ho' hd'=>by
     have:=(sZ g5 j o' (hl ho') i o (by simpa using hi)).2 (by simpa using hij)
     rw[hd,hd']at this
     simp[aK]at this) hv
    refine⟨.tmp d,pY hd hc2,?_⟩
    have ho:oval σ'.tmps (.tmp d)=v:=by simp[oval,List.getD_eq_getElem?_getD,hv]
    rw[ho,hval]
    unfold Rec.val HEff.val
    rw[hk]
    simp only[hq]
    rw[fresh_adr f1]
    exact qay.2 rfl
   ·cases hp
 have hno:∀ {i:Nat} {o:Oper},ops[i]?=some o->hCls pts o≠2->(rc i).ws=[]:=by
  intro i o hi hc
  have K:=R.ok i (hrg hi) o hi
  have hw:dM pts o=[]/\cI pts o=false:=by
   rcases pc (pts:=pts) o with h0|h0|h0
   ·exact(hcls0 h0).2
   ·exact hcls1 h0
   ·exact absurd h0 hc
  have e1:(rc i).e.set=none:=by
   cases hs:(rc i).e.set with
   |none=>rfl
   |some p=>
    have:=K.wr p hs
    unfold wpo at this
    rw[hw.1]at this
    cases this
  have e2:(rc i).e.push=none:=by
   cases hs:(rc i).e.push with
   |none=>rfl
   |some p=>have:=(K.fr p hs).2.2;rw[hw.2]at this;cases this
  unfold Rec.ws Rec.slot
  rw[e1,e2]
  cases (rc i).k<;>rfl
 have hno2:∀ {i:Nat} {o:Oper},hCls pts o=0->fpo pts (oval (rc i).σ.tmps) o=[]:=by
  intro i o hc
  unfold fpo
  rw[(hcls0 hc).1]
  rfl
 refine .inr ⟨λi=>if i<ops.size then(rc i).k else none,σ'.heap.length - σ.heap.length,g3,?_,?_,λt=>?_⟩
 ·intro i k hk
  simp only at hk
  split at hk
  next hi=>
   have:=R.slot i (qah.2 hi) k hk
   omega
  ·cases hk
 ·intro i j k hk hk'
  simp only at hk hk'
  split at hk
  next hi=>
   split at hk'
   next hj=>
    exact R.inj i (qah.2 hi) j (qah.2 hj) k hk hk'
   ·cases hk'
  ·cases hk
 have hback:∀(i:Nat) o,ops[i]?=some o->∀e∈o.after.toList,Region.binds .any e=true->e.on<i:=by
  intro i o ho e he hb
  have:=dp g1 i o (by simpa using ho) e he hb
  omega
 have hpair:∀i k:Nat,i<ops.size->k<i->Anc ops k i∨∀τ τ₁ τ':St,recS N pts ops rc k τ τ₁->recS N pts ops rc i τ₁ τ'->∃ρ,recS N pts ops rc i τ ρ/\recS N pts ops rc k ρ τ':=by
  intro i k hi hki
  have hb:ops[i]?=some ops[i]:=by simp[hi]
  have ha:ops[k]?=some (ops[k]'(by omega)):=by simp[show k<ops.size by omega]
  generalize ops[i]=b at hb
  generalize ops[k]'(by omega)=a at ha
  have hq:=nQ (pre:=[]) (i:=0) rfl g6 i b (by simpa using hb) k a (by omega) (by simpa using ha)
  rw[qaF]at hq
  cases htb:(List.getD (ancs ops.toList []) i 0).testBit k with
  |true=>exact .inl (kV ops.toList [] rfl (λi k h=>by simp at h) i k htb)
  |false=>
   right
   rw[htb]at hq
   have hq:=hq.resolve_left (by simp)
   simp only[qaa]at hq
   obtain⟨q1,q2⟩:=hq
   have d:(∀p∈(rc k).ws,p.1∉fpo pts (oval (rc i).σ.tmps) b)/\(∀p∈(rc i).ws,p.1∉fpo pts (oval (rc k).σ.tmps) a)/\(∀p∈(rc k).ws,∀q∈(rc i).ws,p.1≠q.1):=by
    cases hcf:conf pts a b with
    |true=>
     have hm:=qv (pts:=pts) (ms:=ancs ops.toList []) (l:=ops.toList) (pre:=[]) (i:=0) rfl i b (by simpa using hb) k a (by omega) (by simpa using ha) (by rw[qaF];exact htb) hcf
     rw[qaF]at hm
     obtain⟨a',b',r1,r2,s1,s2,s3,s4,s5⟩:=hsep (k,i) hm
     have r1:ops[k]?=some a':=r1
     have r2:ops[i]?=some b':=r2
     rw[ha]at r1;rw[hb]at r2
     cases r1;cases r2
     exact⟨λp hp hf=>s1 _ (hW ha s4 p hp) (hF hb _ hf),λp hp hf=>s3 _ (hW hb s5 p hp) (hF ha _ hf),λp hp q hq e=>s2 _ (hW ha s4 p hp) (e▸hW hb s5 q hq)⟩
    |false=>
     have hcf:Nat.ble 3 (hCls pts a+hCls pts b)=false:=by
      unfold conf at hcf
      cases he:eH a b with
      |true=>rw[he]at q2;cases q2
      |false=>rw[he]at hcf;simpa using hcf
     have hlt:¬3<=hCls pts a+hCls pts b:=λh=>by rw[qa5 h]at hcf;cases hcf
     rcases pc (pts:=pts) a with e1|e1|e1<;>rcases pc (pts:=pts) b with e2|e2|e2
     ·rw[hno ha (by omega),hno hb (by omega)];exact⟨λ_ h=>(by cases h),λ_ h=>(by cases h),λ_ h=>(by cases h)⟩
     ·rw[hno ha (by omega),hno hb (by omega)];exact⟨λ_ h=>(by cases h),λ_ h=>(by cases h),λ_ h=>(by cases h)⟩
     ·rw[hno ha (by omega),hno2 e1];exact⟨λ_ h=>(by cases h),λ_ _ h=>(by cases h),λ_ h=>(by cases h)⟩
     ·rw[hno ha (by omega),hno hb (by omega)];exact⟨λ_ h=>(by cases h),λ_ h=>(by cases h),λ_ h=>(by cases h)⟩
     ·rw[hno ha (by omega),hno hb (by omega)];exact⟨λ_ h=>(by cases h),λ_ h=>(by cases h),λ_ h=>(by cases h)⟩
     ·omega
     ·rw[hno hb (by omega),hno2 e2];exact⟨λ_ _ h=>(by cases h),λ_ h=>(by cases h),λ_ _ _ h=>(by cases h)⟩
     ·omega
     ·omega
   rintro τ τ₁ τ' ⟨a1,h1,h2,rfl⟩ ⟨b1,h3,h4,rfl⟩
   rw[ha]at h1;rw[hb]at h3
   cases h1;cases h3
   obtain⟨w1,w2,w3⟩:=swapR (R.ok k (hrg ha) a ha) (R.ok i (hrg hb) b hb) q1 d.1 d.2.1 d.2.2 h2 h4
   exact⟨_,⟨b,hb,w1,rfl⟩,⟨a,ha,w2,w3⟩⟩
 have hz:unl ops.size (Array.replicate ops.size false)=List.range ops.size:=by
  unfold unl
  rw[qcp]
  intro i hi
  rw[qah]at hi
  rw[qal,qbh,qdq hi]
  rfl
 have hrun:=R.run σ'.heap.length (qam _)
 have hend:St.padTo σ' σ'.heap.length=σ':=by
  unfold St.padTo St.pad
  rw[qbv]
  simp
 rw[hend]at hrun
 obtain⟨r1,r2,_⟩:=tK (S:=recS N pts ops rc) hback hpair ops.size t (Array.replicate ops.size false) (by simp) (by rw[hz];simp) (λx o hx ho=>by
  have hlt:x<ops.size:=hsz ho
  rw[qal,qbh,qdq hlt]at hx
  cases hx) _ _ (by rw[hz];exact hrun)
 refine uH (λi τ τ' hS=>?_) r2 r1
 obtain⟨o,h1,h2,rfl⟩:=hS
 exact(R.ok i (hrg h1) o h1).step τ h2 _ (by simp only[hsz h1,if_true])
def splOf_one(k i:Nat):splOf [(k+1000,i)]=some (k,i):=by
 have hb:Nat.ble 1000 (k+1000)=true:=qa5 (Nat.le_add_left 1000 k)
 generalize hm:k+1000=m at *
 have hk:m - 1000=k:=by omega
 unfold splOf
 simp only[hb,hk]
def manI_ok{ps:List (Nat×Nat)}(h:manI N pts ops=some ps):∃l,manyOf ps=some l/\tU N pts ops l=true:=by
 unfold manI at h
 split at h
 next hr=>
  cases h
  exact⟨_,rfl,hr⟩
 ·cases h
def drOf_ok [Kno]{C:Cfg}(hN:∀f n,N f=some n->neuF N C f n=true)(hk:∀f args H r H',Kno.kh f args H r H'->N f=none∨(N f=some (2*args.length+1)/\H'=H)):DrOk C (drOf N):=by
 intro pts ops ps h
 unfold drOf at h
 split at h
 ·split at h
  next hr=>
   cases h
   exact λn σ σ' hx hs=>dr_ok hN hk pts ops hr n σ σ' hx
  ·split at h
   next hi=>
    split at h
    next hm=>
     cases h
     obtain⟨k,i,hps,hr⟩:=splI_ok hi
     have e:splOf ps=some (k,i):=hps▸splOf_one k i
     rw[hm]
     simp only
     rw[e]
     exact λn σ σ₁ σ₂ σ' h1 h2 h3 h4=>any_spl (rk hN hk n).1.1 hr h1 h2 h3 h4
    ·cases h
   ·obtain⟨l,e,hr⟩:=manI_ok h
    rw[e]
    exact λn σ σ' hs h1 h2=>any_man (rk hN hk n).1.1 hr h1 h2
 next p qs he=>
  split at h
  next hm hn hr=>
   cases h
   rw[hm]
   simp only
   rw[hn]
   exact λn σ σ' hx hs=>any_okS (rk hN hk n).1.1 hr hx (by rw[he];exact hs)
  ·cases h
end
end Sx
end Go.Am
namespace Go.Am
open Sx Go.Proofs
def neuT:List (Nat×Nat):=[(6,6),(7,6),(15,4),(16,4),(18,4),(19,4),(21,4),(25,4),(30,4),(34,2),(43,6),(44,4),(45,4),(46,4),(47,4),(48,2),(49,2),(53,2),(56,2),(66,4),(73,2),(75,2),(77,4),(78,4),(79,4),(81,6),(99,2),(101,2),(106,4),(107,4),(108,6),(109,2),(110,2),(111,4),(112,4),(113,4),(133,2),(134,4),(166,2),(42,4),(89,4),(72,2),(127,2),(51,5),(24,5),(67,3),(91,3),(93,3),(54,2)]
def lookN(l:List (Nat×Nat))(f:Nat):Tp:=match l with
 | []=>none
 |p :: l=>match Nat.beq p.1 f with
  |true=>some p.2
  |false=>lookN l f
def neuN(f:TJ):Tp:=lookN neuT f
def qX{f n:Nat}:∀ {l:List (Nat×Nat)},lookN l f=some n->(f,n)∈l
 |p :: l,h=>by
  unfold lookN at h
  split at h
  next e=>
   cases h
   have:=qac e
   subst this
   exact qaQ
  ·exact qao _ (qX h)
def neuT_ok:(neuT.all λp=>neuF neuN cc p.1 p.2)=true:=by kernel_rfl
def neuN_ok(f n:Nat)(h:neuN f=some n):neuF neuN cc f n=true:=qab.1 neuT_ok (f,n) (qX h)
def drN:Dr:=drOf neuN
def nF(k:Nat)(an:List An):Fn1:=fn1 cc.P k ((aa k).getD ⟨[],[]⟩) an
def iF {k:Nat} {g:Func} {an:List An} (h0:(xc k).C.P.funcs[k]?=some g) (h:(g.body,((g.name == "runtime.NumGoroutine")||(xc k).C.opq k),g.ntmps,g.results.toList,aa k)=(some (er (xc k) (nF k an).code),false,(nF k an).nt,(nF k an).rvs,some (nF k an).sg)):FnIs (xc k) aa k (nF k an):=by
 simp only[qca]at h
 exact⟨⟨g,h0,h.1,h.2.1,h.2.2.1,h.2.2.2.1⟩,rfl,h.2.2.2.2⟩
abbrev e_f(k:Nat)(a:List An):(R HT:Type)->Alg R HT->TB->HT->(TB->HT->R)->R:=λR HT A ls h K=>af A (xc k) aa drN (nF k a) ls h K
abbrev i_i(k:Nat)(a:List An):Prop:=FnIs (xc k) aa k (nF k a)
def i3:i_i 3 an3:=iF Tryz.func3 (by kernel_rfl)
def i4:i_i 4 an4:=iF Tryz.func4 (by kernel_rfl)
def i5:i_i 5 an5:=iF Tryz.func5 (by kernel_rfl)
def i6:i_i 6 an6:=iF Tryz.func6 (by kernel_rfl)
def i7:i_i 7 an7:=iF Tryz.func7 (by kernel_rfl)
def i8:i_i 8 an8:=iF Tryz.func8 (by kernel_rfl)
def i9:i_i 9 an9:=iF Tryz.func9 (by kernel_rfl)
def i10:i_i 10 an10:=iF Tryz.func10 (by kernel_rfl)
def i11:i_i 11 an11:=iF Tryz.func11 (by kernel_rfl)
def i12:i_i 12 an12:=iF Tryz.func12 (by kernel_rfl)
def i13:i_i 13 an13:=iF Tryz.func13 (by kernel_rfl)
def i14:i_i 14 an14:=iF Tryz.func14 (by kernel_rfl)
def i15:i_i 15 an15:=iF Tryz.func15 (by kernel_rfl)
def i16:i_i 16 an16:=iF Tryz.func16 (by kernel_rfl)
def i17:i_i 17 an17:=iF Tryz.func17 (by kernel_rfl)
def i18:i_i 18 an18:=iF Tryz.func18 (by kernel_rfl)
def i19:i_i 19 an19:=iF Tryz.func19 (by kernel_rfl)
def i20:i_i 20 an20:=iF Tryz.func20 (by kernel_rfl)
def i21:i_i 21 an21:=iF Tryz.func21 (by kernel_rfl)
def i22:i_i 22 an22:=iF Tryz.func22 (by kernel_rfl)
def i23:i_i 23 an23:=iF Tryz.func23 (by kernel_rfl)
def i24:i_i 24 an24:=iF Tryz.func24 (by kernel_rfl)
def i25:i_i 25 an25:=iF Tryz.func25 (by kernel_rfl)
def i26:i_i 26 an26:=iF Tryz.func26 (by kernel_rfl)
def i27:i_i 27 an27:=iF Tryz.func27 (by kernel_rfl)
def i28:i_i 28 an28:=iF Tryz.func28 (by kernel_rfl)
def i29:i_i 29 an29:=iF Tryz.func29 (by kernel_rfl)
def i30:i_i 30 an30:=iF Tryz.func30 (by kernel_rfl)
def i31:i_i 31 an31:=iF Tryz.func31 (by kernel_rfl)
def i32:i_i 32 an32:=iF Tryz.func32 (by kernel_rfl)
def i33:i_i 33 an33:=iF Tryz.func33 (by kernel_rfl)
def i34:i_i 34 an34:=iF Tryz.func34 (by kernel_rfl)
def i35:i_i 35 an35:=iF Tryz.func35 (by kernel_rfl)
def i36:i_i 36 an36:=iF Tryz.func36 (by kernel_rfl)
def i37:i_i 37 an37:=iF Tryz.func37 (by kernel_rfl)
def i38:i_i 38 an38:=iF Tryz.func38 (by kernel_rfl)
def i39:i_i 39 an39:=iF Tryz.func39 (by kernel_rfl)
def i40:i_i 40 an40:=iF Tryz.func40 (by kernel_rfl)
def i41:i_i 41 an41:=iF Tryz.func41 (by kernel_rfl)
def i42:i_i 42 an42:=iF Tryz.func42 (by kernel_rfl)
def i43:i_i 43 an43:=iF Tryz.func43 (by kernel_rfl)
def i44:i_i 44 an44:=iF Tryz.func44 (by kernel_rfl)
def i45:i_i 45 an45:=iF Tryz.func45 (by kernel_rfl)
def i46:i_i 46 an46:=iF Tryz.func46 (by kernel_rfl)
def i47:i_i 47 an47:=iF Tryz.func47 (by kernel_rfl)
def i48:i_i 48 an48:=iF Tryz.func48 (by kernel_rfl)
def i49:i_i 49 an49:=iF Tryz.func49 (by kernel_rfl)
def i50:i_i 50 an50:=iF Tryz.func50 (by kernel_rfl)
def i51:i_i 51 an51:=iF Tryz.func51 (by kernel_rfl)
def i52:i_i 52 an52:=iF Tryz.func52 (by kernel_rfl)
def i53:i_i 53 an53:=iF Tryz.func53 (by kernel_rfl)
def i54:i_i 54 an54:=iF Tryz.func54 (by kernel_rfl)
def i55:i_i 55 an55:=iF Tryz.func55 (by kernel_rfl)
def i56:i_i 56 an56:=iF Tryz.func56 (by kernel_rfl)
def i57:i_i 57 an57:=iF Tryz.func57 (by kernel_rfl)
def i58:i_i 58 an58:=iF Tryz.func58 (by kernel_rfl)
def i59:i_i 59 an59:=iF Tryz.func59 (by kernel_rfl)
def i60:i_i 60 an60:=iF Tryz.func60 (by kernel_rfl)
def i61:i_i 61 an61:=iF Tryz.func61 (by kernel_rfl)
def i62:i_i 62 an62:=iF Tryz.func62 (by kernel_rfl)
def i63:i_i 63 an63:=iF Tryz.func63 (by kernel_rfl)
def i64:i_i 64 an64:=iF Tryz.func64 (by kernel_rfl)
def i65:i_i 65 an65:=iF Tryz.func65 (by kernel_rfl)
def i66:i_i 66 an66:=iF Tryz.func66 (by kernel_rfl)
def i67:i_i 67 an67:=iF Tryz.func67 (by kernel_rfl)
def i68:i_i 68 an68:=iF Tryz.func68 (by kernel_rfl)
def i69:i_i 69 an69:=iF Tryz.func69 (by kernel_rfl)
def i70:i_i 70 an70:=iF Tryz.func70 (by kernel_rfl)
def i71:i_i 71 an71:=iF Tryz.func71 (by kernel_rfl)
def i72:i_i 72 an72:=iF Tryz.func72 (by kernel_rfl)
def i73:i_i 73 an73:=iF Tryz.func73 (by kernel_rfl)
def i74:i_i 74 an74:=iF Tryz.func74 (by kernel_rfl)
def i75:i_i 75 an75:=iF Tryz.func75 (by kernel_rfl)
def i76:i_i 76 an76:=iF Tryz.func76 (by kernel_rfl)
def i77:i_i 77 an77:=iF Tryz.func77 (by kernel_rfl)
def i78:i_i 78 an78:=iF Tryz.func78 (by kernel_rfl)
def i79:i_i 79 an79:=iF Tryz.func79 (by kernel_rfl)
def i80:i_i 80 an80:=iF Tryz.func80 (by kernel_rfl)
def i81:i_i 81 an81:=iF Tryz.func81 (by kernel_rfl)
def i82:i_i 82 an82:=iF Tryz.func82 (by kernel_rfl)
def i83:i_i 83 an83:=iF Tryz.func83 (by kernel_rfl)
def i84:i_i 84 an84:=iF Tryz.func84 (by kernel_rfl)
def i85:i_i 85 an85:=iF Tryz.func85 (by kernel_rfl)
def i86:i_i 86 an86:=iF Tryz.func86 (by kernel_rfl)
def i87:i_i 87 an87:=iF Tryz.func87 (by kernel_rfl)
def i88:i_i 88 an88:=iF Tryz.func88 (by kernel_rfl)
def i89:i_i 89 an89:=iF Tryz.func89 (by kernel_rfl)
def i90:i_i 90 an90:=iF Tryz.func90 (by kernel_rfl)
def i91:i_i 91 an91:=iF Tryz.func91 (by kernel_rfl)
def i92:i_i 92 an92:=iF Tryz.func92 (by kernel_rfl)
def i93:i_i 93 an93:=iF Tryz.func93 (by kernel_rfl)
def i94:i_i 94 an94:=iF Tryz.func94 (by kernel_rfl)
def i95:i_i 95 an95:=iF Tryz.func95 (by kernel_rfl)
def i96:i_i 96 an96:=iF Tryz.func96 (by kernel_rfl)
def i97:i_i 97 an97:=iF Tryz.func97 (by kernel_rfl)
def i98:i_i 98 an98:=iF Tryz.func98 (by kernel_rfl)
def i99:i_i 99 an99:=iF Tryz.func99 (by kernel_rfl)
def i100:i_i 100 an100:=iF Tryz.func100 (by kernel_rfl)
def i101:i_i 101 an101:=iF Tryz.func101 (by kernel_rfl)
def i102:i_i 102 an102:=iF Tryz.func102 (by kernel_rfl)
def i103:i_i 103 an103:=iF Tryz.func103 (by kernel_rfl)
def i104:i_i 104 an104:=iF Tryz.func104 (by kernel_rfl)
def i105:i_i 105 an105:=iF Tryz.func105 (by kernel_rfl)
def i106:i_i 106 an106:=iF Tryz.func106 (by kernel_rfl)
def i107:i_i 107 an107:=iF Tryz.func107 (by kernel_rfl)
def i108:i_i 108 an108:=iF Tryz.func108 (by kernel_rfl)
def i109:i_i 109 an109:=iF Tryz.func109 (by kernel_rfl)
def i110:i_i 110 an110:=iF Tryz.func110 (by kernel_rfl)
def i111:i_i 111 an111:=iF Tryz.func111 (by kernel_rfl)
def i112:i_i 112 an112:=iF Tryz.func112 (by kernel_rfl)
def i113:i_i 113 an113:=iF Tryz.func113 (by kernel_rfl)
def i114:i_i 114 an114:=iF Tryz.func114 (by kernel_rfl)
def i115:i_i 115 an115:=iF Tryz.func115 (by kernel_rfl)
def i124:i_i 124 an124:=iF Tryz.func124 (by kernel_rfl)
def i125:i_i 125 an125:=iF Tryz.func125 (by kernel_rfl)
def i126:i_i 126 an126:=iF Tryz.func126 (by kernel_rfl)
def i127:i_i 127 an127:=iF Tryz.func127 (by kernel_rfl)
def i128:i_i 128 an128:=iF Tryz.func128 (by kernel_rfl)
def i129:i_i 129 an129:=iF Tryz.func129 (by kernel_rfl)
def i130:i_i 130 an130:=iF Tryz.func130 (by kernel_rfl)
def i131:i_i 131 an131:=iF Tryz.func131 (by kernel_rfl)
def i132:i_i 132 an132:=iF Tryz.func132 (by kernel_rfl)
def i133:i_i 133 an133:=iF Tryz.func133 (by kernel_rfl)
def i134:i_i 134 an134:=iF Tryz.func134 (by kernel_rfl)
def i135:i_i 135 an135:=iF Tryz.func135 (by kernel_rfl)
def i141:i_i 141 an141:=iF Tryz.func141 (by kernel_rfl)
def i149:i_i 149 an149:=iF Tryz.func149 (by kernel_rfl)
def i157:i_i 157 an157:=iF Tryz.func157 (by kernel_rfl)
def i158:i_i 158 an158:=iF Tryz.func158 (by kernel_rfl)
def i159:i_i 159 an159:=iF Tryz.func159 (by kernel_rfl)
def i160:i_i 160 an160:=iF Tryz.func160 (by kernel_rfl)
def i161:i_i 161 an161:=iF Tryz.func161 (by kernel_rfl)
def i162:i_i 162 an162:=iF Tryz.func162 (by kernel_rfl)
def i163:i_i 163 an163:=iF Tryz.func163 (by kernel_rfl)
def i164:i_i 164 an164:=iF Tryz.func164 (by kernel_rfl)
def i165:i_i 165 an165:=iF Tryz.func165 (by kernel_rfl)
def i166:i_i 166 an166:=iF Tryz.func166 (by kernel_rfl)
def i167:i_i 167 an167:=iF Tryz.func167 (by kernel_rfl)
def i168:i_i 168 an168:=iF Tryz.func168 (by kernel_rfl)
def i176:i_i 176 an176:=iF Tryz.func176 (by kernel_rfl)
def i177:i_i 177 an177:=iF Tryz.func177 (by kernel_rfl)
def i178:i_i 178 an178:=iF Tryz.func178 (by kernel_rfl)
def i181:i_i 181 an181:=iF Tryz.func181 (by kernel_rfl)
def e3:@f3=e_f 3 an3:=by kernel_rfl
def e11:@f11=e_f 11 an11:=by kernel_rfl
def e17:@f17=e_f 17 an17:=by kernel_rfl
def e19:@f19=e_f 19 an19:=by kernel_rfl
def e21:@f21=e_f 21 an21:=by kernel_rfl
def e27:@f27=e_f 27 an27:=by kernel_rfl
def e42:@f42=e_f 42 an42:=by kernel_rfl
def e44:@f44=e_f 44 an44:=by kernel_rfl
def e47:@f47=e_f 47 an47:=by kernel_rfl
def e50:@f50=e_f 50 an50:=by kernel_rfl
def e63:@f63=e_f 63 an63:=by kernel_rfl
def e68:@f68=e_f 68 an68:=by kernel_rfl
def e74:@f74=e_f 74 an74:=by kernel_rfl
def e78:@f78=e_f 78 an78:=by kernel_rfl
def e83:@f83=e_f 83 an83:=by kernel_rfl
def e91:@f91=e_f 91 an91:=by kernel_rfl
def e99:@f99=e_f 99 an99:=by kernel_rfl
def e107:@f107=e_f 107 an107:=by kernel_rfl
def e113:@f113=e_f 113 an113:=by kernel_rfl
def e115:@f115=e_f 115 an115:=by kernel_rfl
def e129:@f129=e_f 129 an129:=by kernel_rfl
def e158:@f158=e_f 158 an158:=by kernel_rfl
def e166:@f166=e_f 166 an166:=by kernel_rfl
def e168:@f168=e_f 168 an168:=by kernel_rfl
def e177:@f177=e_f 177 an177:=by kernel_rfl
def e4:@f4=e_f 4 an4:=by kernel_rfl
def e12:@f12=e_f 12 an12:=by kernel_rfl
def e13:@f13=e_f 13 an13:=by kernel_rfl
def e20:@f20=e_f 20 an20:=by kernel_rfl
def e30:@f30=e_f 30 an30:=by kernel_rfl
def e34:@f34=e_f 34 an34:=by kernel_rfl
def e37:@f37=e_f 37 an37:=by kernel_rfl
def e39:@f39=e_f 39 an39:=by kernel_rfl
def e45:@f45=e_f 45 an45:=by kernel_rfl
def e49:@f49=e_f 49 an49:=by kernel_rfl
def e62:@f62=e_f 62 an62:=by kernel_rfl
def e69:@f69=e_f 69 an69:=by kernel_rfl
def e71:@f71=e_f 71 an71:=by kernel_rfl
def e79:@f79=e_f 79 an79:=by kernel_rfl
def e90:@f90=e_f 90 an90:=by kernel_rfl
def e92:@f92=e_f 92 an92:=by kernel_rfl
def e93:@f93=e_f 93 an93:=by kernel_rfl
def e95:@f95=e_f 95 an95:=by kernel_rfl
def e108:@f108=e_f 108 an108:=by kernel_rfl
def e114:@f114=e_f 114 an114:=by kernel_rfl
def e134:@f134=e_f 134 an134:=by kernel_rfl
def e149:@f149=e_f 149 an149:=by kernel_rfl
def e164:@f164=e_f 164 an164:=by kernel_rfl
def e8:@f8=e_f 8 an8:=by kernel_rfl
def e9:@f9=e_f 9 an9:=by kernel_rfl
def e23:@f23=e_f 23 an23:=by kernel_rfl
def e25:@f25=e_f 25 an25:=by kernel_rfl
def e26:@f26=e_f 26 an26:=by kernel_rfl
def e29:@f29=e_f 29 an29:=by kernel_rfl
def e32:@f32=e_f 32 an32:=by kernel_rfl
def e38:@f38=e_f 38 an38:=by kernel_rfl
def e48:@f48=e_f 48 an48:=by kernel_rfl
def e59:@f59=e_f 59 an59:=by kernel_rfl
def e70:@f70=e_f 70 an70:=by kernel_rfl
def e75:@f75=e_f 75 an75:=by kernel_rfl
def e81:@f81=e_f 81 an81:=by kernel_rfl
def e84:@f84=e_f 84 an84:=by kernel_rfl
def e96:@f96=e_f 96 an96:=by kernel_rfl
def e101:@f101=e_f 101 an101:=by kernel_rfl
def e102:@f102=e_f 102 an102:=by kernel_rfl
def e106:@f106=e_f 106 an106:=by kernel_rfl
def e111:@f111=e_f 111 an111:=by kernel_rfl
def e124:@f124=e_f 124 an124:=by kernel_rfl
def e130:@f130=e_f 130 an130:=by kernel_rfl
def e135:@f135=e_f 135 an135:=by kernel_rfl
def e178:@f178=e_f 178 an178:=by kernel_rfl
def e10:@f10=e_f 10 an10:=by kernel_rfl
def e14:@f14=e_f 14 an14:=by kernel_rfl
def e15:@f15=e_f 15 an15:=by kernel_rfl
def e16:@f16=e_f 16 an16:=by kernel_rfl
def e18:@f18=e_f 18 an18:=by kernel_rfl
def e28:@f28=e_f 28 an28:=by kernel_rfl
def e33:@f33=e_f 33 an33:=by kernel_rfl
def e35:@f35=e_f 35 an35:=by kernel_rfl
def e36:@f36=e_f 36 an36:=by kernel_rfl
def e43:@f43=e_f 43 an43:=by kernel_rfl
def e52:@f52=e_f 52 an52:=by kernel_rfl
def e54:@f54=e_f 54 an54:=by kernel_rfl
def e55:@f55=e_f 55 an55:=by kernel_rfl
def e57:@f57=e_f 57 an57:=by kernel_rfl
def e58:@f58=e_f 58 an58:=by kernel_rfl
def e61:@f61=e_f 61 an61:=by kernel_rfl
def e67:@f67=e_f 67 an67:=by kernel_rfl
def e73:@f73=e_f 73 an73:=by kernel_rfl
def e80:@f80=e_f 80 an80:=by kernel_rfl
def e86:@f86=e_f 86 an86:=by kernel_rfl
def e87:@f87=e_f 87 an87:=by kernel_rfl
def e89:@f89=e_f 89 an89:=by kernel_rfl
def e103:@f103=e_f 103 an103:=by kernel_rfl
def e126:@f126=e_f 126 an126:=by kernel_rfl
def e127:@f127=e_f 127 an127:=by kernel_rfl
def e157:@f157=e_f 157 an157:=by kernel_rfl
def e163:@f163=e_f 163 an163:=by kernel_rfl
def e5:@f5=e_f 5 an5:=by kernel_rfl
def e22:@f22=e_f 22 an22:=by kernel_rfl
def e31:@f31=e_f 31 an31:=by kernel_rfl
def e41:@f41=e_f 41 an41:=by kernel_rfl
def e46:@f46=e_f 46 an46:=by kernel_rfl
def e53:@f53=e_f 53 an53:=by kernel_rfl
def e65:@f65=e_f 65 an65:=by kernel_rfl
def e66:@f66=e_f 66 an66:=by kernel_rfl
def e77:@f77=e_f 77 an77:=by kernel_rfl
def e82:@f82=e_f 82 an82:=by kernel_rfl
def e94:@f94=e_f 94 an94:=by kernel_rfl
def e98:@f98=e_f 98 an98:=by kernel_rfl
def e100:@f100=e_f 100 an100:=by kernel_rfl
def e105:@f105=e_f 105 an105:=by kernel_rfl
def e109:@f109=e_f 109 an109:=by kernel_rfl
def e110:@f110=e_f 110 an110:=by kernel_rfl
def e112:@f112=e_f 112 an112:=by kernel_rfl
def e125:@f125=e_f 125 an125:=by kernel_rfl
def e132:@f132=e_f 132 an132:=by kernel_rfl
def e133:@f133=e_f 133 an133:=by kernel_rfl
def e159:@f159=e_f 159 an159:=by kernel_rfl
def e160:@f160=e_f 160 an160:=by kernel_rfl
def e165:@f165=e_f 165 an165:=by kernel_rfl
def e167:@f167=e_f 167 an167:=by kernel_rfl
def e176:@f176=e_f 176 an176:=by kernel_rfl
def e6:@f6=e_f 6 an6:=by kernel_rfl
def e7:@f7=e_f 7 an7:=by kernel_rfl
def e24:@f24=e_f 24 an24:=by kernel_rfl
def e40:@f40=e_f 40 an40:=by kernel_rfl
def e51:@f51=e_f 51 an51:=by kernel_rfl
def e56:@f56=e_f 56 an56:=by kernel_rfl
def e60:@f60=e_f 60 an60:=by kernel_rfl
def e64:@f64=e_f 64 an64:=by kernel_rfl
def e72:@f72=e_f 72 an72:=by kernel_rfl
def e76:@f76=e_f 76 an76:=by kernel_rfl
def e85:@f85=e_f 85 an85:=by kernel_rfl
def e88:@f88=e_f 88 an88:=by kernel_rfl
def e97:@f97=e_f 97 an97:=by kernel_rfl
def e104:@f104=e_f 104 an104:=by kernel_rfl
def e128:@f128=e_f 128 an128:=by kernel_rfl
def e131:@f131=e_f 131 an131:=by kernel_rfl
def e141:@f141=e_f 141 an141:=by kernel_rfl
def e161:@f161=e_f 161 an161:=by kernel_rfl
def e162:@f162=e_f 162 an162:=by kernel_rfl
def e181:@f181=e_f 181 an181:=by kernel_rfl
end Go.Am
namespace Go.Am
namespace Sx
def unL(P:TC)(un:TI->DataW Unit->Option (Tl)):List (Nat×TypeId)->List (DataW Unit)->Nat->Option (Tl)
 | [],[],_=>some []
 |(o,t) :: l,d :: ds,off=>match Nat.beq o off,un t d with
  |true,some v=>match Nat.beq v.length (P.cellsOf t),unL P un l ds (off+v.length)with
   |true,some vs=>some (v++vs)
   |_,_=>none
  |_,_=>none
 |_,_,_=>none
def unD(P:TC):Nat->TI->DataW Unit->Option (Tl)
 |0,_,_=>none
 |fu+1,t,d=>match P.underlying t,d with
  |some .bool,.lit (.bool b)=>some [.bool b]
  |some (.int k),.lit (.int _ n)=>some [.int k n]
  |some (.struct fs),.agg ds=>match unL P (unD P fu) (fs.toList.map λf=>(f.offset,f.type)) ds 0 with
   |some vs=>if vs.length=P.cellsOf t then some vs else none
   |none=>none
  |some (.array n e),.agg ds=>match unL P (unD P fu) ((List.range n).map λi=>(i*P.cellsOf e,e)) ds 0 with
   |some vs=>if vs.length=P.cellsOf t then some vs else none
   |none=>none
  |_,_=>none
section
variable {P:TC} {w:World} {base:Nat} {spare:Tx} {held:Bool} {enc:TypeId×Value->Unit}
def seg_ok{un:TI->DataW Unit->Option (Tl)}{fuel:Nat}(hun:∀t d vs,un t d=some vs->∀cs p,DataW.trod enc P w base spare held fuel t cs=some (d,p)->cs=vs){α:Type}(o:α->Nat)(ty:α->TI)(cs:Tl) :
  ∀(l:List α) (xs:List (DataW Unit×List MemPlace)) (off:Nat) (vs:Tl),l.mapM (λa=>DataW.trod enc P w base spare held fuel (ty a) ((cs.drop (o a)).take (P.cellsOf (ty a))))=some xs->
   unL P un (l.map λa=>(o a,ty a)) (xs.map (·.1)) off=some vs->(cs.drop off).take vs.length=vs
 | [],xs,off,vs,h1,h2=>by
  simp only[qc2,qcQ,qar]at h1
  subst h1
  simp only[qbc,unL,qar]at h2
  subst h2
  simp
 |a :: l,xs,off,vs,h1,h2=>by
  rw[qbE]at h1
  obtain⟨x,h3,h1⟩:=qai.1 h1
  obtain⟨ys,h4,h1⟩:=qai.1 h1
  cases h1
  simp only[qat,unL]at h2
  split at h2
  next v e1 e2=>
   split at h2
   next ws e3 e4=>
    cases h2
    have e1:=qac e1
    have e3:=qac e3
    have hv:=hun _ _ _ e2 _ _ h3
    have ih:=seg_ok hun o ty cs l ys _ _ h4 e4
    rw[e1,←e3]at hv
    rw[qaG,qc3,hv,qbD]
    rw[ih]
   ·cases h2
  ·cases h2
def unD_ok:∀(fu:Nat) (t:TI) (d:DataW Unit) (vs:Tl),unD P fu t d=some vs->∀(fuel:Nat) (cs:Tl) (p:List MemPlace),DataW.trod enc P w base spare held fuel t cs=some (d,p)->cs=vs
 |0,_,_,_,h=>by cases h
 |fu+1,t,d,vs,h=>by
  intro fuel cs p hp
  cases fuel with
  |zero=>simp[DataW.trod]at hp
  |succ fuel=>
   have hun:∀t d vs,unD P fu t d=some vs->∀cs p,DataW.trod enc P w base spare held fuel t cs=some (d,p)->cs=vs:=λt d vs h cs p=>unD_ok fu t d vs h fuel cs p
   simp only[unD]at h
   split at h
   next b e=>
    cases h
    simp only[DataW.trod,e]at hp
    split at hp<;>simp_all
   next k k' n e=>
    cases h
    simp only[DataW.trod,e]at hp
    split at hp<;>first|cases hp|skip
    all_goals first
     |(split at hp<;>first|(rename_i hh;simp at hp;obtain⟨⟨rfl,rfl⟩,_⟩:=hp;rw[hh.1];done)|(cases hp;done))
     |simp_all
   next fs ds e=>
    split at h
    next ws e2=>
     split at h
     next e3=>
      cases h
      simp only[DataW.trod,e]at hp
      split at hp
      next e4=>
       obtain⟨xs,h5,h6⟩:=qad.1 hp
       simp only[qca,DataW.agg.injEq]at h6
       rw[←h6.1]at e2
       have:=seg_ok hun (λf:Field=>f.offset) (λf:Field=>f.type) cs _ xs 0 _ h5 e2
       rw[qbq,qaJ (by omega)]at this
       exact this
      ·cases hp
     ·cases h
    ·cases h
   next n el ds e=>
    split at h
    next ws e2=>
     split at h
     next e3=>
      cases h
      simp only[DataW.trod,e]at hp
      split at hp
      next e4=>
       obtain⟨xs,h5,h6⟩:=qad.1 hp
       simp only[qca,DataW.agg.injEq]at h6
       rw[←h6.1]at e2
       have:=seg_ok hun (λi=>i*P.cellsOf el) (λ_=>el) cs _ xs 0 _ h5 e2
       rw[qbq,qaJ (by omega)]at this
       exact this
      ·cases hp
     ·cases h
    ·cases h
   ·cases h
end
section
variable [Val]
def qK [Glo]{W:World}{g:Nat}{vs:Tl}(h0:Nat.blt g gB=true)(h1:vs.all aI=true)(h2:vs.all flat=true)(h:∃c e fr,W.heap[g]?=some (.cells c e fr)/\c.toList=vs) :
  gBlk g<W.heap.size/\vs.all aI=true/\∃c e fr,W.heap[gBlk g]?=some (.cells c e fr)/\bE (λ_=>none) vs c (gOff g):=by
 obtain⟨c,e,fr,h3,h4⟩:=h
 rw[gBlk_lt h0,gOff_lt h0]
 refine⟨(qaz.1 h3).1,h1,c,e,fr,h3,.of_list ?_⟩
 rw[h4]
 exact⟨rfl,λi x y hx hy=>by rw[hx]at hy;cases hy;exact .of_flat (qab.1 h2 x (qaq hx))⟩
end
end Sx
namespace Sx
open Go.ChangeShapes Go.WideShapes Go.ChangeAt Go.WideMaps Go.WideElems Go.RowKit
def kept_of{W W':World}(h1:W'.os=W.os)(h2:W'.output=W.output)(h3:∀b,b<W.heap.size->W'.heap[b]?=W.heap[b]?)(may:MemPlace->Prop):W.keptBut W' may:=by
 refine⟨h1,h2,λi hi=>?_⟩
 rw[h3 i hi]
 exact(World.keptBut_refl W may).2.2 i hi
def nA{P:TC}{w:World}{laid:List (String×DataW Unit)}{ps:List MemPlace}(h:DataW.LaidVars P w laid ps):∀n d,(n,d)∈laid->∀g t fu vs,P.globalNamed n=some g->(P.globals[g]?).map (·.type)=some t->unD P fu t d=some vs->
  ∃c e fr,w.heap[g]?=some (.cells c e fr)/\c.toList=vs:=by
 induction laid generalizing ps with
 |nil=>intro n d h;cases h
 |cons x l ih=>
  obtain⟨n0,d0⟩:=x
  obtain⟨g0,t0,cs,fuel,p,q,a1,a2,a3,a4,a5,a6⟩:=h
  intro n d hm g t fu vs b1 b2 b3
  rcases qap.1 hm with e|hm
  ·cases e
   rw[a1]at b1;cases b1
   rw[a2]at b2;cases b2
   have hc:=unD_ok fu _ _ vs b3 _ _ _ a4
   unfold World.var? at a3
   rw[a1]at a3
   simp only[qag]at a3
   split at a3
   next c ty fr e=>
    cases a3
    exact⟨_,_,_,e,hc⟩
   ·cases a3
  ·exact ih a5 n d hm g t fu vs b1 b2 b3
section
variable [Val] [Kno]
end
end Sx
namespace Sx
section
variable [Val] [Kno]
def condP(b:Bool)(x y:Prop):Prop:=(b=true->x)/\(b=false->y)
abbrev _root_.Tu:=Int->Prop
def ariP(op:BinOp)(k:TF)(a b:Int)(K:Tu):Prop:=
 match op with
 | .add=>K (k.wrap (a+b))
 | .sub=>K (k.wrap (a - b))
 | .mul=>K (k.wrap (a*b))
 | .quo=>b≠0/\K (k.wrap (a.tdiv b))
 | .rem=>b≠0/\K (a.tmod b)
 | .and=>(b=1/\K (a%2))∨(b≠1/\∃n,ou .and k a b n/\K n)
 |op=>∃n,ou op k a b n/\K n
abbrev _root_.To:=Bool->Prop
def cmpP(op:BinOp)(a b:Int)(K:To):Prop:=
 match op with
 | .eql=>K (a==b)
 | .neq=>K (a != b)
 | .lss=>K (decide (a<b))
 | .leq=>K (decide (a<=b))
 | .gtr=>K (decide (a > b))
 | .geq=>K (decide (a ≥ b))
 |_=>False
def optP{α:Type}(o:Option α)(K:α->Prop):Prop:=∃x,o=some x/\K x
def unIP(ls:TB)(K:Int->TB->Prop):Prop:=match ls with | .i n :: r=>K n r|_=>False
def unBP(ls:TB)(K:Bool->TB->Prop):Prop:=match ls with | .b n :: r=>K n r|_=>False
def unVP(ls:TB)(K:Value->TB->Prop):Prop:=match ls with | .v n :: r=>K n r|_=>False
def un0P(ls:TB)(K:Prop):Prop:=match ls with | []=>K|_=>False
def ucIP(k:TF)(ls:Tl)(K:Int->Tl->Prop):Prop:=match ls with | .int k' n :: r=>k=k'/\K n r|_=>False
def ucBP(ls:Tl)(K:Bool->Tl->Prop):Prop:=match ls with | .bool n :: r=>K n r|_=>False
def ucVP(ls:Tl)(K:Value->Tl->Prop):Prop:=match ls with|n :: r=>K n r|_=>False
def uc0P(ls:Tl)(K:Prop):Prop:=match ls with | []=>K|_=>False
def getL(h:Ts):bR:=λi=>h[i]?
abbrev _root_.Te:=List Value->Prop
def peekP(f:Pk)(h:Ts)(K:Te):Prop:=∃cs,f.run (getL h)=some cs/\K cs
def heapP(f:Hp)(h:Ts)(K:Tl->Ts->Prop):Prop:=∃acts cs,f.run (getL h) h.length=some (acts,cs)/\K cs (fk h acts)
def callP(C:Cfg)(Sg:Tc)(g:TJ)(ls:TB)(h:Ts)(K:TB->Ts->Prop):Prop:=∃rs h',aW C Sg g ls h rs h'/\K rs h'
def callvP(C:Cfg)(v:Value)(args:Tl)(hs:TG)(h:Ts)(K:TB->Ts->Prop):Prop:=∃rs h',qe C v args hs h rs h'/\K rs h'
def itP(F:(TB->Ts->Prop)->TB->Ts->Prop)(n:Nat):TB->Ts->Prop:=
 match n with
 |0=>λ_ _=>False
 |n+1=>F (itP F n)
def loopP(F:(TB->Ts->Prop)->TB->Ts->Prop)(ls:TB)(h:Ts):Prop:=∃n,itP F n ls h
def rfunP(C:Cfg)(T:Tt)(κ:Nat)(v:Value)(vals:Tl)(h:Ts)(K:Tk->Ts->Prop):Prop:=
 ∃g first cap r H1 lp,v = .func (.func g) first cap/\
  gD C g (first.toList++[.func (.yield h.length) #[] #[]]++cap.toList) (h++[.loop (lpOf (T κ) κ vals)]) r H1/\
  dG H1 h.length=some lp/\lp.state≠.busy/\K lp.pending (H1.set h.length (.loop { lp with state:=.exhausted }))
def pendP(pd:Tk)(kn kr:Prop)(ks:List (Nat×Prop)):Prop:=
 match pd with
 |none=>kn
 |some .ret=>kr
 |some (.exit id)=>∃x,(id,x)∈ks/\x
 |_=>False
def lp1P(l:Nat)(h:Ts)(K:Ts->Prop):Prop:=∃lp,dG h l=some lp/\lp.state = .ready/\K (h.set l (.loop { lp with state:=.busy }))
def lp2P(l:Nat)(j:Tk)(h:Ts)(K:Ts->Prop):Prop:=∃lp,dG h l=some lp/\K (h.set l (.loop { lp with state:=if j.isNone then .ready else .done,pending:=j }))
def PA(C:Cfg)(Sg:Tc)(T:Tt):Alg Prop (Ts) where
 fail:=False
 cond:=condP
 ari:=ariP
 shf:=λop k a k' b K=>∃n,ShRun op k a k' b n/\K n
 cmp:=cmpP
 eqs:=λl K=>K (bP l)
 conv:=λk a K=>K (k.wrap a)
 sel:=λt a b K=>K (if t then a else b)
 opt:=optP
 chk:=λv K=>aY v=true/\K
 unI:=unIP
 unB:=unBP
 unV:=unVP
 un0:=un0P
 ucI:=ucIP
 ucB:=ucBP
 ucV:=ucVP
 uc0:=uc0P
 peek:=peekP
 heap:=heapP
 new:=λo h K=>K h.length (h++[o])
 call:=callP C Sg
 callv:=callvP C
 join:=λb m=>m b
 loop:=loopP
 rfun:=rfunP C T
 pend:=pendP
 lp1:=lp1P
 lp2:=lp2P
def eO(C:Cfg)(Sg:Tc)(T:Tt):AlgOk (PA C Sg T) C Sg T id id where
 fail:=λh=>h
 cond:=by
  intro b x y h
  cases b
  ·exact .inr ⟨rfl,h.2 rfl⟩
  ·exact .inl ⟨rfl,h.1 rfl⟩
 ari:=by
  intro op k a b K h
  have h:ariP op k a b K:=h
  cases op<;>simp only[ariP]at h
  ·exact⟨_,λP t w=>by simp[binOp,Op.intArith],h⟩
  ·exact⟨_,λP t w=>by simp[binOp,Op.intArith],h⟩
  ·exact⟨_,λP t w=>by simp[binOp,Op.intArith],h⟩
  ·obtain⟨hb,h⟩:=h
   exact⟨_,λP t w=>by simp[binOp,Op.intDiv,hb],h⟩
  ·obtain⟨hb,h⟩:=h
   exact⟨_,λP t w=>by simp[binOp,Op.intDiv,hb],h⟩
  ·rcases h with⟨rfl,h'⟩|⟨_,n,h1,h2⟩
   ·exact⟨_,mn rfl,h'⟩
   ·exact⟨n,h1,h2⟩
  all_goals exact h
 shf:=λop k a k' b K h=>h
 cmp:=by
  intro op a b K h
  have h:cmpP op a b K:=h
  cases op<;>simp only[cmpP]at h<;>exact⟨_,rfl,h⟩
 eqs:=λl K h=>h
 conv:=λk a K h=>h
 sel:=λt a b K h=>h
 opt:=λo K h=>h
 chk:=λv K h=>h
 unI:=by
  intro ls K h
  match ls,h with
  | .i n :: r,h=>exact⟨n,r,rfl,h⟩
 unB:=by
  intro ls K h
  match ls,h with
  | .b n :: r,h=>exact⟨n,r,rfl,h⟩
 unV:=by
  intro ls K h
  match ls,h with
  | .v n :: r,h=>exact⟨n,r,rfl,h⟩
 un0:=by
  intro ls K h
  match ls,h with
  | [],h=>exact⟨rfl,h⟩
 ucI:=by
  intro k ls K h
  match ls,h with
  | .int k' n :: r,h=>
   obtain⟨rfl,h⟩ : k=k'/\K n r:=h
   exact⟨n,r,rfl,h⟩
 ucB:=by
  intro ls K h
  match ls,h with
  | .bool n :: r,h=>exact⟨n,r,rfl,h⟩
 ucV:=by
  intro ls K h
  match ls,h with
  |n :: r,h=>exact⟨n,r,rfl,h⟩
 uc0:=by
  intro ls K h
  match ls,h with
  | [],h=>exact⟨rfl,h⟩
 peek:=λf h K hk=>hk
 heap:=by
  intro f h K hk
  obtain⟨acts,cs,h1,h2⟩:=hk
  exact⟨acts,cs,_,h1,rfl,h2⟩
 new:=λo h K hk=>⟨_,rfl,hk⟩
 call:=λg ls h K hk=>hk
 callv:=λv args hs h K hk=>hk
 join:=λb m h=>h
 loop:=by
  intro F ls h hk
  obtain⟨n,hk⟩:=hk
  exact⟨itP F,λls h=>(id:False->False),λn ls h=>rfl,n,hk⟩
 rfun:=by
  intro κ v vals h K hk
  obtain⟨g,first,cap,r,H1,lp,h1,h2,h3,h4,h5⟩:=hk
  exact⟨g,first,cap,r,H1,lp,_,h1,h2,h3,h4,rfl,h5⟩
 pend:=by
  intro pd kn kr ks h
  have h:pendP pd kn kr ks:=h
  unfold pendP at h
  split at h
  ·exact .inl ⟨rfl,h⟩
  ·exact .inr (.inl ⟨rfl,h⟩)
  ·obtain⟨x,h1,h2⟩:=h
   exact .inr (.inr ⟨_,x,rfl,h1,h2⟩)
  ·exact h.elim
 lp1:=by
  intro l h K hk
  obtain⟨lp,h1,h2,h3⟩:=hk
  exact⟨lp,_,h1,h2,rfl,h3⟩
 lp2:=by
  intro l j h K hk
  obtain⟨lp,h1,h2⟩:=hk
  exact⟨lp,_,h1,rfl,h2⟩
def SL.plain_scalar{l:SL}{k:LK}(h:l.is k=true)(hk:k.plain=true):scalar l.val=true:=by
 cases l<;>cases k<;>first|(cases hk;done)|(cases h;done)|rfl
def jF:∀ {cs:List SL} {ks:TE},aG cs ks=true->ks.all LK.plain=true->(cs.map SL.val).all scalar=true
 | [],[],_,_=>rfl
 |c :: cs,k :: ks,h,hk=>by
  simp only[aG,qaa]at h
  simp only[qbF,qaa]at hk
  simp only[qat,qbF,qaa]
  exact⟨SL.plain_scalar h.1 hk.1,jF h.2 hk.2⟩
 | [],_ :: _,h,_=>by cases h
 |_ :: _,[],h,_=>by cases h
def S0.plain_flat1{x:S0}{k:SK}(h:x.is k=true)(hk:k.plain=true):en x.val=true:=by
 cases x with
 |leaf l=>
  cases k with
  |leaf k=>
   have:=SL.plain_scalar h hk
   show en l.val=true
   cases hv:l.val<;>rw[hv]at this<;>first|exact this|cases this
  |agg _=>cases h
 |agg cs=>
  cases k with
  |leaf k=>cases h
  |agg ks=>exact jF h hk
def iw{v:Value}(h:en v=true):flat v=true:=by
 cases v<;>first|exact h|cases h
def gM:∀ {xs:List S0} {sks:TG},bO xs sks=true->sks.all SK.plain=true->(ai xs).all en=true
 | [],[],_,_=>rfl
 |x :: xs,k :: ks,h,hk=>by
  simp only[bO,qaa]at h
  simp only[qbF,qaa]at hk
  simp only[ai,qat,qbF,qaa]
  exact⟨S0.plain_flat1 h.1 hk.1,gM h.2 hk.2⟩
 | [],_ :: _,h,_=>by cases h
 |_ :: _,[],h,_=>by cases h
def uV{xs:List S0}{sks:TG}(h:bO xs sks=true)(hk:sks.all SK.plain=true):(ai xs).all flat=true:=by
 have:=gM h hk
 rw[qab]at this ⊢
 exact λv hv=>iw (this v hv)
def vD{vs:Tl}(h:vs.all en=true):flat (eM vs)=true:=by
 match vs,h with
 | [],_=>rfl
 | [v],h=>
  simp only[qbF,List.all_nil,qdm]at h
  exact iw h
 |a :: b :: l,h=>
  show flat (.tuple (a :: b :: l).toArray)=true
  simp only[flat,qaa]
  exact⟨by simp,h⟩
end
@[reducible] def KnoC (C:Cfg) (N:Tb) [Val]:Kno:=⟨λf args r=>∀H,eG C f args H r H,λf args H r H'=>(N f=none∨(N f=some (2*args.length+1)/\H'=H))/\eG C f args H r H'⟩
section
variable [Val]
def Ct(C:Cfg)(N:Tb)(Sg:Tc)(g:TJ)(ls rs:TB):Prop:=let _:Kno:=KnoC C N;∀H,aW C Sg g ls H rs H
def rM{C:Cfg}{N:Tb}(hm:C.P.follows .mixedOrders=true){f:TJ}{args:Tl}{H:Ts}{r:Value}{H':Ts}(h:let _:Kno:=KnoC C N;gD C f args H r H'):eG C f args H r H':=
 @uCall_ok _ _ (KnoC C N) hm (λ_ _ _ h=>h) (λ_ _ _ _ _ h=>h.2) _ _ _ _ _ h
def ct_of{C:Cfg}{N:Tb}{Sg:Tc}(hm:C.P.follows .mixedOrders=true)(hG:∀g vs,C.G g=some vs->vs.all gfl=true){g:TJ}{sg:Sig}(hs:Sg g=some sg)(hp:sg.plain=true){ls rs:TB}{H':Ts}
  (h:let _:Kno:=KnoC C N;aW C Sg g ls [] rs H'):Ct C N Sg g ls rs:=by
 let _:Kno:=KnoC C N
 obtain⟨sg',xs,ys,c1,c2,c3,c4⟩:=h
 rw[hs]at c1
 cases c1
 simp only[Sig.plain,qaa]at hp
 have ha:=uV c2.1 hp.1
 have hr:=vD (gM c3.1 hp.2)
 intro H
 exact⟨sg,xs,ys,hs,c2,c3,⟨0,.inl ⟨λH=>frame_ok hG (rM hm c4) ha hr H,rfl⟩⟩⟩
end
section
variable [Val] [Kno]
def cw{n:Int}(h1:-9223372036854775808<=n)(h2:n<=9223372036854775807):IntKind.wrap .i64 n=n:=by
 simp only[IntKind.wrap,IntKind.bits,IntKind.signed,qc1,ge_iff_le,qdn]
 split<;>omega
def pZ{n:Int}(h1:0<=n)(h2:n<=255):IntKind.wrap .u8 n=n:=by
 simp only[IntKind.wrap,IntKind.bits,IntKind.signed,Bool.false_and,qaj,if_false]
 omega
end
end Sx
namespace Sx
section
variable [Val]
end
end Sx
end Go.Am
namespace Go.Am
open Sx
abbrev FB:=List Lf->HTr->(TB->HTr->RT)->RT
def nf:FB:=λ_ _ _=>none
def tell(rs:TB)(_:HTr):RT:=pG rs λrs=>some rs
def memo(g:FB):FB:=λls h K=>pG ls λls=>@Option.rec _ (λ_=>RT) none (λrs=>K rs h) (g ls .empty tell)
def fB{R:Type}(b:Bool)(k:Bool->R):R:=Bool.rec (k false) (k true) b
def flatI(v:Value):Bool:=match v with
 | .int _ _=>true
 | .bool _=>true
 |_=>false
def allR(c:Tr Value)(n:Nat):Bool:=@Nat.rec (λ_=>Bool) true (λi ih=>@Bool.rec (λ_=>Bool) false ih (flatI ((bq i).get nilV c))) n
def ext(h:HTr)(d:RT)(ls:TB):HTr->(TB->HTr->RT)->RT:=
 @List.rec Lf (λ_=>HTr->(TB->HTr->RT)->RT) (λh0 k=>k [] h0) (λx _ ih h0 k=>match x with
  | .i n=>fI n λn=>ih h0 λl h1=>k (.i n :: l) h1
  | .b t=>fB t λt=>ih h0 λl h1=>k (.b t :: l) h1
  | .v v=>match v with
   | .slice (some a) len cx=>match h.at a.block with
    |some (.t n e _ c)=>match tagB a.spot e,allR c n with
     |true,true=>jt h0 (.t n e false c) λh1=>fN a.off λo=>fN len λlen=>fN cx λcx=>ih h1 λl h2=>k (.v (.slice (some ⟨h0.n,o,tag e⟩) len cx) :: l) h2
     |_,_=>d
    |_=>d
   |v=>match flat v with
    |true=>ih h0 λl h1=>k (.v v :: l) h1
    |false=>d) ls
def fx{K K':TB->HTr->RT}(h:∀rs h,K rs h=K' rs h):K=K':=funext λrs=>funext λx=>h rs x
def c2{A B Z:Sort _}{f g:A->B->Z}(h:f=g)(x0:A)(x1:B):f x0 x1=g x0 x1:=by rw[h]
def c3{A B C Z:Sort _}{f g:A->B->C->Z}(h:f=g)(x0:A)(x1:B)(x2:C):f x0 x1 x2=g x0 x1 x2:=by rw[h]
def c4{A B C D Z:Sort _}{f g:A->B->C->D->Z}(h:f=g)(x0:A)(x1:B)(x2:C)(x3:D):f x0 x1 x2 x3=g x0 x1 x2 x3:=by rw[h]
def c5{A B C D E Z:Sort _}{f g:A->B->C->D->E->Z}(h:f=g)(x0:A)(x1:B)(x2:C)(x3:D)(x4:E):f x0 x1 x2 x3 x4=g x0 x1 x2 x3 x4:=by rw[h]
def c6{A B C D E F Z:Sort _}{f g:A->B->C->D->E->F->Z}(h:f=g)(x0:A)(x1:B)(x2:C)(x3:D)(x4:E)(x5:F):f x0 x1 x2 x3 x4 x5=g x0 x1 x2 x3 x4 x5:=by rw[h]
def c7{A B C D E F G Z:Sort _}{f g:A->B->C->D->E->F->G->Z}(h:f=g)(x0:A)(x1:B)(x2:C)(x3:D)(x4:E)(x5:F)(x6:G):f x0 x1 x2 x3 x4 x5 x6=g x0 x1 x2 x3 x4 x5 x6:=by rw[h]
def c8{A B C D E F G H Z:Sort _}{f g:A->B->C->D->E->F->G->H->Z}(h:f=g)(x0:A)(x1:B)(x2:C)(x3:D)(x4:E)(x5:F)(x6:G)(x7:H):f x0 x1 x2 x3 x4 x5 x6 x7=g x0 x1 x2 x3 x4 x5 x6 x7:=by rw[h]
def c9{A B C D E F G H I Z:Sort _}{f g:A->B->C->D->E->F->G->H->I->Z}(h:f=g)(x0:A)(x1:B)(x2:C)(x3:D)(x4:E)(x5:F)(x6:G)(x7:H)(x8:I):f x0 x1 x2 x3 x4 x5 x6 x7 x8=g x0 x1 x2 x3 x4 x5 x6 x7 x8:=by rw[h]
def c10{A B C D E F G H I J Z:Sort _}{f g:A->B->C->D->E->F->G->H->I->J->Z}(h:f=g)(x0:A)(x1:B)(x2:C)(x3:D)(x4:E)(x5:F)(x6:G)(x7:H)(x8:I)(x9:J):f x0 x1 x2 x3 x4 x5 x6 x7 x8 x9=g x0 x1 x2 x3 x4 x5 x6 x7 x8 x9:=by rw[h]
def c11{A B C D E F G H I J K Z:Sort _}{f g:A->B->C->D->E->F->G->H->I->J->K->Z}(h:f=g)(x0:A)(x1:B)(x2:C)(x3:D)(x4:E)(x5:F)(x6:G)(x7:H)(x8:I)(x9:J)(x10:K):f x0 x1 x2 x3 x4 x5 x6 x7 x8 x9 x10=g x0 x1 x2 x3 x4 x5 x6 x7 x8 x9 x10:=by rw[h]
def c15{A B C D E F G H I J K L M N O Z:Sort _}{f g:A->B->C->D->E->F->G->H->I->J->K->L->M->N->O->Z}(h:f=g)(x0:A)(x1:B)(x2:C)(x3:D)(x4:E)(x5:F)(x6:G)(x7:H)(x8:I)(x9:J)(x10:K)(x11:L)(x12:M)(x13:N)(x14:O):f x0 x1 x2 x3 x4 x5 x6 x7 x8 x9 x10 x11 x12 x13 x14=g x0 x1 x2 x3 x4 x5 x6 x7 x8 x9 x10 x11 x12 x13 x14:=by rw[h]
abbrev r0(X:RT)(ls:TB):RT:=@List.rec Lf (λ_=>RT) X (λ_ _ _=>none) ls
def lookF(l:List (Nat×FB))(g:Nat)(d:FB):FB:=@List.rec _ (λ_=>FB) d (λp _ ih=>@Bool.rec (λ_=>FB) ih p.2 (Nat.beq p.1 g)) l
def tblF(l:List (Nat×FB))(c:ac):ac:=λck=>match ck with
 | .f g=>lookF l g (c (.f g))
 | .y κ vs i=>c (.y κ vs i)
section
variable {Sg:Tc} {T:Tt} {call:ac}
end
section
variable [Val] [Kno]
def eqLs(a:TB):TB->Bool:=@List.rec _ (λ_=>TB->Bool) (λb=>@List.rec _ (λ_=>Bool) true (λ_ _ _=>false) b) (λx _ ih b=>@List.rec _ (λ_=>Bool) false (λy m _=>@Bool.rec (λ_=>Bool) false (ih m) (eqLf x y)) b) a
def vi{x y:Lf}(h:eqLf x y=true):x=y:=by
 cases x<;>cases y<;>first|(cases h;done)|skip
 ·have h:eqZK _ _=true:=h
  rw[sa,beq_iff_eq]at h;rw[h]
 next a b=>cases a<;>cases b<;>first|rfl|cases h
def nl:∀ {a b:TB},eqLs a b=true->a=b
 | [],[],_=>rfl
 |x :: a,y :: b,h=>by
  have h:@Bool.rec (λ_=>Bool) false (eqLs a b) (eqLf x y)=true:=h
  cases e:eqLf x y with
  |true=>rw[e]at h;rw[vi e,nl h]
  |false=>rw[e]at h;cases h
 | [],_ :: _,h=>by cases h
 |_ :: _,[],h=>by cases h
abbrev KN1:=Nat×List Lf×List Lf
def rQ(C:Cfg)(Sg:Tc)(T:Tt)(k:Nat)(g:FB):Prop:=∀ls h K w,dB ls->g ls h K=some w->∃rs h',aW C Sg k ls (absH T (toL h)) rs (absH T (toL h'))/\K rs h'=some w
def AllK(C:Cfg)(Sg:Tc)(l:List KN1):Prop:=∀p∈l,∀H,aW C Sg p.1 p.2.1 H p.2.2 H
def AllK.nil{C:Cfg}{Sg:Tc}:AllK C Sg []:=λ_ h=>by cases h
def AllK.cons{C:Cfg}{Sg:Tc}{f:Nat}{ls rs:TB}{l:List KN1}(h:∀H,aW C Sg f ls H rs H)(hl:AllK C Sg l):AllK C Sg ((f,ls,rs) :: l):=by
 intro p hp
 rcases qap.1 hp with rfl|hp
 ·exact h
 ·exact hl p hp
def AllK.app{C:Cfg}{Sg:Tc}{l m:List KN1}(h:AllK C Sg l)(hm:AllK C Sg m):AllK C Sg (l++m):=by
 intro p hp
 rcases qaH.1 hp with hp|hp
 ·exact h p hp
 ·exact hm p hp
def tS{C:Cfg}{Sg:Tc}{T:Tt}{g:Nat}{d:FB}(hd:rQ C Sg T g d):∀ {l:List (Nat×FB)},(∀p∈l,rQ C Sg T p.1 p.2)->rQ C Sg T g (lookF l g d)
 | [],_=>hd
 |p :: l,h=>by
  have e:lookF (p :: l) g d = @Bool.rec (λ_=>FB) (lookF l g d) p.2 (Nat.beq p.1 g):=rfl
  rw[e]
  cases hb:Nat.beq p.1 g with
  |true=>
   have:=qac hb
   subst this
   exact h p qaQ
  |false=>exact tS hd (λq hq=>h q (qao _ hq))
def tblF_ok{C:Cfg}{Sg:Tc}{T:Tt}{c:ac}(hc:CallBOk C Sg T c){l:List (Nat×FB)}(h:∀p∈l,rQ C Sg T p.1 p.2):CallBOk C Sg T (tblF l c):=
 ⟨λg ls hh K w hls hk=>tS (λls h K w=>hc.f g ls h K w) h ls hh K w hls hk,λκ vs l ls h K w st pd xs e hy hk=>hc.y κ vs l ls h K w st pd xs e hy hk⟩
def YOk(C:Cfg)(Sg:Tc)(T:Tt)(κ:Nat)(g:Tl->Nat->FB):Prop:=∀vs l ls h K w st pd xs,h.at l=some (.lp κ st pd vs)->Told ((T κ).params.map (·.2)) ls xs->g vs l ls h K=some w->
  ∃b h',iQ C l (ai xs) (absH T (toL h)) (.bool b) (absH T (toL h'))/\K [.b b] h'=some w
def lookY(l:List (Nat×(Tl->Nat->FB)))(κ:Nat)(d:Tl->Nat->FB):Tl->Nat->FB:=@List.rec _ (λ_=>Tl->Nat->FB) d (λp _ ih=>@Bool.rec (λ_=>Tl->Nat->FB) ih p.2 (Nat.beq p.1 κ)) l
def tT{C:Cfg}{Sg:Tc}{T:Tt}{g:Nat}{d:Tl->Nat->FB}(hd:YOk C Sg T g d):∀ {l:List (Nat×(Tl->Nat->FB))},(∀p∈l,YOk C Sg T p.1 p.2)->YOk C Sg T g (lookY l g d)
 | [],_=>hd
 |p :: l,h=>by
  have e:lookY (p :: l) g d = @Bool.rec (λ_=>Tl->Nat->FB) (lookY l g d) p.2 (Nat.beq p.1 g):=rfl
  rw[e]
  cases hb:Nat.beq p.1 g with
  |true=>
   have:=qac hb
   subst this
   exact h p qaQ
  |false=>exact tT hd (λq hq=>h q (qao _ hq))
def tell_eq:tell=λrs _=>some rs:=by
 funext rs h
 exact dQ rs _
def memo_ok{C:Cfg}{Sg:Tc}{T:Tt}(hpl:∀f sg ls rs H',Sg f=some sg->sg.plain=true->aW C Sg f ls [] rs H'->∀H,aW C Sg f ls H rs H)
  {k:Nat} {g:FB} {sg:Sig} (hg:rQ C Sg T k g) (hs:Sg k=some sg) (hp:sg.plain=true):rQ C Sg T k (memo g):=by
 intro ls h K w hls hk
 unfold memo at hk
 rw[dQ,tell_eq]at hk
 cases e:g ls .empty (λrs _=>some rs)with
 |none=>rw[e]at hk;cases hk
 |some rs=>
  rw[e]at hk
  obtain⟨rs',h',a1,a2⟩:=hg ls .empty _ rs hls e
  cases a2
  exact⟨rs,h,hpl k sg ls rs _ hs hp a1 _,hk⟩
end
end Go.Am
end

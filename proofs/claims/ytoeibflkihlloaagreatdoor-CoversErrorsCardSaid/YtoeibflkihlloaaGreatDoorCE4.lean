/-
  PART 4 OF THE PROOF (no conditions).
-/
import Derived.Test.YtoeibflkihlloaaGreatDoorCE3
import Derived.Calls
import Derived.LaidMore
import Derived.MakeChecks
import Derived.OpenShut
import Derived.ProofKit
import Derived.Stop.Joined
import Derived.Test.YtoeibflkihlloaaGreatDoorRows
import GoSem.ClaimJoined
set_option linter.unusedSectionVars false
set_option linter.unusedSimpArgs false
set_option linter.unusedVariables false
set_option linter.constructorNameAsVariable false
set_option linter.defProp false
noncomputable section
set_option maxRecDepth 100000
namespace Go.Am
namespace Sx
section
variable [Val] [Kno] {R HT:Type} {A:Alg R HT} {X:Ctxt} {Sg:Tb} {holds:R->Prop} {abs:HT->Ts}
def cR(ls:TE):Prop:=∀l∈ls,match l with
 | .v x=>aS x=true
 |_=>True
def xo{xs:List S0}(h:cR (cb xs)):∀x∈xs,x.good:=by
 intro x hx l hl
 have hm:l.lf∈cb xs:=by
  induction xs with
  |nil=>cases hx
  |cons y ys ih=>
   simp only[cb,qau,qaU]
   rcases qal.1 hx with rfl|hx
   ·exact .inl ⟨l,hl,rfl⟩
   ·exact .inr (ih (λl hl=>h l (by simp only[cb,qau];exact .inr hl)) hx)
 have:=h _ hm
 cases l<;>first|trivial|exact this
def pz:∀ {xs:List S0},(∀x∈xs,x.good)->cR (cb xs)
 | [],_,l,hl=>by cases hl
 |x :: xs,h,l,hl=>by
  simp only[cb,qau,qaU]at hl
  rcases hl with⟨c,hc,rfl⟩|hl
  ·have:=h x (by simp) c hc
   cases c<;>first|trivial|exact this
  ·exact pz (λy hy=>h y (by simp[hy])) l hl
def gy{C:Cfg}{T:Tt}(hA:AlgOk A C Sg T holds abs):∀ {cs:List SL} {K:R},holds (chkAll A cs K)->(∀c∈cs,bz c.val=true)/\holds K
 | [],K,h=>⟨by simp,h⟩
 |c :: cs,K,h=>by
  cases c with
  |v x=>
   have h':holds (A.opt (chk2 x) λ_=>chkAll A cs K):=h
   obtain⟨u,hu,h1⟩:=hA.opt _ _ h'
   obtain⟨h2,h3⟩:=gy hA h1
   refine⟨qbv.2 ⟨?_,h2⟩,h3⟩
   unfold chk2 at hu
   split at hu
   ·assumption
   ·cases hu
  |i k n=>obtain⟨h2,h3⟩:=gy (cs:=cs) (K:=K) hA h;exact⟨qbv.2 ⟨rfl,h2⟩,h3⟩
  |b t=>obtain⟨h2,h3⟩:=gy (cs:=cs) (K:=K) hA h;exact⟨qbv.2 ⟨rfl,h2⟩,h3⟩
  |l t=>obtain⟨h2,h3⟩:=gy (cs:=cs) (K:=K) hA h;exact⟨qbv.2 ⟨rfl,h2⟩,h3⟩
def chkRes_ok{C:Cfg}{T:Tt}(hA:AlgOk A C Sg T holds abs){many:Bool}{x:S0}{K:R}(hx:x.good)(h:holds (gf A many x K)):(many=true->aZ x.val=true)/\holds K:=by
 unfold gf at h
 split at h
 next cs=>
  obtain⟨h1,h2⟩:=gy hA h
  refine⟨λ_=>?_,h2⟩
  simp only[S0.val,aZ,qag,qaU]
  rintro _ ⟨c,hc,rfl⟩
  exact h1 c hc
 next hne=>
  refine⟨λhm=>?_,h⟩
  cases x with
  |agg cs=>exact absurd rfl (hne cs hm)
  |leaf l=>exact(dR.1 (SL.val_good (hx l (by simp[S0.cells])))).2.1
def resE_ok(hA:AlgOk A X.C Sg X.T holds abs){ev:Env}{σ:St}{h:HT}(hR:Rp ev σ)(ha:abs h=σ.heap){many:Bool}:∀(rvs:List ResultVar) (sks:TJ) (acc:TE) (K:TE->HT->R),holds (resE A X many ev h rvs sks acc K)->
  ∃ys,bZ ys sks=true/\(∀y∈ys,y.good)/\(many=true->∀y∈ys,aZ y.val=true)/\ys.length=rvs.length/\cO X.C σ rvs=some (ai ys)/\holds (K (acc++cb ys) h)
 | [],sks,acc,K,hk=>by
  cases sks with
  |nil=>
   have hk':holds (K acc h):=hk
   exact⟨[],rfl,by simp,by simp,rfl,rfl,by rw[cb,qa6];exact hk'⟩
  |cons _ _=>exact absurd hk hA.fail
 |rv :: rvs,sks,acc,K,hk=>by
  cases sks with
  |nil=>exact absurd hk hA.fail
  |cons sk sks=>
   have fin:∀x:S0,x.is sk=true->x.good->eJ X.C σ rv=some x.val->holds (gf A many x (resE A X many ev h rvs sks (acc++x.cells.map SL.lf) K))->
     ∃ys,bZ ys (sk :: sks)=true/\(∀y∈ys,y.good)/\(many=true->∀y∈ys,aZ y.val=true)/\ys.length=(rv :: rvs).length/\cO X.C σ (rv :: rvs)=some (ai ys)/\holds (K (acc++cb ys) h):=by
    intro x hx hg hres hk
    obtain⟨h1,h2⟩:=chkRes_ok hA hg hk
    obtain⟨ys,a1,a2,a3,a4,a5,a6⟩:=resE_ok hA hR ha rvs sks _ K h2
    refine⟨x :: ys,by simp[bZ,hx,a1],qbv.2 ⟨hg,a2⟩,λhm=>qbv.2 ⟨h1 hm,a3 hm⟩,by simp[a4],?_,by simpa[cb]using a6⟩
    simp only[cO,hres,a5];rfl
   cases rv with
   |tmp t=>
    have hk':holds (match ev.tm.getD t .no with
     | .st x=>match x.is sk with
      |true=>gf A many x (resE A X many ev h rvs sks (acc++x.cells.map SL.lf) K)
      |false=>A.fail
     |_=>A.fail):=hk
    split at hk'
    next x hx=>
     obtain⟨g1,g2⟩:=hR.at hx (by simp)
     split at hk'
     next his=>
      exact fin x his g2 (by simp[eJ,List.getD_eq_getElem?_getD,g1];rfl) hk'
     ·exact absurd hk' hA.fail
    ·exact absurd hk' hA.fail
   |cell a t=>
    have hk':holds (match (generalizing:=false) aggT X.C.P t with
     |some agg=>
      let n:=if agg then X.C.P.cellsOf t else 1
      match (generalizing:=false) ev.tm.getD a .no with
      | .lad s off=>match (rF ev s).bind (λcs=>(cutS cs off n).bind (mkS0 agg))with
       |some x=>match x.is sk with
        |true=>gf A many x (resE A X many ev h rvs sks (acc++x.cells.map SL.lf) K)
        |false=>A.fail
       |none=>A.fail
      | .st (.leaf (.v p))=>match (generalizing:=false) agg,sk with
       |true,.agg _=>A.peek (.ld n p) h λcs=>ucS A sk cs λx r=>A.uc0 r (gf A many x (resE A X many ev h rvs sks (acc++x.cells.map SL.lf) K))
       |false,.leaf _=>A.peek (.ld n p) h λcs=>ucS A sk cs λx r=>A.uc0 r (gf A many x (resE A X many ev h rvs sks (acc++x.cells.map SL.lf) K))
       |_,_=>A.fail
      |_=>A.fail
     |none=>A.fail):=hk
    clear hk
    split at hk'
    next agg hag=>
     simp only at hk'
     split at hk'
     next s off hl=>
      obtain⟨g1,_⟩:=hR.at hl (by simp)
      split at hk'
      next x hx=>
       obtain⟨cs,hr,hx⟩:=qar.1 hx
       obtain⟨ds,hd,hx⟩:=qar.1 hx
       obtain⟨r1,r2,_⟩:=jG hR hr
       obtain⟨c1,c2⟩:=mM hd
       obtain⟨v,v1,v2⟩:=cN hag c1
       obtain⟨m1,m2⟩:=nu hx
       split at hk'
       next his=>
        have hv:x.val=v:=by
         rcases m2 with⟨a1,a2⟩|⟨a1,a2⟩<;>rcases v2 with⟨b1,b2⟩|⟨b1,b2⟩
         ·rw[a2,b2]
         ·rw[a1]at b1;cases b1
         ·rw[a1]at b1;cases b1
         ·rw[a2]at b2;simpa using b2
        refine fin x his (λl hl=>?_) ?_ hk'
        ·rw[m1]at hl;exact r2 l (c2 l hl)
        ·simp only[eJ,List.getD_eq_getElem?_getD,g1,qby,SV.val,r1,v1,hv]
       ·exact absurd hk' hA.fail
      ·exact absurd hk' hA.fail
     next p hl=>
      obtain⟨g1,_⟩:=hR.at hl (by simp)
      have common:agg=iW sk->holds (A.peek (.ld (if agg then X.C.P.cellsOf t else 1) p) h λcs=>ucS A sk cs λx r=>A.uc0 r (gf A many x (resE A X many ev h rvs sks (acc++x.cells.map SL.lf) K)))->
        ∃ys,bZ ys (sk :: sks)=true/\(∀y∈ys,y.good)/\(many=true->∀y∈ys,aZ y.val=true)/\ys.length=(ResultVar.cell a t :: rvs).length/\cO X.C σ (.cell a t :: rvs)=some (ai ys)/\holds (K (acc++cb ys) h):=by
       intro hsk hk
       obtain⟨cs,h2,hk1⟩:=hA.peek _ _ _ hk
       simp only[Pk.run]at h2
       rw[ha]at h2
       obtain⟨id,off,vs,rfl,h3,h4⟩:=ldP_ok h2
       rw[so]at h3
       obtain⟨v,h5,h6⟩:=cN hag h4
       rw[hsk]at h6
       obtain⟨x,r,q1,q2,q3,hk2⟩:=od hA hk1
       obtain⟨hr,hk3⟩:=hA.uc0 _ _ hk2
       rw[hr,qa6]at q1
       rw[q1]at h6
       refine fin x q2 q3 ?_ hk3
       rw[pA q2 h6]
       simp only[eJ,List.getD_eq_getElem?_getD,g1,qby,SV.val,S0.val,SL.val,h3,qak,h5]
      split at hk'
      ·exact common rfl hk'
      ·exact common rfl hk'
      ·exact absurd hk' hA.fail
     ·exact absurd hk' hA.fail
    ·exact absurd hk' hA.fail
structure FnIs(X:Ctxt)(Sg:Tb)(f:TN)(fn:Fn1):Prop where
 is:∃g,X.C.P.funcs[f]?=some g/\g.body=some (er X fn.code)/\((g.name == "runtime.NumGoroutine")||X.C.opq f)=false/\g.ntmps=fn.nt/\g.results.toList=fn.rvs
 pts:X.pts=X.C.pts f
 sg:Sg f=some fn.sg
def uN{ys:List S0}(hg:∀y∈ys,y.good)(hm:1<ys.length->∀y∈ys,aZ y.val=true):noLoc (fz (ai ys))=true:=by
 match ys with
 | []=>rfl
 | [y]=>exact S0.noLoc (hg y (by simp))
 |a :: b :: l=>
  have h:=hm (by simp)
  have e:fz (ai (a :: b :: l)) = .tuple (ai (a :: b :: l)).toArray:=rfl
  rw[e]
  simp only[Am.noLoc,qag]
  intro v hv
  simp only[ai,qaU]at hv
  obtain⟨y,hy,rfl⟩:=hv
  exact h y hy
def kZ:∀ {a:List S0} {sks:TJ},bZ a sks=true->a.length=sks.length
 | [],[],_=>rfl
 |x :: a,k :: sks,h=>by
  simp only[bZ,qaa]at h
  simp[kZ h.2]
 | [],_ :: _,h=>by cases h
 |_ :: _,[],h=>by cases h
def start_rp{xs:List S0}(hg:∀x∈xs,x.good)(nt:Nat)(H:Ts) :
  Rp ⟨xs.map .st++List.replicate (nt - xs.length) .no,List.replicate nt .nil⟩ { tmps:=ai xs++List.replicate (nt - (ai xs).length) undef,loc:=List.replicate nt none,heap:=H }:=by
 refine⟨by simp[ai],λi s hs=>?_,by simp,λi r hr=>?_⟩
 ·rw[qcZ]at hs
  split at hs
  next hi=>
   simp only[qay]at hi
   simp only[qaz,qad]at hs
   obtain⟨x,hx,rfl⟩:=hs
   refine⟨?_,hg x (qab hx)⟩
   rw[qah (by simpa[ai]using hi)]
   simp[ai,hx,SV.val]
  ·rw[qa1]at hs
   split at hs
   ·cases hs;trivial
   ·cases hs
 ·simp only[qa1]at hr
  split at hr
  ·rename_i hi;cases hr
   simp[LR.ok,hi]
  ·cases hr
def qK(hA:AlgOk A X.C Sg X.T holds abs){dr:Dr}
  (hdr:Sx.DrOk X.C dr)
  {f:TN} {fn:Fn1} (hf:FnIs X Sg f fn) {ls:TE} {h:HT} {K:TE->HT->R} (hls:cR ls) (hk:holds (aF A X Sg dr fn ls h K)) :
  ∃rs h',aw X.C Sg f ls (abs h) rs (abs h')/\cR rs/\holds (K rs h'):=by
 obtain⟨g,f1,f2,f3,f4,f5⟩:=hf.is
 obtain⟨xs,r,e1,e2,hk1⟩:=oe hA hk
 obtain⟨hr,hk2⟩:=hA.un0 _ _ hk1
 rw[hr,qa6]at e1
 subst e1
 have hg:=xo hls
 have hR:=start_rp hg fn.nt (abs h)
 obtain⟨e,σ',ev',h',q1,q2,q3,_,q5⟩:=uv hA hdr fn.code _ h _ _ _ hR rfl hk2
 have main:(e = .normal∨e = .ret)->holds (resE A X (Nat.blt 1 fn.rvs.length) ev' h' fn.rvs fn.sg.rs [] K)->∃rs h',aw X.C Sg f (cb xs) (abs h) rs (abs h')/\cR rs/\holds (K rs h'):=by
  intro he hk
  obtain⟨ys,a1,a2,a3,a4,a5,a6⟩:=resE_ok hA q2 q3 fn.rvs fn.sg.rs [] K hk
  rw[qa3]at a6
  refine⟨cb ys,h',⟨fn.sg,xs,ys,hf.sg,⟨e2,rfl,hg⟩,⟨a1,rfl,a2⟩,?_⟩,pz a2,a6⟩
  rw[q3]
  refine iy.intro f1 f2 f3 ?_ he (by rw[f5];exact a5) (uN a2 λhl=>a3 (by rw[qbd];omega))
  rw[hf.pts]at q1
  simpa[ll,f4]using q1
 rcases q5 with⟨rfl,q5⟩|⟨q5,q6⟩
 ·exact main (.inl rfl) q5
 ·cases e with
  |ret=>exact main (.inr rfl) q6
  |_=>exact absurd q6 hA.fail
def mw:∀(caps:List (Nat×SK)) (xs:List S0) (tm:List SV) (tmps:Tl),tm.length=tmps.length->(∀x∈xs,x.good)->(∀(i:Nat) s,tm[i]?=some s->s.ok tmps i)->
  (eT 0 caps xs tm).length=tm.length/\∀(i:Nat) s,(eT 0 caps xs tm)[i]?=some s->s.ok (cH (caps.map (·.1)) (ai xs) tmps) i
 | [],xs,tm,tmps,_,_,h=>⟨by simp[eT],by simpa[eT,cH]using h⟩
 |(t,sk) :: caps,[],tm,tmps,_,_,h=>⟨by simp[eT],by simpa[eT,cH,ai]using h⟩
 |(t,sk) :: caps,x :: xs,tm,tmps,hl,hg,h=>by
  have:=mw caps xs (tm.set t (.st x)) (tmps.set t x.val) (by simp[hl]) (λy hy=>hg y (by simp[hy])) (λi s hs=>?_)
  ·simpa[eT,cH,ai]using this
  ·simp only[qa2]at hs
   split at hs
   next hi=>
    subst hi
    split at hs
    next hlt=>
     cases hs
     exact⟨by rw[qaH (by omega)];rfl,hg x (by simp)⟩
    ·cases hs
   next hi=>
    have:=h i s hs
    cases s<;>first|trivial|exact⟨by rw[qaA hi];exact this.1,this.2⟩
def gt(nt nt':Nat):∀(caps:List (Nat×SK)) (xs:List S0) (tm:List SV),eT nt caps xs tm=eT nt' caps xs tm
 | [],_,_=>rfl
 |_ :: _,[],_=>rfl
 |(t,_) :: caps,x :: xs,tm=>gt nt nt' caps xs _
def lj(nt:Nat):∀(caps:List (Nat×SK)) (vs tm:Tl),ot nt caps vs tm=cH (caps.map (·.1)) vs tm
 | [],_,_=>by simp[ot,cH]
 |_ :: _,[],_=>by simp[ot,cH]
 |(t,_) :: caps,v :: vs,tm=>by simp only[ot,qas,cH];exact lj nt caps vs _
def pD{T T':Nat->Tmp->Code}:∀ {c:AC},noRF c=true->c.erase T=c.erase T':=by
 intro c
 induction c with
 |seq a b iha ihb=>intro h;simp only[noRF,qaa]at h;simp only[AC.erase,iha h.1,ihb h.2]
 |scope b ih=>intro h;simp only[AC.erase,ih h]
 |cond c a b j iha ihb=>intro h;simp only[noRF,qaa]at h;simp only[AC.erase,iha h.1,ihb h.2]
 |block id b j ih=>intro h;simp only[AC.erase,ih h]
 |loop b lv ih=>intro h;simp only[AC.erase,ih h]
 |rangeFunc f κ ids=>intro h;cases h
 |_=>intro _;rfl
def sZ:∀ {caps:List (Nat×SK)} {xs:List S0},qY caps=true->bZ xs (caps.map (·.2))=true->lT xs=ai xs
 | [],[],_,_=>rfl
 |p :: caps,x :: xs,h1,h2=>by
  simp only[qY,qbW,qaa]at h1
  simp only[qas,bZ,qaa]at h2
  have ih:=sZ (caps:=caps) h1.2 h2.2
  obtain⟨t,sk⟩:=p
  cases sk with
  |agg ks=>cases h1.1
  |leaf k=>
   cases x with
   |agg _=>cases h2.1
   |leaf l=>
    simp only[lT,qbz,ai,qas]at ih ⊢
    rw[ih];rfl
 | [],_ :: _,_,h=>by cases h
 |_ :: _,[],_,h=>by cases h
def execY_ok(hA:AlgOk A X.C Sg X.T holds abs){dr:Dr}
  (hdr:Sx.DrOk X.C dr)
  {st:Site} {vs:Tl} {l:Nat} {ls:TE} {h:HT} {K:TE->HT->R} {lp:ALoop} {ys:List S0} (h1:ed (abs h) l=some lp) (h2:lp.tmps=ot st.nt st.caps vs (List.replicate st.nt poison))
  (h3:lp.params=st.params.map (·.1)) (h4:lp.assign=st.assign.erase pE) (h5:lp.body=st.body.erase pE) (hy:Told (st.params.map (·.2)) ls ys)
  (hk:holds (xh A X Sg dr st vs l ls h K)):∃b h',jM X.C l (ai ys) (abs h) (.bool b) (abs h')/\holds (K [.b b] h'):=by
 unfold xh at hk
 split at hk
 ·exact absurd hk hA.fail
 next hc=>
  simp only[qaa]at hc
  obtain⟨⟨c1,c2⟩,c3⟩:=hc
  obtain⟨xs,r,e1,e2,e3,hk1⟩:=ucSs_ok hA hk
  obtain⟨hr,hk2⟩:=hA.uc0 _ _ hk1
  rw[hr,qa6,sZ c1 e2]at e1
  subst e1
  obtain⟨zs,r',d1,d2,hk3⟩:=oe hA hk2
  obtain⟨hr',hk4⟩:=hA.un0 _ _ hk3
  rw[hr',qa6]at d1
  obtain⟨y1,y2,y3⟩:=hy
  obtain⟨w1,w2⟩:=cF y1 d2 (y2.trans d1)
  have hzg:=w2 y3
  let X':Ctxt:={ X with pts:=[] }
  let σ₀:St:={ tmps:=cH lp.params (ai ys) lp.tmps,loc:=[],heap:=abs h }
  have hR:Rp ⟨eT st.nt st.params zs (eT st.nt st.caps xs (List.replicate st.nt .no)),[]⟩ σ₀:=by
   have a1:=mw st.caps xs (List.replicate st.nt .no) (List.replicate st.nt poison) (by simp) e3 (λi s hs=>by
    rw[qa1]at hs;split at hs
    ·cases hs;trivial
    ·cases hs)
   have plen:∀(ts:List Tmp) (vs tm:Tl),(cH ts vs tm).length=tm.length:=by
    intro ts
    induction ts with
    |nil=>intro vs tm;simp[cH]
    |cons t ts ih=>intro vs tm;cases vs with
     |nil=>simp[cH]
     |cons v vs=>simp[cH,ih]
   have a2:=mw st.params zs _ _ (by rw[a1.1,plen];simp) hzg a1.2
   have etm:σ₀.tmps=cH (st.params.map (·.1)) (ai zs) (cH (st.caps.map (·.1)) (ai xs) (List.replicate st.nt poison)):=by
    show cH lp.params (ai ys) lp.tmps=_
    rw[h3,h2,lj,w1]
   refine⟨?_,λi s hs=>?_,rfl,λi r hr=>by simp at hr⟩
   ·rw[etm,plen,plen,gt st.nt 0,gt st.nt 0,a2.1,a1.1];simp
   ·rw[gt st.nt 0,gt st.nt 0]at hs
    rw[etm]
    exact a2.2 i s hs
  obtain⟨e,σ₁,ev₁,h₁,q1,q2,q3,_,q5⟩:=uv (X:=X') hA hdr st.assign _ h σ₀ _ _ hR rfl hk4
  rcases q5 with⟨rfl,q5⟩|⟨_,q5⟩
  ·obtain⟨lp₁,h₂,p1,p2,p3,q6⟩:=hA.lp1 _ _ _ q5
   rw[q3]at p1 p3
   obtain⟨e,σ₂,ev₂,h₃,s1,s2,s3,_,s5⟩:=uv (X:=X') hA hdr st.body ev₁ h₂ { σ₁ with heap:=σ₁.heap.set l (.loop { lp₁ with state:=.busy }) } _ _ (q2.heap _) p3 q6
   have u1:uEx X.C [] lp.assign { tmps:=cH lp.params (ai ys) lp.tmps,loc:=[],heap:=abs h } .normal σ₁:=by
    rw[h4,pD (T':=λκ t=>fc (X.T κ) t) c2];exact q1
   have u2:uEx X.C [] lp.body { σ₁ with heap:=σ₁.heap.set l (.loop { lp₁ with state:=.busy }) } e σ₂:=by
    rw[h5,pD (T':=λκ t=>fc (X.T κ) t) c3];exact s1
   have hlen:(ai ys).length=lp.params.length:=by
    rw[h3]
    have:=kZ y1
    simpa[ai]using this
   have fin:∀(j:Tk) (b:Bool),jumpOf e=some j->b=j.isNone->holds (A.lp2 l j h₃ λh=>K [.b b] h)->∃b h',jM X.C l (ai ys) (abs h) (.bool b) (abs h')/\holds (K [.b b] h'):=by
    intro j b hj hb hk
    obtain⟨lp₂,h₄,z1,z2,z3⟩:=hA.lp2 _ _ _ _ hk
    rw[s3]at z1 z2
    refine⟨b,h₄,?_,z3⟩
    rw[z2,hb]
    exact jM.intro h1 hlen u1 p1 p2 u2 hj z1
   rcases s5 with⟨rfl,s5⟩|⟨s5,s6⟩
   ·exact fin none true rfl rfl s5
   ·cases e with
    |ret=>exact fin (some .ret) false rfl rfl s6
    |exit id=>exact fin (some (.exit id)) false rfl rfl s6
    |_=>exact absurd s6 hA.fail
  ·exact absurd q5 hA.fail
end
end Sx
namespace Sx
section
variable {P:TF}
def ba_refl(a:ByteArray):(a==a)=true:=by
 cases a with|mk d=>show(d==d)=true;simp
def ba_eq{a b:ByteArray}(h:(a==b)=true):a=b:=by
 cases a with|mk d=>cases b with|mk e=>have h:(d==e)=true:=h;simp at h;rw[h]
def tO{d:TypeDesc}{k x:Value}{b:Bool}(h:Instr.sameNow d k x=some b):Instr.sameNow d k k=some true:=by
 unfold Instr.sameNow at h
 split at h
 ·simp[Instr.sameNow]
 ·simp[Instr.sameNow,ba_refl]
 ·simp[Instr.sameNow]
 ·cases h
def pF{d:TypeDesc}{k:Value}:∀(l l':Th) (i:Nat),Instr.findNow d k l i=some none->Instr.findNow d k (l++l') i=Instr.findNow d k l' (i+l.length)
 | [],l',i,h=>rfl
 |e :: l,l',i,h=>by
  unfold Instr.findNow at h
  split at h
  ·cases h
  next e1=>
   show(match Instr.sameNow d k e.key with|some true=>some (some (i,e.val))|some false=>Instr.findNow d k (l++l') (i+1)|none=>none)=_
   rw[e1]
   simp only
   rw[pF l l' (i+1) h,qaD]
   congr 1;omega
  ·cases h
def vT{d:TypeDesc}{k:Value}:∀(l l':Th) (i:Nat),Instr.findNow d k l i=none->Instr.findNow d k (l++l') i=none
 | [],l',i,h=>by cases h
 |e :: l,l',i,h=>by
  unfold Instr.findNow at h
  show(match Instr.sameNow d k e.key with|some true=>some (some (i,e.val))|some false=>Instr.findNow d k (l++l') (i+1)|none=>none)=none
  split at h
  ·cases h
  next e1=>rw[e1];exact vT l l' (i+1) h
  next e1=>rw[e1]
def oK{kt:TM}{k:Value}:∀(l l':Th) (i:Nat),pev P (Instr.findAsking kt k l i)=some none->pev P (Instr.findAsking kt k (l++l') i)=pev P (Instr.findAsking kt k l' (i+l.length))
 | [],l',i,h=>rfl
 |e :: l,l',i,h=>by
  unfold Instr.findAsking at h
  rw[aM]at h
  show pev P (Op.equal kt k e.key >>= λb=>if b then pure (some (i,e.val))else Instr.findAsking kt k (l++l') (i+1))=_
  rw[aM]
  cases hq:pev P (Op.equal kt k e.key)with
  |none=>rw[hq]at h;cases h
  |some b=>
   rw[hq]at h
   simp only[qak]at h ⊢
   cases b with
   |true=>cases h
   |false=>
    simp only[qao,if_false]at h ⊢
    rw[oK l l' (i+1) h,qaD]
    congr 2;omega
def ask_one{kt:TM}{k v:Value}{b i:Nat}(h:pev P (Op.equal kt k k)=some true):pev P (Instr.findAsking kt k [⟨k,v,b⟩] i)=some (some (i,v)):=by
 show pev P (Op.equal kt k k >>= λb=>if b then pure (some (i,v))else Instr.findAsking kt k [] (i+1))=_
 rw[aM,h]
 rfl
def xk{kt:TM}{k:Value}{es:Th}{e:MapEntry}(he:e.key=k)(hs:pev P (Op.equal kt k k)=some true)(h:jo P kt k es=some none):jo P kt k (es++[e])=some (some es.length):=by
 unfold jo at h ⊢
 obtain⟨r,h1,h2⟩:=qad.1 h
 have hr:r=none:=by cases r with|none=>rfl|some p=>cases h2
 subst hr
 unfold Instr.findKey at h1 ⊢
 rw[aM]at h1 ⊢
 cases hd:pev P (underlying kt)with
 |none=>rw[hd]at h1;cases h1
 |some d=>
  rw[hd]at h1
  simp only[qak]at h1 ⊢
  rw[qbB]
  have hb:[e].map be=[⟨k,undef,0⟩]:=by simp[be,he]
  rw[hb]
  cases hn:Instr.findNow d k (es.map be) 0 with
  |some r=>
   rw[hn]at h1
   simp only[fm,qaq]at h1
   subst h1
   rw[pF _ _ _ hn,qaL,qay]
   cases hq:Instr.sameNow d k k with
   |some b=>
    have:=tO hq
    have e1:Instr.findNow d k [⟨k,undef,0⟩] es.length=some (some (es.length,undef)):=by
     unfold Instr.findNow
     rw[this]
    rw[e1]
    rfl
   |none=>
    have e1:Instr.findNow d k [⟨k,undef,0⟩] es.length=none:=by
     unfold Instr.findNow
     rw[hq]
    rw[e1]
    simp only
    cases es with
    |nil=>rw[qbk,qa3,ask_one hs];rfl
    |cons a l=>
     exfalso
     simp only[qas]at hn
     unfold Instr.findNow at hn
     split at hn
     ·cases hn
     next e2=>
      rw[tO e2]at hq
      cases hq
     ·cases hn
  |none=>
   rw[hn]at h1
   simp only at h1
   rw[vT _ _ _ hn]
   simp only
   rw[oK _ _ _ h1,qaL,qay,ask_one hs]
   rfl
def mq{x y:Value}{n:Nat}(hy:scalar y=true)(h:Instr.sameBits n x y=true):x=y:=by
 cases y<;>simp only[scalar,qao]at hy<;>cases x<;>cases n<;>first|(simp_all [Instr.sameBits];done)|(rw[ba_eq (show _=true from h)])
def sh{n:Nat}:∀ {l m:Tl},l.length=m.length->m.all scalar=true->((l.zip m).all λp=>Instr.sameBits n p.1 p.2)=true->l=m
 | [],[],_,_,_=>rfl
 |a :: l,b :: m,hl,hm,h=>by
  simp only[qbW,qaa]at hm
  simp only[qcK,qbW,qaa]at h
  rw[mq hm.1 h.1,sh (by simpa using hl) hm.2 h.2]
 | [],_ :: _,hl,_,_=>by cases hl
 |_ :: _,[],hl,_,_=>by cases hl
def bits_flat{x y:Value}(hy:eO y=true)(h:Instr.sameBits 10000 x y=true):x=y:=by
 cases y with
 |agg b=>
  cases x with
  |agg a=>
   have h:(a.size==b.size&&(a.toList.zip b.toList).all λ(x,y)=>Instr.sameBits 9999 x y)=true:=h
   simp only[qaa,beq_iff_eq]at h
   congr 1
   exact qa7.1 (sh (n:=9999) (by simpa using h.1) hy h.2)
  |_=>cases h
 |_=>exact mq hy h
def nz{α:Type}{f:α->α}:∀(l:List α) (i:Nat) (a:α),l[i]?=some a->f a=a->l.modify i f=l
 | [],i,a,h,_=>by cases h
 |x :: l,0,a,h,hf=>by
  simp only[qaR,qaq]at h
  subst h
  simp[List.modify,hf]
 |x :: l,i+1,a,h,hf=>by
  simp only[qbf]at h
  have:=nz l i a h hf
  simp[List.modify_succ_cons,this]
def set_same{α:Type}:∀(l:List α) (i:Nat) (a:α),l[i]?=some a->l.set i a=l
 | [],i,a,h=>by cases h
 |x :: l,0,a,h=>by simp at h;simp[h]
 |x :: l,i+1,a,h=>by simp[set_same l i a (by simpa using h)]
def tn{C:Cfg}{t:TM}{m k v r:Value}{H H':Ts}(h:cp C t m k H=some (H',r))(hl:cD C t m k false H=some v):cD C t m k false H'=some v:=by
 unfold cp at h
 split at h
 next kt et id hu=>
  split at h
  ·cases h
  next hko=>
   have hko:eP C.P kt k=true:=by simpa using hko
   have hko':=hko
   simp only[eP,qaa]at hko'
   have hs:pev C.P (Op.equal kt k k)=some true:=by
    have:=hko'.2
    cases hq:pev C.P (Op.equal kt k k)with
    |none=>rw[hq]at this;cases this
    |some b=>rw[hq]at this;simp at this;rw[this]
   split at h
   ·cases h
   next es c hm=>
    have hid:H[id]?=some (.map es c):=by
     unfold hmap at hm
     split at hm
     next e=>cases hm;exact e
     ·cases hm
    have hlt:id<H.length:=by
     rcases qaQ id H.length with h|h
     ·exact h
     ·rw[qaj h]at hid;cases hid
    split at h
    ·cases h
    next hf=>
     split at h
     ·cases h
     next z hz=>
      cases h
      unfold cD at hl ⊢
      rw[hu]at hl ⊢
      simp only[hko,qaI,qao,if_false,hz,hm,hf]at hl ⊢
      have hm':hmap (H.set id (.map (es++[{ key:=k,val:=z,born:=c }]) (c+1))) id=some (es++[{ key:=k,val:=z,born:=c }],c+1):=by
       unfold hmap
       rw[qaH hlt]
      rw[hm']
      simp only
      rw[xk (e:={ key:=k,val:=z,born:=c }) rfl hs hf]
      simp only[dy,qan (qaf _),qbu,qaR,qaC]
      exact hl
    next i hf=>
     split at h
     ·cases h
     next e he=>
      split at h
      next hb=>
       cases h
       have hk:e.key=k:=bits_flat hko'.1.1.1 hb
       have:es.modify i (λe=>{ e with key:=k })=es:=nz es i e he (by rw[←hk])
       rw[this,set_same H id _ hid]
       exact hl
      ·cases h
 ·cases h
end
end Sx
namespace Sx
inductive MC where
 |no
 |row (s:Nat) (w:Bool)
 |hr
 |hw
 |neu (f:TN)
abbrev _root_.Tc:=FuncId->Option Nat
def az(N:Tc)(pts:TB)(o:Oper):Option MC:=
 match o.op with
 | .move _ | .assign _ | .pick _ _ _ | .build _ _ | .nilCheck _ | .unOp _ _ _ | .convert _ _ _ | .fieldAddr _ _ _ | .field _ _ _ | .indexAddr _ _ _ | .index _ _ _ | .extract _ _=>some .no
 | .binOp _ _ _ _ _=>some .no
 | .makeFunc _ _ _=>some .no
 | .load _ a=>match lI pts a with
  |0=>some .hr
  |1=>some .no
  |s+2=>some (.row s false)
 | .store _ a _=>match lI pts a with
  |0=>some .hw
  |1=>none
  |s+2=>some (.row s true)
 | .alloc _ | .box _ _=>match o.dst with
  |some d=>if pts.getD d 0=d+2 then some (.row d true)else some .hw
  |none=>none
 | .buildSlice _ _ _ | .makeMap _ _ | .makeSlice _ _ _ | .mapUpdate _ _ _ _ | .mapEntry _ _ _ | .entryStore _ _ _ _ | .insert _ _ _ _=>some .hw
 | .lookup _ _ _ _ | .slice _ _ _ _ _=>some .hr
 | .call c=>match c.callee with
  | .builtin b=>match b with
   | .append | .copy | .delete | .clear=>some .hw
   | .len=>some .hr
   | .cap | .min | .max=>some .no
   |_=>none
  | .value f=>match f with
   | .func g=>some (if N g=some (2*c.args.size)then .neu g else if N g=some (2*c.args.size+1)then .hr else .hw)
   |_=>some .hw
  |_=>none
 |_=>none
def bA(ops:Tm)(o:Oper):TB:=
 (o.op.operands.toList.filterMap λx=>match x with
  | .tmp t=>some t
  |_=>none) ++
 match o.guard with
 |some (j,_)=>((ops[j]?).bind (·.dst)).toList
 |none=>[]
section
variable [Val]
def execOp_congr{ρ ρ':Tf}{o:Oper}(N:Tc)(pts:TB)(hm:az N pts o≠none)(h:∀x∈o.op.operands.toList,ρ x=ρ' x):execOp ρ o=execOp ρ' o:=by
 obtain⟨dst,op,ty,pos,after,guard⟩:=o
 have arr:∀ {xs:Array Operand},(∀x∈xs.toList,ρ x=ρ' x)->xs.map ρ=xs.map ρ':=by
  intro xs hx
  apply qa7.1
  rw[qbw,qbw]
  exact qbF hx
 have prt:∀ {xs:Array (Nat×Operand)},(∀x∈xs.toList.map (·.2),ρ x=ρ' x)->(xs.map λ(i,x)=>(i,ρ x))=(xs.map λ(i,x)=>(i,ρ' x)):=by
  intro xs hx
  apply qa7.1
  rw[qbw,qbw]
  refine qbF λp hp=>?_
  show(p.1,ρ p.2)=(p.1,ρ' p.2)
  rw[hx p.2 (qaU.2 ⟨p,hp,rfl⟩)]
 have opt:∀ {r:Tg},(∀x∈r.toArray.toList,ρ x=ρ' x)->r.map ρ=r.map ρ':=by
  intro r hx
  cases r with
  |none=>rfl
  |some y=>simp[hx y (by simp)]
 cases op<;>simp only[az,ne_eq,not_true_eq_false,not_false_eq_true,reduceCtorEq]at hm<;>simp only[Op.operands]at h
 case move x=>simp only[execOp,h x (by simp)]
 case assign x=>simp only[execOp,h x (by simp)]
 case pick c a b=>simp only[execOp,h c (by simp),h a (by simp),h b (by simp)]
 case alloc t=>rfl
 case box t x=>simp only[execOp,h x (by simp)]
 case build t ps=>simp only[execOp,prt (by simpa using h)]
 case buildSlice t n ps=>simp only[execOp,prt (by simpa using h)]
 case load t a=>simp only[execOp,h a (by simp)]
 case store t a x=>simp only[execOp,h a (by simp),h x (by simp)]
 case nilCheck x=>simp only[execOp,h x (by simp)]
 case binOp op t x y yt=>simp only[execOp,h x (by simp),h y (by simp)]
 case unOp op t x=>simp only[execOp,h x (by simp)]
 case convert s d x=>simp only[execOp,h x (by simp)]
 case makeFunc fn a b=>simp only[execOp,arr (λx hx=>h x (by simp;exact .inl (by simpa using hx))),arr (λx hx=>h x (by simp;exact .inr (by simpa using hx)))]
 case makeMap t r=>simp only[execOp,opt h]
 case makeSlice t a b=>simp only[execOp,h a (by simp),h b (by simp)]
 case slice t x a b c=>
  simp only[qbR,qau]at h
  simp only[execOp,h x (by simp),opt (λy hy=>h y (.inl (.inl (.inr hy)))),opt (λy hy=>h y (.inl (.inr hy))),opt (λy hy=>h y (.inr hy))]
 case fieldAddr t x f=>simp only[execOp,h x (by simp)]
 case field t x f=>simp only[execOp,h x (by simp)]
 case indexAddr t x i=>simp only[execOp,h x (by simp),h i (by simp)]
 case index t x i=>simp only[execOp,h x (by simp),h i (by simp)]
 case lookup t x i ok=>simp only[execOp,h x (by simp),h i (by simp)]
 case mapUpdate t m k v=>simp only[execOp,h m (by simp),h k (by simp),h v (by simp)]
 case insert t m k v=>simp only[execOp,h m (by simp),h k (by simp),h v (by simp)]
 case mapEntry t m k=>simp only[execOp,h m (by simp),h k (by simp)]
 case entryStore t m s v=>simp only[execOp,h m (by simp),h s (by simp),h v (by simp)]
 case extract t i=>simp only[execOp,h t (by simp)]
 case call c=>
  have hres:resolve ρ c ty=resolve ρ' c ty:=by
   unfold resolve
   simp only[Call.operands,qbR,qau]at h
   rw[arr (λx hx=>h x (.inr hx))]
   cases hc:c.callee with
   |builtin b=>rfl
   |value f=>simp only[hc]at h ⊢;rw[h f (.inl (by simp))]
   |invoke r m=>simp only[hc]at h ⊢;rw[h r (.inl (by simp))]
  simp only[execOp,hres]
def iM{C:Cfg}{ρ ρ':Tf}{o:Oper}(N:Tc)(pts:TB)(hm:az N pts o≠none)(h:∀x∈o.op.operands.toList,ρ x=ρ' x):am C pts ρ o=am C pts ρ' o:=by
 have hx:=execOp_congr N pts hm h
 have hall:∀(f:Value->Bool),(o.op.operands.toList.all λx=>f (ρ x))=(o.op.operands.toList.all λx=>f (ρ' x)):=by
  intro f
  rw[qbM,qag,qag]
  exact⟨λg x hx=>by rw[←h x hx];exact g x hx,λg x hx=>by rw[h x hx];exact g x hx⟩
 have hp:cu C ρ o=cu C ρ' o:=by
  unfold cu
  rw[hall flat,hx]
 have opt:∀ {r:Tg},(∀x∈r.toArray.toList,ρ x=ρ' x)->r.map ρ=r.map ρ':=by
  intro r hx
  cases r with
  |none=>rfl
  |some y=>simp[hx y (by simp)]
 have prt:∀ {xs:Array (Nat×Operand)},(∀x∈xs.toList.map (·.2),ρ x=ρ' x)->(xs.toList.map λp=>(p.1,ρ p.2))=(xs.toList.map λp=>(p.1,ρ' p.2)):=by
  intro xs hx
  refine qbF λp hp=>?_
  rw[hx p.2 (qaU.2 ⟨p,hp,rfl⟩)]
 have pal:∀(f:Value->Bool) {xs:Array (Nat×Operand)},(∀x∈xs.toList.map (·.2),ρ x=ρ' x)->(xs.toList.all λp=>f (ρ p.2))=(xs.toList.all λp=>f (ρ' p.2)):=by
  intro f xs hx
  rw[qbM,qag,qag]
  have hh:∀p∈xs.toList,ρ p.2=ρ' p.2:=λp hp=>hx p.2 (qaU.2 ⟨p,hp,rfl⟩)
  exact⟨λg p hp=>by rw[←hh p hp];exact g p hp,λg p hp=>by rw[hh p hp];exact g p hp⟩
 obtain⟨dst,op,ty,pos,after,guard⟩:=o
 cases op<;>simp only[az,ne_eq,not_true_eq_false,not_false_eq_true,reduceCtorEq]at hm<;>simp only[Op.operands]at h
 case move x=>simp only[am,h x (by simp)]
 case assign x=>simp only[am,h x (by simp)]
 case pick c a b=>simp only[am,h c (by simp),h a (by simp),h b (by simp)]
 case alloc t=>rfl
 case box t x=>simp only[am,h x (by simp)]
 case build t ps=>simp only[am,prt (by simpa using h),pal (λv=>!aI v) (by simpa using h)]
 case buildSlice t n ps=>simp only[am,prt (by simpa using h),pal (λv=>v.cells.toList.all aU) (by simpa using h)]
 case load t a=>simp only[am,h a (by simp)]
 case store t a x=>simp only[am,h a (by simp),h x (by simp)]
 case nilCheck x=>simp only[am,h x (by simp)]
 case binOp op t x y yt=>simp only[am,h x (by simp),h y (by simp),hp]
 case unOp op t x=>simp only[am,hp]
 case convert s d x=>simp only[am,hp]
 case makeFunc fn a b=>
  have e1:a.map ρ=a.map ρ':=qa7.1 (by rw[qbw,qbw];exact qbF λx hx=>h x (by simp;exact .inl (by simpa using hx)))
  have e2:b.map ρ=b.map ρ':=qa7.1 (by rw[qbw,qbw];exact qbF λx hx=>h x (by simp;exact .inr (by simpa using hx)))
  simp only[am,e1,e2]
 case makeMap t r=>simp only[am,opt h]
 case makeSlice t a b=>simp only[am,h a (by simp),h b (by simp)]
 case slice t x a b c=>
  simp only[qbR,qau]at h
  simp only[am,h x (by simp),opt (λy hy=>h y (.inl (.inl (.inr hy)))),opt (λy hy=>h y (.inl (.inr hy))),opt (λy hy=>h y (.inr hy)),hp]
 case fieldAddr t x f=>simp only[am,h x (by simp)]
 case field t x f=>simp only[am,h x (by simp)]
 case indexAddr t x i=>simp only[am,h x (by simp),h i (by simp)]
 case index t x i=>simp only[am,h x (by simp),h i (by simp)]
 case lookup t x i ok=>simp only[am,h x (by simp),h i (by simp)]
 case mapUpdate t m k v=>simp only[am,h m (by simp),h k (by simp),h v (by simp)]
 case insert t m k v=>simp only[am,h m (by simp),h k (by simp),h v (by simp)]
 case mapEntry t m k=>simp only[am,h m (by simp),h k (by simp)]
 case entryStore t m s v=>simp only[am,h m (by simp),h s (by simp),h v (by simp)]
 case extract t i=>simp only[am,h t (by simp)]
 case call c=>
  simp only[Call.operands,qbR,qau]at h
  have e1:c.args.toList.map ρ=c.args.toList.map ρ':=qbF λx hx=>h x (.inr hx)
  have e2:∀b,aW C ρ b (c.args.toList.map ρ) c.argTypes ⟨dst,.call c,ty,pos,after,guard⟩=aW C ρ' b (c.args.toList.map ρ') c.argTypes ⟨dst,.call c,ty,pos,after,guard⟩:=by
   intro b
   unfold aW
   rw[e1,hp]
  simp only[am,fH]
  cases hc:c.callee with
  |builtin b=>exact e2 b
  |value f=>simp only[hc]at h ⊢;rw[e1,h f (.inl (by simp))]
  |invoke r m=>rfl
structure Ef where
 v:Value
 rw:Option (Nat×Option (Tl))
 hp:Option (Ts)
def Ef.on(e:Ef)(dst:To)(σ:St):St:=
 ({ tmps:=σ.tmps,loc:=(match e.rw with|some p=>σ.loc.set p.1 p.2|none=>σ.loc),heap:=e.hp.getD σ.heap }:St).put dst e.v
def Sees(N:Tc)(pts:TB)(ops:Tm)(o:Oper)(σ τ:St):Prop:=
 (∀t∈bA ops o,τ.tmps[t]?=σ.tmps[t]?)/\match az N pts o with
 |some (.row s _)=>τ.loc[s]?=σ.loc[s]?
 |some .hr=>τ.heap=σ.heap
 |some .hw=>τ.heap=σ.heap
 |_=>True
def NeuB(N:Tc)(B:Below):Prop:=(∀f args H r H',N f=some (2*args.length)->B.call f args H r H'->H'=H/\∀H2,B.call f args H2 r H2)/\
 ∀f args H r H',N f=some (2*args.length+1)->B.call f args H r H'->H'=H
def tZ(m:Option MC)(e:Ef):Prop:=
 (∀p,e.rw=some p->m=some (.row p.1 true))/\(e.hp≠none->m=some .hw)
def kK{σ τ:St}{x:TH}(h:∀t,x = .tmp t->τ.tmps[t]?=σ.tmps[t]?):oval τ.tmps x=oval σ.tmps x:=by
 cases x with
 |tmp t=>simp[oval,List.getD_eq_getElem?_getD,h t rfl]
 |_=>rfl
def wv{N:Tc}{pts:TB}{ops:Tm}{o:Oper}{σ τ:St}(h:Sees N pts ops o σ τ):∀x∈o.op.operands.toList,oval τ.tmps x=oval σ.tmps x:=by
 intro x hx
 refine kK λt ht=>h.1 t ?_
 subst ht
 simp only[bA,qau,qbE]
 exact .inl ⟨.tmp t,hx,rfl⟩
def lF{N:Tc}{pts:TB}{ops:Tm}{o:Oper}{σ τ:St}(h:Sees N pts ops o σ τ):cg ops τ.tmps o=cg ops σ.tmps o:=by
 unfold cg
 split
 ·rfl
 next j want hg=>
  cases hd:(ops[j]?).bind (·.dst)with
  |none=>rfl
  |some d=>
   simp only[qak]
   rw[h.1 d (by simp[bA,hg,hd])]
def Fits(N:Tc)(m:Option MC):Eff->Prop
 | .val _=>True
 | .lnew s _=>m=some (.row s true)
 | .lget s _=>m=some (.row s false)
 | .lset s _=>m=some (.row s true)
 | .hget _=>m=some .hr
 | .hop _=>m=some .hw
 | .call f args=>(m=some (.neu f)/\N f=some (2*args.length))∨(m=some .hr/\N f=some (2*args.length+1))∨m=some .hw
 | .yield _ _=>m=some .hw
def ea{N:Tc}{m:Option MC}{x:Ti}{e:Eff}(h:x.map Eff.val=some e):Fits N m e:=by
 obtain⟨v,_,rfl⟩:=qad.1 h
 trivial
def dP{C:Cfg}{ρ:Tf}{o:Oper}{N:Tc}{m:Option MC}{e:Eff}(h:cu C ρ o=some e):Fits N m e:=by
 unfold cu at h
 split at h
 ·split at h
  ·split at h
   ·cases h;trivial
   ·cases h
  ·cases h
 ·cases h
def fits_or{N:Tc}{m:Option MC}{a:Ti}{b:Option Eff}{e:Eff}(hb:b=some e->Fits N m e)(h:nG a b=some e):Fits N m e:=by
 unfold nG at h
 split at h
 ·cases h;trivial
 ·exact hb h
def mY{C:Cfg}{N:Tc}{pts:TB}{o:Oper}{t:TM}{v:Value}{e:Eff}(ho:(∃y,o.op = .box t y)∨o.op = .alloc t)(h:cr C pts o.dst t v=some e):Fits N (az N pts o) e:=by
 unfold cr at h
 split at h
 ·cases h
 ·split at h
  ·cases h
  next d hd=>
   split at h
   ·cases h
   ·split at h
    next hp=>
     cases h
     rcases ho with⟨y,ho⟩|ho<;>(simp only[Fits,az,ho,hd];rw[qdD hp])
    next hp=>
     cases h
     rcases ho with⟨y,ho⟩|ho<;>(simp only[Fits,az,ho,hd];rw[qdE hp])
def gK{C:Cfg}{N:Tc}{pts:TB}{ρ:Tf}{o:Oper}{e:Eff}(hρ:∀g,ρ (.func g) = .func (.func g) #[] #[])(hm:az N pts o≠none)(he:am C pts ρ o=some e):Fits N (az N pts o) e:=by
 unfold am at he
 split at he
 ·cases he;trivial
 ·cases he;trivial
 ·split at he
  ·cases he;trivial
  ·cases he
 next t ho=>
  obtain⟨z,_,he⟩:=qar.1 he
  exact mY (.inr ho) he
 next t x ho=>
  exact mY (.inl ⟨x,ho⟩) he
 ·split at he
  ·exact ea he
  ·cases he
 next t n ps ho=>
  split at he
  ·obtain⟨r,_,rfl⟩:=qad.1 he
   simp only[Fits,az,ho]
  ·cases he
 next t a ho=>
  unfold dJ at he
  split at he
  next hk=>
   split at he
   ·cases he
    simp only[Fits,az,ho,hk]
   ·obtain⟨p,_,rfl⟩:=qad.1 he
    simp only[Fits,az,ho,hk]
  ·obtain⟨p,_,he⟩:=qar.1 he
   exact ea he
  next s hk=>
   obtain⟨p,_,rfl⟩:=qad.1 he
   simp only[Fits,az,ho,hk]
 next t a x ho=>
  unfold em at he
  split at he
  ·cases he
  ·split at he
   next hk=>
    obtain⟨p,_,rfl⟩:=qad.1 he
    simp only[Fits,az,ho,hk]
   ·cases he
   next s hk=>
    obtain⟨p,_,rfl⟩:=qad.1 he
    simp only[Fits,az,ho,hk]
 ·split at he<;>cases he<;>trivial
 ·split at he
  ·split at he
   ·split at he
    ·cases he;trivial
    ·cases he
   ·exact dP he
  ·split at he
   ·split at he
    ·cases he;trivial
    ·cases he
   ·exact dP he
  ·exact dP he
 ·split at he
  ·cases he
  ·cases he;trivial
 next t r ho=>
  split at he
  ·cases he;simp only[Fits,az,ho]
  ·cases he
 next t l c ho=>
  cases he;simp only[Fits,az,ho]
 next t x lo hi mx ho=>
  split at he
  ·split at he
   ·exact ea he
   ·cases he;simp only[Fits,az,ho]
  ·exact fits_or dP he
 ·exact ea he
 ·exact ea he
 ·exact ea he
 ·exact ea he
 next t m k ok ho=>
  split at he
  ·exact ea he
  ·cases he;simp only[Fits,az,ho]
 next t m k v ho=>
  cases he;simp only[Fits,az,ho]
 next t m k v ho=>
  cases he;simp only[Fits,az,ho]
 next t m k ho=>
  cases he;simp only[Fits,az,ho]
 next t m s v ho=>
  cases he;simp only[Fits,az,ho]
 ·split at he
  ·split at he
   ·cases he
   ·exact ea he
  ·cases he
 next c ho=>
  unfold fH at he
  simp only at he
  cases hc:c.callee with
  |invoke r m=>simp only[hc]at he;cases he
  |builtin b=>
   simp only[hc]at he
   unfold aW at he
   split at he
   ·split at he
    ·cases he
    ·cases he;simp only[Fits,az,ho,hc]
   ·split at he
    ·cases he;trivial
    ·cases he;simp only[Fits,az,ho,hc]
    ·cases he;trivial
    ·exact dP he
   ·split at he
    ·cases he;trivial
    ·cases he;trivial
    ·cases he;trivial
    ·cases he
   ·cases he;simp only[Fits,az,ho,hc]
   ·cases he;simp only[Fits,az,ho,hc]
   ·cases he;simp only[Fits,az,ho,hc]
   ·exact dP he
  |value f=>
   simp only[hc]at he
   split at he
   ·cases he
   ·split at he
    next g first cap hf=>
     split at he
     ·cases he
      cases f with
      |func g'=>
       rw[hρ]at hf
       cases hf
       simp only[az,ho,hc,Fits]
       by_cases hN:N g=some (2*c.args.size)
       ·rw[qdD hN];exact .inl ⟨rfl,by rw[hN];simp⟩
       ·rw[qdE hN]
        by_cases hN2:N g=some (2*c.args.size+1)
        ·rw[qdD hN2];exact .inr (.inl ⟨rfl,by rw[hN2];simp⟩)
        ·rw[qdE hN2];exact .inr (.inr rfl)
      |_=>simp only[Fits,az,ho,hc,or_true]
     ·cases he
    next l first cap hf=>
     split at he
     ·cases he
      cases f with
      |func g'=>rw[hρ]at hf;cases hf
      |_=>simp only[Fits,az,ho,hc]
     ·cases he
    ·cases he
 ·exact dP he
 ·exact dP he
 ·cases he
def fR{C:Cfg}{B:Below}{N:Tc}(hN:NeuB N B){pts:TB}{ops:Tm}{i:Nat}{o:Oper}(hi:ops[i]?=some o)(hm:az N pts o≠none){σ σ':St}(hs:aj C B pts ops i σ σ') :
  ∃e:Ef,σ'=e.on o.dst σ/\tZ (az N pts o) e/\∀τ,Sees N pts ops o σ τ->aj C B pts ops i τ (e.on o.dst τ):=by
 unfold aj at hs
 simp only[hi]at hs
 have val:∀v:Value,σ'=σ.put o.dst v->(∀τ,Sees N pts ops o σ τ->aj C B pts ops i τ (τ.put o.dst v))->
   ∃e:Ef,σ'=e.on o.dst σ/\tZ (az N pts o) e/\∀τ,Sees N pts ops o σ τ->aj C B pts ops i τ (e.on o.dst τ):=by
  intro v hv h
  exact⟨⟨v,none,none⟩,hv,⟨λp hp=>(by cases hp),λh=>absurd rfl h⟩,h⟩
 split at hs
 ·exact hs.elim
 next hw=>
  refine val undef hs λτ hτ=>?_
  unfold aj
  simp only[hi,lF hτ,hw]
 next hw=>
  have step:∀ {τ τ':St},Sees N pts ops o σ τ->((∃e,am C pts (oval τ.tmps) o=some e/\jj B e o.dst τ τ')∨(∃v,iH C τ.tmps o v/\τ'=τ.put o.dst v))->aj C B pts ops i τ τ':=by
   intro τ τ' hτ h
   unfold aj
   simp only[hi,lF hτ,hw]
   exact h
  rcases hs with⟨e,he,hr⟩|⟨v,hv,rfl⟩
  ·have heτ:∀τ,Sees N pts ops o σ τ->am C pts (oval τ.tmps) o=some e:=λτ hτ=>by
    rw[iM N pts hm (wv hτ)];exact he
   cases e with
   |val v=>
    obtain⟨p,hp,rfl⟩:=hr
    cases hp
    exact val v rfl λτ hτ=>step hτ (.inl ⟨_,heτ τ hτ,_,rfl,rfl⟩)
   |lnew s vs=>
    obtain⟨p,hp,rfl⟩:=hr
    simp only[aQ]at hp
    split at hp
    next hloc=>
     cases hp
     have hclass:az N pts o=some (.row s true):=gK (λ_=>rfl) hm he
     refine⟨⟨.pointer (some ⟨s,0,some 0⟩),some (s,some vs),none⟩,rfl,⟨λp hp=>by cases hp;exact hclass,λh=>absurd rfl h⟩,λτ hτ=>step hτ (.inl ⟨_,heτ τ hτ,({ τ with loc:=τ.loc.set s (some vs) },.pointer (some ⟨s,0,some 0⟩)),?_,rfl⟩)⟩
     have:=hτ.2
     rw[hclass]at this
     simp only[aQ,this,hloc]
    ·cases hp
   |lget s f=>
    obtain⟨p,hp,rfl⟩:=hr
    simp only[aQ]at hp
    split at hp
    next vs hloc=>
     obtain⟨v,hv,rfl⟩:=qad.1 hp
     have hclass:az N pts o=some (.row s false):=gK (λ_=>rfl) hm he
     refine val v rfl λτ hτ=>step hτ (.inl ⟨_,heτ τ hτ,(τ,v),?_,rfl⟩)
     have:=hτ.2
     rw[hclass]at this
     simp only[aQ,this,hloc,hv,qaC]
    ·cases hp
   |lset s f=>
    obtain⟨p,hp,rfl⟩:=hr
    simp only[aQ]at hp
    split at hp
    next vs hloc=>
     obtain⟨vs',hv,rfl⟩:=qad.1 hp
     have hclass:az N pts o=some (.row s true):=gK (λ_=>rfl) hm he
     refine⟨⟨undef,some (s,some vs'),none⟩,rfl,⟨λp hp=>by cases hp;exact hclass,λh=>absurd rfl h⟩,λτ hτ=>step hτ (.inl ⟨_,heτ τ hτ,({ τ with loc:=τ.loc.set s (some vs') },undef),?_,rfl⟩)⟩
     have:=hτ.2
     rw[hclass]at this
     simp only[aQ,this,hloc,hv,qaC]
    ·cases hp
   |hget f=>
    obtain⟨p,hp,rfl⟩:=hr
    simp only[aQ]at hp
    obtain⟨v,hv,rfl⟩:=qad.1 hp
    have hclass:az N pts o=some .hr:=gK (λ_=>rfl) hm he
    refine val v rfl λτ hτ=>step hτ (.inl ⟨_,heτ τ hτ,(τ,v),?_,rfl⟩)
    have:=hτ.2
    rw[hclass]at this
    simp only[aQ,this,hv,qaC]
   |hop f=>
    obtain⟨p,hp,rfl⟩:=hr
    simp only[aQ]at hp
    obtain⟨q,hv,rfl⟩:=qad.1 hp
    have hclass:az N pts o=some .hw:=gK (λ_=>rfl) hm he
    refine⟨⟨q.2,none,some q.1⟩,rfl,⟨λp hp=>(by cases hp),λ_=>hclass⟩,λτ hτ=>step hτ (.inl ⟨_,heτ τ hτ,({ τ with heap:=q.1 },q.2),?_,rfl⟩)⟩
    have:=hτ.2
    rw[hclass]at this
    simp only[aQ,this,hv,qaC]
   |call f args=>
    obtain⟨r,H,hc,rfl⟩:=hr
    have hclass:(az N pts o=some (.neu f)/\N f=some (2*args.length))∨(az N pts o=some .hr/\N f=some (2*args.length+1))∨az N pts o=some .hw:=gK (λ_=>rfl) hm he
    rcases hclass with⟨hclass,hf⟩|⟨hclass,hf⟩|hclass
    ·obtain⟨rfl,h2⟩:=hN.1 f args _ r H hf hc
     exact val r rfl λτ hτ=>step hτ (.inl ⟨_,heτ τ hτ,r,τ.heap,h2 τ.heap,rfl⟩)
    ·obtain rfl:=hN.2 f args _ r H hf hc
     refine val r rfl λτ hτ=>step hτ (.inl ⟨_,heτ τ hτ,r,τ.heap,?_,rfl⟩)
     have:=hτ.2
     rw[hclass]at this
     rw[this];exact hc
    ·refine⟨⟨r,none,some H⟩,rfl,⟨λp hp=>(by cases hp),λ_=>hclass⟩,λτ hτ=>step hτ (.inl ⟨_,heτ τ hτ,r,H,?_,rfl⟩)⟩
     have:=hτ.2
     rw[hclass]at this
     rw[this];exact hc
   |yield l args=>
    obtain⟨r,H,hc,rfl⟩:=hr
    have hclass:az N pts o=some .hw:=gK (λ_=>rfl) hm he
    refine⟨⟨r,none,some H⟩,rfl,⟨λp hp=>(by cases hp),λ_=>hclass⟩,λτ hτ=>step hτ (.inl ⟨_,heτ τ hτ,r,H,?_,rfl⟩)⟩
    have:=hτ.2
    rw[hclass]at this
    rw[this];exact hc
  ·refine val v rfl λτ hτ=>step hτ (.inr ⟨v,?_,rfl⟩)
   obtain⟨h1,h2,h3,h4⟩:=hv
   have hops:=wv hτ
   refine⟨h1,?_,h3,λw=>?_⟩
   ·rw[qag]at h2 ⊢
    intro x hx
    rw[hops x hx];exact h2 x hx
   ·rw[execOp_congr N pts hm (ρ':=λx=>den (oval σ.tmps x)) λx hx=>by rw[hops x hx]]
    exact h4 w
def MC.ok2:MC->MC->Bool
 | .no,_=>true
 |_,.no=>true
 | .row s w,.row s' w'=>!Nat.beq s s'||(!w && !w')
 | .row _ _,_=>true
 |_,.row _ _=>true
 | .neu _,_=>true
 |_,.neu _=>true
 | .hr,.hr=>true
 |_,_=>false
def bL(d:To)(l:TB):Bool:=match d with
 |some d=>!l.contains d
 |none=>true
def bN(a b:To):Bool:=match a,b with
 |some a,some b=>!Nat.beq a b
 |_,_=>true
def xb(N:Tc)(pts:TB)(ops:Tm)(a b:Oper):Bool:=
 match az N pts a,az N pts b with
 |some m,some n=>(m.ok2 n||fp a b)&&bL a.dst (bA ops b)&&bL b.dst (bA ops a)&&bN a.dst b.dst
 |_,_=>false
def kN{σ:St}{d:To}{v:Value}{t:Nat}(h:∀x,d=some x->x≠t):(σ.put d v).tmps[t]?=σ.tmps[t]?:=by
 cases d with
 |none=>rfl
 |some x=>simp only[St.put];rw[qaA (h x rfl)]
def ry{σ:St}{d:To}{v:Value}:(σ.put d v).loc=σ.loc:=by cases d<;>rfl
def eh{σ:St}{d:To}{v:Value}:(σ.put d v).heap=σ.heap:=by cases d<;>rfl
def rz{σ:St}{d:To}{v:Value}:(σ.put d v).tmps=(match d with|some d=>σ.tmps.set d v|none=>σ.tmps):=by cases d<;>rfl
def rm{e:Ef}{d:To}{σ:St}:(e.on d σ).tmps=(match d with|some d=>σ.tmps.set d e.v|none=>σ.tmps):=by unfold Ef.on;rw[rz]
def on_loc{e:Ef}{d:To}{σ:St}:(e.on d σ).loc=(match e.rw with|some p=>σ.loc.set p.1 p.2|none=>σ.loc):=by unfold Ef.on;rw[ry]
def iS{e:Ef}{d:To}{σ:St}:(e.on d σ).heap=e.hp.getD σ.heap:=by unfold Ef.on;rw[eh]
def wM{N:Tc}{pts:TB}{ops:Tm}{a b:Oper}{m n:MC}(ha:az N pts a=some m)(hb:az N pts b=some n)(hok:m.ok2 n=true∨n.ok2 m=true)
  (hd:bL a.dst (bA ops b)=true) {e:Ef} (ht:tZ (az N pts a) e) (σ:St):Sees N pts ops b σ (e.on a.dst σ):=by
 refine⟨λt hr=>?_,?_⟩
 ·unfold Ef.on
  refine kN λx hx he=>?_
  subst he
  rw[hx]at hd
  simp only[bL,qb1,qci,decide_eq_false_iff_not]at hd
  exact hd hr
 ·rw[ha]at ht
  rw[hb]
  cases n with
  |no=>trivial
  |neu f=>trivial
  |row s w=>
   show(e.on a.dst σ).loc[s]?=_
   rw[on_loc]
   cases hrw:e.rw with
   |none=>rfl
   |some p=>
    have hm:=ht.1 p hrw
    cases hm
    have:p.1≠s:=by
     intro he
     subst he
     rcases hok with h|h<;>simp[MC.ok2]at h
    show(σ.loc.set p.1 p.2)[s]?=_
    rw[qaA this]
  |hr=>
   show(e.on a.dst σ).heap=_
   rw[iS]
   cases hh:e.hp with
   |none=>rfl
   |some H=>
    have hm:=ht.2 (by rw[hh];simp)
    cases hm
    rcases hok with h|h<;>cases h
  |hw=>
   show(e.on a.dst σ).heap=_
   rw[iS]
   cases hh:e.hp with
   |none=>rfl
   |some H=>
    have hm:=ht.2 (by rw[hh];simp)
    cases hm
    rcases hok with h|h<;>cases h
def set_comm{α:Type}(l:List α){i j:Nat}(a b:α)(h:i≠j):(l.set i a).set j b=(l.set j b).set i a:=List.set_comm _ _ h
def on_comm{N:Tc}{pts:TB}{a b:Oper}{m n:MC}(ha:az N pts a=some m)(hb:az N pts b=some n)(hok:m.ok2 n=true)(hd:bN a.dst b.dst=true){e f:Ef}
  (ht:tZ (az N pts a) e) (hu:tZ (az N pts b) f) (σ:St):f.on b.dst (e.on a.dst σ)=e.on a.dst (f.on b.dst σ):=by
 have h1:(f.on b.dst (e.on a.dst σ)).tmps=(e.on a.dst (f.on b.dst σ)).tmps:=by
  simp only[rm]
  cases hx:a.dst with
  |none=>rfl
  |some x=>
   cases hy:b.dst with
   |none=>rfl
   |some y=>
    rw[hx,hy]at hd
    have:x≠y:=by
     intro he;subst he;simp[bN]at hd
    exact set_comm _ _ _ this
 have h2:(f.on b.dst (e.on a.dst σ)).loc=(e.on a.dst (f.on b.dst σ)).loc:=by
  simp only[on_loc]
  cases hx:e.rw with
  |none=>rfl
  |some p=>
   cases hy:f.rw with
   |none=>rfl
   |some q=>
    have e1:=ht.1 p hx
    have e2:=hu.1 q hy
    rw[ha]at e1
    rw[hb]at e2
    cases e1;cases e2
    have:p.1≠q.1:=by
     intro he
     rw[he]at hok
     simp[MC.ok2]at hok
    exact set_comm _ _ _ this
 have h3:(f.on b.dst (e.on a.dst σ)).heap=(e.on a.dst (f.on b.dst σ)).heap:=by
  simp only[iS]
  cases hx:e.hp with
  |none=>rfl
  |some p=>
   cases hy:f.hp with
   |none=>rfl
   |some q=>
    have e1:=ht.2 (by rw[hx];simp)
    have e2:=hu.2 (by rw[hy];simp)
    rw[ha]at e1
    rw[hb]at e2
    cases e1;cases e2
    cases hok
 generalize f.on b.dst (e.on a.dst σ)=x at *
 generalize e.on a.dst (f.on b.dst σ)=y at *
 cases x;cases y
 simp only at h1 h2 h3
 subst h1;subst h2;subst h3
 rfl
def pT{a b:TH}(h:rI a b=true):a=b/\∃t,a = .tmp t:=by
 cases a<;>cases b<;>simp only[rI,qao]at h
 exact⟨by rw[qac h],_,rfl⟩
def jb{ops:Tm}{o:Oper}{σ τ:St}(h:∀t∈bA ops o,τ.tmps[t]?=σ.tmps[t]?):cg ops τ.tmps o=cg ops σ.tmps o:=by
 unfold cg
 split
 ·rfl
 next j want hg=>
  cases hd:(ops[j]?).bind (·.dst)with
  |none=>rfl
  |some d=>
   simp only[qak]
   rw[h d (by simp[bA,hg,hd])]
def mj{ops:Tm}{o:Oper}{σ τ:St}(h:∀t∈bA ops o,τ.tmps[t]?=σ.tmps[t]?):∀x∈o.op.operands.toList,oval τ.tmps x=oval σ.tmps x:=by
 intro x hx
 refine kK λt ht=>h t ?_
 subst ht
 simp only[bA,qau,qbE]
 exact .inl ⟨.tmp t,hx,rfl⟩
def tq{C:Cfg}{B:Below}{N:Tc}{pts:TB}{ops:Tm}{i:Nat}{o:Oper}{t:TM}{m k:TH}(hi:ops[i]?=some o)(ho:o.op = .lookup t m k false){σ σ':St}(hs:aj C B pts ops i σ σ') :
  ∃v,σ'=σ.put o.dst v/\∀τ:St,(∀t∈bA ops o,τ.tmps[t]?=σ.tmps[t]?)->
   (∀u,cD C t (oval σ.tmps m) (oval σ.tmps k) false σ.heap=some u->cD C t (oval σ.tmps m) (oval σ.tmps k) false τ.heap=some u)->aj C B pts ops i τ (τ.put o.dst v):=by
 have hmem:az N pts o≠none:=by unfold az;rw[ho];simp
 unfold aj at hs
 simp only[hi]at hs
 split at hs
 ·exact hs.elim
 next hw=>
  refine⟨undef,hs,λτ hτ _=>?_⟩
  unfold aj
  simp only[hi,jb hτ,hw]
 next hw=>
  have step:∀ {τ τ':St},(∀t∈bA ops o,τ.tmps[t]?=σ.tmps[t]?)->((∃e,am C pts (oval τ.tmps) o=some e/\jj B e o.dst τ τ')∨(∃v,iH C τ.tmps o v/\τ'=τ.put o.dst v))->aj C B pts ops i τ τ':=by
   intro τ τ' hτ h
   unfold aj
   simp only[hi,jb hτ,hw]
   exact h
  rcases hs with⟨e,he,hr⟩|⟨v,hv,rfl⟩
  ·have heτ:∀τ:St,(∀t∈bA ops o,τ.tmps[t]?=σ.tmps[t]?)->am C pts (oval τ.tmps) o=some e:=λτ hτ=>by
    rw[iM N pts hmem (mj hτ)];exact he
   have he':=he
   unfold am at he'
   rw[ho]at he'
   simp only at he'
   split at he'
   ·obtain⟨v,hv,rfl⟩:=qad.1 he'
    obtain⟨p,hp,rfl⟩:=hr
    cases hp
    exact⟨v,rfl,λτ hτ _=>step hτ (.inl ⟨_,heτ τ hτ,_,rfl,rfl⟩)⟩
   ·cases he'
    obtain⟨p,hp,rfl⟩:=hr
    simp only[aQ]at hp
    obtain⟨v,hv,rfl⟩:=qad.1 hp
    refine⟨v,rfl,λτ hτ hl=>step hτ (.inl ⟨_,heτ τ hτ,(τ,v),?_,rfl⟩)⟩
    simp only[aQ,hl v hv,qaC]
  ·refine⟨v,rfl,λτ hτ _=>step hτ (.inr ⟨v,?_,rfl⟩)⟩
   obtain⟨h1,h2,h3,h4⟩:=hv
   have hops:=mj hτ
   refine⟨h1,?_,h3,λw=>?_⟩
   ·rw[qag]at h2 ⊢
    intro x hx
    rw[hops x hx];exact h2 x hx
   ·rw[execOp_congr N pts hmem (ρ':=λx=>den (oval σ.tmps x)) λx hx=>by rw[hops x hx]]
    exact h4 w
def xf{C:Cfg}{B:Below}{pts:TB}{ops:Tm}{i:Nat}{o:Oper}{t:TM}{m k:TH}(hi:ops[i]?=some o)(ho:o.op = .mapEntry t m k){σ σ':St}(hs:aj C B pts ops i σ σ') :
  σ'.heap=σ.heap∨∃r,cp C t (oval σ.tmps m) (oval σ.tmps k) σ.heap=some (σ'.heap,r):=by
 unfold aj at hs
 simp only[hi]at hs
 split at hs
 ·exact hs.elim
 ·subst hs;exact .inl eh
 ·rcases hs with⟨e,he,hr⟩|⟨v,hv,rfl⟩
  ·unfold am at he
   rw[ho]at he
   simp only[qaq]at he
   subst he
   obtain⟨p,hp,rfl⟩:=hr
   simp only[aQ]at hp
   obtain⟨q,hq,rfl⟩:=qad.1 hp
   refine .inr ⟨q.2,?_⟩
   rw[eh]
   exact hq
  ·exact .inl eh
def xP{C:Cfg}{B:Below}{N:Tc}(hN:NeuB N B){pts:TB}{ops:Tm}{i j:Nat}{a b:Oper}(hi:ops[i]?=some a)(hj:ops[j]?=some b)(hc:fp a b=true)
  (c2:bL a.dst (bA ops b)=true) (c3:bL b.dst (bA ops a)=true) (c4:bN a.dst b.dst=true) {σ σ₁ σ':St}
  (h1:aj C B pts ops i σ σ₁) (h2:aj C B pts ops j σ₁ σ'):∃τ,aj C B pts ops j σ τ/\aj C B pts ops i τ σ':=by
 unfold fp at hc
 split at hc
 next t m k ha=>
  split at hc
  next t' m' k' hb=>
   simp only[qaa]at hc
   obtain⟨⟨e1,e2⟩,e3⟩:=hc
   have e1:=qac e1
   obtain⟨e2,tm,rfl⟩:=pT e2
   obtain⟨e3,tk,rfl⟩:=pT e3
   subst e1 e2 e3
   obtain⟨v,rfl,la⟩:=tq (N:=N) hi ha h1
   have hmb:az N pts b=some .hw:=by unfold az;rw[hb]
   obtain⟨f,rfl,tf,lf⟩:=fR hN hj (by rw[hmb];simp) h2
   have hfree:∀ {d:To} {l:TB},bL d l=true->∀t∈l,∀x,d=some x->x≠t:=by
    intro d l hd t ht x hx he
    subst hx he
    simp only[bL,qb1,qci,decide_eq_false_iff_not]at hd
    exact hd ht
   have s1:Sees N pts ops b (σ.put a.dst v) σ:=by
    refine⟨λt ht=>(kN (hfree c2 t ht)).symm,?_⟩
    rw[hmb]
    exact eh.symm
   have hstep:=lf σ s1
   refine⟨f.on b.dst σ,hstep,?_⟩
   have hrd:∀t∈bA ops a,(f.on b.dst σ).tmps[t]?=σ.tmps[t]?:=by
    intro t ht
    unfold Ef.on
    rw[kN (hfree c3 t ht)]
   have hrow:f.rw=none:=by
    cases hr:f.rw with
    |none=>rfl
    |some p=>
     have:=tf.1 p hr
     rw[hmb]at this
     cases this
   have hfin:=la (f.on b.dst σ) hrd (λu hu=>by
    rcases xf hj hb hstep with h|⟨r,h⟩
    ·rw[h];exact hu
    ·exact tn h hu)
   have hcomm:f.on b.dst (σ.put a.dst v)=(f.on b.dst σ).put a.dst v:=by
    unfold Ef.on
    rw[hrow]
    simp only
    cases hx:a.dst with
    |none=>rfl
    |some x=>
     cases hy:b.dst with
     |none=>rfl
     |some y=>
      rw[hx,hy]at c4
      have:x≠y:=by
       intro he;subst he;simp[bN]at c4
      simp only[St.put]
      rw[set_comm _ _ _ this]
   rw[hcomm]
   exact hfin
  ·cases hc
 ·cases hc
def swap_ok{C:Cfg}{B:Below}{N:Tc}(hN:NeuB N B){pts:TB}{ops:Tm}{i j:Nat}{a b:Oper}(hi:ops[i]?=some a)(hj:ops[j]?=some b)(hc:xb N pts ops a b=true){σ σ₁ σ':St}
  (h1:aj C B pts ops i σ σ₁) (h2:aj C B pts ops j σ₁ σ'):∃τ,aj C B pts ops j σ τ/\aj C B pts ops i τ σ':=by
 unfold xb at hc
 split at hc
 next m n hm hn=>
  simp only[qaa]at hc
  obtain⟨⟨⟨c1,c2⟩,c3⟩,c4⟩:=hc
  rw[qbs]at c1
  rcases c1 with c1|c1
  case inr=>exact xP hN hi hj c1 c2 c3 c4 h1 h2
  obtain⟨e,rfl,te,le⟩:=fR hN hi (by rw[hm];simp) h1
  obtain⟨f,rfl,tf,lf⟩:=fR hN hj (by rw[hn];simp) h2
  have s1:Sees N pts ops b (e.on a.dst σ) σ:=by
   have:=wM hm hn (.inl c1) c2 te σ
   refine⟨λt ht=>(this.1 t ht).symm,?_⟩
   have h:=this.2
   rw[hn]at h ⊢
   cases n<;>first|trivial|exact h.symm
  have s2:Sees N pts ops a σ (f.on b.dst σ):=wM hn hm (.inr c1) c3 tf σ
  refine⟨f.on b.dst σ,lf σ s1,?_⟩
  rw[on_comm hm hn c1 c4 te tf σ]
  exact le _ s2
 ·cases hc
end
end Sx
namespace Sx
section
variable [Val] {C:Cfg} {B:Below} {N:Tc} {pts:TB} {ops:Tm}
def pB{i:Nat}{post:TB}:∀(pre:TB),(∀k∈pre,∀σ σ₁ σ':St,aj C B pts ops k σ σ₁->aj C B pts ops i σ₁ σ'->∃τ,aj C B pts ops i σ τ/\aj C B pts ops k τ σ')->
  ∀σ σ':St,bk C B pts ops (pre++i :: post) σ σ'->bk C B pts ops (i :: (pre++post)) σ σ'
 | [],_,σ,σ',h=>h
 |k :: pre,hc,σ,σ',⟨σ₁,h1,h2⟩=>by
  obtain⟨σ₂,h3,h4⟩:=pB pre (λk hk=>hc k (by simp[hk])) σ₁ σ' h2
  obtain⟨τ,h5,h6⟩:=hc k (by simp) σ σ₁ σ₂ h1 h3
  exact⟨τ,h5,σ₂,h6,h4⟩
inductive Anc(ops:Tm)(k:Nat):Nat->Prop
 |edge {i:Nat} {o:Oper} {e:Edge} (ho:ops[i]?=some o) (he:e∈o.after.toList) (hb:Region.binds .any e=true) (hk:e.on=k):Anc ops k i
 |step {i:Nat} {o:Oper} {e:Edge} (ho:ops[i]?=some o) (he:e∈o.after.toList) (hb:Region.binds .any e=true) (h:Anc ops k e.on):Anc ops k i
def ancOf_ok{acc:TB}(hacc:∀(i k:Nat),(acc.getD i 0).testBit k=true->Anc ops k i){i:Nat}{o:Oper}(ho:ops[i]?=some o){k:Nat}(h:(ancOf acc o).testBit k=true):Anc ops k i:=by
 unfold ancOf at h
 have main:∀(l:List Edge) (m:Nat),(∀e∈l,e∈o.after.toList)->(m.testBit k=true->Anc ops k i)->
   (l.foldl (λm e=>match Region.binds .any e with
    |true=>Nat.lor (Nat.lor m (Nat.shiftLeft 1 e.on)) (acc.getD e.on 0)
    |false=>m) m).testBit k=true->Anc ops k i:=by
  intro l
  induction l with
  |nil=>intro m _ hm h;exact hm h
  |cons e l ih=>
   intro m hl hm h
   simp only[qcu]at h
   refine ih _ (λe he=>hl e (by simp[he])) (λhb=>?_) h
   cases hbi:Region.binds .any e with
   |false=>simp only[hbi]at hb;exact hm hb
   |true=>
    simp only[hbi]at hb
    have hb':((m ||| (1 <<< e.on)) ||| acc.getD e.on 0).testBit k=true:=hb
    rw[Nat.testBit_or,Nat.testBit_or,qbs,qbs]at hb'
    rcases hb' with(hb'|hb')|hb'
    ·exact hm hb'
    ·rw[Nat.one_shiftLeft,Nat.testBit_two_pow]at hb'
     exact .edge ho (hl e (by simp)) hbi (by simpa using hb')
    ·exact .step ho (hl e (by simp)) hbi (hacc _ _ hb')
 exact main _ 0 (λ_ h=>h) (λh=>by simp at h) h
def qr:∀(l:Tv) (acc:TB),ops.toList.drop acc.length=l->(∀(i k:Nat),(acc.getD i 0).testBit k=true->Anc ops k i)->∀(i k:Nat),((ancs l acc).getD i 0).testBit k=true->Anc ops k i
 | [],acc,_,hacc=>hacc
 |o :: l,acc,hl,hacc=>by
  have ho:ops[acc.length]?=some o:=by
   have:(ops.toList.drop acc.length)[0]?=some o:=by rw[hl];rfl
   simpa using this
  refine qr l (acc++[ancOf acc o]) (by rw[qaB,←qbU,hl];rfl) λi k h=>?_
  rw[List.getD_eq_getElem?_getD,qcZ]at h
  split at h
  ·exact hacc i k (by rw[List.getD_eq_getElem?_getD];exact h)
  next hge=>
   by_cases hi:i=acc.length
   ·subst hi
    simp at h
    exact ancOf_ok hacc ho h
   ·rw[qaj (by simp;omega)]at h
    simp at h
def fo:Tv->Nat->Bool
 | [],_=>true
 |o :: l,i=>(o.after.toList.all λe=>!Region.binds .any e||Nat.blt e.on i)&&fo l (i+1)
def qB(N:Tc)(pts:TB)(ops:Tm)(b:Oper)(m:Nat):Tv->Nat->Bool
 | [],_=>true
 |a :: l,k=>(Nat.testBit m k||xb N pts ops a b)&&qB N pts ops b m l (k+1)
def rq(N:Tc)(pts:TB)(ops:Tm)(ms:TB):Tv->Tv->Nat->Bool
 |_,[],_=>true
 |pre,b :: l,i=>qB N pts ops b (ms.getD i 0) pre 0&&rq N pts ops ms (pre++[b]) l (i+1)
def tI(N:Tc)(pts:TB)(ops:Tm):Bool:=
 fo ops.toList 0&&rq N pts ops (ancs ops.toList []) [] ops.toList 0
def eV:∀ {l:Tv} {i:Nat},fo l i=true->∀(j:Nat) o,l[j]?=some o->∀e∈o.after.toList,Region.binds .any e=true->e.on<i+j
 | [],i,_,j,o,h,_,_,_=>by simp at h
 |o :: l,i,h,j,p,hj,e,he,hb=>by
  simp only[fo,qaa,qag]at h
  cases j with
  |zero=>
   simp at hj
   subst hj
   have:=h.1 e he
   rw[hb]at this
   simpa[qbd]using this
  |succ j=>
   have:=eV h.2 j p (by simpa using hj) e he hb
   omega
def oQ{b:Oper}{m:Nat}:∀ {l:Tv} {k:Nat},qB N pts ops b m l k=true->∀(j:Nat) a,l[j]?=some a->m.testBit (k+j)=true∨xb N pts ops a b=true
 | [],k,_,j,a,h=>by simp at h
 |a :: l,k,h,j,c,hj=>by
  simp only[qB,qaa,qbs]at h
  cases j with
  |zero=>simp at hj;subst hj;exact h.1
  |succ j=>
   have:=oQ h.2 j c (by simpa using hj)
   rwa [show k+1+j=k+(j+1)by omega]at this
def pL{ms:TB}:∀ {l pre:Tv} {i:Nat},pre.length=i->rq N pts ops ms pre l i=true->∀(j:Nat) b,l[j]?=some b->∀(k:Nat) a,k<i+j->(pre++l)[k]?=some a->(ms.getD (i+j) 0).testBit k=true∨xb N pts ops a b=true
 | [],pre,i,_,_,j,b,h,_,_,_,_=>by simp at h
 |b :: l,pre,i,hp,h,j,c,hj,k,a,hk,ha=>by
  simp only[rq,qaa]at h
  cases j with
  |zero=>
   simp at hj
   subst hj
   rw[qah (by omega)]at ha
   have:=oQ h.1 k a ha
   simpa using this
  |succ j=>
   have:=pL (pre:=pre++[b]) (i:=i+1) (by simp[hp]) h.2 j c (by simpa using hj) k a (by omega) (by simpa using ha)
   rwa [show i+1+j=i+(j+1)by omega]at this
def xE(h:tI N pts ops=true){i k:Nat}{a b:Oper}(hb:ops[i]?=some b)(ha:ops[k]?=some a)(hk:k<i):Anc ops k i∨xb N pts ops a b=true:=by
 simp only[tI,qaa]at h
 have:=pL (pre:=[]) (i:=0) rfl h.2 i b (by simpa using hb) k a (by omega) (by simpa using ha)
 rw[qaL]at this
 exact this.imp (λh=>qr ops.toList [] rfl (λi k h=>by simp at h) i k h) id
def xD(h:tI N pts ops=true){i:Nat}{o:Oper}(ho:ops[i]?=some o){e:Edge}(he:e∈o.after.toList)(hb:Region.binds .any e=true):e.on<i:=by
 simp only[tI,qaa]at h
 have:=eV h.1 i o (by simpa using ho) e he hb
 omega
def unl(n:Nat)(listed:Array Bool):TB:=(List.range n).filter λi=>!listed.getD i true
def oJ{listed:Array Bool}(hcl:∀(x:Nat) o,listed.getD x true=true->ops[x]?=some o->∀e∈o.after.toList,Region.binds .any e=true->listed.getD e.on false=true){k i:Nat}(h:Anc ops k i)
  (hr:∀o,ops[i]?=some o->∀e∈o.after.toList,Region.binds .any e=true->listed.getD e.on false=true):listed.getD k false=true:=by
 induction h with
 |edge ho he hb hk=>rw[←hk];exact hr _ ho _ he hb
 |step ho he hb h ih=>
  have h1:=hr _ ho _ he hb
  refine ih λo ho2 e he2 hb2=>hcl _ o ?_ ho2 e he2 hb2
  rename_i e0
  rw[qaw]at h1 ⊢
  cases hx:listed[e0.on]? with
  |none=>rfl
  |some b=>rw[hx]at h1;exact h1
abbrev _root_.Ty:=Nat->Bool
def gH{p:Ty}{i:Nat}:∀ {l:TB},l.Nodup->i∈l.filter p->∃pre post,l.filter p=pre++i :: post/\(l.filter λj=>p j&&j != i)=pre++post/\(∀k∈pre,k∈l.filter p/\k≠i)
 | [],_,h=>by simp at h
 |x :: l,hn,h=>by
  rw[qbX]at hn
  by_cases hx:x=i
  ·subst hx
   have hp:p x=true:=(qa4.1 h).2
   refine⟨[],l.filter p,by simp[hp],?_,by simp⟩
   simp only[qa3,qb6,hp,bne_self_eq_false,Bool.and_false,qao,if_false]
   refine qdi λj hj=>?_
   have:j≠x:=λe=>hn.1 (e▸hj)
   simp[this]
  ·have h':i∈l.filter p:=by
    rw[qa4]at h ⊢
    exact⟨(qal.1 h.1).resolve_left λe=>hx e.symm,h.2⟩
   obtain⟨pre,post,e1,e2,e3⟩:=gH hn.2 h'
   by_cases hp:p x=true
   ·refine⟨x :: pre,post,by simp[qb6,hp,e1],?_,λk hk=>?_⟩
    ·simp only[qb6,hp,qdk,qa8]
     rw[qdD (by simpa using hx),e2]
    ·rcases qal.1 hk with rfl|hk
     ·exact⟨by simp[qa4,hp],hx⟩
     ·obtain⟨q1,q2⟩:=e3 k hk
      rw[qa4]at q1 ⊢
      exact⟨⟨by simp[q1.1],q1.2⟩,q2⟩
   ·refine⟨pre,post,by simp[qb6,hp,e1],?_,λk hk=>?_⟩
    ·simp only[qb6,hp,Bool.false_and,qao,if_false]
     exact e2
    ·obtain⟨q1,q2⟩:=e3 k hk
     rw[qa4]at q1 ⊢
     exact⟨⟨by simp[q1.1],q1.2⟩,q2⟩
def lq{p:Ty}:∀ {n:Nat} {pre post:TB} {i:Nat},(List.range n).filter p=pre++i :: post->∀k∈pre,k<i:=by
 intro n pre post i h k hk
 have hs:((List.range n).filter p).Pairwise (· < ·):=qcA _ qcr
 rw[h,List.pairwise_append]at hs
 exact hs.2.2 k hk i (by simp)
def go_ok(hN:NeuB N B)(hreg:tI N pts ops=true):∀(fuel t:Nat) (listed:Array Bool),listed.size=ops.size->(unl ops.size listed).length=fuel->
  (∀(x:Nat) o,listed.getD x true=true->ops[x]?=some o->∀e∈o.after.toList,Region.binds .any e=true->listed.getD e.on false=true)->
  ∀σ σ':St,bk C B pts ops (unl ops.size listed) σ σ'->bk C B pts ops (Region.linearise.go .any ops fuel t listed []) σ σ'
 |0,t,listed,_,hl,_,σ,σ',h=>by
  have:unl ops.size listed=[]:=qbg.1 hl
  rw[this]at h
  simpa[Region.linearise.go]using h
 |fuel+1,t,listed,hsz,hl,hcl,σ,σ',h=>by
  simp only[Region.linearise.go]
  generalize hrs:((List.range ops.size).filter λi=>!listed.getD i true&&((ops[i]?).map (·.after.all λe=>!Region.binds .any e||listed.getD e.on false)).getD false)=rs
  have hready:∀i∈rs,i<ops.size/\listed.getD i true=false/\∀o,ops[i]?=some o->∀e∈o.after.toList,Region.binds .any e=true->listed.getD e.on false=true:=by
   intro i hi
   rw[←hrs,qa4,qaN]at hi
   obtain⟨h1,h2⟩:=hi
   simp only[qaa,qb1]at h2
   refine⟨h1,h2.1,λo ho e he hb=>?_⟩
   have h3:=h2.2
   rw[ho]at h3
   simp only[qaC,qby]at h3
   rw[qcF]at h3
   have:=h3 e (by simpa using he)
   rw[hb]at this
   simpa using this
  have hne:rs≠[]:=by
   have hu:unl ops.size listed≠[]:=by intro e;rw[e]at hl;cases hl
   obtain⟨i0,tl,hu0⟩:=qc9 hu
   have hi0:i0∈unl ops.size listed:=by rw[hu0];simp
   have hi1:=hi0
   rw[unl,qa4,qaN]at hi1
   have hmem:i0∈rs:=by
    rw[←hrs,qa4,qaN]
    refine⟨hi1.1,?_⟩
    simp only[qaa]
    refine⟨hi1.2,?_⟩
    have ho:ops[i0]?=some ops[i0]:=by simp[hi1.1]
    rw[ho]
    simp only[qaC,qby]
    rw[qcF]
    intro e he
    cases hb:Region.binds .any e with
    |false=>simp
    |true=>
     have hlt:=xD hreg ho (by simpa using he) hb
     simp only[qaI,qc3]
     by_cases hlis:listed.getD e.on true=true
     ·have hs:e.on<listed.size:=by omega
      rw[qaw]at hlis ⊢
      rw[qbp hs]at hlis ⊢
      exact hlis
     ·exfalso
      have hm:e.on∈unl ops.size listed:=by
       rw[unl,qa4,qaN]
       exact⟨by omega,by simpa using hlis⟩
      rw[hu0]at hm
      rcases qal.1 hm with hm|hm
      ·omega
      ·have hs:(unl ops.size listed).Pairwise (· < ·):=qcA _ qcr
       rw[hu0,qcJ]at hs
       have:=hs.1 _ hm
       omega
   intro e;rw[e]at hmem;cases hmem
  have hlen:0<rs.length:=qcE.2 hne
  have hget:rs[t%rs.length]?=some (rs[t%rs.length]'(qbD _ hlen)):=qai (qbD _ hlen)
  rw[hget]
  simp only
  generalize hi:rs[t%rs.length]'(qbD _ hlen)=i
  have hmem:i∈rs:=by rw[←hi];exact qb7 _
  obtain⟨i1,i2,i3⟩:=hready i hmem
  rw[linearise_go_acc,List.reverse_singleton,List.singleton_append]
  have hiu:i∈(List.range ops.size).filter λj=>!listed.getD j true:=by
   rw[qa4,qaN];exact⟨i1,by simp[i2]⟩
  obtain⟨pre,post,e1,e2,e3⟩:=gH List.nodup_range hiu
  have hord:=lq e1
  have hnew:unl ops.size (listed.setIfInBounds i true)=pre++post:=by
   rw[←e2]
   unfold unl
   refine qdi λj hj=>?_
   rw[qaw,qaw,qbo]
   by_cases hji:i=j
   ·subst hji
    rw[qdD rfl,qdD (by omega)]
    simp
   ·rw[qdE hji]
    have:(j != i)=true:=by simpa using λe=>hji e.symm
    simp[this]
  have hmf:=pB (C:=C) (B:=B) (pts:=pts) (ops:=ops) (i:=i) (post:=post) pre (λk hk σ σ₁ σ' s1 s2=>by
   obtain⟨m1,m2⟩:=e3 k hk
   rw[qa4,qaN]at m1
   have ha:ops[k]?=some ops[k]:=by simp[m1.1]
   have hb:ops[i]?=some ops[i]:=by simp[i1]
   rcases xE hreg hb ha (hord k hk)with hanc|hcm
   ·exfalso
    have:=oJ hcl hanc i3
    have m3:=m1.2
    rw[qaw]at this m3
    rw[qbp (by omega)]at this m3
    simp only[qby]at this m3
    rw[this]at m3
    cases m3
   ·exact swap_ok hN ha hb hcm s1 s2) σ σ'
  obtain⟨σ₁,s1,s2⟩:=hmf (by rw[←e1];exact h)
  refine⟨σ₁,s1,go_ok hN hreg fuel _ _ (by simp[hsz]) ?_ ?_ σ₁ σ' (by rw[hnew];exact s2)⟩
  ·rw[hnew]
   have:(unl ops.size listed).length=(pre++post).length+1:=by
    show(List.filter _ _).length=_
    rw[e1];simp;omega
   omega
  ·intro x o hx ho e he hb
   have keep:∀y,listed.getD y false=true->(listed.setIfInBounds i true).getD y false=true:=by
    intro y hy
    rw[qaw]at hy ⊢
    rw[qbo]
    split
    next h1=>
     subst h1
     rw[qdD (by omega)];rfl
    ·exact hy
   by_cases hxi:x=i
   ·subst hxi;exact keep _ (i3 o ho e he hb)
   ·refine keep _ (hcl x o ?_ ho e he hb)
    rw[qaw,qbo,qdE (λe=>hxi e.symm)]at hx
    rw[qaw];exact hx
def any_ok(hN:NeuB N B)(hreg:tI N pts ops=true){σ σ':St}(h:bk C B pts ops (List.range ops.size) σ σ'):eS C B pts ops σ σ':=by
 refine .inl λt=>?_
 have hz:unl ops.size (Array.replicate ops.size false)=List.range ops.size:=by
  unfold unl
  rw[qc5]
  intro i hi
  rw[qaN]at hi
  rw[qaw,qbS,qdD hi]
  rfl
 refine go_ok hN hreg ops.size t (Array.replicate ops.size false) (by simp) (by rw[hz];simp) (λx o hx ho=>?_) σ σ' (by rw[hz];exact h)
 have hlt:x<ops.size:=(qav.1 ho).1
 rw[qaw,qbS,qdD hlt]at hx
 cases hx
end
end Sx
namespace Sx
section
variable [Val] [Kno] {C:Cfg}
def Lo(v:Value):Prop:=match v with
 | .pointer (some p)=>p.spot=some 0
 |_=>True
def wl{v:Value}(h:plain v=true):Lo v:=by
 cases v<;>try trivial
 rename_i a
 cases a<;>first|trivial|(simp[plain,iE,scalar,iu]at h)
def clearV_lo{keys:TB}{v:Value}(h:Lo v):Lo (iA keys v):=by
 unfold iA
 repeat' split
 all_goals first|exact h|trivial
def LoS(as0:TB)(σ:St):Prop:=∀a∈as0,∀v,σ.tmps[a]?=some v->Lo v
def tu(N:Tc)(pts as0:TB)(o:Oper):Bool:=
 (match az N pts o with
 |some .no=>true
 |some (.row _ _)=>true
 |some (.neu _)=>true
 |_=>false) &&
 match o.dst with
 |some d=>!as0.contains d||(Nat.beq (pts.getD d 0) (d+2)&&match o.op with
  | .alloc _=>true
  | .box _ _=>true
  |_=>false)
 |none=>true
def neuC(N:Tc)(pts as0:TB):Code->Bool
 | .skip | .label _ | .ret | .exit _=>true
 | .seq a b=>neuC N pts as0 a&&neuC N pts as0 b
 | .cond _ a b=>neuC N pts as0 a&&neuC N pts as0 b
 | .block _ b=>neuC N pts as0 b
 | .loop b=>neuC N pts as0 b
 | .scope b=>neuC N pts as0 b
 | .region _ ops _=>ops.toList.all (tu N pts as0)
 |_=>false
def rdOp(N:Tc)(pts:TB)(o:Oper):Bool:=match az N pts o with
 |some .no=>true
 |some (.row _ _)=>true
 |some (.neu _)=>true
 |some .hr=>true
 |_=>false
def rdC(N:Tc)(pts:TB):Code->Bool
 | .skip | .label _ | .ret | .exit _=>true
 | .seq a b=>rdC N pts a&&rdC N pts b
 | .cond _ a b=>rdC N pts a&&rdC N pts b
 | .block _ b=>rdC N pts b
 | .loop b=>rdC N pts b
 | .scope b=>rdC N pts b
 | .region _ ops _=>ops.toList.all (rdOp N pts)
 |_=>false
def gu(l:List ResultVar):TB:=l.filterMap λr=>match r with
 | .cell a _=>some a
 | .tmp _=>none
def neuF(N:Tc)(C:Cfg)(f:TN)(n:Nat):Bool:=
 match C.P.funcs[f]? with
 |some fn=>match fn.body with
  |some b=>match Nat.beq (n%2) 0 with
   |true=>neuC N (C.pts f) (gu fn.results.toList) b&&(gu fn.results.toList).all λa=>Nat.ble (n / 2) a
   |false=>C.opq f||rdC N (C.pts f) b
  |none=>false
 |none=>false
def tv{pts:TB}{d:Nat}{t:TM}{v:Value}{e:Eff}(hp:pts.getD d 0=d+2)(he:cr C pts (some d) t v=some e):∃s vs,e = .lnew s vs:=by
 unfold cr at he
 split at he
 ·cases he
 ·simp only at he
  split at he
  ·cases he
  ·exact⟨_,_,(qae he).symm⟩
def wq{as0:TB}{σ τ:St}{dst:To}{v:Value}(h:LoS as0 σ)(ht:τ.tmps=σ.tmps)(hv:(∀d,dst=some d->d∉as0)∨Lo v):LoS as0 (τ.put dst v):=by
 intro a ha x hx
 cases dst with
 |none=>exact h a ha x (by rw[←ht];exact hx)
 |some d=>
  simp only[St.put,qa2,ht]at hx
  split at hx
  next hd=>
   subst hd
   split at hx
   ·cases hx
    rcases hv with hv|hv
    ·exact absurd ha (hv _ rfl)
    ·exact hv
   ·cases hx
  ·exact h a ha x hx
def wE{N:Tc}{B:Below}(hN:NeuB N B){pts as0:TB}{ops:Tm}(hops:ops.toList.all (tu N pts as0)=true){i:Nat}{σ σ':St}(hl:LoS as0 σ)(h:aj C B pts ops i σ σ') :
  σ'.heap=σ.heap/\LoS as0 σ'/\∀H,aj C B pts ops i { σ with heap:=H } { σ' with heap:=H }:=by
 cases hi:ops[i]? with
 |none=>
  have:σ'=σ:=by simpa[aj,hi]using h
  subst this
  exact⟨rfl,hl,λH=>by simp[aj,hi]⟩
 |some o=>
  have ho:tu N pts as0 o=true:=qag.1 hops o (by
   have:=qcU hi
   simpa using this)
  unfold tu at ho
  rw[qaa]at ho
  obtain⟨o1,o2⟩:=ho
  have hm:az N pts o≠none:=by intro e;rw[e]at o1;cases o1
  obtain⟨e,rfl,te,le⟩:=fR hN hi hm h
  have hh:e.hp=none:=by
   cases he:e.hp with
   |none=>rfl
   |some x=>
    have:=te.2 (by rw[he];simp)
    rw[this]at o1;cases o1
  refine⟨by rw[iS,hh];rfl,?_,λH=>?_⟩
  ·by_cases hd:∀d,o.dst=some d->d∉as0
   ·unfold Ef.on
    exact wq hl rfl (.inl hd)
   · -- a local row is laid
    obtain⟨d,hd⟩:=Classical.not_forall.1 hd
    obtain⟨hdst,hd⟩:=Classical.not_imp.1 hd
    have hd:=Classical.not_not.1 hd
    rw[hdst]at o2
    simp only[qci,hd,decide_true,qaI,qc3,qaa]at o2
    have hp:pts.getD d 0=d+2:=by simpa using o2.1
    unfold aj at h
    simp only[hi]at h
    split at h
    ·exact h.elim
    ·rw[h];exact wq hl rfl (.inr trivial)
    ·rcases h with⟨ef,h1,h2⟩|⟨v,h1,h2⟩
     ·have hef:∃s vs,ef = .lnew s vs:=by
       have o3:=o2.2
       obtain⟨dst,op,ty,pos,after,guard⟩:=o
       simp only at hdst o3
       subst hdst
       cases op<;>first|cases o3|skip
       ·simp only[am]at h1
        obtain⟨z,_,hz⟩:=qar.1 h1
        exact tv hp hz
       ·exact tv hp h1
      obtain⟨s,vs,rfl⟩:=hef
      obtain⟨p,hp1,hp2⟩:=h2
      rw[hp2]
      simp only[aQ]at hp1
      split at hp1
      ·cases hp1
       exact wq hl rfl (.inr rfl)
      ·cases hp1
     ·rw[h2]
      exact wq hl rfl (.inr (wl h1.2.2.1))
  ·have hs:Sees N pts ops o σ { σ with heap:=H }:=by
    refine⟨λt _=>rfl,?_⟩
    cases hmm:az N pts o with
    |none=>trivial
    |some m=>rw[hmm]at o1;cases m<;>first|trivial|cases o1|rfl
   have:=le _ hs
   have e2:e.on o.dst { σ with heap:=H } = { e.on o.dst σ with heap:=H }:=by
    unfold Ef.on
    rw[hh]
    cases o.dst<;>rfl
   rw[e2]at this
   exact this
def uL{N:Tc}{B:Below}(hN:NeuB N B){pts as0:TB}{ops:Tm}(hops:ops.toList.all (tu N pts as0)=true):∀(l:TB) {σ σ':St},LoS as0 σ->bk C B pts ops l σ σ'->
  σ'.heap=σ.heap/\LoS as0 σ'/\∀H,bk C B pts ops l { σ with heap:=H } { σ' with heap:=H }
 | [],σ,σ',hl,h=>by
  have:σ'=σ:=h
  subst this
  exact⟨rfl,hl,λH=>rfl⟩
 |i :: l,σ,σ',hl,⟨σ₁,h1,h2⟩=>by
  obtain⟨a1,a2,a3⟩:=wE hN hops hl h1
  obtain⟨b1,b2,b3⟩:=uL hN hops l a2 h2
  exact⟨b1.trans a1,b2,λH=>⟨_,a3 H,b3 H⟩⟩
def pQ{as0:TB}{σ σ':St}(hl:LoS as0 σ)(h:ff σ σ'):LoS as0 σ':=by
 intro a ha v hv
 obtain⟨_,_,h3,h4⟩:=h
 have hlt:a<σ'.tmps.length:=(qaP.1 hv).1
 have hx:σ.tmps[a]?=some (σ.tmps[a]'(by omega)):=qai _
 rcases h4 a _ _ hx hv with e|⟨_,h5,_⟩
 ·rw[e];exact hl a ha _ hx
 ·exact wl h5
def lC{σ σ':St}(h:ff σ σ')(H:Ts):ff { σ with heap:=H } { σ' with heap:=H }:=⟨h.1,rfl,h.2.2.1,h.2.2.2⟩
def vU{N:Tc}{B:Below}(hN:NeuB N B){pts as0:TB}{ops:Tm}(hops:ops.toList.all (tu N pts as0)=true):∀(l:TB) {σ σ':St},LoS as0 σ->eG C B pts ops l σ σ'->
  σ'.heap=σ.heap/\LoS as0 σ'/\∀H,eG C B pts ops l { σ with heap:=H } { σ' with heap:=H }
 | [],σ,σ',hl,h=>by
  have:σ'=σ:=h
  subst this
  exact⟨rfl,hl,λH=>rfl⟩
 |i :: l,σ,σ',hl,⟨σ₀,σ₁,h0,h1,h2⟩=>by
  obtain⟨a1,a2,a3⟩:=wE hN hops (pQ hl h0) h1
  obtain⟨b1,b2,b3⟩:=vU hN hops l a2 h2
  exact⟨b1.trans (a1.trans h0.2.1),b2,λH=>⟨_,_,lC h0 H,a3 H,b3 H⟩⟩
def clear_lo{as0:TB}{σ:St}{keys:TB}(hl:LoS as0 σ):LoS as0 (σ.clear keys):=by
 unfold St.clear
 split
 ·exact hl
 ·intro a ha v hv
  simp only[qaz,qad]at hv
  obtain⟨x,hx,rfl⟩:=hv
  exact clearV_lo (hl a ha x hx)
def clearHp(σ:St)(keys:TB)(H:Ts):St.clear { σ with heap:=H } keys = { σ.clear keys with heap:=H }:=by
 unfold St.clear
 split<;>rfl
def vm(σ:St)(keys:TB):(σ.clear keys).heap=σ.heap:=by
 unfold St.clear
 split<;>rfl
def xH{σ:St}{r:ResultVar}{as0:TB}(hl:LoS as0 σ)(ha:∀a∈gu [r],a∈as0)(H:Ts):eJ C { σ with heap:=H } r=eJ C σ r:=by
 cases r with
 |tmp t=>rfl
 |cell a t=>
  have hm:a∈as0:=ha a (by simp[gu])
  unfold eJ
  simp only
  cases hv:σ.tmps[a]? with
  |none=>simp[List.getD_eq_getElem?_getD,hv,undef]
  |some v=>
   have:=hl a hm v hv
   simp only[List.getD_eq_getElem?_getD,hv,qby]
   cases v<;>try rfl
   rename_i p
   cases p with
   |none=>rfl
   |some p=>
    have hs:p.spot=some 0:=this
    simp only[hs]
def nP{σ:St}{as0:TB}(hl:LoS as0 σ)(H:Ts):∀(l:List ResultVar),(∀a∈gu l,a∈as0)->cO C { σ with heap:=H } l=cO C σ l
 | [],_=>rfl
 |r :: l,ha=>by
  have h1:=xH (C:=C) (r:=r) hl (λa h=>ha a (by cases r<;>simp[gu]at h ⊢;exact .inl h)) H
  have h2:=nP hl H l (λa h=>ha a (by cases r<;>simp[gu]at h ⊢<;>first|exact h|exact .inr h))
  simp only[cO,h1,h2]
def new_neu{N:Tc}{pts as0:TB}{o:Oper}(h:dh pts o=true)(hn:tu N pts as0 o=true):False:=by
 have hm:az N pts o=some .hw:=by
  obtain⟨dst,op,ty,pos,after,guard⟩:=o
  cases op<;>simp only[dh,qao]at h<;>first|rfl|skip
  ·cases dst with
   |none=>cases h
   |some d=>
    simp only[az]
    rw[qdE (λe=>by
     have h:(!Nat.beq (pts.getD d 0) (d+2))=true:=h
     rw[e,show Nat.beq (d+2) (d+2)=true from qcv _]at h;cases h)]
  ·cases dst with
   |none=>cases h
   |some d=>
    simp only[az]
    rw[qdE (λe=>by
     have h:(!Nat.beq (pts.getD d 0) (d+2))=true:=h
     rw[e,show Nat.beq (d+2) (d+2)=true from qcv _]at h;cases h)]
  next c=>
   simp only[az]
   split at h
   next hc=>rw[hc]
   ·cases h
 unfold tu at hn
 rw[hm]at hn
 cases hn
def step_rd{N:Tc}{B:Below}(hN:NeuB N B){pts:TB}{ops:Tm}(hops:ops.toList.all (rdOp N pts)=true){i:Nat}{σ σ':St}(h:aj C B pts ops i σ σ'):σ'.heap=σ.heap:=by
 cases hi:ops[i]? with
 |none=>
  have:σ'=σ:=by simpa[aj,hi]using h
  rw[this]
 |some o=>
  have ho:rdOp N pts o=true:=qag.1 hops o (by
   have:=qcU hi
   simpa using this)
  have hm:az N pts o≠none:=by intro e;unfold rdOp at ho;rw[e]at ho;cases ho
  obtain⟨e,rfl,te,_⟩:=fR hN hi hm h
  have hh:e.hp=none:=by
   cases he:e.hp with
   |none=>rfl
   |some x=>
    have:=te.2 (by rw[he];simp)
    unfold rdOp at ho
    rw[this]at ho;cases ho
  rw[iS,hh];rfl
def ops_rd{N:Tc}{B:Below}(hN:NeuB N B){pts:TB}{ops:Tm}(hops:ops.toList.all (rdOp N pts)=true):∀(l:TB) {σ σ':St},bk C B pts ops l σ σ'->σ'.heap=σ.heap
 | [],_,_,h=>by cases h;rfl
 |_ :: l,_,_,⟨_,h1,h2⟩=>(ops_rd hN hops l h2).trans (step_rd hN hops h1)
def opsR_rd{N:Tc}{B:Below}(hN:NeuB N B){pts:TB}{ops:Tm}(hops:ops.toList.all (rdOp N pts)=true):∀(l:TB) {σ σ':St},eG C B pts ops l σ σ'->σ'.heap=σ.heap
 | [],_,_,h=>by cases h;rfl
 |_ :: l,_,_,⟨_,_,h0,h1,h2⟩=>(opsR_rd hN hops l h2).trans ((step_rd hN hops h1).trans h0.2.1)
def new_rd{N:Tc}{pts:TB}{o:Oper}(h:dh pts o=true)(hn:rdOp N pts o=true):False:=by
 have hm:az N pts o=some .hw:=by
  obtain⟨dst,op,ty,pos,after,guard⟩:=o
  cases op<;>simp only[dh,qao]at h<;>first|rfl|skip
  ·cases dst with
   |none=>cases h
   |some d=>
    simp only[az]
    rw[qdE (λe=>by
     have h:(!Nat.beq (pts.getD d 0) (d+2))=true:=h
     rw[e,show Nat.beq (d+2) (d+2)=true from qcv _]at h;cases h)]
  ·cases dst with
   |none=>cases h
   |some d=>
    simp only[az]
    rw[qdE (λe=>by
     have h:(!Nat.beq (pts.getD d 0) (d+2))=true:=h
     rw[e,show Nat.beq (d+2) (d+2)=true from qcv _]at h;cases h)]
  next c=>
   simp only[az]
   split at h
   next hc=>rw[hc]
   ·cases h
 unfold rdOp at hn
 rw[hm]at hn
 cases hn
def vR{N:Tc}(hN:∀f n,N f=some n->neuF N C f n=true)(hk:∀f args H r H',Kno.kh f args H r H'->N f=none∨(N f=some (2*args.length+1)/\H'=H)):∀n,(NeuB N (sm C n).toBelow/\∀pts c,rdC N pts c=true->∀σ e σ',(sm C n).ex pts c σ e σ'->σ'.heap=σ.heap)/\
  ∀pts as0 c,neuC N pts as0 c=true->∀σ e σ',LoS as0 σ->(sm C n).ex pts c σ e σ'->σ'.heap=σ.heap/\LoS as0 σ'/\∀H,(sm C n).ex pts c { σ with heap:=H } e { σ' with heap:=H }
 |0=>⟨⟨⟨λf args H r H' hf h=>(by
   rcases h with h|h
   ·exact⟨h.2,λH2=>.inl ⟨h.1,rfl⟩⟩
   ·have hf:N f=some (2*args.length):=hf
    rcases hk f args H r H' h with e|⟨e,_⟩
    ·rw[e]at hf;cases hf
    ·rw[e]at hf
     have:=qae hf
     omega),λf args H r H' hf h=>(by
   rcases h with h|h
   ·exact h.2
   ·have hf:N f=some (2*args.length+1):=hf
    rcases hk f args H r H' h with e|⟨_,e⟩
    ·rw[e]at hf;cases hf
    ·exact e)⟩,λ_ _ _ _ _ _ h=>absurd h id⟩,λ_ _ _ _ _ _ _ _ h=>absurd h id⟩
 |n+1=>by
  obtain⟨⟨ihc,ihr⟩,ihe⟩:=vR hN hk n
  refine⟨⟨⟨λf args H r H' hf h=>?_,λf args H r H' hf h=>?_⟩,λpts c hc σ e σ' h=>?_⟩,λpts as0 c hc σ e σ' hl h=>?_⟩
  rotate_left
  ·rcases h with h|⟨fn,b,e,σ,vs,c1,c2,c3,c4,c5,c6,c7,c8,c9⟩
   ·rcases h with h|h
    ·exact h.2
    ·have hf:N f=some (2*args.length+1):=hf
     rcases hk f args H r H' h with e|⟨_,e⟩
     ·rw[e]at hf;cases hf
     ·exact e
   ·have hn:=hN f _ hf
    have c3':=(qb8.1 c3).2
    unfold neuF at hn
    have hodd:Nat.beq ((2*args.length+1)%2) 0=false:=by
     rw[show(2*args.length+1)%2=1 by omega];rfl
    simp only[c1,c2,hodd,c3',qc3]at hn
    exact c9.trans (ihr _ _ hn _ _ _ c4)
  ·have h:mU C (sm C n) pts c σ e σ':=h
   cases c with
   |skip=>obtain⟨rfl,rfl⟩:=h;rfl
   |label l=>obtain⟨rfl,rfl⟩:=h;rfl
   |ret=>obtain⟨rfl,rfl⟩:=h;rfl
   |exit id=>obtain⟨rfl,rfl⟩:=h;rfl
   |seq a b=>
    simp only[rdC,qaa]at hc
    obtain⟨e₁,σ₁,h1,h2⟩:=h
    have a1:=ihr _ _ hc.1 _ _ _ h1
    rcases h2 with⟨rfl,h2⟩|⟨h2,rfl,rfl⟩
    ·exact(ihr _ _ hc.2 _ _ _ h2).trans a1
    ·exact a1
   |cond x a b=>
    simp only[rdC,qaa]at hc
    obtain⟨t,h1,h2⟩:=h
    cases t with
    |true=>exact ihr _ _ hc.1 _ _ _ h2
    |false=>exact ihr _ _ hc.2 _ _ _ h2
   |block id b=>
    obtain⟨e₁,h1,rfl⟩:=h
    exact ihr pts b hc _ _ _ h1
   |scope b=>exact ihr pts b hc _ _ _ h
   |loop b=>
    obtain⟨e₁,σ₁,h1,h2⟩:=h
    have a1:=ihr pts b hc _ _ _ h1
    rw[vm]at a1
    rcases h2 with⟨rfl,h2⟩|⟨h2,rfl,rfl⟩
    ·exact(ihr pts (.loop b) hc _ _ _ h2).trans a1
    ·exact a1
   |region id ops draw=>
    obtain⟨rfl,hq⟩:=h
    cases draw with
    |true=>
     obtain⟨σ₀,h0,h1⟩ : ∃σ₀,ff σ σ₀/\eS C (sm C n).toBelow pts ops σ₀ σ':=hq
     rcases h1 with h1|⟨sl,m,q1,_⟩
     ·exact(ops_rd ihc hc _ (h1 0)).trans h0.2.1
     ·exfalso
      obtain⟨o,o1,o2⟩:=List.any_eq_true.1 q1
      exact new_rd o2 (qag.1 hc o o1)
    |false=>
     have hq:eG C (sm C n).toBelow pts ops (List.range ops.size) σ σ':=hq
     exact opsR_rd ihc hc _ hq
   |_=>cases hc
  rotate_right
  ·rcases h with h|⟨fn,b,e,σ,vs,c1,c2,c3,c4,c5,c6,c7,c8,c9⟩
   ·rcases h with h|h
    ·exact⟨h.2,λH2=>.inl (.inl ⟨h.1,rfl⟩)⟩
    ·have hf:N f=some (2*args.length):=hf
     rcases hk f args H r H' h with e|⟨e,_⟩
     ·rw[e]at hf;cases hf
     ·rw[e]at hf
      have:=qae hf
      omega
   ·have hn:=hN f _ hf
    unfold neuF at hn
    have hev:Nat.beq (2*args.length%2) 0=true:=by
     rw[show 2*args.length%2=0 by omega];rfl
    simp only[c1,c2,hev,qaa,qag,show 2*args.length / 2=args.length by omega]at hn
    have hl:LoS (gu fn.results.toList) (ll fn args H):=by
     intro a ha v hv
     have hge:args.length<=a:=by simpa using hn.2 a ha
     simp only[ll]at hv
     rw[qan hge,qa1]at hv
     split at hv
     ·cases hv;trivial
     ·cases hv
    obtain⟨d1,d2,d3⟩:=ihe _ _ _ hn.1 _ _ _ hl c4
    refine⟨c9.trans d1,λH2=>.inr ⟨fn,b,e,_,vs,c1,c2,c3,d3 H2,c5,?_,c7,c8,rfl⟩⟩
    rw[nP d2 H2 _ (λa h=>h)]
    exact c6
  ·have h:mU C (sm C n) pts c σ e σ':=h
   show _/\_/\∀H,mU C (sm C n) pts c { σ with heap:=H } e { σ' with heap:=H }
   cases c with
   |skip=>obtain⟨rfl,rfl⟩:=h;exact⟨rfl,hl,λH=>⟨rfl,rfl⟩⟩
   |label l=>obtain⟨rfl,rfl⟩:=h;exact⟨rfl,hl,λH=>⟨rfl,rfl⟩⟩
   |ret=>obtain⟨rfl,rfl⟩:=h;exact⟨rfl,hl,λH=>⟨rfl,rfl⟩⟩
   |exit id=>obtain⟨rfl,rfl⟩:=h;exact⟨rfl,hl,λH=>⟨rfl,rfl⟩⟩
   |seq a b=>
    simp only[neuC,qaa]at hc
    obtain⟨e₁,σ₁,h1,h2⟩:=h
    obtain⟨a1,a2,a3⟩:=ihe _ _ _ hc.1 _ _ _ hl h1
    rcases h2 with⟨rfl,h2⟩|⟨h2,rfl,rfl⟩
    ·obtain⟨b1,b2,b3⟩:=ihe _ _ _ hc.2 _ _ _ a2 h2
     exact⟨b1.trans a1,b2,λH=>⟨_,_,a3 H,.inl ⟨rfl,b3 H⟩⟩⟩
    ·exact⟨a1,a2,λH=>⟨_,_,a3 H,.inr ⟨h2,rfl,rfl⟩⟩⟩
   |cond x a b=>
    simp only[neuC,qaa]at hc
    obtain⟨t,h1,h2⟩:=h
    cases t with
    |true=>
     obtain⟨b1,b2,b3⟩:=ihe _ _ _ hc.1 _ _ _ hl h2
     exact⟨b1,b2,λH=>⟨true,h1,b3 H⟩⟩
    |false=>
     obtain⟨b1,b2,b3⟩:=ihe _ _ _ hc.2 _ _ _ hl h2
     exact⟨b1,b2,λH=>⟨false,h1,b3 H⟩⟩
   |block id b=>
    obtain⟨e₁,h1,rfl⟩:=h
    obtain⟨b1,b2,b3⟩:=ihe pts as0 b hc _ _ _ hl h1
    exact⟨b1,b2,λH=>⟨_,b3 H,rfl⟩⟩
   |scope b=>exact ihe pts as0 b hc _ _ _ hl h
   |loop b=>
    obtain⟨e₁,σ₁,h1,h2⟩:=h
    obtain⟨a1,a2,a3⟩:=ihe pts as0 b hc _ _ _ (clear_lo hl) h1
    rw[vm]at a1
    rcases h2 with⟨rfl,h2⟩|⟨h2,rfl,rfl⟩
    ·obtain⟨b1,b2,b3⟩:=ihe pts as0 (.loop b) hc _ _ _ a2 h2
     exact⟨b1.trans a1,b2,λH=>⟨_,_,by rw[clearHp];exact a3 H,.inl ⟨rfl,b3 H⟩⟩⟩
    ·exact⟨a1,a2,λH=>⟨_,_,by rw[clearHp];exact a3 H,.inr ⟨h2,rfl,rfl⟩⟩⟩
   |region id ops draw=>
    obtain⟨rfl,hq⟩:=h
    cases draw with
    |true=>
     obtain⟨σ₀,h0,h1⟩ : ∃σ₀,ff σ σ₀/\eS C (sm C n).toBelow pts ops σ₀ σ':=hq
     have hl0:=pQ hl h0
     rcases h1 with h1|⟨sl,m,q1,_⟩
     case inr=>
      exfalso
      obtain⟨o,o1,o2⟩:=List.any_eq_true.1 q1
      exact new_neu o2 (qag.1 hc o o1)
     obtain⟨a1,a2,_⟩:=uL ihc hc _ hl0 (h1 0)
     refine⟨a1.trans h0.2.1,a2,λH=>⟨rfl,⟨_,lC h0 H,.inl λt=>?_⟩⟩⟩
     exact(uL ihc hc _ hl0 (h1 t)).2.2 H
    |false=>
     have hq:eG C (sm C n).toBelow pts ops (List.range ops.size) σ σ':=hq
     obtain⟨a1,a2,a3⟩:=vU ihc hc _ hl hq
     exact⟨a1,a2,λH=>⟨rfl,a3 H⟩⟩
   |_=>cases hc
def dr_ok{N:Tc}(hN:∀f n,N f=some n->neuF N C f n=true)(hk:∀f args H r H',Kno.kh f args H r H'->N f=none∨(N f=some (2*args.length+1)/\H'=H))(pts:TB)(ops:Tm)(h:tI N pts ops=true)(n:Nat)(σ σ':St)(hx:bk C (sm C n).toBelow pts ops (List.range ops.size) σ σ') :
  eS C (sm C n).toBelow pts ops σ σ':=any_ok (vR hN hk n).1.1 h hx
end
end Sx
def LK.plain:LK->Bool
 | .v=>false
 |_=>true
def SK.plain:SK->Bool
 | .leaf k=>k.plain
 | .agg ks=>ks.all LK.plain
def Sig.plain(s:Sig):Bool:=s.ps.all SK.plain&&s.rs.all SK.plain
namespace Sx
section
variable [Val] [Kno]
variable {w:TE}
def uM(k:TI)(c:Int)(K:Int->RT):outG k c K=K (k.wrap c):=by
 unfold outG
 cases e:fits k c with
 |true=>rw[sO e]
 |false=>exact jm _ _
def out64_eq(c:Int)(K:Int->RT):out64 c K=K (IntKind.wrap .i64 c):=by
 refine Eq.trans ?_ (uM .i64 c K)
 cases c<;>rfl
def outU8_eq(c:Int)(K:Int->RT):outU8 c K=K (IntKind.wrap .u8 c):=by
 refine Eq.trans ?_ (uM .u8 c K)
 cases c<;>rfl
def nI(k:TI)(c:Int)(K:Int->RT):outK k c K=K (k.wrap c):=by
 cases k<;>first|exact uM _ _ _|exact out64_eq _ _|exact outU8_eq _ _
def addK_eq(a b:Int)(K:Int->RT):addK a b K=K (a+b):=by
 unfold addK
 cases a with
 |ofNat m=>
  cases b with
  |ofNat n=>exact congrArg K rfl
  |negSucc n=>
   simp only[df]
   cases e:Nat.blt n m with
   |true=>rw[qbd]at e;exact congrArg K (show Int.ofNat (m - (n+1))=Int.ofNat m+Int.negSucc n by simp only[qaY,qbN];omega)
   |false=>
    have e:¬n<m:=λh=>by rw[←qbd,e]at h;cases h
    exact congrArg K (show Int.negSucc (n - m)=Int.ofNat m+Int.negSucc n by simp only[qaY,qbN];omega)
 |negSucc m=>
  cases b with
  |ofNat n=>
   simp only[df]
   cases e:Nat.blt m n with
   |true=>rw[qbd]at e;exact congrArg K (show Int.ofNat (n - (m+1))=Int.negSucc m+Int.ofNat n by simp only[qaY,qbN];omega)
   |false=>
    have e:¬m<n:=λh=>by rw[←qbd,e]at h;cases h
    exact congrArg K (show Int.negSucc (m - n)=Int.negSucc m+Int.ofNat n by simp only[qaY,qbN];omega)
  |negSucc n=>exact congrArg K (show Int.negSucc (m+n+1)=Int.negSucc m+Int.negSucc n by simp only[qbN];omega)
def subK_eq(a b:Int)(K:Int->RT):subK a b K=K (a - b):=by
 unfold subK
 cases a with
 |ofNat m=>
  cases b with
  |ofNat n=>
   simp only[df]
   cases e:Nat.ble n m with
   |true=>rw[qbT]at e;exact congrArg K (show Int.ofNat (m - n)=Int.ofNat m - Int.ofNat n by simp only[qaY];omega)
   |false=>
    have e:¬n<=m:=λh=>by rw[←qbT,e]at h;cases h
    exact congrArg K (show Int.negSucc (n - (m+1))=Int.ofNat m - Int.ofNat n by simp only[qaY,qbN];omega)
  |negSucc n=>exact congrArg K (show Int.ofNat (m+n+1)=Int.ofNat m - Int.negSucc n by simp only[qaY,qbN];omega)
 |negSucc m=>
  cases b with
  |ofNat n=>exact congrArg K (show Int.negSucc (m+n)=Int.negSucc m - Int.ofNat n by simp only[qaY,qbN];omega)
  |negSucc n=>
   simp only[df]
   cases e:Nat.ble m n with
   |true=>rw[qbT]at e;exact congrArg K (show Int.ofNat (n - m)=Int.negSucc m - Int.negSucc n by simp only[qaY,qbN];omega)
   |false=>
    have e:¬m<=n:=λh=>by rw[←qbT,e]at h;cases h
    exact congrArg K (show Int.negSucc (m - (n+1))=Int.negSucc m - Int.negSucc n by simp only[qbN];omega)
def mulK_eq(a b:Int)(K:Int->RT):mulK a b K=K (a*b):=by
 unfold mulK
 cases a with
 |ofNat m=>
  cases b with
  |ofNat n=>exact congrArg K rfl
  |negSucc n=>
   cases m with
   |zero=>exact congrArg K (show Int.ofNat 0=Int.ofNat 0*Int.negSucc n by simp)
   |succ m=>
    refine congrArg K (show Int.negSucc ((m+1)*n+m)=Int.ofNat (m+1)*Int.negSucc n from ?_)
    simp only[qaY,qbN,qdp,qdq]
    simp only[qdr,Int.mul_neg,Int.mul_add,Int.add_mul]
    omega
 |negSucc m=>
  cases b with
  |ofNat n=>
   cases n with
   |zero=>exact congrArg K (show Int.ofNat 0=Int.negSucc m*Int.ofNat 0 by simp)
   |succ n=>
    refine congrArg K (show Int.negSucc (m*(n+1)+n)=Int.negSucc m*Int.ofNat (n+1)from ?_)
    simp only[qaY,qbN,qdp,qdq]
    simp only[qdr,Int.neg_mul,Int.mul_add,Int.add_mul]
    omega
  |negSucc n=>
   refine congrArg K (show Int.ofNat ((m+1)*(n+1))=Int.negSucc m*Int.negSucc n from ?_)
   simp only[qaY,qbN,qdp,qdq]
   simp only[qdr,Int.neg_mul_neg]
def quoK_eq(a b:Int)(K:Int->RT):quoK a b K=K (Int.tdiv a b):=by
 unfold quoK
 cases a with
 |ofNat m=>
  cases b with
  |ofNat n=>exact congrArg K rfl
  |negSucc n=>exact jm _ _
 |negSucc m=>exact jm _ _
def remK_eq(a b:Int)(K:Int->RT):remK a b K=K (Int.tmod a b):=by
 unfold remK
 cases a with
 |ofNat m=>
  cases b with
  |ofNat n=>exact congrArg K rfl
  |negSucc n=>exact jm _ _
 |negSucc m=>exact jm _ _
def sW{b:Int}(h:isZ b=false):b≠0:=by
 intro e;subst e;cases h
def fitsK{k:TI}{c:Int}{K:Int->RT}(h:outK k c K=some w):K (k.wrap c)=some w:=(nI k c K).symm.trans h
def ariB_ok{op:BinOp}{k:TI}{a b:Int}{K:Int->RT}(h:ariB op k a b K=some w):∃n,qi op k a b n/\K n=some w:=by
 cases op<;>simp only[ariB,reduceCtorEq]at h
 ·rw[addK_eq,nI]at h
  exact⟨_,λP t w=>by simp[binOp,Op.intArith],h⟩
 ·rw[subK_eq,nI]at h
  exact⟨_,λP t w=>by simp[binOp,Op.intArith],h⟩
 ·rw[mulK_eq,nI]at h
  exact⟨_,λP t w=>by simp[binOp,Op.intArith],h⟩
 ·cases hb:isZ b with
  |true=>rw[hb]at h;cases h
  |false=>
   rw[hb]at h
   simp only[quoK_eq,nI]at h
   have hb:=sW hb
   exact⟨_,λP t w=>by simp[binOp,Op.intDiv,hb],h⟩
 ·cases hb:isZ b with
  |true=>rw[hb]at h;cases h
  |false=>
   rw[hb]at h
   simp only[remK_eq]at h
   have hb:=sW hb
   exact⟨_,λP t w=>by simp[binOp,Op.intDiv,hb],h⟩
 ·split at h
  next hb=>
   have hb:=eqI_iff.1 hb
   subst hb
   rw[jm]at h
   exact⟨_,nR rfl,h⟩
  ·split at h
   ·rw[jm]at h
    exact⟨_,uP _ _,fitsK h⟩
   ·cases h
 ·split at h
  ·rw[jm]at h
   exact⟨_,xL _ _,fitsK h⟩
  ·cases h
 ·split at h
  ·rw[jm]at h
   exact⟨_,uS _ _,fitsK h⟩
  ·cases h
def eqI_eq(x y:Int):eqI x y=(x==y):=by rw[qbM,eqI_iff,beq_iff_eq]
def qH(x y:Int):eqZK x y=(x==y):=by
 rw[←eqI_eq]
 cases x<;>cases y<;>rfl
def leZ_eq(x y:Int):leZ x y=decide (x<=y):=by rw[qbM,leZ_iff,decide_eq_true_iff]
def notK_eq(b:Bool):notK b = !b:=by cases b<;>rfl
def cmpB_ok{op:BinOp}{a b:Int}{K:Bool->RT}(h:cmpB op a b K=some w):∃t,oP op a b=some t/\K t=some w:=by
 cases op<;>simp only[cmpB,reduceCtorEq,qH,leZ_eq,notK_eq]at h
 ·exact⟨_,rfl,h⟩
 ·exact⟨_,rfl,h⟩
 ·exact⟨_,rfl,by rw[show decide (a<b) = !decide (b<=a)by rw[qbM];simp];exact h⟩
 ·exact⟨_,rfl,h⟩
 ·exact⟨_,rfl,by rw[show decide (a > b) = !decide (a<=b)by rw[qbM];simp];exact h⟩
 ·exact⟨_,rfl,h⟩
def eqLf_eq(a b:Lf):eqLf a b=gF a b:=by
 cases a<;>cases b<;>try rfl
 ·exact qH _ _
 next x y=>cases x<;>cases y<;>rfl
def eqsV_eq(l:List (Lf×Lf)):eqsV l=ch l:=by
 unfold ch
 induction l with
 |nil=>rfl
 |cons p l ih=>
  show(Bool.rec false (eqsV l) (eqLf p.1 p.2):Bool)=_
  rw[eqLf_eq,qbW,ih]
  cases gF p.1 p.2<;>rfl
def eqsB_ok{l:List (Lf×Lf)}{K:Bool->RT}(h:eqsB l K=some w):K (ch l)=some w:=by
 rw[←eqsV_eq];exact h
structure CallBOk(C:Cfg)(Sg:Tb)(T:Tt)(call:ae):Prop where
 f:∀g ls h K w,cR ls->call (.f g) ls h K=some w->∃rs h',aw C Sg g ls (absH T (toL h)) rs (absH T (toL h'))/\K rs h'=some w
 y:∀κ vs l ls h K w st pd xs,h.at l=some (.lp κ st pd vs)->Told ((T κ).params.map (·.2)) ls xs->call (.y κ vs l) ls h K=some w->
  ∃b h',jM C l (ai xs) (absH T (toL h)) (.bool b) (absH T (toL h'))/\K [.b b] h'=some w
def ko(T:Tt)(h:HL):getH T h=λi=>(absH T h)[i]?:=by
 funext i
 simp only[getH,absH,qaz]
 cases h[i]?<;>rfl
def getT_eq(T:Tt)(h:HTr):getT T h=λi=>(absH T (toL h))[i]?:=by
 funext i
 simp only[getT,absH,qaz,ja,qdx]
 cases h.at i<;>rfl
def md(T:Tt)(h:HTr):getT T h=getH T (toL h):=(getT_eq T h).trans (ko T (toL h)).symm
def kj{T:Tt}{h:HTr}{i:Nat}{x:HOT}(e:h.at i=some x):getH T (toL h) i=some (absO T x.ho):=by
 rw[←md];unfold getT;rw[e]
def du(T:Tt)(h:HL):(absH T h).length=h.length:=by simp[absH]
def je(T:Tt)(h:HL)(i:Nat)(o:HO):absH T (h.set i o)=(absH T h).set i (absO T o):=by simp[absH,List.map_set]
def gj(T:Tt)(h:HL)(o:HO):absH T (h++[o])=absH T h++[absO T o]:=by simp[absH]
def jS(T:Tt):∀(l:List Act1) (h:HL),absH T (cz h l)=ge (absH T h) l
 | [],h=>rfl
 |a :: l,h=>by
  have ih:=jS T l (a.onH h)
  show absH T (cz (a.onH h) l)=ge (a.on (absH T h)) l
  rw[ih]
  congr 1
  cases a with
  |set i o=>exact je T h i _
  |push o=>exact gj T h _
def qm:∀ {l:List Act1} {h:HTr} {k:HTr->RT},wS l h k=some w->∃h',toL h'=cz (toL h) l/\k h'=some w
 | [],h,k,hk=>⟨h,rfl,hk⟩
 | .set i o :: l,h,k,hk=>by
  have hk:(oA o λo=>putK h i o λh=>wS l h k)=some w:=hk
  obtain⟨x,e1,e2⟩:=ig (o:=o) (k:=λo=>putK h i o λh=>wS l h k)
  rw[e2,gS]at hk
  obtain⟨h',e,hk⟩:=qm hk
  exact⟨h',by rw[e,gX,e1];rfl,hk⟩
 | .push o :: l,h,k,hk=>by
  have hk:(oA o λo=>gR h o λh=>wS l h k)=some w:=hk
  obtain⟨x,e1,e2⟩:=ig (o:=o) (k:=λo=>gR h o λh=>wS l h k)
  rw[e2,eZ]at hk
  obtain⟨h',e,hk⟩:=qm hk
  exact⟨h',by rw[e,fe,e1];rfl,hk⟩
def wB(s:Tp):spot0 s=(s != some 0):=by
 cases s with
 |none=>rfl
 |some k=>cases k<;>rfl
def vE(v:Value):goodF v=aS v:=by
 unfold goodF
 split
 next a=>
  rw[wB]
  simp[aS,noLoc,aZ,bz,bp,aR,aI]
 next a _ _=>
  rw[wB]
  simp[aS,noLoc,aZ,bz,bp,aR,aI]
 ·rfl
def uE{α:Type}(l:List α):lenR l=l.length:=by
 induction l with
 |nil=>rfl
 |cons a l ih=>exact congrArg Nat.succ ih
def ldB_ok{T:Tt}{n:Nat}{p:Value}{h:HTr}{K:Tl->RT}(hk:ldB n p h K=some w):∃cs,ldP n p (getH T (toL h))=some cs/\K cs=some w:=by
 unfold ldB at hk
 split at hk
 next a=>
  split at hk
  next hs=>
   split at hk
   next m e rw' c hat=>
    split at hk
    next hle=>
     rw[qbT]at hle
     refine⟨_,?_,hk⟩
     unfold ldP
     simp only[hs,gw,kj hat,HOT.ho,absO,qak,cut]
     rw[qdD (by rw[ba];exact hle),jC c n a.off m hle]
    ·cases hk
   ·cases hk
  ·cases hk
 ·cases hk
def lgB_ok{T:Tt}{C:Cfg}{n:Nat}{p:Value}{h:HTr}{K:Tl->RT}(hk:lgB C n p h K=some w):∃cs,lgP C n p (getH T (toL h))=some cs/\K cs=some w:=by
 unfold lgB at hk
 split at hk
 next a=>
  split at hk
  next hs=>
   split at hk
   next m e rw' c hat=>
    split at hk
    next hle=>
     rw[qbT]at hle
     refine⟨_,?_,hk⟩
     unfold lgP
     simp only[hs,gw,kj hat,HOT.ho,absO,qak,cut]
     rw[qdD (by rw[ba];exact hle),jC c n a.off m hle]
    ·cases hk
   ·cases hk
  next k hs=>
   split at hk
   next hb=>
    split at hk
    next vs hg=>
     split at hk
     next cs hc=>
      refine⟨cs,?_,hk⟩
      unfold lgP
      simp only[hs,hb,hg,qak]
      rw[mL]at hc
      exact hc
     ·cases hk
    ·cases hk
   ·cases hk
 ·cases hk
def stB_ok{T:Tt}{p:Value}{new:Tl}{h:HTr}{K:Tl->HTr->RT}{n0:Nat}(hk:stB p new h K=some w) :
  ∃acts cs h',stP p new (getH T (toL h)) n0=some (acts,cs)/\toL h'=cz (toL h) acts/\K cs h'=some w:=by
 unfold stB at hk
 split at hk
 next a=>
  split at hk
  next hs=>
   split at hk
   next m e c hat=>
    split at hk
    next hle=>
     rw[qbT,uE]at hle
     rw[nj,gS]at hk
     refine⟨[.set a.block (.cells (bS (insT new a.off c) m) e true)],[],_,?_,?_,hk⟩
     ·unfold stP
      simp only[hs,kj hat,HOT.ho,absO,splice]
      rw[qdD (by rw[ba];exact hle),oM hle]
      rfl
     ·rw[gX];rfl
    ·cases hk
   ·cases hk
  ·cases hk
 ·cases hk
def rQ{s:Tp}{esz:Nat}:tagB s esz=true↔s=tag esz:=by
 unfold tagB tag
 cases s with
 |none=>simp
 |some k=>simp only[Nat.beq_eq,qaq];try rfl
def slB_ok{C:Cfg}{T:Tt}{esz:Nat}{x:Value}{h:HTr}{K:Tl->Nat->RT}(hk:slB C T esz x h K=some w) :
  ∃l n,slG C esz (getH T (toL h)) x=some (l,n)/\K l n=some w:=by
 have gen:∀ {x:Value},(match slG C esz (getT T h) x with|some p=>K p.1 p.2|none=>none)=some w->∃l n,slG C esz (getH T (toL h)) x=some (l,n)/\K l n=some w:=by
  intro x hk
  split at hk
  next p e=>
   rw[md]at e
   exact⟨p.1,p.2,e,hk⟩
  ·cases hk
 unfold slB at hk
 split at hk
 next a len cx=>
  split at hk
  next ht=>
   have ht:=rQ.1 ht
   split at hk
   next m e rw' c hat=>
    split at hk
    next h1 h2=>
     have h1:=qac h1
     rw[qbT]at h2
     subst h1
     refine⟨_,_,?_,hk⟩
     unfold slG
     simp only[kj hat,HOT.ho,absO]
     rw[qdE (by rw[ht];simp[tag]),qdD ht]
     first|rw[qdD rfl]|rw[qdD trivial]
     rw[cut,qdD (by rw[ba];exact h2),jC c _ a.off m h2]
     rfl
    ·cases hk
   ·cases hk
  ·exact gen hk
 ·exact gen hk
def vF{c:Tr Value}{m off wd esz:Nat}{new:Tl}{k:HOT->RT}(hle:off+wd<=m)(hk:growB c m off wd esz new k=some w) :
  ∃x:HOT,x.ho = .o (.cells (((bS c m).drop off).take wd++new) esz true)/\k x=some w:=by
 unfold growB at hk
 split at hk
 next h1 h2=>
  have h1:=qac h1
  have h2:=qac h2
  subst h1 h2
  rw[nj,df,uE]at hk
  refine⟨_,?_,hk⟩
  show HO.o (.cells (bS (insT new wd c) (wd+new.length)) esz true)=_
  rw[mF,qaV,qaS (by rw[ba];exact qaf _)]
 ·rw[jC c wd off m hle]at hk
  obtain⟨x,e1,e2⟩:=ig (o:=.cells (((bS c m).drop off).take wd++new) esz true) (k:=k)
  rw[e2]at hk
  exact⟨x,e1,hk⟩
def apB_ok{C:Cfg}{T:Tt}{esz bytes:Nat}{s x:Value}{h:HTr}{K:Tl->HTr->RT}(hk:apB T C esz bytes s x h K=some w) :
  ∃acts cs h',apG C esz bytes s x (getH T (toL h)) (toL h).length=some (acts,cs)/\toL h'=cz (toL h) acts/\K cs h'=some w:=by
 obtain⟨new,n,hsl,hk⟩:=slB_ok hk
 unfold apG
 rw[hsl,cU]
 simp only at hk ⊢
 split at hk
 ·cases n with
  |zero=>exact⟨_,_,h,rfl,rfl,hk⟩
  |succ n=>
   simp only at hk
   split at hk
   next hz=>
    obtain⟨y,e1,e2⟩:=ig (o:=.cells new esz true) (k:=λo=>gR h o λh'=>fN (n+1) λn=>K [.slice (some ⟨h.n,0,tag esz⟩) n 0] h')
    rw[e2,eZ,df]at hk
    refine⟨[.push (.cells new esz true)],_,_,?_,?_,hk⟩
    ·show(if n+1=0 then some ([],[Value.slice none 0 0])else if bJ (n+1) bytes then _ else none)=_
     rw[qdE (by omega),qdD hz]
    ·rw[fe,e1];rfl
   ·cases hk
 next a len cx _=>
  split at hk
  ·cases hk
  next ht=>
   have ht:=rQ.1 ht
   split at hk
   next m e rw' c hat=>
    split at hk
    next h1 h2=>
     have h1:=qac h1
     rw[qbT]at h2
     subst h1
     have hb:a.off+len*e<=m:=h2
     have hcut:cut (bS c m) a.off (len*e)=some (((bS c m).drop a.off).take (len*e)):=by rw[cut,qdD (by rw[ba];exact hb)]
     simp only[ht,ne_eq,not_true_eq_false,if_false,kj hat,HOT.ho,absO,hcut]
     cases cx with
     |zero=>
      simp only at hk ⊢
      cases n with
      |zero=>exact⟨[],_,h,by first|rw[qdD rfl]|rw[qdD trivial],rfl,hk⟩
      |succ n=>
       simp only at hk
       split at hk
       next q1 q2=>
        obtain⟨y,e1,hk⟩:=vF hb hk
        rw[gS,eZ,df]at hk
        refine⟨[.set a.block .dead,.push (.cells (((bS c m).drop a.off).take (len*e)++new) e true)],_,_,by rw[qdE (by omega),qdD (by rw[q2];rfl)],?_,hk⟩
        rw[fe,gX,e1];rfl
       ·cases hk
     |succ cap=>
      simp only at hk ⊢
      split at hk
      next q0=>
       rw[qbT]at q0
       split at hk
       next q1 q2=>
        rw[qbT,uE]at q2
        have q2:a.off+len*e+new.length<=m:=q2
        rw[nj,gS,df]at hk
        refine⟨[.set a.block (.cells ((bS c m).take (a.off+len*e)++new++(bS c m).drop (a.off+len*e+new.length)) e true)],_,_,by rw[qdD q0,qdD rfl,splice,qdD (by rw[ba];exact q2)];rfl,?_,hk⟩
        rw[gX]
        show(toL h).set a.block (.o (.cells (bS (insT new (a.off+len*e) c) m) e true))=_
        rw[oM q2];rfl
       ·cases hk
      next q0=>
       have q0:¬len+n<=cap:=λh=>by rw[←qbT,q0]at h;cases h
       split at hk
       next q1=>
        obtain⟨y,e1,hk⟩:=vF hb hk
        rw[eZ,df]at hk
        refine⟨[.push (.cells (((bS c m).drop a.off).take (len*e)++new) e true)],_,_,by rw[qdE q0,qdD q1],?_,hk⟩
        rw[fe,e1];rfl
       ·cases hk
    ·cases hk
   ·cases hk
 ·cases hk
def heapB_ok{T:Tt}{f:Hp}{h:HTr}{K:Tl->HTr->RT}(hk:heapB T f h K=some w) :
  ∃acts cs h',f.run (getH T (toL h)) (toL h).length=some (acts,cs)/\toL h'=cz (toL h) acts/\K cs h'=some w:=by
 unfold heapB at hk
 cases f with
 |st p new=>exact stB_ok (n0:=(toL h).length) hk
 |ap C esz bytes s x=>exact apB_ok hk
 |fn f=>
  simp only at hk
  rw[md]at hk
  split at hk
  next p e=>
   rw[nL]at hk
   obtain⟨h',e2,hk⟩:=qm hk
   exact⟨p.1,p.2,h',by rw[cU];exact e,e2,hk⟩
  ·cases hk
def toSL_ok{k:LK}{v:Value}{l:SL}(h:toSL k v=some l):l.is k=true/\l.val=v/\l.good:=by
 cases k with
 |i k=>
  cases v<;>simp only[toSL]at h<;>first|cases h|skip
  split at h
  next e=>cases h;exact⟨e,rfl,trivial⟩
  ·cases h
 |b=>
  cases v<;>simp only[toSL]at h<;>cases h
  exact⟨rfl,rfl,trivial⟩
 |v=>
  simp only[toSL]at h
  split at h
  next e=>cases h;exact⟨rfl,rfl,e⟩
  ·cases h
def wI:∀ {ks:TG} {vs:Tl} {xs:List SL},toSLs ks vs=some xs->aT xs ks=true/\xs.map SL.val=vs/\∀x∈xs,x.good
 | [],[],xs,h=>by cases h;exact⟨rfl,rfl,λ_ h=>by cases h⟩
 |k :: ks,v :: vs,xs,h=>by
  simp only[toSLs]at h
  split at h
  next x e=>
   split at h
   next ys e2=>
    cases h
    obtain⟨a1,a2,a3⟩:=toSL_ok e
    obtain⟨b1,b2,b3⟩:=wI e2
    refine⟨by simp[aT,a1,b1],by simp[a2,b2],λy hy=>?_⟩
    rcases qal.1 hy with rfl|hy
    ·exact a3
    ·exact b3 y hy
   ·cases h
  ·cases h
 | [],_ :: _,_,h=>by cases h
 |_ :: _,[],_,h=>by cases h
def toS0_ok{sk:SK}{v:Value}{x:S0}(h:toS0 sk v=some x):x.is sk=true/\x.val=v/\x.good:=by
 cases sk with
 |leaf k=>
  obtain⟨l,e,rfl⟩:=qad.1 h
  obtain⟨a1,a2,a3⟩:=toSL_ok e
  refine⟨a1,a2,λy hy=>?_⟩
  simp only[S0.cells,qam]at hy
  subst hy;exact a3
 |agg ks=>
  cases v<;>simp only[toS0]at h<;>first|cases h|skip
  obtain⟨l,e,rfl⟩:=qad.1 h
  obtain⟨a1,a2,a3⟩:=wI e
  exact⟨a1,by simp[S0.val,a2],a3⟩
def rR:∀ {sks:TJ} {vs:Tl} {xs:List S0},toS0s sks vs=some xs->bZ xs sks=true/\ai xs=vs/\∀x∈xs,x.good
 | [],[],xs,h=>by cases h;exact⟨rfl,rfl,λ_ h=>by cases h⟩
 |k :: ks,v :: vs,xs,h=>by
  simp only[toS0s]at h
  split at h
  next x e=>
   split at h
   next ys e2=>
    cases h
    obtain⟨a1,a2,a3⟩:=toS0_ok e
    obtain⟨b1,b2,b3⟩:=rR e2
    refine⟨by simp[bZ,a1,b1],by simp only[ai,qas,a2]at b2 ⊢;rw[b2],λy hy=>?_⟩
    rcases qal.1 hy with rfl|hy
    ·exact a3
    ·exact b3 y hy
   ·cases h
  ·cases h
 | [],_ :: _,_,h=>by cases h
 |_ :: _,[],_,h=>by cases h
def eqLK_ok{a b:LK}(h:eqLK a b=true):a=b:=by
 cases a<;>cases b<;>simp only[eqLK]at h<;>first|rfl|cases h|skip
 rw[dA h]
def vy:∀ {a b:TG},eqLKs a b=true->a=b
 | [],[],_=>rfl
 |a :: l,b :: m,h=>by
  simp only[eqLKs,qaa]at h
  rw[eqLK_ok h.1,vy h.2]
 | [],_ :: _,h=>by cases h
 |_ :: _,[],h=>by cases h
def eqSK_ok{a b:SK}(h:eqSK a b=true):a=b:=by
 cases a<;>cases b<;>simp only[eqSK]at h<;>first|cases h|skip
 ·rw[eqLK_ok h]
 ·rw[vy h]
def qG:∀ {a b:TJ},eqSKs a b=true->a=b
 | [],[],_=>rfl
 |a :: l,b :: m,h=>by
  simp only[eqSKs,qaa]at h
  rw[eqSK_ok h.1,qG h.2]
 | [],_ :: _,h=>by cases h
 |_ :: _,[],h=>by cases h
def cG:∀ {ls:TE},gN ls=true->cR ls
 | [],_=>λ_ h=>by cases h
 | .i n :: ls,h=>λl hl=>by
  rcases qal.1 hl with rfl|hl
  ·trivial
  ·exact cG (ls:=ls) h l hl
 | .b n :: ls,h=>λl hl=>by
  rcases qal.1 hl with rfl|hl
  ·trivial
  ·exact cG (ls:=ls) h l hl
 | .v n :: ls,h=>λl hl=>by
  have h:(match goodF n with|true=>gN ls|false=>false)=true:=h
  split at h
  next e=>
   rw[vE]at e
   rcases qal.1 hl with rfl|hl
   ·exact e
   ·exact cG (ls:=ls) h l hl
  ·cases h
def vj{C:Cfg}{Sg:Tb}{T:Tt}{call:ae}(hc:CallBOk C Sg T call){g:TN}{ls:TE}{h:HTr}{K:TE->HTr->RT}(hk:callB call g ls h K=some w) :
  ∃rs h',aw C Sg g ls (absH T (toL h)) rs (absH T (toL h'))/\K rs h'=some w:=by
 unfold callB at hk
 split at hk
 next e=>exact hc.f g ls h K w (cG e) hk
 ·cases hk
def mr{C:Cfg}{Sg:Tb}{T:Tt}{call:ae}(hc:CallBOk C Sg T call){g:TN}{hs:Option (TJ)}{vals:Tl}{h:HTr}{K:TE->HTr->RT}(hk:lS Sg call g hs vals h K=some w) :
  ∃sg rs ys h',Sg g=some sg/\(∀x,hs=some x->sg.rs=x)/\Told sg.rs rs ys/\iy C g vals (absH T (toL h)) (fz (ai ys)) (absH T (toL h'))/\K rs h'=some w:=by
 unfold lS at hk
 split at hk
 ·cases hk
 next sg e=>
  split at hk
  ·cases hk
  next e2=>
   split at hk
   ·cases hk
   next xs e3=>
    obtain⟨rs,h',⟨sg',xs',ys,c1,c2,c3,c4⟩,hk⟩:=vj hc hk
    rw[e]at c1
    cases c1
    obtain⟨d1,d2,d3⟩:=rR e3
    obtain⟨w1,_⟩:=cF c2.1 d1 c2.2.1
    rw[w1,d2]at c4
    refine⟨sg,rs,ys,h',e,λx hx=>?_,c3,c4,hk⟩
    subst hx
    exact qG e2
def js{T:Tt}{h:HTr}{l κ:Nat}{st:LoopState}{pd:Tk}{vs:Tl}(e:h.at l=some (.lp κ st pd vs)):ed (absH T (toL h)) l=some { lpOf (T κ) κ vs with state:=st,pending:=pd }:=by
 unfold ed absH
 rw[qaz,ja,e]
 rfl
def callvB_ok{C:Cfg}{Sg:Tb}{T:Tt}{call:ae}(hc:CallBOk C Sg T call){v:Value}{args:Tl}{hs:TJ}{h:HTr}{K:TE->HTr->RT}(hk:callvB Sg T call v args hs h K=some w) :
  ∃rs h',tY C v args hs (absH T (toL h)) rs (absH T (toL h'))/\K rs h'=some w:=by
 unfold callvB at hk
 split at hk
 next fn first cap=>
  split at hk
  next g=>
   obtain⟨sg,rs,ys,h',c1,c2,c3,c4,c5⟩:=mr hc hk
   rw[c2 _ rfl]at c3
   exact⟨rs,h',⟨ys,c3,.inl ⟨g,first,cap,rfl,c4⟩⟩,c5⟩
  next l=>
   split at hk
   next e1 e2=>
    have e1:first = #[]:=qa7.1 e1
    have e2:cap = #[]:=qa7.1 e2
    subst e1 e2
    split at hk
    next κ st pd vs e=>
     split at hk
     ·cases hk
     next e3=>
      have e3:=qG e3
      subst e3
      split at hk
      ·cases hk
      next xs e4=>
       split at hk
       next e5=>
        obtain⟨d1,d2,d3⟩:=rR e4
        obtain⟨b,h',y1,y2⟩:=hc.y κ vs l _ h K w st pd xs e ⟨d1,rfl,d3⟩ hk
        rw[d2]at y1
        refine⟨[.b b],h',⟨[.leaf (.b b)],⟨rfl,rfl,λx hx=>?_⟩,.inr ⟨l,rfl,y1⟩⟩,y2⟩
        simp only[qam]at hx
        subst hx
        intro y hy
        simp only[S0.cells,qam]at hy
        subst hy;trivial
       ·cases hk
    ·cases hk
   ·cases hk
  ·cases hk
 ·cases hk
def rfunB_ok{C:Cfg}{Sg:Tb}{T:Tt}{call:ae}(hc:CallBOk C Sg T call){κ:Nat}{v:Value}{vals:Tl}{h:HTr}{K:Tk->HTr->RT}(hk:rfunB Sg call κ v vals h K=some w) :
  ∃g first cap r H1 lp h2,v = .func (.func g) first cap/\iy C g (first.toList++[.func (.yield (absH T (toL h)).length) #[] #[]]++cap.toList) (absH T (toL h)++[.loop (lpOf (T κ) κ vals)]) r H1/\
   ed H1 (absH T (toL h)).length=some lp/\lp.state≠.busy/\absH T (toL h2)=H1.set (absH T (toL h)).length (.loop { lp with state:=.exhausted })/\K lp.pending h2=some w:=by
 unfold rfunB at hk
 split at hk
 next fn first cap=>
  split at hk
  next g=>
   rw[eZ]at hk
   obtain⟨sg,rs,ys,h',_,_,c3,c4,c5⟩:=mr hc hk
   have hlen:(absH T (toL h)).length=h.n:=by rw[du,cU]
   split at c5
   next κ' st pd vs e=>
    have hl:=js (T:=T) e
    rw[fe,gj]at c4
    have fin:∀(hst:st≠.busy),(putK h' h.n (.lp κ' .exhausted pd vs) λh2=>K pd h2)=some w->∃g' first' cap' r H1 lp h2,(Value.func (.func g) first cap) = .func (.func g') first' cap'/\iy C g' (first'.toList++[.func (.yield (absH T (toL h)).length) #[] #[]]++cap'.toList) (absH T (toL h)++[.loop (lpOf (T κ) κ vals)]) r H1/\
      ed H1 (absH T (toL h)).length=some lp/\lp.state≠.busy/\absH T (toL h2)=H1.set (absH T (toL h)).length (.loop { lp with state:=.exhausted })/\K lp.pending h2=some w:=by
     intro hst hk
     rw[gS]at hk
     refine⟨g,first,cap,fz (ai ys),absH T (toL h'),{ lpOf (T κ') κ' vs with state:=st,pending:=pd },h'.put h.n (.lp κ' .exhausted pd vs),rfl,?_,?_,hst,?_,hk⟩
     ·rw[hlen];exact c4
     ·rw[hlen];exact hl
     ·rw[gX,je,hlen];rfl
    cases st with
    |busy=>cases c5
    |_=>exact fin (by simp) c5
   ·cases c5
  ·cases hk
 ·cases hk
def tC{id:Nat}:∀ {ks:List (Nat×RT)},(List.rec none (λp _ ih=>match Nat.beq p.1 id with|true=>p.2|false=>ih) ks:RT)=some w->
  ∃id' x,some (Code.exit id)=some (Code.exit id')/\(id',x)∈ks/\x=some w
 | [],h=>by cases h
 |p :: ks,h=>by
  have h:(match Nat.beq p.1 id with|true=>p.2|false=>(List.rec none (λp _ ih=>match Nat.beq p.1 id with|true=>p.2|false=>ih) ks:RT))=some w:=h
  split at h
  next e=>
   exact⟨id,p.2,rfl,by rw[←qac e];exact qaE,h⟩
  ·obtain⟨id',x,a,b,c⟩:=tC h
   exact⟨id',x,a,qap _ b,c⟩
def shfB_ok{op:BinOp}{k k':TI}{a b:Int}{K:Int->RT}(h:shfB op k a k' b K=some w):∃n,ShRun op k a k' b n/\K n=some w:=by
 unfold shfB at h
 split at h
 next hb=>
  have hb:¬b<0:=by have:=leZ_iff.1 hb;omega
  split at h
  ·rw[jm]at h
   exact⟨_,λP t w=>by simp[binOp,Op.shift,hb],h⟩
  ·rw[jm]at h
   exact⟨_,λP t w=>by simp[binOp,Op.shift,hb],h⟩
  ·cases h
 ·cases h
def BA_ok{C:Cfg}{Sg:Tb}{T:Tt}{call:ae}(hc:CallBOk C Sg T call):AlgOk (BA Sg T call) C Sg T (λb=>b=some w) (λh=>absH T (toL h)) where
 fail:=by intro h;cases h
 cond:=by
  intro b x y h
  cases b
  ·exact .inr ⟨rfl,h⟩
  ·exact .inl ⟨rfl,h⟩
 ari:=λop k a b K h=>ariB_ok h
 shf:=λop k a k' b K h=>shfB_ok h
 cmp:=λop a b K h=>cmpB_ok h
 eqs:=λl K h=>eqsB_ok h
 conv:=λk a K h=>fitsK h
 sel:=by intro t a b K h;cases t<;>exact h
 opt:=by
  intro α o K h
  cases o with
  |none=>cases h
  |some x=>exact⟨x,rfl,h⟩
 chk:=by
  intro v K h
  have h:chkB v K=some w:=h
  unfold chkB at h
  split at h
  next e=>rw[vE]at e;exact⟨e,h⟩
  ·cases h
 unI:=by
  intro ls K h
  match ls,h with
  | .i n :: r,h=>exact⟨n,r,rfl,h⟩
 unB:=by
  intro ls K h
  match ls,h with
  | .b n :: r,h=>exact⟨n,r,rfl,h⟩
 unV:=by
  intro ls K h
  match ls,h with
  | .v n :: r,h=>exact⟨n,r,rfl,h⟩
 un0:=by
  intro ls K h
  match ls,h with
  | [],h=>exact⟨rfl,h⟩
 ucI:=by
  intro k ls K h
  match ls,h with
  | .int k' n :: r,h=>
   have h:(match cS k k' with|true=>K n r|false=>none)=some w:=h
   split at h
   next e=>rw[dA e];exact⟨n,r,rfl,h⟩
   ·cases h
 ucB:=by
  intro ls K h
  match ls,h with
  | .bool n :: r,h=>exact⟨n,r,rfl,h⟩
 ucV:=by
  intro ls K h
  match ls,h with
  |n :: r,h=>exact⟨n,r,rfl,h⟩
 uc0:=by
  intro ls K h
  match ls,h with
  | [],h=>exact⟨rfl,h⟩
 peek:=by
  intro f h K hk
  have hk:peekB T f h K=some w:=hk
  unfold peekB at hk
  rw[←ko]
  cases f with
  |ld n p=>exact ldB_ok hk
  |lg C n p=>exact lgB_ok hk
  |fn f=>
   simp only at hk
   rw[md]at hk
   split at hk
   next x e=>exact⟨x,e,hk⟩
   ·cases hk
 heap:=by
  intro f h K hk
  have hk:heapB T f h K=some w:=hk
  obtain⟨acts,cs,h',a1,a2,a3⟩:=heapB_ok hk
  exact⟨acts,cs,h',by rw[←ko,du];exact a1,by rw[a2];exact jS T acts (toL h),a3⟩
 new:=by
  intro o h K hk
  have hk:newB o h K=some w:=hk
  unfold newB at hk
  obtain⟨x,e1,e2⟩:=ig (o:=o) (k:=λo=>gR h o λh'=>K h.n h')
  rw[e2,eZ]at hk
  exact⟨h.push x,by rw[fe,e1];exact gj T (toL h) _,by rw[du,cU];exact hk⟩
 call:=λg ls h K hk=>vj hc hk
 callv:=λv args hs h K hk=>callvB_ok hc hk
 join:=λb m h=>h
 loop:=by
  intro F ls h hk
  refine⟨λn=>Nat.rec (motive:=λ_=>TE->HTr->RT) (λ_ _=>none) (λ_ ih ls h=>F ih ls h) n,λls h=>(by simp),λn ls h=>rfl,1000000,hk⟩
 rfun:=λκ v vals h K hk=>rfunB_ok hc hk
 pend:=by
  intro pd kn kr ks h
  cases pd with
  |none=>exact .inl ⟨rfl,h⟩
  |some c=>
   cases c<;>first|exact .inr (.inl ⟨rfl,h⟩)|skip
   case exit id=>
    exact .inr (.inr (tC h))
   all_goals cases h
 lp1:=by
  intro l h K hk
  have hk:lp1B l h K=some w:=hk
  unfold lp1B at hk
  split at hk
  next κ st pd vs e=>
   split at hk
   ·rw[gS]at hk
    exact⟨_,_,js e,rfl,by rw[gX];exact je T (toL h) l _,hk⟩
   ·cases hk
  ·cases hk
 lp2:=by
  intro l j h K hk
  have hk:lp2B l j h K=some w:=hk
  unfold lp2B at hk
  split at hk
  next κ st pd vs e=>
   cases j with
   |none=>
    have hk:putK h l (.lp κ .ready none vs) K=some w:=hk
    rw[gS]at hk
    exact⟨_,h.put l (.lp κ .ready none vs),js e,(congrArg (absH T) (gX h l (.lp κ .ready none vs))).trans (je T (toL h) l (.lp κ .ready none vs)),hk⟩
   |some c=>
    have hk:putK h l (.lp κ .done (some c) vs) K=some w:=hk
    rw[gS]at hk
    exact⟨_,h.put l (.lp κ .done (some c) vs),js e,(congrArg (absH T) (gX h l (.lp κ .done (some c) vs))).trans (je T (toL h) l (.lp κ .done (some c) vs)),hk⟩
  ·cases hk
inductive TabOk(C:Cfg)(Sg:Tb)(X:Ctxt)(dr:Dr)(A:Alg RT HTr)(f:TN)(ls:TE)(h:HTr)(K:TE->HTr->RT)(w:TE):Prop
 |run (fn:Fn1) (hi:FnIs X Sg f fn) (he:aF A X Sg dr fn ls h K=some w)
 |known (rs:TE) (hc:∀H,aw C Sg f ls H rs H) (hk:K rs h=some w)
 |alone (fn:Fn1) (rs:TE) (sg:Sig) (hi:FnIs X Sg f fn) (hs:Sg f=some sg) (hp:sg.plain=true) (he:aF A X Sg dr fn ls .empty (λrs _=>some rs)=some rs) (hk:K rs h=some w)
end
end Sx
namespace Sx
def gfl(v:Value):Bool:=match v with
 | .pointer (some a)=>a.spot==some 1
 | .slice (some a) _ _=>a.spot==some 1
 |v=>scalar v
section
variable [Val]
def tA [Glo]{mu:HMap}{p:Pl}{x y:Option Obj}{o:HObj}(hxy:∀a,x=some a->y=some a)(h:objR mu p x o):objR mu p y o:=by
 cases o with
 |cells vs esz rw=>
  obtain⟨h1,h2,h3,c,e,fr,h4,h5⟩:=h
  exact⟨h1,h2,h3,c,e,fr,hxy _ h4,h5⟩
 |map es clock=>
  obtain⟨es',h1,h2⟩:=h
  exact⟨es',hxy _ h1,h2⟩
 |loop r=>
  obtain⟨L,h1,h2⟩:=h
  exact⟨L,hxy _ h1,h2⟩
 |siter s pos=>exact hxy _ h
 |dead=>trivial
def flatVRs [Glo]{la:LMap}{mu mu':HMap}{vs cs:Tl}(hf:vs.all flat=true)(h:VRs la mu vs cs):VRs la mu' vs cs:=by
 refine⟨h.1,λi x y hx hy=>?_⟩
 have h1:=h.2 i x y hx hy
 have h2:flat x=true:=qag.1 hf x (qab hx)
 rw[fj h2 h1]
 exact .of_flat h2
def gflVR [Glo]{la la':LMap}{mu mu':HMap}{v c:Value}(hf:gfl v=true)(h:VR la mu v c):VR la' mu' v c:=by
 cases h with
 |poison c=>cases hf
 |sym h=>cases hf
 |scalar h=>exact .scalar h
 |agg _ _=>cases hf
 |tuple _ _ _=>cases hf
 |func _ _ _ _ _=>cases hf
 |yield _=>cases hf
 |lptr _=>cases hf
 |hptr _=>cases hf
 |gptr=>exact .gptr
 |hslice _ _ _ _=>simp[gfl,tag]at hf
 |hslice0 _=>simp[gfl,tag]at hf
 |gslice hl hx=>exact .gslice hl hx
 |gslice0 hx=>exact .gslice0 hx
 |map _=>cases hf
def me [Glo]{mu mu':HMap}{vs:Tl}{c:Tj}{o:Nat}(hf:vs.all gfl=true)(h:bO mu vs c o):bO mu' vs c o:=by
 intro i v hv
 obtain⟨v',h1,h2⟩:=h i v hv
 exact⟨v',h1,gflVR (qag.1 hf v (qab hv)) h2⟩
def no_own{mu:HMap}{b:Nat}:¬Own mu [] b:=by
 rintro⟨id,o,p,h,_⟩
 simp at h
def frame_ok{C:Cfg}(hG:∀g vs,C.G g=some vs->vs.all gfl=true){f:TN}{args:Tl}{r:Value}{H':Ts}(h:cM C f args [] r H')(ha:args.all flat=true)(hr:flat r=true)(H:Ts):cM C f args H r H:=by
 intro _ base mu w args' hb hargs hW cs
 have hW0:WR C w.heap.size (λ_=>none) [] w:=by
  refine⟨λid o h=>by simp at h,λi j oi oj pi pj h=>by simp at h,λi o p h=>by simp at h,λi o p h=>by simp at h,λ_ _=>rfl,λg vs hg=>?_⟩
  obtain⟨h1,h2,c,e,fr,h3,h4⟩:=hW.glob g vs hg
  exact⟨by omega,h2,c,e,fr,h3,me (hG g vs hg) h4⟩
 obtain⟨v,mu',w',a1,a2,a3,a4,a5⟩:=h _ w.heap.size (λ_=>none) w args' (qaf _) (flatVRs ha hargs) hW0 cs
 have hkeep:∀(b:Nat) x,w.heap[b]?=some x->w'.heap[b]?=some x:=by
  intro b x hx
  have hlt:b<w.heap.size:=by
   rcases qaQ b w.heap.size with h|h
   ·exact h
   ·rw[qbc h]at hx;cases hx
  rw[a3.keep b hlt no_own];exact hx
 refine⟨v,mu,w',?_,?_,?_,a4,a5⟩
 ·rw[fj hr a1];exact .of_flat hr
 ·refine⟨λid o h1 h2=>?_,hW.inj,hW.own,hW.ro,hW.dom,λg vs hg=>?_⟩
  ·obtain⟨p,h3,h4⟩:=hW.obj id o h1 h2
   exact⟨p,h3,tA (hkeep p.b) h4⟩
  ·obtain⟨h1,h2,c,e,fr,h3,h4⟩:=hW.glob g vs hg
   exact⟨h1,h2,c,e,fr,hkeep _ _ h3,h4⟩
 ·exact⟨qaf _,λ_ _=>rfl,a3.size,λb hb _=>a3.keep b hb no_own,λb h=>.inr h,a3.os,a3.tape,a3.output,a3.dr⟩
abbrev _root_.TC:=Nat->Nat
def frame_ro{C:Cfg}(hG:∀g vs,C.G g=some vs->vs.all gfl=true){f:TN}{args0 args:Tl}{r:Value}{H0 H' H:Ts}(σ:TC)(h:cM C f args0 H0 r H')(hr:flat r=true)
  (h0:∀(j:Nat) (o:HObj),H0[j]?=some o->∃vs e rw,o = .cells vs e false/\vs.all flat=true/\H[σ j]?=some (.cells vs e rw))
  (ha:∀ [Glo] (mu mu0:HMap) (cs:Tl),(∀j,j<H0.length->mu0 j=mu (σ j))->VRs noL mu args cs->VRs noL mu0 args0 cs):cM C f args H r H:=by
 intro _ base mu w args' hb hargs hW cs
 let mu0:HMap:=λj=>if j<H0.length then mu (σ j)else none
 have hno:∀b,¬Own mu0 H0 b:=by
  rintro b ⟨id,o,p,h1,h2,_⟩
  obtain⟨vs,e,rw',rfl,_⟩:=h0 id o h1
  cases h2
 have hmu:∀(id:Nat) (o:HObj),H0[id]?=some o->mu0 id=mu (σ id):=by
  intro id o h1
  have:id<H0.length:=by
   rcases qaQ id H0.length with h|h
   ·exact h
   ·rw[qaj h]at h1;cases h1
  simp only[mu0,qdD this]
 have hobj:∀(id:Nat) (o:HObj),H0[id]?=some o->∃p,mu0 id=some p/\objR mu0 p w.heap[p.b]? o:=by
  intro id o h1
  obtain⟨vs,e,rw',rfl,hf,hH⟩:=h0 id o h1
  obtain⟨p,h3,h4⟩:=hW.obj (σ id) _ hH rfl
  obtain⟨g1,g2,g3,c,e',fr,g4,g5,g6,g7⟩:=h4
  refine⟨p,by rw[hmu id _ h1];exact h3,g1,g2,g3,c,e',fr,g4,g5,λe=>by(cases e),λi v hv=>?_⟩
  obtain⟨v',q1,q2⟩:=g7 i v hv
  have h2:flat v=true:=qag.1 hf v (qab hv)
  refine⟨v',q1,?_⟩
  rw[fj h2 q2]
  exact .of_flat h2
 have hW0:WR C w.heap.size mu0 H0 w:=by
  refine⟨λid o h1 _=>hobj id o h1,λi j oi oj pi pj h1 h2 h3=>?_,λi o p h1 h2=>?_,λi o p h1 _ _ h2=>?_,λid h1=>?_,λg vs hg=>?_⟩
  ·obtain⟨vs,e,rw',rfl,_⟩:=h0 i oi h1
   cases h3
  ·obtain⟨vs,e,rw',rfl,_⟩:=h0 i o h1
   cases h2
  ·obtain⟨p',h3,h4⟩:=hobj i o h1
   rw[h2]at h3
   cases h3
   obtain⟨vs,e,rw',rfl,_⟩:=h0 i o h1
   obtain⟨_,_,_,c,e',fr,g4,_⟩:=h4
   rcases qaQ p.b w.heap.size with h|h
   ·exact h
   ·rw[qbc h]at g4;cases g4
  ·simp only[mu0,qdE (Nat.not_lt.2 h1)]
  ·obtain⟨h1,h2,c,e,fr,h3,h4⟩:=hW.glob g vs hg
   exact⟨by omega,h2,c,e,fr,h3,me (hG g vs hg) h4⟩
 have hargs0:VRs noL mu0 args0 args'.toList:=ha mu mu0 _ (λj hj=>by simp only[mu0,qdD hj]) hargs
 obtain⟨v,mu',w',a1,a2,a3,a4,a5⟩:=h _ w.heap.size mu0 w args' (qaf _) hargs0 hW0 cs
 have hkeep:∀(b:Nat) x,w.heap[b]?=some x->w'.heap[b]?=some x:=by
  intro b x hx
  have hlt:b<w.heap.size:=by
   rcases qaQ b w.heap.size with h|h
   ·exact h
   ·rw[qbc h]at hx;cases hx
  rw[a3.keep b hlt (hno b)];exact hx
 refine⟨v,mu,w',?_,?_,?_,a4,a5⟩
 ·rw[fj hr a1];exact .of_flat hr
 ·refine⟨λid o h1 h2=>?_,hW.inj,hW.own,hW.ro,hW.dom,λg vs hg=>?_⟩
  ·obtain⟨p,h3,h4⟩:=hW.obj id o h1 h2
   exact⟨p,h3,tA (hkeep p.b) h4⟩
  ·obtain⟨h1,h2,c,e,fr,h3,h4⟩:=hW.glob g vs hg
   exact⟨h1,h2,c,e,fr,hkeep _ _ h3,h4⟩
 ·exact⟨qaf _,λ_ _=>rfl,a3.size,λb hb _=>a3.keep b hb (hno b),λb h=>.inr h,a3.os,a3.tape,a3.output,a3.dr⟩
end
section
variable [Val] [Kno]
end
end Sx
namespace Sx
def gh(F:TB)(H H2:Ts):Prop:=∀r∈F,∀x,H[r]?=some x->x.alive=true->H2[r]?=some x
structure HEff where
 set:Option (Nat×HObj)
 push:Option (HObj×(Nat->Value))
 v:Value
def HEff.put(e:HEff)(H:Ts):Ts:=match e.set with
 |some p=>H.set p.1 p.2
 |none=>H
def HEff.heap(e:HEff)(H:Ts):Ts:=match e.push with
 |some p=>e.put H++[p.1]
 |none=>e.put H
def HEff.val(e:HEff)(n:Nat):Value:=match e.push with
 |some p=>p.2 n
 |none=>e.v
def LocF(nw:Prop)(F W:TB)(f:Ts->Option (List HObj×Value))(H:Ts):Prop:=
 ∀H' v,f H=some (H',v)->∃e:HEff,H'=e.heap H/\v=e.val H.length/\(∀p,e.set=some p->p.1∈W/\∃x,H[p.1]?=some x/\x.alive=true)/\(∀p,e.push=some p->nw/\Fresh p.2/\p.1.alive=true)/\
  ∀H2,gh F H H2->f H2=some (e.heap H2,e.val H2.length)
def LocG(F:TB)(f:Ts->Ti)(H:Ts):Prop:=∀v,f H=some v->∀H2,gh F H H2->f H2=some v
def dd{F:TB}{H H2:Ts}(h:gh F H H2){r:Nat}(hr:r∈F){vs:Tl}{e:Nat}{b:Bool}(hx:H[r]?=some (.cells vs e b)):H2[r]?=some (.cells vs e b):=h r hr _ hx rfl
def cm{F:TB}{H H2:Ts}(h:gh F H H2){r:Nat}(hr:r∈F){es:Th}{c:Nat}(hx:hmap H r=some (es,c)):H[r]?=some (.map es c)/\hmap H2 r=some (es,c):=by
 unfold hmap at hx
 split at hx
 next e=>
  cases hx
  exact⟨e,by unfold hmap;rw[h r hr _ e rfl]⟩
 ·cases hx
def iK{C:Cfg}{H H2:Ts}{esz:Nat}{x:Value}{p:List Value×Nat}(hc:cI C H esz x=some p){F:TB}(hF:∀r∈adr x,r∈F)(h:gh F H H2):cI C H2 esz x=some p:=by
 unfold cI at hc ⊢
 split at hc
 ·exact hc
 next a len cx=>
  split at hc
  next hs=>simp only[hs,if_true];exact hc
  next hs=>
   split at hc
   next ht=>
    simp only[hs,if_false,ht,if_true]
    split at hc
    next vs e b hid=>
     have hm:a.block∈adr (.slice (some a) len cx):=by
      simp[adr,ht,tag]
     rw[dd h (hF _ hm) hid]
     exact hc
    ·cases hc
   ·cases hc
 ·exact hc
 ·cases hc
def uF{nw:Prop}{F W:TB}{H:Ts}(hnw:nw)(x:HObj)(mk:Nat->Value)(hx:x.alive=true)(hm:Fresh mk):LocF nw F W (λH=>some (H++[x],mk H.length)) H:=by
 intro H' v h
 cases h
 exact⟨⟨none,some (x,mk),undef⟩,rfl,rfl,λp hp=>(by cases hp),λp hp=>by cases hp;exact⟨hnw,hm,hx⟩,λH2 _=>rfl⟩
def fQ{nw:Prop}{F W:TB}{f:Ts->Option (List HObj×Value)}{H:Ts}{v:Value}(h:f H=some (H,v))(h2:∀H2,gh F H H2->f H2=some (H2,v)) :
  ∃e:HEff,H=e.heap H/\v=e.val H.length/\(∀p,e.set=some p->p.1∈W/\∃x,H[p.1]?=some x/\x.alive=true)/\(∀p,e.push=some p->nw/\Fresh p.2/\p.1.alive=true)/\∀H2,gh F H H2->f H2=some (e.heap H2,e.val H2.length):=
 ⟨⟨none,none,v⟩,rfl,rfl,λp hp=>(by cases hp),λp hp=>(by cases hp),h2⟩
def qZ{nw:Prop}{F W:TB}{f:Ts->Option (List HObj×Value)}{H:Ts}{x:HObj}{mk:Nat->Value}(hnw:nw)(hx:x.alive=true)(hm:Fresh mk)(h2:∀H2,gh F H H2->f H2=some (H2++[x],mk H2.length)) :
  ∃e:HEff,H++[x]=e.heap H/\mk H.length=e.val H.length/\(∀p,e.set=some p->p.1∈W/\∃x,H[p.1]?=some x/\x.alive=true)/\(∀p,e.push=some p->nw/\Fresh p.2/\p.1.alive=true)/\∀H2,gh F H H2->f H2=some (e.heap H2,e.val H2.length):=
 ⟨⟨none,some (x,mk),undef⟩,rfl,rfl,λp hp=>(by cases hp),λp hp=>by cases hp;exact⟨hnw,hm,hx⟩,h2⟩
def fk{nw:Prop}{F W:TB}{f:Ts->Option (List HObj×Value)}{H:Ts}{i:Nat}{x y:HObj}{v:Value}(hi:i∈W)(hy:H[i]?=some y)(ha:y.alive=true)(h2:∀H2,gh F H H2->f H2=some (H2.set i x,v)) :
  ∃e:HEff,H.set i x=e.heap H/\v=e.val H.length/\(∀p,e.set=some p->p.1∈W/\∃x,H[p.1]?=some x/\x.alive=true)/\(∀p,e.push=some p->nw/\Fresh p.2/\p.1.alive=true)/\∀H2,gh F H H2->f H2=some (e.heap H2,e.val H2.length):=
 ⟨⟨some (i,x),none,v⟩,rfl,rfl,λp hp=>by cases hp;exact⟨hi,y,hy,ha⟩,λp hp=>(by cases hp),h2⟩
def xq{nw:Prop}{C:Cfg}{t:TM}{s x:Value}{H:Ts}{F W:TB}(hnw:nw)(hs:∀r∈adr s,r∈F/\r∈W)(hx:∀r∈adr x,r∈F):LocF nw F W (fg C t s x) H:=by
 intro H' v hf
 unfold fg at hf
 split at hf
 case h_2=>cases hf
 rename_i elem hu
 split at hf
 ·cases hf
 rename_i info hi
 split at hf
 ·cases hf
 rename_i hsz
 split at hf
 ·cases hf
 rename_i hz
 split at hf
 ·cases hf
 rename_i new n hcv
 have base:∀H2,gh F H H2->fg C t s x H2=(match (motive:=Value->Option (List HObj×Value)) s with
   | .slice none 0 0=>
    if n=0 then some (H2,.slice none 0 0)
    else if bJ n info.bytes then some (H2++[.cells new info.size true],.slice (some ⟨H2.length,0,tag info.size⟩) n 0)else none
   | .slice (some a) len cx=>
    if a.spot≠tag info.size then none else
    match H2[a.block]? with
    |some (.cells vs e rw)=>
     if e≠info.size then none else
     match cut vs a.off (len*info.size)with
     |none=>none
     |some old=>
      match cx with
      |0=>
       if n=0 then some (H2,.slice (some a) len 0)
       else if rw&&bJ (len+n) info.bytes then
        some (H2.set a.block .dead++[.cells (old++new) info.size true],.slice (some ⟨H2.length,0,tag info.size⟩) (len+n) 0)
       else none
      |cap+1=>
       if len+n<=cap then
        if rw then(splice vs (a.off+len*info.size) new).map λvs'=>(H2.set a.block (.cells vs' e true),.slice (some a) (len+n) (cap+1))
        else if n=0 then some (H2,.slice (some a) len (cap+1))else none
       else if bJ (len+n) info.bytes then
        some (H2++[.cells (old++new) info.size true],.slice (some ⟨H2.length,0,tag info.size⟩) (len+n) 0)
       else none
    |_=>none
   |_=>none):=by
  intro H2 h2
  unfold fg
  simp only[hu,hi,hsz,if_false,hz,iK hcv hx h2]
  rfl
 split at hf
 ·split at hf
  next hn=>
   cases hf
   exact fQ (by rw[base H λ_ _ _ h _=>h];simp only[hn,if_true]) λH2 h2=>by rw[base H2 h2];simp only[hn,if_true]
  next hn=>
   split at hf
   next hok=>
    cases hf
    exact qZ (mk:=λk=>.slice (some ⟨k,0,tag info.size⟩) n 0) hnw rfl (.slice _ _ _) λH2 h2=>by rw[base H2 h2];simp only[hn,if_false,hok,if_true]
   ·cases hf
 next a len cx=>
  split at hf
  ·cases hf
  rename_i hsp
  have hm:a.block∈adr (.slice (some a) len cx):=by
   simp only[ne_eq,Classical.not_not]at hsp
   simp[adr,hsp,tag]
  split at hf
  case h_2=>cases hf
  rename_i vs e rw0 hid
  split at hf
  ·cases hf
  rename_i he
  split at hf
  ·cases hf
  rename_i old hcut
  have hid2:∀ {H2},gh F H H2->H2[a.block]?=some (.cells vs e rw0):=λh2=>dd h2 (hs _ hm).1 hid
  split at hf
  ·split at hf
   next hn=>
    cases hf
    exact fQ (by rw[base H λ_ _ _ h _=>h];simp only[hsp,hid,he,hcut,hn,if_true,if_false]) λH2 h2=>by rw[base H2 h2];simp only[hsp,hid2 h2,he,hcut,hn,if_true,if_false]
   next hn=>
    split at hf
    next hok=>
     cases hf
     refine⟨⟨some (a.block,.dead),some (.cells (old++new) info.size true,λk=>.slice (some ⟨k,0,tag info.size⟩) (len+n) 0),undef⟩,rfl,rfl,λp hp=>by cases hp;exact⟨(hs _ hm).2,_,hid,rfl⟩,λp hp=>by cases hp;exact⟨hnw,.slice _ _ _,rfl⟩,λH2 h2=>?_⟩
     rw[base H2 h2];simp only[hsp,hid2 h2,he,hcut,hn,hok,if_true,if_false];rfl
    ·cases hf
  ·split at hf
   next cap hle=>
    split at hf
    next hrw=>
     obtain⟨vs',hspl,hq⟩:=qad.1 hf
     cases hq
     exact fk (hs _ hm).2 hid rfl λH2 h2=>by rw[base H2 h2];simp only[hsp,hid2 h2,he,hcut,hle,hrw,if_true,if_false,hspl,qaC]
    next hrw=>
     split at hf
     next hn=>
      cases hf
      exact fQ (by rw[base H λ_ _ _ h _=>h];simp only[hsp,hid,he,hcut,hle,hn,hrw,if_true,if_false];simp[hn];omega) λH2 h2=>by rw[base H2 h2];simp only[hsp,hid2 h2,he,hcut,hle,hrw,hn,if_true,if_false];simp[hn];omega
     ·cases hf
   next cap hle=>
    split at hf
    next hok=>
     cases hf
     exact qZ (mk:=λk=>.slice (some ⟨k,0,tag info.size⟩) (len+n) 0) hnw rfl (.slice _ _ _) λH2 h2=>by rw[base H2 h2];simp only[hsp,hid2 h2,he,hcut,hle,hok,if_true,if_false]
    ·cases hf
 ·cases hf
def loc_copy{nw:Prop}{C:Cfg}{t:TM}{d x:Value}{H:Ts}{F W:TB}(hs:∀r∈adr d,r∈F/\r∈W)(hx:∀r∈adr x,r∈F):LocF nw F W (mJ C t d x) H:=by
 intro H' v hf
 unfold mJ at hf
 split at hf
 next elem hu=>
  split at hf
  ·cases hf
  rename_i hsz
  obtain⟨p,hp,hq⟩:=qad.1 hf
  cases hq
  exact fQ (by unfold mJ;simp only[hu,hsz,if_false,hp,qaC]) λH2 h2=>by unfold mJ;simp only[hu,hsz,if_false,iK hp hx h2,qaC]
 next elem a dlen cx hu=>
  split at hf
  ·cases hf
  rename_i hsz
  split at hf
  ·cases hf
  rename_i hsp
  split at hf
  case h_2=>cases hf
  rename_i new n vs e hcv hid
  split at hf
  ·cases hf
  rename_i he
  obtain⟨vs',hspl,hq⟩:=qad.1 hf
  cases hq
  have hm:a.block∈adr (.slice (some a) dlen cx):=by
   simp only[ne_eq,Classical.not_not]at hsp
   simp[adr,hsp,tag]
  refine fk (hs _ hm).2 hid rfl λH2 h2=>?_
  unfold mJ
  simp only[hu,hsz,hsp,he,if_false,iK hcv hx h2,dd h2 (hs _ hm).1 hid,hspl,qaC]
 ·cases hf
def loc_clear{nw:Prop}{C:Cfg}{t:TM}{x:Value}{H:Ts}{F W:TB}(hs:∀r∈adr x,r∈F/\r∈W):LocF nw F W (gz C t x) H:=by
 intro H' v hf
 unfold gz at hf
 split at hf
 next elem hu=>
  cases hf
  exact fQ (by unfold gz;simp only[hu]) λH2 h2=>by unfold gz;simp only[hu]
 next elem a n cx hu=>
  split at hf
  ·cases hf
  rename_i hsz
  split at hf
  ·cases hf
  rename_i hsp
  split at hf
  case h_2=>cases hf
  rename_i z vs e hz hid
  split at hf
  ·cases hf
  rename_i he
  obtain⟨vs',hspl,hq⟩:=qad.1 hf
  cases hq
  have hm:a.block∈adr (.slice (some a) n cx):=by
   simp only[ne_eq,Classical.not_not]at hsp
   simp[adr,hsp,tag]
  refine fk (hs _ hm).2 hid rfl λH2 h2=>?_
  unfold gz
  simp only[hu,hsz,hsp,he,if_false,hz,dd h2 (hs _ hm).1 hid,hspl,qaC]
 ·cases hf
def loc_store{nw:Prop}{C:Cfg}{t:TM}{id off:Nat}{x:Value}{H:Ts}{F W:TB}(h1:id∈F)(h2:id∈W):LocF nw F W (iP C t id off x) H:=by
 intro H' v hf
 unfold iP at hf
 split at hf
 next vs e hid=>
  obtain⟨vs',hw,hq⟩:=qad.1 hf
  cases hq
  refine fk h2 hid rfl λH2 h3=>?_
  unfold iP
  simp only[dd h3 h1 hid,hw,qaC]
 ·cases hf
def px{nw:Prop}{C:Cfg}{t:TM}{m k x:Value}{H:Ts}{F W:TB}(hs:∀r∈adr m,r∈F/\r∈W):LocF nw F W (cq C t m k x) H:=by
 intro H' v hf
 unfold cq at hf
 split at hf
 case h_2=>cases hf
 rename_i kt et id hu
 split at hf
 ·cases hf
 rename_i hok
 split at hf
 ·cases hf
 rename_i es c hm
 obtain⟨f1,w1⟩:=hs id (by simp[adr])
 have g1:=(cm (λ_ _ _ h _=>h:gh F H H) f1 hm).1
 split at hf
 ·cases hf
 next hfi=>
  cases hf
  refine fk w1 g1 rfl λH2 h2=>?_
  unfold cq
  simp only[hu,hok,(cm h2 f1 hm).2,hfi]
  rfl
 next i hfi=>
  split at hf
  next hb=>
   cases hf
   refine fk w1 g1 rfl λH2 h2=>?_
   unfold cq
   simp only[hu,hok,(cm h2 f1 hm).2,hfi,hb]
   rfl
  ·cases hf
def loc_entry{nw:Prop}{C:Cfg}{t:TM}{m k:Value}{H:Ts}{F W:TB}(hs:∀r∈adr m,r∈F/\r∈W):LocF nw F W (cp C t m k) H:=by
 intro H' v hf
 unfold cp at hf
 split at hf
 case h_2=>cases hf
 rename_i kt et id hu
 split at hf
 ·cases hf
 rename_i hok
 split at hf
 ·cases hf
 rename_i es c hm
 obtain⟨f1,w1⟩:=hs id (by simp[adr])
 have g1:=(cm (λ_ _ _ h _=>h:gh F H H) f1 hm).1
 split at hf
 ·cases hf
 next hfi=>
  split at hf
  ·cases hf
  rename_i z hz
  cases hf
  refine fk w1 g1 rfl λH2 h2=>?_
  unfold cp
  simp only[hu,hok,(cm h2 f1 hm).2,hfi,hz]
  rfl
 next i hfi=>
  split at hf
  ·cases hf
  rename_i e hei
  split at hf
  next hb=>
   cases hf
   refine fk w1 g1 rfl λH2 h2=>?_
   unfold cp
   simp only[hu,hok,(cm h2 f1 hm).2,hfi,hei,hb]
   rfl
  ·cases hf
def xt{nw:Prop}{m s x:Value}{H:Ts}{F W:TB}(hs:∀r∈adr m,r∈F/\r∈W):LocF nw F W (cC m s x) H:=by
 intro H' v hf
 unfold cC at hf
 split at hf
 case h_2=>cases hf
 rename_i id b hb
 split at hf
 ·cases hf
 rename_i hok
 split at hf
 ·cases hf
 rename_i es c hm
 obtain⟨f1,w1⟩:=hs id (by simp[adr])
 have g1:=(cm (λ_ _ _ h _=>h:gh F H H) f1 hm).1
 split at hf
 next i hfi=>
  cases hf
  refine fk w1 g1 rfl λH2 h2=>?_
  unfold cC
  simp only[hb,hok,(cm h2 f1 hm).2,hfi]
  rfl
 ·cases hf
def xr{nw:Prop}{C:Cfg}{t:TM}{m k:Value}{H:Ts}{F W:TB}(hs:∀r∈adr m,r∈F/\r∈W):LocF nw F W (dH C t m k) H:=by
 intro H' v hf
 unfold dH at hf
 split at hf
 case h_2=>cases hf
 rename_i kt et hu
 split at hf
 ·cases hf
 rename_i hok
 split at hf
 ·cases hf
  exact fQ (by unfold dH;simp only[hu,hok];rfl) λH2 h2=>by unfold dH;simp only[hu,hok];rfl
 next id=>
  obtain⟨f1,w1⟩:=hs id (by simp[adr])
  split at hf
  ·cases hf
  rename_i es c hm
  have g1:=(cm (λ_ _ _ h _=>h:gh F H H) f1 hm).1
  split at hf
  ·cases hf
  next hfi=>
   cases hf
   exact fQ (by unfold dH;simp only[hu,hok,hm,hfi];rfl) λH2 h2=>by unfold dH;simp only[hu,hok,(cm h2 f1 hm).2,hfi];rfl
  next i hfi=>
   cases hf
   refine fk w1 g1 rfl λH2 h2=>?_
   unfold dH
   simp only[hu,hok,(cm h2 f1 hm).2,hfi]
   rfl
 ·cases hf
def loc_make{nw:Prop}{C:Cfg}{t:TM}{l c:Value}{H:Ts}{F W:TB}(hnw:nw):LocF nw F W (dq C t l c) H:=by
 intro H' v hf
 unfold dq at hf
 split at hf
 case h_2=>cases hf
 rename_i ln cn e h1 h2 hu
 split at hf
 case h_2=>cases hf
 rename_i info hi
 split at hf
 ·cases hf
 rename_i hsz
 split at hf
 case h_2=>cases hf
 rename_i z hz
 split at hf
 next hb=>
  cases hf
  refine qZ (mk:=λk=>.slice (some ⟨k,0,tag info.size⟩) ln.toNat (cn.toNat+1)) hnw rfl (.slice _ _ _) λH2 _=>?_
  unfold dq
  simp only[h1,h2,hu,hi,hsz,hz,hb,and_self,if_true,if_false]
 ·cases hf
def xu{C:Cfg}{t:TM}{m k:Value}{ok:Bool}{H:Ts}{F:TB}(hs:∀r∈adr m,r∈F):LocG F (cD C t m k ok) H:=by
 intro v hf H2 h2
 unfold cD at hf
 unfold cD
 split at hf
 case h_2=>cases hf
 rename_i kt et hu
 split at hf
 ·cases hf
 rename_i hok
 simp only[hok]
 split at hf
 ·cases hf
 rename_i z hz
 split at hf
 ·exact hf
 next id=>
  have f1:=hs id (by simp[adr])
  split at hf
  ·cases hf
  rename_i es c hm
  simp only[(cm h2 f1 hm).2]
  exact hf
 ·cases hf
def loc_arr{C:Cfg}{t:TM}{a:Addr}{lo hi mx:Ti}{H:Ts}{F:TB}(hs:∀r∈adr (.pointer (some a)),r∈F):LocG F (cJ C t a lo hi mx) H:=by
 intro v hf H2 h2
 unfold cJ at hf
 unfold cJ
 split at hf
 case h_2=>cases hf
 rename_i n elem hu
 split at hf
 ·cases hf
 rename_i hsz
 simp only[hsz,if_false]
 split at hf
 ·cases hf
 rename_i l h m hb
 split at hf
 next hsp=>
  simp only[hsp,if_true];exact hf
 next hsp=>
  simp only[hsp,if_false]
  split at hf
  next hn=>
   simp only[hn,if_true]
   split at hf
   next vs e b hid=>
    rw[dd h2 (hs _ (by simp[adr,hn])) hid]
    exact hf
   ·cases hf
  ·cases hf
end Sx
namespace Sx
def fpo(pts:TB)(ρ:Tf)(o:Oper):TB:=(cV pts o).1.flatMap λx=>adrK (cV pts o).2 (ρ x)
def wpo(pts:TB)(ρ:Tf)(o:Oper):TB:=(en pts o).flatMap λx=>adr (ρ x)
def okS(N:Tc)(pts:TB)(o:Oper):Bool:=
 match az N pts o with
 |some .hw=>(match o.op with
  | .call c=>(match c.callee with
   | .builtin _=>true
   |_=>false)
  |_=>true)
 |some .hr=>(match o.op with
  | .call c=>(match c.callee with
   | .builtin _=>true
   |_=>false)
  |_=>true)
 |some _=>true
 |none=>false
def dt{C:Cfg}{ρ:Tf}{o:Oper}{e:Eff}(h:cu C ρ o=some e):∃v,e = .val v:=by
 unfold cu at h
 split at h
 ·split at h
  ·split at h
   ·cases h;exact⟨_,rfl⟩
   ·cases h
  ·cases h
 ·cases h
def dB{x:Ti}{e:Eff}(h:x.map Eff.val=some e):∃v,e = .val v:=by
 obtain⟨v,_,rfl⟩:=qad.1 h
 exact⟨v,rfl⟩
def nohop_or{a:Ti}{b:Option Eff}{e:Eff}(hb:b=some e->∃v,e = .val v)(h:nG a b=some e):∃v,e = .val v:=by
 unfold nG at h
 split at h
 ·cases h;exact⟨_,rfl⟩
 ·exact hb h
def LocE(Q nw:Prop)(F W:TB):Eff->Prop
 | .hop f=>∀H,LocF nw F W f H
 | .hget f=>∀H,LocG F f H
 | .call _ _=>Q
 | .yield _ _=>Q
 |_=>True
def bV{Q nw:Prop}{F W:TB}{e:Eff}(h:∃v,e = .val v):LocE Q nw F W e:=by
 obtain⟨v,rfl⟩:=h;trivial
def iO{v:Value}{p:Nat×Nat}(h:gO v=some p):adr v=[p.1]:=by
 unfold gO at h
 split at h
 next a=>
  split at h
  next hs=>
   cases h
   cases hsp:a.spot with
   |none=>simp[adr,hsp]
   |some k=>rw[hsp]at hs;cases hs
  ·cases h
 ·cases h
def vK{Q nw:Prop}{C:Cfg}{pts:TB}{d:To}{t:TM}{v:Value}{e:Eff}{F W:TB}(hnw:∀x,d=some x->pts.getD x 0≠x+2->nw)(h:cr C pts d t v=some e):LocE Q nw F W e:=by
 unfold cr at h
 split at h
 ·cases h
 ·split at h
  ·cases h
  ·split at h
   ·cases h
   ·split at h
    ·cases h;trivial
    next hpt=>
     cases h
     exact λH=>uF (hnw _ rfl hpt) (.cells v.cells.toList (kR C.P t) true) (λn=>.pointer (some ⟨n,0,none⟩)) rfl .ptr
def effOf_loc{C:Cfg}{pts:TB}{ρ:Tf}{o:Oper}{e:Eff}(he:am C pts ρ o=some e):LocE (∃c f,o.op = .call c/\c.callee = .value f) (dh pts o=true) (fpo pts ρ o) (wpo pts ρ o) e:=by
 unfold am at he
 split at he
 ·cases he;trivial
 ·cases he;trivial
 ·split at he
  ·cases he;trivial
  ·cases he
 next t ho=>
  obtain⟨z,_,he⟩:=qar.1 he
  exact vK (λx hx hp=>by simp only[dh,ho,hx];cases hb:Nat.beq (pts.getD x 0) (x+2)with
   |false=>rfl
   |true=>exact absurd (qac hb) hp) he
 next t x ho=>
  exact vK (λx hx hp=>by simp only[dh,ho,hx];cases hb:Nat.beq (pts.getD x 0) (x+2)with
   |false=>rfl
   |true=>exact absurd (qac hb) hp) he
 ·split at he
  ·exact bV (dB he)
  ·cases he
 next t n ps ho=>
  split at he
  ·obtain⟨r,_,rfl⟩:=qad.1 he
   exact λH=>uF (by simp only[dh,ho]) (.cells r.2 r.1 true) (λk=>.slice (some ⟨k,0,tag r.1⟩) n (n+1)) rfl (.slice _ _ _)
  ·cases he
 next t a ho=>
  unfold dJ at he
  split at he
  next hk=>
   split at he
   next p hp=>
    cases he
    intro H v hv H2 h2
    obtain⟨vs,h3,h4⟩:=qar.1 hv
    have hm:p.1∈fpo pts ρ o:=by simp[fpo,cV,adrK,ho,hk,iO hp]
    refine qar.2 ⟨vs,?_,h4⟩
    unfold dz at h3 ⊢
    split at h3
    next hid=>cases h3;rw[dd h2 hm hid]
    ·cases h3
   ·obtain⟨p,_,rfl⟩:=qad.1 he
    exact λH v hv H2 _=>hv
  ·obtain⟨p,_,he⟩:=qar.1 he
   exact bV (dB he)
  ·obtain⟨p,_,rfl⟩:=qad.1 he
   trivial
 next t a x ho=>
  unfold em at he
  split at he
  ·cases he
  ·split at he
   next hk=>
    obtain⟨p,hp,rfl⟩:=qad.1 he
    exact λH=>loc_store (by simp[fpo,cV,adrK,ho,hk,iO hp]) (by simp[wpo,en,ho,hk,iO hp])
   ·cases he
   ·obtain⟨p,_,rfl⟩:=qad.1 he
    trivial
 ·split at he<;>cases he<;>trivial
 ·split at he
  ·split at he
   ·split at he
    ·cases he;trivial
    ·cases he
   ·exact bV (dt he)
  ·split at he
   ·split at he
    ·cases he;trivial
    ·cases he
   ·exact bV (dt he)
  ·exact bV (dt he)
 ·split at he
  ·cases he
  ·cases he;trivial
 next t r ho=>
  split at he
  ·cases he
   exact λH=>uF (by simp only[dh,ho]) (.map [] 0) (λn=>.map (some n)) rfl .map
  ·cases he
 next t l c ho=>
  cases he
  exact λH=>loc_make (by simp only[dh,ho])
 next t x lo hi mx ho=>
  split at he
  next a hx=>
   split at he
   ·exact bV (dB he)
   ·cases he
    exact λH=>loc_arr λr hr=>by simp[fpo,cV,adrK,adrP,ho,hx];exact hr
  ·exact bV (nohop_or dt he)
 ·exact bV (dB he)
 ·exact bV (dB he)
 ·exact bV (dB he)
 ·exact bV (dB he)
 next t m k ok ho=>
  split at he
  ·exact bV (dB he)
  ·cases he
   exact λH=>xu λr hr=>by simp[fpo,cV,adrK,ho];exact hr
 next t m k v ho=>
  cases he
  exact λH=>px λr hr=>⟨by simp[fpo,cV,adrK,ho];exact hr,by simp[wpo,en,ho];exact hr⟩
 next t m k v ho=>
  cases he
  exact λH=>px λr hr=>⟨by simp[fpo,cV,adrK,ho];exact hr,by simp[wpo,en,ho];exact hr⟩
 next t m k ho=>
  cases he
  exact λH=>loc_entry λr hr=>⟨by simp[fpo,cV,adrK,ho];exact hr,by simp[wpo,en,ho];exact hr⟩
 next t m s v ho=>
  cases he
  exact λH=>xt λr hr=>⟨by simp[fpo,cV,adrK,ho];exact hr,by simp[wpo,en,ho];exact hr⟩
 ·split at he
  ·split at he
   ·cases he
   ·exact bV (dB he)
  ·cases he
 next c ho=>
  unfold fH at he
  simp only at he
  cases hc:c.callee with
  |invoke r m=>simp only[hc]at he;cases he
  |builtin b=>
   simp only[hc]at he
   unfold aW at he
   split at he
   next s x t ha ht=>
    split at he
    ·cases he
    ·cases he
     have two:∃a b,c.args.toList=[a,b]/\ρ a=s/\ρ b=x:=by
      match c.args.toList,ha with
      | [a,b],ha=>simp at ha;exact⟨a,b,rfl,ha.1,ha.2⟩
     obtain⟨a,b,e1,rfl,rfl⟩:=two
     exact λH=>xq (by simp only[dh,ho,hc]) (λr hr=>⟨by simp[fpo,cV,adrK,ho,hc,e1,hr],by simp[wpo,en,ho,hc,e1,hr]⟩) λr hr=>by simp[fpo,cV,adrK,ho,hc,e1,hr]
   next x t ha ht=>
    split at he
    ·cases he;trivial
    next id hu=>
     cases he
     have one:∃a,c.args.toList=[a]/\ρ a = .map (some id):=by
      cases hl:c.args.toList with
      |nil=>rw[hl]at ha;cases ha
      |cons a l=>
       rw[hl]at ha
       cases l with
       |nil=>exact⟨a,rfl,by simpa using ha⟩
       |cons b l=>simp at ha
     obtain⟨a,e1,e2⟩:=one
     intro H v hv H2 h2
     obtain⟨p,h3,h4⟩:=qad.1 hv
     have hm:id∈fpo pts ρ o:=by simp[fpo,cV,adrK,adrM,ho,hc,e1,e2]
     exact qad.2 ⟨p,(cm h2 hm h3).2,h4⟩
    ·cases he;trivial
    ·exact bV (dt he)
   ·split at he
    ·cases he;trivial
    ·cases he;trivial
    ·cases he;trivial
    ·cases he
   next d x t ha ht=>
    cases he
    have two:∃a b,c.args.toList=[a,b]/\ρ a=d/\ρ b=x:=by
     match c.args.toList,ha with
     | [a,b],ha=>simp at ha;exact⟨a,b,rfl,ha.1,ha.2⟩
    obtain⟨a,b,e1,rfl,rfl⟩:=two
    exact λH=>loc_copy (λr hr=>⟨by simp[fpo,cV,adrK,ho,hc,e1,hr],by simp[wpo,en,ho,hc,e1,hr]⟩) λr hr=>by simp[fpo,cV,adrK,ho,hc,e1,hr]
   next m k t ha ht=>
    cases he
    have two:∃a b,c.args.toList=[a,b]/\ρ a=m/\ρ b=k:=by
     match c.args.toList,ha with
     | [a,b],ha=>simp at ha;exact⟨a,b,rfl,ha.1,ha.2⟩
    obtain⟨a,b,e1,rfl,rfl⟩:=two
    exact λH=>xr λr hr=>⟨by simp[fpo,cV,adrK,ho,hc,e1,hr],by simp[wpo,en,ho,hc,e1,hr]⟩
   next x t ha ht=>
    cases he
    have one:∃a,c.args.toList=[a]/\ρ a=x:=by
     match c.args.toList,ha with
     | [a],ha=>simp at ha;exact⟨a,rfl,ha⟩
    obtain⟨a,e1,rfl⟩:=one
    exact λH=>loc_clear λr hr=>⟨by simp[fpo,cV,adrK,ho,hc,e1,hr],by simp[wpo,en,ho,hc,e1,hr]⟩
   ·exact bV (dt he)
  |value f=>
   simp only[hc]at he
   split at he
   ·cases he
   ·split at he
    ·split at he
     ·cases he;exact⟨c,f,ho,hc⟩
     ·cases he
    ·split at he
     ·cases he;exact⟨c,f,ho,hc⟩
     ·cases he
    ·cases he
 ·exact bV (dt he)
 ·exact bV (dt he)
 ·cases he
section
variable [Val] {C:Cfg} {B:Below} {N:Tc} {pts:TB} {ops:Tm}
def qk(N:Tc)(pts:TB)(ops:Tm)(o:Oper)(σ τ:St):Prop:=
 (∀t∈bA ops o,τ.tmps[t]?=σ.tmps[t]?)/\(match az N pts o with
 |some (.row s _)=>τ.loc[s]?=σ.loc[s]?
 |_=>True)/\gh (fpo pts (oval σ.tmps) o) σ.heap τ.heap
def eB(dst:To)(e:HEff)(rw:Option (Nat×Option (Tl)))(k:Tp)(τ:St):St:=
 ({ tmps:=τ.tmps,loc:=(match rw with|some p=>τ.loc.set p.1 p.2|none=>τ.loc),heap:=(match k with
  |none=>e.heap τ.heap
  |some k=>match e.push with
   |some p=>(e.put τ.heap).set k p.1
   |none=>e.put τ.heap) }:St).put dst (match k with
  |none=>e.val τ.heap.length
  |some k=>e.val k)
def local_okS(hN:NeuB N B){i:Nat}{o:Oper}(hi:ops[i]?=some o)(hc:okS N pts o=true){σ σ':St}(hs:aj C B pts ops i σ σ') :
  ∃(e:HEff) (rw:Option (Nat×Option (Tl))),σ'=eB o.dst e rw none σ/\(∀p,rw=some p->az N pts o=some (.row p.1 true))/\(e.push≠none->az N pts o=some .hw)/\
   (∀p,e.set=some p->p.1∈wpo pts (oval σ.tmps) o/\∃x,σ.heap[p.1]?=some x/\x.alive=true)/\(∀p,e.push=some p->dh pts o=true/\Fresh p.2/\p.1.alive=true)/\
   ∀τ,qk N pts ops o σ τ->∀sl:Nat->Option Nat,
    (e.push=none->sl i=none->dM C B pts ops sl i τ (eB o.dst e rw none τ))/\
    (∀p k,e.push=some p->sl i=some k->(e.put τ.heap)[k]?=some .dead->dM C B pts ops sl i τ (eB o.dst e rw (some k) τ)):=by
 have hm:az N pts o≠none:=by intro h;unfold okS at hc;rw[h]at hc;cases hc
 by_cases hcl:az N pts o=some .hr∨az N pts o=some .hw
 case neg=>
  obtain⟨e,h1,h2,h3⟩:=fR hN hi hm hs
  have hh:e.hp=none:=by
   cases he:e.hp with
   |none=>rfl
   |some x=>exact absurd (.inr (h2.2 (by rw[he];simp))) hcl
  have hon:∀τ,e.on o.dst τ=eB o.dst ⟨none,none,e.v⟩ e.rw none τ:=λτ=>by
   unfold Ef.on eB
   rw[hh]
   rfl
  refine⟨⟨none,none,e.v⟩,e.rw,by rw[h1,hon],h2.1,λh=>absurd rfl h,λp hp=>(by cases hp),λp hp=>(by cases hp),λτ hτ sl=>⟨λ_ hsl=>?_,λp k hp=>(by cases hp)⟩⟩
  unfold dM
  rw[hsl]
  rw[←hon]
  refine h3 τ ⟨hτ.1,?_⟩
  have:=hτ.2.1
  cases hmm:az N pts o with
  |none=>exact absurd hmm hm
  |some m=>
   rw[hmm]at this hcl
   cases m with
   |hr=>exact absurd (.inl rfl) hcl
   |hw=>exact absurd (.inr rfl) hcl
   |row s w=>exact this
   |_=>trivial
 case pos=>
  unfold aj at hs
  simp only[hi]at hs
  have hwτ:∀τ,qk N pts ops o σ τ->cg ops τ.tmps o=cg ops σ.tmps o:=λτ hτ=>jb hτ.1
  have val:∀v:Value,σ'=σ.put o.dst v->(∀τ,qk N pts ops o σ τ->aj C B pts ops i τ (τ.put o.dst v))->
    ∃(e:HEff) (rw:Option (Nat×Option (Tl))),σ'=eB o.dst e rw none σ/\(∀p,rw=some p->az N pts o=some (.row p.1 true))/\(e.push≠none->az N pts o=some .hw)/\
     (∀p,e.set=some p->p.1∈wpo pts (oval σ.tmps) o/\∃x,σ.heap[p.1]?=some x/\x.alive=true)/\(∀p,e.push=some p->dh pts o=true/\Fresh p.2/\p.1.alive=true)/\
     ∀τ,qk N pts ops o σ τ->∀sl:Nat->Option Nat,
      (e.push=none->sl i=none->dM C B pts ops sl i τ (eB o.dst e rw none τ))/\
      (∀p k,e.push=some p->sl i=some k->(e.put τ.heap)[k]?=some .dead->dM C B pts ops sl i τ (eB o.dst e rw (some k) τ)):=by
   intro v hv h
   refine⟨⟨none,none,v⟩,none,hv,λp hp=>(by cases hp),λh=>absurd rfl h,λp hp=>(by cases hp),λp hp=>(by cases hp),λτ hτ sl=>⟨λ_ hsl=>?_,λp k hp=>(by cases hp)⟩⟩
   unfold dM
   rw[hsl]
   exact h τ hτ
  split at hs
  ·exact hs.elim
  next hw=>
   refine val undef hs λτ hτ=>?_
   unfold aj
   simp only[hi,hwτ τ hτ,hw]
  next hw=>
   have step:∀ {τ τ':St},qk N pts ops o σ τ->((∃e,am C pts (oval τ.tmps) o=some e/\jj B e o.dst τ τ')∨(∃v,iH C τ.tmps o v/\τ'=τ.put o.dst v))->aj C B pts ops i τ τ':=by
    intro τ τ' hτ h
    unfold aj
    simp only[hi,hwτ τ hτ,hw]
    exact h
   rcases hs with⟨e,he,hr⟩|⟨v,hv,rfl⟩
   ·have heτ:∀τ,qk N pts ops o σ τ->am C pts (oval τ.tmps) o=some e:=λτ hτ=>by
     rw[iM N pts hm (mj hτ.1)];exact he
    have hfit:=gK (N:=N) (λ_=>rfl) hm he
    have hloc:=effOf_loc he
    cases e with
    |val v=>
     obtain⟨p,hp,rfl⟩:=hr
     cases hp
     exact val v rfl λτ hτ=>step hτ (.inl ⟨_,heτ τ hτ,_,rfl,rfl⟩)
    |lnew s vs=>
     have hfit:az N pts o=some (.row s true):=hfit
     rw[hfit]at hcl;rcases hcl with h|h<;>cases h
    |lget s f=>
     have hfit:az N pts o=some (.row s false):=hfit
     rw[hfit]at hcl;rcases hcl with h|h<;>cases h
    |lset s f=>
     have hfit:az N pts o=some (.row s true):=hfit
     rw[hfit]at hcl;rcases hcl with h|h<;>cases h
    |hget f=>
     obtain⟨p,hp,rfl⟩:=hr
     simp only[aQ]at hp
     obtain⟨v,hv,rfl⟩:=qad.1 hp
     refine val v rfl λτ hτ=>step hτ (.inl ⟨_,heτ τ hτ,(τ,v),?_,rfl⟩)
     simp only[aQ,hloc _ _ hv _ hτ.2.2,qaC]
    |hop f=>
     obtain⟨p,hp,rfl⟩:=hr
     simp only[aQ]at hp
     obtain⟨q,hv,rfl⟩:=qad.1 hp
     obtain⟨e,l1,l2,l3,l4,l5⟩:=hloc σ.heap q.1 q.2 hv
     refine⟨e,none,?_,λp hp=>(by cases hp),λ_=>hfit,l3,l4,λτ hτ sl=>⟨λhp hsl=>?_,λp k hp hsl hd=>?_⟩⟩
     ·unfold eB
      rw[l1,l2]
     ·unfold dM
      rw[hsl]
      exact step hτ (.inl ⟨_,heτ τ hτ,({ τ with heap:=e.heap τ.heap },e.val τ.heap.length),by simp only[aQ,l5 _ hτ.2.2,qaC],rfl⟩)
     ·unfold dM
      rw[hsl]
      refine⟨o,f,e.put τ.heap,p.1,p.2,hi,by rw[hwτ τ hτ];exact hw,heτ τ hτ,?_,?_,hd,(l4 p hp).2.1,?_⟩
      ·rw[l5 _ hτ.2.2]
       unfold HEff.heap HEff.val
       rw[hp]
      ·unfold HEff.put
       split<;>simp
      ·unfold eB HEff.val
       rw[hp]
    |call f args=>
     exfalso
     have hfit:(az N pts o=some (.neu f)/\N f=some (2*args.length))∨(az N pts o=some .hr/\N f=some (2*args.length+1))∨az N pts o=some .hw:=hfit
     rcases hfit with⟨h,_⟩|⟨h,_⟩|h
     ·rw[h]at hcl;rcases hcl with h|h<;>cases h
     ·obtain⟨c,g,q1,q2⟩:=hloc
      unfold okS at hc
      simp only[h,q1,q2]at hc
      cases hc
     ·obtain⟨c,g,q1,q2⟩:=hloc
      unfold okS at hc
      simp only[h,q1,q2]at hc
      cases hc
    |yield l args=>
     exfalso
     have hfit:az N pts o=some .hw:=hfit
     obtain⟨c,g,q1,q2⟩:=hloc
     unfold okS at hc
     simp only[hfit,q1,q2]at hc
     cases hc
   ·refine val v rfl λτ hτ=>step hτ (.inr ⟨v,?_,rfl⟩)
    obtain⟨h1,h2,h3,h4⟩:=hv
    have hops:=mj hτ.1
    refine⟨h1,?_,h3,λw=>?_⟩
    ·rw[qag]at h2 ⊢
     intro x hx
     rw[hops x hx];exact h2 x hx
    ·rw[execOp_congr N pts hm (ρ':=λx=>den (oval σ.tmps x)) λx hx=>by rw[hops x hx]]
     exact h4 w
end
end Sx
namespace Sx
section
variable [Val] {C:Cfg} {B:Below} {N:Tc} {pts:TB} {ops:Tm}
def runR(S:Nat->St->St->Prop):TB->St->St->Prop
 | [],σ,σ'=>σ'=σ
 |i :: l,σ,σ'=>∃σ₁,S i σ σ₁/\runR S l σ₁ σ'
def nA{S:Nat->St->St->Prop}{i:Nat}{post:TB}:∀(pre:TB),(∀k∈pre,∀σ σ₁ σ':St,S k σ σ₁->S i σ₁ σ'->∃τ,S i σ τ/\S k τ σ')->
  ∀σ σ':St,runR S (pre++i :: post) σ σ'->runR S (i :: (pre++post)) σ σ'
 | [],_,σ,σ',h=>h
 |k :: pre,hc,σ,σ',⟨σ₁,h1,h2⟩=>by
  obtain⟨σ₂,h3,h4⟩:=nA pre (λk hk=>hc k (by simp[hk])) σ₁ σ' h2
  obtain⟨τ,h5,h6⟩:=hc k (by simp) σ σ₁ σ₂ h1 h3
  exact⟨τ,h5,σ₂,h6,h4⟩
def go_okR{S:Nat->St->St->Prop}(hback:∀(i:Nat) o,ops[i]?=some o->∀e∈o.after.toList,Region.binds .any e=true->e.on<i)
  (hpair:∀i k:Nat,i<ops.size->k<i->Anc ops k i∨∀σ σ₁ σ':St,S k σ σ₁->S i σ₁ σ'->∃τ,S i σ τ/\S k τ σ'):∀(fuel t:Nat) (listed:Array Bool),listed.size=ops.size->(unl ops.size listed).length=fuel->
  (∀(x:Nat) o,listed.getD x true=true->ops[x]?=some o->∀e∈o.after.toList,Region.binds .any e=true->listed.getD e.on false=true)->
  ∀σ σ':St,runR S (unl ops.size listed) σ σ'->runR S (Region.linearise.go .any ops fuel t listed []) σ σ'/\(Region.linearise.go .any ops fuel t listed []).Nodup/\∀x∈Region.linearise.go .any ops fuel t listed [],listed.getD x true=false
 |0,t,listed,_,hl,_,σ,σ',h=>by
  have:unl ops.size listed=[]:=qbg.1 hl
  rw[this]at h
  simpa[Region.linearise.go]using h
 |fuel+1,t,listed,hsz,hl,hcl,σ,σ',h=>by
  simp only[Region.linearise.go]
  generalize hrs:((List.range ops.size).filter λi=>!listed.getD i true&&((ops[i]?).map (·.after.all λe=>!Region.binds .any e||listed.getD e.on false)).getD false)=rs
  have hready:∀i∈rs,i<ops.size/\listed.getD i true=false/\∀o,ops[i]?=some o->∀e∈o.after.toList,Region.binds .any e=true->listed.getD e.on false=true:=by
   intro i hi
   rw[←hrs,qa4,qaN]at hi
   obtain⟨h1,h2⟩:=hi
   simp only[qaa,qb1]at h2
   refine⟨h1,h2.1,λo ho e he hb=>?_⟩
   have h3:=h2.2
   rw[ho]at h3
   simp only[qaC,qby]at h3
   rw[qcF]at h3
   have:=h3 e (by simpa using he)
   rw[hb]at this
   simpa using this
  have hne:rs≠[]:=by
   have hu:unl ops.size listed≠[]:=by intro e;rw[e]at hl;cases hl
   obtain⟨i0,tl,hu0⟩:=qc9 hu
   have hi0:i0∈unl ops.size listed:=by rw[hu0];simp
   have hi1:=hi0
   rw[unl,qa4,qaN]at hi1
   have hmem:i0∈rs:=by
    rw[←hrs,qa4,qaN]
    refine⟨hi1.1,?_⟩
    simp only[qaa]
    refine⟨hi1.2,?_⟩
    have ho:ops[i0]?=some ops[i0]:=by simp[hi1.1]
    rw[ho]
    simp only[qaC,qby]
    rw[qcF]
    intro e he
    cases hb:Region.binds .any e with
    |false=>simp
    |true=>
     have hlt:=hback i0 _ ho e (by simpa using he) hb
     simp only[qaI,qc3]
     by_cases hlis:listed.getD e.on true=true
     ·have hs:e.on<listed.size:=by omega
      rw[qaw]at hlis ⊢
      rw[qbp hs]at hlis ⊢
      exact hlis
     ·exfalso
      have hm:e.on∈unl ops.size listed:=by
       rw[unl,qa4,qaN]
       exact⟨by omega,by simpa using hlis⟩
      rw[hu0]at hm
      rcases qal.1 hm with hm|hm
      ·omega
      ·have hs:(unl ops.size listed).Pairwise (· < ·):=qcA _ qcr
       rw[hu0,qcJ]at hs
       have:=hs.1 _ hm
       omega
   intro e;rw[e]at hmem;cases hmem
  have hlen:0<rs.length:=qcE.2 hne
  have hget:rs[t%rs.length]?=some (rs[t%rs.length]'(qbD _ hlen)):=qai (qbD _ hlen)
  rw[hget]
  simp only
  generalize hi:rs[t%rs.length]'(qbD _ hlen)=i
  have hmem:i∈rs:=by rw[←hi];exact qb7 _
  obtain⟨i1,i2,i3⟩:=hready i hmem
  rw[linearise_go_acc,List.reverse_singleton,List.singleton_append]
  have hiu:i∈(List.range ops.size).filter λj=>!listed.getD j true:=by
   rw[qa4,qaN];exact⟨i1,by simp[i2]⟩
  obtain⟨pre,post,e1,e2,e3⟩:=gH List.nodup_range hiu
  have hord:=lq e1
  have hnew:unl ops.size (listed.setIfInBounds i true)=pre++post:=by
   rw[←e2]
   unfold unl
   refine qdi λj hj=>?_
   rw[qaw,qaw,qbo]
   by_cases hji:i=j
   ·subst hji
    rw[qdD rfl,qdD (by omega)]
    simp
   ·rw[qdE hji]
    have:(j != i)=true:=by simpa using λe=>hji e.symm
    simp[this]
  have hmf:=nA (S:=S) (i:=i) (post:=post) pre (λk hk σ σ₁ σ' s1 s2=>by
   obtain⟨m1,m2⟩:=e3 k hk
   rw[qa4,qaN]at m1
   rcases hpair i k i1 (hord k hk)with hanc|hcm
   ·exfalso
    have:=oJ hcl hanc i3
    have m3:=m1.2
    rw[qaw]at this m3
    rw[qbp (by omega)]at this m3
    simp only[qby]at this m3
    rw[this]at m3
    cases m3
   ·exact hcm _ _ _ s1 s2) σ σ'
  obtain⟨σ₁,s1,s2⟩:=hmf (by rw[←e1];exact h)
  obtain⟨r1,r2,r3⟩:=go_okR hback hpair fuel (t / rs.length) (listed.setIfInBounds i true) (by simp[hsz]) (by
    rw[hnew]
    have:(unl ops.size listed).length=(pre++post).length+1:=by
     show(List.filter _ _).length=_
     rw[e1];simp;omega
    omega) (by
    intro x o hx ho e he hb
    have keep:∀y,listed.getD y false=true->(listed.setIfInBounds i true).getD y false=true:=by
     intro y hy
     rw[qaw]at hy ⊢
     rw[qbo]
     split
     next h1=>
      subst h1
      rw[qdD (by omega)];rfl
     ·exact hy
    by_cases hxi:x=i
    ·subst hxi;exact keep _ (i3 o ho e he hb)
    ·refine keep _ (hcl x o ?_ ho e he hb)
     rw[qaw,qbo,qdE (λe=>hxi e.symm)]at hx
     rw[qaw];exact hx) σ₁ σ' (by rw[hnew];exact s2)
  have hout:∀x∈Region.linearise.go .any ops fuel (t / rs.length) (listed.setIfInBounds i true) [],x≠i/\listed.getD x true=false:=by
   intro x hx
   have:=r3 x hx
   rw[qaw,qbo]at this
   by_cases hxi:i=x
   ·subst hxi
    rw[qdD rfl,qdD (by omega)]at this
    cases this
   ·rw[qdE hxi]at this
    exact⟨qcs hxi,by rw[qaw];exact this⟩
  refine⟨⟨σ₁,s1,r1⟩,qbX.2 ⟨λhm=>(hout i hm).1 rfl,r2⟩,λx hx=>?_⟩
  rcases qal.1 hx with rfl|hx
  ·exact i2
  ·exact(hout x hx).2
end
end Sx
namespace Sx
def ek(ws:List (Nat×HObj))(H:Ts):Ts:=ws.foldl (λH p=>H.set p.1 p.2) H
def eL:∀(ws:List (Nat×HObj)) (H:Ts),(ek ws H).length=H.length
 | [],H=>rfl
 |p :: ws,H=>by
  show(ek ws (H.set p.1 p.2)).length=_
  rw[eL ws];simp
def jI{r:Nat}:∀ {ws:List (Nat×HObj)} {H:Ts},(∀p∈ws,p.1≠r)->(ek ws H)[r]?=H[r]?
 | [],H,_=>rfl
 |p :: ws,H,h=>by
  show(ek ws (H.set p.1 p.2))[r]?=_
  rw[jI λq hq=>h q (qap _ hq),qaA (h p (by simp))]
def tQ{i:Nat}{x:HObj}:∀ {ws:List (Nat×HObj)} {H:Ts},(∀p∈ws,p.1≠i)->ek ws (H.set i x)=(ek ws H).set i x
 | [],H,_=>rfl
 |p :: ws,H,h=>by
  show ek ws ((H.set i x).set p.1 p.2)=(ek ws (H.set p.1 p.2)).set i x
  rw[List.set_comm _ _ (qcs (h p (by simp))),tQ λq hq=>h q (qap _ hq)]
def ip:∀ {a b:List (Nat×HObj)} {H:Ts},(∀p∈a,∀q∈b,p.1≠q.1)->ek a (ek b H)=ek b (ek a H)
 | [],b,H,_=>rfl
 |p :: a,b,H,h=>by
  show ek a ((ek b H).set p.1 p.2)=ek b (ek a (H.set p.1 p.2))
  rw[←tQ λq hq=>qcs (h p (by simp) q hq)]
  exact ip λq hq=>h q (qap _ hq)
section
variable [Val] {C:Cfg} {B:Below} {N:Tc} {pts:TB} {ops:Tm}
structure Rec where
 σ:St
 e:HEff
 rw:Option (Nat×Option (Tl))
 k:Option Nat
def Rec.on(r:Rec)(o:Oper)(τ:St):St:=eB o.dst r.e r.rw r.k τ
def Rec.sees(N:Tc)(pts:TB)(ops:Tm)(r:Rec)(o:Oper)(τ:St):Prop:=
 qk N pts ops o r.σ τ/\∀k,r.k=some k->(r.e.put τ.heap)[k]?=some .dead
def Rec.slot(r:Rec):List (Nat×HObj):=match r.k,r.e.push with
 |some k,some p=>[(k,p.1)]
 |_,_=>[]
def Rec.ws(r:Rec):List (Nat×HObj):=r.e.set.toList++r.slot
structure Rec.Ok(C:Cfg)(B:Below)(N:Tc)(pts:TB)(ops:Tm)(i:Nat)(o:Oper)(r:Rec):Prop where
 row:∀p,r.rw=some p->az N pts o=some (.row p.1 true)
 wr:∀p,r.e.set=some p->p.1∈wpo pts (oval r.σ.tmps) o
 kp:r.k=none↔r.e.push=none
 fr:∀p,r.e.push=some p->Fresh p.2/\az N pts o=some .hw/\dh pts o=true
 step:∀τ,r.sees N pts ops o τ->∀sl:Nat->Option Nat,sl i=r.k->dM C B pts ops sl i τ (r.on o τ)
def ei(e:HEff)(H:Ts):e.put H=ek e.set.toList H:=by
 unfold HEff.put
 cases e.set<;>rfl
def fT{r:Rec}{o:Oper}{τ:St}(h:r.k=none↔r.e.push=none):(r.on o τ).heap=ek r.ws τ.heap:=by
 unfold Rec.on eB
 rw[eh]
 unfold Rec.ws Rec.slot
 cases hk:r.k with
 |none=>
  simp only[HEff.heap,h.1 hk,ei,qa6]
 |some k=>
  cases hp:r.e.push with
  |none=>rw[h.2 hp]at hk;cases hk
  |some p=>
   simp only[ei]
   show(ek r.e.set.toList τ.heap).set k p.1=_
   unfold ek
   rw[List.foldl_append]
   rfl
def nE{r:Rec}{o:Oper}{τ:St}:(r.on o τ).loc=(match r.rw with|some p=>τ.loc.set p.1 p.2|none=>τ.loc):=by
 unfold Rec.on eB
 rw[ry]
 all_goals (cases r.rw<;>rfl)
def Rec.val(r:Rec):Value:=match r.k with
 |some k=>r.e.val k
 |none=>r.e.v
def mh{r:Rec}{o:Oper}{τ:St}(h:r.k=none↔r.e.push=none):(r.on o τ).tmps=(match o.dst with|some d=>τ.tmps.set d r.val|none=>τ.tmps):=by
 unfold Rec.on eB
 rw[rz]
 unfold Rec.val
 cases hk:r.k with
 |none=>simp only[HEff.val,h.1 hk];all_goals (cases o.dst<;>rfl)
 |some k=>cases o.dst<;>rfl
def rowOk:MC->MC->Bool
 | .row s w,.row s' w'=>!Nat.beq s s'||(!w && !w')
 |_,_=>true
def stat2(N:Tc)(pts:TB)(ops:Tm)(a b:Oper):Bool:=
 match az N pts a,az N pts b with
 |some m,some n=>rowOk m n&&bL a.dst (bA ops b)&&bL b.dst (bA ops a)&&bN a.dst b.dst
 |_,_=>false
def oT{d:To}{l:TB}(hd:bL d l=true):∀t∈l,∀x,d=some x->x≠t:=by
 intro t ht x hx he
 subst hx he
 simp only[bL,qb1,qci,decide_eq_false_iff_not]at hd
 exact hd ht
def unseenR{a b:Oper}{m n:MC}{ra rb:Rec}{ia:Nat}(ha:az N pts a=some m)(hb:az N pts b=some n)(oka:ra.Ok C B N pts ops ia a)(hrow:rowOk m n=true∨rowOk n m=true)(hd:bL a.dst (bA ops b)=true)
  (d1:∀p∈ra.ws,p.1∉fpo pts (oval rb.σ.tmps) b) {τ:St}:qk N pts ops b rb.σ (ra.on a τ)↔qk N pts ops b rb.σ τ:=by
 have ht:∀t∈bA ops b,(ra.on a τ).tmps[t]?=τ.tmps[t]?:=λt ht=>by
  unfold Rec.on eB
  exact kN λx hx=>oT hd t ht x hx
 have hl:∀s w,az N pts b=some (.row s w)->(ra.on a τ).loc[s]?=τ.loc[s]?:=λs w hm=>by
  rw[nE]
  cases hrw:ra.rw with
  |none=>rfl
  |some p=>
   have h1:=oka.row p hrw
   rw[ha]at h1
   rw[hb]at hm
   cases h1;cases hm
   have:p.1≠s:=by
    intro he
    subst he
    rcases hrow with h|h<;>simp[rowOk]at h
   show(τ.loc.set p.1 p.2)[s]?=_
   rw[qaA this]
 have hh:∀r∈fpo pts (oval rb.σ.tmps) b,(ra.on a τ).heap[r]?=τ.heap[r]?:=λr hr=>by
  rw[fT oka.kp]
  exact jI λp hp e=>d1 p hp (e▸hr)
 constructor
 ·rintro⟨q1,q2,q3⟩
  refine⟨λt h=>by rw[←ht t h];exact q1 t h,?_,λr hr x hx hal=>by rw[←hh r hr];exact q3 r hr x hx hal⟩
  rw[hb]at q2 ⊢
  cases n<;>first|trivial|(rename_i s w;exact(hl s w hb).symm.trans q2)
 ·rintro⟨q1,q2,q3⟩
  refine⟨λt h=>by rw[ht t h];exact q1 t h,?_,λr hr x hx hal=>by rw[hh r hr];exact q3 r hr x hx hal⟩
  rw[hb]at q2 ⊢
  cases n<;>first|trivial|(rename_i s w;exact(hl s w hb).trans q2)
def swapR{a b:Oper}{ra rb:Rec}{ia ib:Nat}(oka:ra.Ok C B N pts ops ia a)(okb:rb.Ok C B N pts ops ib b)(hs:stat2 N pts ops a b=true)
  (d1:∀p∈ra.ws,p.1∉fpo pts (oval rb.σ.tmps) b) (d2:∀p∈rb.ws,p.1∉fpo pts (oval ra.σ.tmps) a) (d3:∀p∈ra.ws,∀q∈rb.ws,p.1≠q.1) {τ:St} (ha:ra.sees N pts ops a τ) (hb:rb.sees N pts ops b (ra.on a τ)) :
  rb.sees N pts ops b τ/\ra.sees N pts ops a (rb.on b τ)/\rb.on b (ra.on a τ)=ra.on a (rb.on b τ):=by
 unfold stat2 at hs
 split at hs
 case h_2=>cases hs
 rename_i m n hm hn
 simp only[qaa]at hs
 obtain⟨⟨⟨c1,c2⟩,c3⟩,c4⟩:=hs
 have ub:=unseenR (rb:=rb) hm hn oka (.inl c1) c2 d1 (τ:=τ)
 have ua:=unseenR (rb:=ra) hn hm okb (.inr c1) c3 d2 (τ:=τ)
 refine⟨⟨ub.1 hb.1,λk hk=>?_⟩,⟨ua.2 ha.1,λk hk=>?_⟩,?_⟩
 ·have h1:=hb.2 k hk
  have hkb:∃p,rb.e.push=some p:=by
   cases hp:rb.e.push with
   |none=>rw[okb.kp.2 hp]at hk;cases hk
   |some p=>exact⟨p,rfl⟩
  obtain⟨p,hp⟩:=hkb
  have hmem:(k,p.1)∈rb.ws:=by simp[Rec.ws,Rec.slot,hk,hp]
  rw[fT oka.kp,ei,←ip (λq hq s hs e=>d3 q hq s (qaF _ hs) e),jI (λq hq e=>d3 q hq _ hmem e)]at h1
  rw[ei];exact h1
 ·have h1:=ha.2 k hk
  have hka:∃p,ra.e.push=some p:=by
   cases hp:ra.e.push with
   |none=>rw[oka.kp.2 hp]at hk;cases hk
   |some p=>exact⟨p,rfl⟩
  obtain⟨p,hp⟩:=hka
  have hmem:(k,p.1)∈ra.ws:=by simp[Rec.ws,Rec.slot,hk,hp]
  rw[fT okb.kp,ei,ip (λq hq s hs e=>d3 q (qaF _ hq) s hs e),jI (λq hq e=>d3 _ hmem q hq e.symm)]
  rw[ei]at h1;exact h1
 ·have h1:(rb.on b (ra.on a τ)).tmps=(ra.on a (rb.on b τ)).tmps:=by
   rw[mh okb.kp,mh oka.kp,mh oka.kp,mh okb.kp]
   cases hx:a.dst with
   |none=>rfl
   |some x=>
    cases hy:b.dst with
    |none=>rfl
    |some y=>
     rw[hx,hy]at c4
     have:x≠y:=by
      intro he;subst he;simp[bN]at c4
     exact set_comm _ _ _ this
  have h2:(rb.on b (ra.on a τ)).loc=(ra.on a (rb.on b τ)).loc:=by
   rw[nE,nE,nE,nE]
   cases hx:ra.rw with
   |none=>rfl
   |some p=>
    cases hy:rb.rw with
    |none=>rfl
    |some q=>
     have e1:=oka.row p hx
     have e2:=okb.row q hy
     rw[hm]at e1
     rw[hn]at e2
     cases e1;cases e2
     have:p.1≠q.1:=by
      intro he
      rw[he]at c1
      simp[rowOk]at c1
     exact set_comm _ _ _ this
  have h3:(rb.on b (ra.on a τ)).heap=(ra.on a (rb.on b τ)).heap:=by
   rw[fT okb.kp,fT oka.kp,fT oka.kp,fT okb.kp]
   exact(ip d3).symm
  generalize rb.on b (ra.on a τ)=x at *
  generalize ra.on a (rb.on b τ)=y at *
  cases x;cases y
  simp only at h1 h2 h3
  subst h1;subst h2;subst h3
  rfl
end
end Sx
namespace Sx
section
variable [Val] {C:Cfg} {B:Below} {N:Tc} {pts:TB} {ops:Tm}
def St.padTo(σ:St)(m:Nat):St:=σ.pad (m - σ.heap.length)
def recS(N:Tc)(pts:TB)(ops:Tm)(rc:Nat->Rec)(i:Nat)(τ τ':St):Prop:=∃o,ops[i]?=some o/\(rc i).sees N pts ops o τ/\τ'=(rc i).on o τ
def jH{D:Ts}:∀ {ws:List (Nat×HObj)} {H:Ts},(∀p∈ws,p.1<H.length)->ek ws (H++D)=ek ws H++D
 | [],H,_=>rfl
 |p :: ws,H,h=>by
  show ek ws ((H++D).set p.1 p.2)=ek ws (H.set p.1 p.2)++D
  rw[qc2 _ _ (h p (by simp)),jH λq hq=>by
   have:=h q (qap _ hq)
   simpa using this]
structure RunOk(C:Cfg)(B:Below)(N:Tc)(pts:TB)(ops:Tm)(l:TB)(σ σ':St)(rc:Nat->Rec):Prop where
 len:σ.heap.length<=σ'.heap.length
 ok:∀i∈l,∀o,ops[i]?=some o->(rc i).Ok C B N pts ops i o
 slot:∀i∈l,∀k,(rc i).k=some k->σ.heap.length<=k/\k<σ'.heap.length
 inj:∀i∈l,∀j∈l,∀k,(rc i).k=some k->(rc j).k=some k->i=j
 keep:∀t,(∀j∈l,∀o,ops[j]?=some o->o.dst≠some t)->σ'.tmps[t]?=σ.tmps[t]?
 args:∀i∈l,∀t,(∀j∈l,i<=j->∀o,ops[j]?=some o->o.dst≠some t)->σ'.tmps[t]?=(rc i).σ.tmps[t]?
 res:∀i∈l,∀o d v,ops[i]?=some o->o.dst=some d->(∀j∈l,i<j->∀o,ops[j]?=some o->o.dst≠some d)->σ'.tmps[d]?=some v->v=(rc i).val
 run:∀m,σ'.heap.length<=m->runR (recS N pts ops rc) l (St.padTo σ m) (St.padTo σ' m)
def effOn_len{dst:To}{e:HEff}{rw:Option (Nat×Option (Tl))}{σ:St}:(eB dst e rw none σ).heap.length=σ.heap.length+(match e.push with|some _=>1|none=>0):=by
 unfold eB
 rw[eh]
 simp only[HEff.heap,HEff.put]
 cases e.push<;>cases e.set<;>simp
def jV{dst:To}{e:HEff}{rw:Option (Nat×Option (Tl))}{k:Tp}{σ:St}:(eB dst e rw k σ).tmps=(match dst with|some d=>σ.tmps.set d (match k with|none=>e.val σ.heap.length|some k=>e.val k)|none=>σ.tmps):=by
 unfold eB
 rw[rz]
 all_goals (cases dst<;>rfl)
def rec_one(hN:NeuB N B){i:Nat}{o:Oper}(hi:ops[i]?=some o)(hc:okS N pts o=true){σ σ₁:St}(hs:aj C B pts ops i σ σ₁) :
  ∃r:Rec,r.σ=σ/\r.Ok C B N pts ops i o/\σ.heap.length<=σ₁.heap.length/\(∀k,r.k=some k->k=σ.heap.length/\k<σ₁.heap.length)/\
   (∀t,o.dst≠some t->σ₁.tmps[t]?=σ.tmps[t]?)/\(∀d v,o.dst=some d->σ₁.tmps[d]?=some v->v=r.val)/\
   ∀m,σ₁.heap.length<=m->r.sees N pts ops o (St.padTo σ m)/\St.padTo σ₁ m=r.on o (St.padTo σ m):=by
 obtain⟨e,rw,h1,h2,h3,h4,h5,h6⟩:=local_okS (N:=N) hN hi hc hs
 have hlen:σ₁.heap.length=σ.heap.length+(match e.push with|some _=>1|none=>0):=by rw[h1];exact effOn_len
 refine⟨⟨σ,e,rw,match e.push with|some _=>some σ.heap.length|none=>none⟩,rfl,⟨h2,λp hp=>(h4 p hp).1,?_,λp hp=>⟨(h5 p hp).2.1,h3 (by rw[show e.push=some p from hp];simp),(h5 p hp).1⟩,?_⟩,by omega,?_,?_,?_,?_⟩
 ·cases hp:e.push<;>simp
 ·intro τ hτ sl hsl
  unfold Rec.on
  simp only at hsl ⊢
  cases hp:e.push with
  |none=>
   rw[hp]at hsl
   exact(h6 τ hτ.1 sl).1 hp hsl
  |some p=>
   rw[hp]at hsl
   refine(h6 τ hτ.1 sl).2 p _ hp hsl (hτ.2 _ ?_)
   simp only[hp]
 ·intro k hk
  simp only at hk
  cases hp:e.push with
  |none=>rw[hp]at hk;cases hk
  |some p=>
   rw[hp]at hk hlen
   cases hk
   exact⟨rfl,by simp only at hlen;omega⟩
 ·intro t ht
  rw[h1]
  unfold eB
  exact kN λx hx e=>ht (by rw[hx,e])
 ·intro d v hd hv
  rw[h1,jV,hd]at hv
  simp only[qa2]at hv
  split at hv
  ·split at hv
   ·cases hv
    unfold Rec.val
    simp only[HEff.val]
    cases hp:e.push<;>rfl
   ·cases hv
  next hne=>exact absurd trivial hne
 ·intro m hm
  have hD:(St.padTo σ m).heap=σ.heap++List.replicate (m - σ.heap.length) .dead:=rfl
  have hset:∀p∈e.set.toList,p.1<σ.heap.length:=λp hp=>by
   obtain⟨_,x,hx,_⟩:=h4 p (by simpa using hp)
   exact(qaP.1 hx).1
  refine⟨⟨⟨λt _=>rfl,?_,λr _ x hx _=>?_⟩,λk hk=>?_⟩,?_⟩
  ·cases az N pts o with
   |none=>trivial
   |some mc=>cases mc<;>first|trivial|rfl
  ·rw[hD,qah (qaP.1 hx).1]
   exact hx
  ·simp only at hk
   cases hp:e.push with
   |none=>rw[hp]at hk;cases hk
   |some p=>
    rw[hp]at hk hlen
    cases hk
    simp only at hlen ⊢
    rw[ei,hD,jH hset,qan (by rw[eL];exact qaf _),eL,qbu,qa1,qdD (by omega)]
  · -- the same state
   have e1:(St.padTo σ₁ m).tmps=((⟨σ,e,rw,match e.push with|some _=>some σ.heap.length|none=>none⟩ : Rec).on o (St.padTo σ m)).tmps:=by
    show σ₁.tmps=_
    unfold Rec.on
    rw[h1,jV,jV]
    show _=(match o.dst with|some d=>σ.tmps.set d _|none=>σ.tmps)
    cases o.dst with
    |none=>rfl
    |some d=>
     simp only[HEff.val]
     cases hp:e.push<;>rfl
   have e2:(St.padTo σ₁ m).loc=((⟨σ,e,rw,match e.push with|some _=>some σ.heap.length|none=>none⟩ : Rec).on o (St.padTo σ m)).loc:=by
    show σ₁.loc=_
    unfold Rec.on
    rw[h1]
    unfold eB
    rw[ry,ry]
    rfl
   have e3:(St.padTo σ₁ m).heap=((⟨σ,e,rw,match e.push with|some _=>some σ.heap.length|none=>none⟩ : Rec).on o (St.padTo σ m)).heap:=by
    show σ₁.heap++List.replicate (m - σ₁.heap.length) .dead=_
    unfold Rec.on
    have hh:σ₁.heap=e.heap σ.heap:=by rw[h1];unfold eB;rw[eh]
    unfold eB
    rw[eh,hD]
    cases hp:e.push with
    |none=>
     rw[hp]at hlen
     simp only[hp,HEff.heap,ei]at hh ⊢
     rw[jH hset,hh]
     simp only[eL]
    |some p=>
     rw[hp]at hlen
     simp only at hlen
     simp only[hp,HEff.heap,ei]at hh ⊢
     rw[jH hset,hh]
     have hn:m - σ.heap.length=(m - σ.heap.length - 1)+1:=by omega
     rw[hn,qb3]
     rw[qb4 _ _ (by rw[eL];exact qaf _),eL,qbu,qda]
     simp only[qaJ,qaB,eL,qaD,qbA,qa8,qa3]
     rw[show m - (σ.heap.length+(0+1))=m - σ.heap.length - 1 by omega]
   generalize hX:(⟨σ,e,rw,match e.push with|some _=>some σ.heap.length|none=>none⟩ : Rec).on o (St.padTo σ m)=X at *
   generalize St.padTo σ₁ m=Y at *
   cases X;cases Y
   simp only at e1 e2 e3
   subst e1;subst e2;subst e3
   rfl
def pR{S S':Nat->St->St->Prop}:∀ {l:TB},(∀i∈l,∀σ σ',S i σ σ'->S' i σ σ')->∀ {σ σ':St},runR S l σ σ'->runR S' l σ σ'
 | [],_,_,_,h=>h
 |i :: l,hs,σ,σ',⟨σ₁,h1,h2⟩=>⟨σ₁,hs i (by simp) _ _ h1,pR (λj hj=>hs j (qap _ hj)) h2⟩
def recs_of(hN:NeuB N B):∀(l:TB) (σ σ':St),l.Pairwise (· < ·)->(∀i∈l,∃o,ops[i]?=some o/\okS N pts o=true)->bk C B pts ops l σ σ'->∃rc:Nat->Rec,RunOk C B N pts ops l σ σ' rc
 | [],σ,σ',_,_,h=>by
  have:σ'=σ:=h
  subst this
  exact⟨λ_=>⟨σ',⟨none,none,undef⟩,none,none⟩,qaf _,λ_ h=>(by cases h),λ_ h=>(by cases h),λ_ h=>(by cases h),λ_ _=>rfl,λ_ h=>(by cases h),λ_ h=>(by cases h),λ_ _=>rfl⟩
 |i :: l,σ,σ',hp,hok,⟨σ₁,h1,h2⟩=>by
  obtain⟨o,hi,hc⟩:=hok i (by simp)
  obtain⟨r,rfl,r1,r2,r3,r4,r5,r6⟩:=rec_one hN hi hc h1
  rw[qcJ]at hp
  obtain⟨rc,R⟩:=recs_of hN l σ₁ σ' hp.2 (λj hj=>hok j (qap _ hj)) h2
  have hne:∀j∈l,j≠i:=λj hj e=>by have:=hp.1 j hj;omega
  have hat:∀j∈l,(if j=i then r else rc j)=rc j:=λj hj=>qdE (hne j hj)
  refine⟨λj=>if j=i then r else rc j,qbh r2 R.len,?_,?_,?_,?_,?_,?_,?_⟩
  ·intro j hj o' ho'
   rcases qal.1 hj with rfl|hj
   ·simp only[if_true]
    rw[hi]at ho';cases ho';exact r1
   ·simp only[hat j hj];exact R.ok j hj o' ho'
  ·intro j hj k hk
   rcases qal.1 hj with rfl|hj
   ·simp only[if_true]at hk
    obtain⟨e1,e2⟩:=r3 k hk
    have:=R.len
    omega
   ·simp only[hat j hj]at hk
    have:=R.slot j hj k hk
    omega
  ·intro j hj j' hj' k hk hk'
   rcases qal.1 hj with q1|q1<;>rcases qal.1 hj' with q2|q2
   ·rw[q1,q2]
   ·simp only[q1,if_true]at hk
    simp only[hat j' q2]at hk'
    have e1:=r3 k hk
    have e2:=R.slot j' q2 k hk'
    omega
   ·simp only[q2,if_true]at hk'
    simp only[hat j q1]at hk
    have e1:=r3 k hk'
    have e2:=R.slot j q1 k hk
    omega
   ·simp only[hat j q1]at hk
    simp only[hat j' q2]at hk'
    exact R.inj j q1 j' q2 k hk hk'
  ·intro t ht
   rw[R.keep t λj hj=>ht j (qap _ hj)]
   exact r4 t (ht i (by simp) o hi)
  ·intro j hj t ht
   rcases qal.1 hj with rfl|hj
   ·simp only[if_true]
    have hall:∀j'∈l,∀o',ops[j']?=some o'->o'.dst≠some t:=λj' hj'=>ht j' (qap _ hj') (Nat.le_of_lt (hp.1 j' hj'))
    rw[R.keep t hall]
    exact r4 t (ht j (by simp) (qaf _) o hi)
   ·simp only[hat j hj]
    exact R.args j hj t λj' hj'=>ht j' (qap _ hj')
  ·intro j hj o' d v ho' hd hlt hv
   rcases qal.1 hj with rfl|hj
   ·simp only[if_true]
    rw[hi]at ho';cases ho'
    refine r5 d v hd ?_
    rw[←R.keep d λj' hj'=>hlt j' (qap _ hj') (hp.1 j' hj')]
    exact hv
   ·simp only[hat j hj]
    exact R.res j hj o' d v ho' hd (λj' hj'=>hlt j' (qap _ hj')) hv
  ·intro m hm
   obtain⟨s1,s2⟩:=r6 m (qbh R.len hm)
   refine⟨St.padTo σ₁ m,⟨o,hi,?_,?_⟩,?_⟩
   ·simp only[if_true];exact s1
   ·simp only[if_true];exact s2
   ·refine pR (λj hj τ τ' h=>?_) (R.run m hm)
    obtain⟨o',q1,q2,q3⟩:=h
    exact⟨o',q1,by simp only[hat j hj];exact q2,by simp only[hat j hj];exact q3⟩
end
end Sx
namespace Sx
section
variable [Val] {C:Cfg} {B:Below} {N:Tc} {pts:TB} {ops:Tm}
def sees_refl(o:Oper)(σ:St):Sees N pts ops o σ σ:=by
 refine⟨λ_ _=>rfl,?_⟩
 cases az N pts o with
 |none=>trivial
 |some m=>cases m<;>first|trivial|rfl
def sees_symm{o:Oper}{σ τ:St}(h:Sees N pts ops o σ τ):Sees N pts ops o τ σ:=by
 refine⟨λt ht=>(h.1 t ht).symm,?_⟩
 have h:=h.2
 cases hm:az N pts o with
 |none=>trivial
 |some m=>rw[hm]at h;cases m<;>first|trivial|exact h.symm
def fC{o:Oper}{σ τ ρ:St}(h:Sees N pts ops o σ τ)(h':Sees N pts ops o τ ρ):Sees N pts ops o σ ρ:=by
 refine⟨λt ht=>(h'.1 t ht).trans (h.1 t ht),?_⟩
 have h:=h.2
 have h':=h'.2
 cases hm:az N pts o with
 |none=>trivial
 |some m=>rw[hm]at h h';cases m<;>first|trivial|exact h'.trans h
structure Loc(C:Cfg)(B:Below)(N:Tc)(pts:TB)(ops:Tm)(j:Nat)(b:Oper)(f:Ef)(τ τ':St):Prop where
 is:τ'=f.on b.dst τ
 tc:tZ (az N pts b) f
 st:∀ρ,Sees N pts ops b τ ρ->aj C B pts ops j ρ (f.on b.dst ρ)
def comm1(N:Tc)(pts:TB)(ops:Tm)(a b:Oper):Bool:=
 match az N pts a,az N pts b with
 |some m,some n=>m.ok2 n&&bL a.dst (bA ops b)&&bL b.dst (bA ops a)&&bN a.dst b.dst
 |_,_=>false
def swap_loc{i j:Nat}{a b:Oper}{e f:Ef}(hc:comm1 N pts ops a b=true){τ τ₁ τ':St}(h1:Loc C B N pts ops i a e τ τ₁)(h2:Loc C B N pts ops j b f τ₁ τ') :
  Loc C B N pts ops j b f τ (f.on b.dst τ)/\Loc C B N pts ops i a e (f.on b.dst τ) τ'/\Sees N pts ops b τ₁ τ:=by
 unfold comm1 at hc
 split at hc
 next m n hm hn=>
  simp only[qaa]at hc
  obtain⟨⟨⟨c1,c2⟩,c3⟩,c4⟩:=hc
  have s1:Sees N pts ops b τ₁ τ:=by
   rw[h1.is]
   exact sees_symm (wM hm hn (.inl c1) c2 h1.tc τ)
  have s2:Sees N pts ops a τ (f.on b.dst τ):=wM hn hm (.inr c1) c3 h2.tc τ
  refine⟨⟨rfl,h2.tc,λρ hρ=>h2.st ρ (fC s1 hρ)⟩,⟨?_,h1.tc,λρ hρ=>h1.st ρ (fC s2 hρ)⟩,s1⟩
  rw[h2.is,h1.is]
  exact on_comm hm hn c1 c4 h1.tc h2.tc τ
 ·cases hc
def reOk(N:Tc)(pts:TB)(ops:Tm)(a b:Oper):Bool:=
 (match az N pts a with
 |some .hr=>true
 |_=>false)&&((match az N pts b with
 |some .hw=>true
 |_=>false)&&(bL a.dst (bA ops b)&&(bL b.dst (bA ops a)&&(bL a.dst (bA ops a)&&bN a.dst b.dst))))
def um{o:Oper}(hm:az N pts o=some .hr){e:Ef}(ht:tZ (az N pts o) e):e.rw=none/\e.hp=none:=by
 rw[hm]at ht
 constructor
 ·cases h:e.rw with
  |none=>rfl
  |some p=>have:=ht.1 p h;cases this
 ·cases h:e.hp with
  |none=>rfl
  |some p=>have:=ht.2 (by rw[h];simp);cases this
def on_get{e:Ef}{d:To}{σ:St}{t:Nat}(h:∀x,d=some x->x≠t):(e.on d σ).tmps[t]?=σ.tmps[t]?:=by
 unfold Ef.on
 exact kN h
def iL{d:To}{l:TB}(h:bL d l=true){t:Nat}(ht:t∈l):∀x,d=some x->x≠t:=by
 intro x hx e
 subst e
 rw[hx]at h
 simp only[bL,qb1,qci,decide_eq_false_iff_not]at h
 exact h ht
def swap_re{k i:Nat}{a b:Oper}{e f:Ef}(hc:reOk N pts ops a b=true){τ τ₁ τ':St}(h1:Loc C B N pts ops k a e τ τ₁)(h2:Loc C B N pts ops i b f τ₁ τ')(h3:∀ρ,Sees N pts ops a τ' ρ->aj C B pts ops k ρ (e.on a.dst ρ)) :
  Loc C B N pts ops i b f τ (f.on b.dst τ)/\Loc C B N pts ops k a e (f.on b.dst τ) τ'/\Sees N pts ops a τ' (f.on b.dst τ):=by
 unfold reOk at hc
 simp only[qaa]at hc
 obtain⟨c1,c2,c3,c4,c5,c6⟩:=hc
 have hm:az N pts a=some .hr:=by
  split at c1
  ·assumption
  ·cases c1
 have hn:az N pts b=some .hw:=by
  split at c2
  ·assumption
  ·cases c2
 obtain⟨e1,e2⟩:=um hm h1.tc
 have heap:∀σ:St,(e.on a.dst σ).heap=σ.heap:=λσ=>by rw[iS,e2];rfl
 have s1:Sees N pts ops b τ₁ τ:=by
  refine⟨λt ht=>?_,?_⟩
  ·rw[h1.is];exact(on_get (iL c3 ht)).symm
  ·rw[hn];show τ.heap=τ₁.heap;rw[h1.is,heap]
 have hx:τ'=e.on a.dst (f.on b.dst τ):=by
  rw[h2.is,h1.is]
  have g1:(f.on b.dst (e.on a.dst τ)).tmps=(e.on a.dst (f.on b.dst τ)).tmps:=by
   simp only[rm]
   cases hx:a.dst with
   |none=>rfl
   |some x=>
    cases hy:b.dst with
    |none=>rfl
    |some y=>
     rw[hx,hy]at c6
     have:x≠y:=by intro he;subst he;simp[bN]at c6
     exact set_comm _ _ _ this
  have g2:(f.on b.dst (e.on a.dst τ)).loc=(e.on a.dst (f.on b.dst τ)).loc:=by
   simp only[on_loc,e1]
  have g3:(f.on b.dst (e.on a.dst τ)).heap=(e.on a.dst (f.on b.dst τ)).heap:=by
   simp only[iS,e2,qdo]
  generalize f.on b.dst (e.on a.dst τ)=x at *
  generalize e.on a.dst (f.on b.dst τ)=y at *
  cases x;cases y
  simp only at g1 g2 g3
  subst g1;subst g2;subst g3
  rfl
 have s3:Sees N pts ops a τ' (f.on b.dst τ):=by
  rw[hx]
  refine⟨λt ht=>(on_get (iL c5 ht)).symm,?_⟩
  rw[hm];exact(heap _).symm
 exact⟨⟨rfl,h2.tc,λρ hρ=>h2.st ρ (fC s1 hρ)⟩,⟨hx,h1.tc,λρ hρ=>h3 ρ (fC s3 hρ)⟩,s3⟩
def rowX(q:Nat->Nat->Oper->Oper->Bool)(j:Nat)(b:Oper)(m:Nat):Tv->Nat->Bool
 | [],_=>true
 |a :: l,n=>(Nat.testBit m n||q n j a b)&&rowX q j b m l (n+1)
def pairX(q:Nat->Nat->Oper->Oper->Bool)(ms:TB):Tv->Tv->Nat->Bool
 |_,[],_=>true
 |pre,b :: l,i=>rowX q i b (ms.getD i 0) pre 0&&pairX q ms (pre++[b]) l (i+1)
def rowX_ok{q:Nat->Nat->Oper->Oper->Bool}{i:Nat}{b:Oper}{m:Nat}:∀ {l:Tv} {k:Nat},rowX q i b m l k=true->∀(j:Nat) a,l[j]?=some a->m.testBit (k+j)=true∨q (k+j) i a b=true
 | [],k,_,j,a,h=>by simp at h
 |a :: l,k,h,j,c,hj=>by
  simp only[rowX,qaa,qbs]at h
  cases j with
  |zero=>simp at hj;subst hj;exact h.1
  |succ j=>
   have:=rowX_ok h.2 j c (by simpa using hj)
   rwa [show k+1+j=k+(j+1)by omega]at this
def wc{q:Nat->Nat->Oper->Oper->Bool}{ms:TB}:∀ {l pre:Tv} {i:Nat},pre.length=i->pairX q ms pre l i=true->∀(j:Nat) b,l[j]?=some b->∀(k:Nat) a,k<i+j->(pre++l)[k]?=some a->(ms.getD (i+j) 0).testBit k=true∨q k (i+j) a b=true
 | [],pre,i,_,_,j,b,h,_,_,_,_=>by simp at h
 |b :: l,pre,i,hp,h,j,c,hj,k,a,hk,ha=>by
  simp only[pairX,qaa]at h
  cases j with
  |zero=>
   simp at hj
   subst hj
   rw[qah (by omega)]at ha
   have:=rowX_ok h.1 k a ha
   simpa using this
  |succ j=>
   have:=wc (pre:=pre++[b]) (i:=i+1) (by simp[hp]) h.2 j c (by simpa using hj) k a (by omega) (by simpa using ha)
   rwa [show i+1+j=i+(j+1)by omega]at this
def allX(q:Nat->Oper->Bool):Tv->Nat->Bool
 | [],_=>true
 |b :: l,i=>q i b&&allX q l (i+1)
def allX_ok{q:Nat->Oper->Bool}:∀ {l:Tv} {i:Nat},allX q l i=true->∀(j:Nat) b,l[j]?=some b->q (i+j) b=true
 | [],i,_,j,b,h=>by simp at h
 |a :: l,i,h,j,b,hj=>by
  simp only[allX,qaa]at h
  cases j with
  |zero=>simp at hj;subst hj;exact h.1
  |succ j=>
   have:=allX_ok h.2 j b (by simpa using hj)
   rwa [show i+1+j=i+(j+1)by omega]at this
def splQ(N:Tc)(pts:TB)(ops:Tm)(k i n j:Nat)(a b:Oper):Bool:=
 match Nat.beq j i,Nat.beq n i with
 |true,_=>Nat.beq n k
 |_,true=>false
 |_,_=>comm1 N pts ops a b
def tU(N:Tc)(pts:TB)(ops:Tm)(k i:Nat):Bool:=
 fo ops.toList 0&&(Nat.blt k i&&(ops.toList.all (λo=>(az N pts o).isSome)&&(pairX (splQ N pts ops k i) (ancs ops.toList []) [] ops.toList 0 &&
  match ops[k]?,ops[i]? with
  |some a,some b=>reOk N pts ops a b&&(a.dst.isSome&&allX (λj o=>Nat.beq j k||bL o.dst a.dst.toList) ops.toList 0)
  |_,_=>false)))
def th(hN:NeuB N B)(hall:∀(j:Nat) b,ops[j]?=some b->az N pts b≠none){j:Nat}{b:Oper}(hj:ops[j]?=some b){τ τ':St}(h:aj C B pts ops j τ τ'):∃f,Loc C B N pts ops j b f τ τ':=by
 obtain⟨f,h1,h2,h3⟩:=fR hN hj (hall j b hj) h
 exact⟨f,h1,h2,h3⟩
def splS(C:Cfg)(B:Below)(N:Tc)(pts:TB)(ops:Tm)(k i:Nat)(a:Oper)(e:Ef)(j:Nat)(τ τ':St):Prop:=
 ∃b f,ops[j]?=some b/\Loc C B N pts ops j b f τ τ'/\(j=k->f=e)/\(j=i->∀ρ,Sees N pts ops a τ' ρ->aj C B pts ops k ρ (e.on a.dst ρ))
def spl_pair{k i:Nat}{a b:Oper}{e:Ef}(ha:ops[k]?=some a)(hb:ops[i]?=some b)(hre:reOk N pts ops a b=true)(hp:pairX (splQ N pts ops k i) (ancs ops.toList []) [] ops.toList 0=true)(j n:Nat)(hj:j<ops.size)(hn:n<j) :
  Anc ops n j∨∀τ τ₁ τ':St,splS C B N pts ops k i a e n τ τ₁->splS C B N pts ops k i a e j τ₁ τ'->∃ρ,splS C B N pts ops k i a e j τ ρ/\splS C B N pts ops k i a e n ρ τ':=by
 have e1:ops[j]?=some ops[j]:=by simp[hj]
 have e2:ops[n]?=some (ops[n]'(by omega)):=by simp[show n<ops.size by omega]
 generalize ops[j]=y at e1
 generalize ops[n]'(by omega)=x at e2
 have hq:=wc (pre:=[]) (i:=0) rfl hp j y (by simpa using e1) n x (by omega) (by simpa using e2)
 rw[qaL]at hq
 rcases hq with hq|hq
 ·exact .inl (qr ops.toList [] rfl (λi k h=>by simp at h) j n hq)
 right
 rintro τ τ₁ τ' ⟨x',f,h1,h2,h3,h4⟩ ⟨y',g,h5,h6,h7,h8⟩
 rw[e2]at h1;cases h1
 rw[e1]at h5;cases h5
 unfold splQ at hq
 cases hji:Nat.beq j i with
 |true=>
  rw[hji]at hq
  have hji:=qac hji
  have hnk:=qac hq
  subst hji hnk
  rw[ha]at e2;cases e2
  rw[hb]at e1;cases e1
  obtain rfl:=h3 rfl
  obtain⟨w1,w2,w3⟩:=swap_re hre h2 h6 (h8 rfl)
  exact⟨_,⟨_,g,hb,w1,h7,λ_ ρ hρ=>h8 rfl ρ (fC w3 hρ)⟩,_,f,ha,w2,λ_=>rfl,λhh=>absurd hh (by omega)⟩
 |false=>
  rw[hji]at hq
  cases hni:Nat.beq n i with
  |true=>rw[hni]at hq;cases hq
  |false=>
   rw[hni]at hq
   have hq:comm1 N pts ops x y=true:=hq
   have hji:j≠i:=λh=>by subst h;rw[show Nat.beq j j=true from qcv j]at hji;cases hji
   have hni:n≠i:=λh=>by subst h;rw[show Nat.beq n n=true from qcv n]at hni;cases hni
   obtain⟨w1,w2,_⟩:=swap_loc hq h2 h6
   exact⟨_,⟨y,g,e1,w1,h7,λh=>absurd h hji⟩,x,f,e2,w2,h3,λh=>absurd h hni⟩
def ops_app{l₁ l₂:TB}:∀ {σ σ':St},bk C B pts ops (l₁++l₂) σ σ'->∃σ₁,bk C B pts ops l₁ σ σ₁/\bk C B pts ops l₂ σ₁ σ':=by
 induction l₁ with
 |nil=>intro σ σ' h;exact⟨σ,rfl,h⟩
 |cons x l ih=>
  rintro σ σ' ⟨σ₁,h1,h2⟩
  obtain⟨σ₂,h3,h4⟩:=ih h2
  exact⟨σ₂,⟨σ₁,h1,h3⟩,h4⟩
def uQ{S:Nat->St->St->Prop}{l₁ l₂:TB}:∀ {σ σ₁ σ':St},runR S l₁ σ σ₁->runR S l₂ σ₁ σ'->runR S (l₁++l₂) σ σ':=by
 induction l₁ with
 |nil=>intro σ σ₁ σ' h1 h2;cases h1;exact h2
 |cons x l ih=>
  rintro σ σ₁ σ' ⟨σ₂,h1,h3⟩ h2
  exact⟨σ₂,h1,ih h3 h2⟩
def pI{S:Nat->St->St->Prop}(hS:∀i σ σ',S i σ σ'->aj C B pts ops i σ σ'):∀ {l:TB} {σ σ':St},runR S l σ σ'->bk C B pts ops l σ σ'
 | [],_,_,h=>h
 |_ :: _,_,_,⟨σ₁,h1,h2⟩=>⟨σ₁,hS _ _ _ h1,pI hS h2⟩
def im{S:Nat->St->St->Prop}:∀ {l:TB},(∀i∈l,∀σ σ',aj C B pts ops i σ σ'->S i σ σ')->∀ {σ σ':St},bk C B pts ops l σ σ'->runR S l σ σ'
 | [],_,_,_,h=>h
 |_ :: _,hS,_,_,⟨σ₁,h1,h2⟩=>⟨σ₁,hS _ (by simp) _ _ h1,im (λi hi=>hS i (qap _ hi)) h2⟩
def vV(hN:NeuB N B)(hall:∀(j:Nat) b,ops[j]?=some b->az N pts b≠none){d:Nat}:∀ {l:TB},(∀j∈l,∀b,ops[j]?=some b->∀x,b.dst=some x->x≠d)->∀ {σ σ':St},bk C B pts ops l σ σ'->σ'.tmps[d]?=σ.tmps[d]?
 | [],_,_,_,h=>by cases h;rfl
 |j :: l,hd,σ,σ',⟨σ₁,h1,h2⟩=>by
  rw[vV hN hall (λi hi=>hd i (qap _ hi)) h2]
  cases hj:ops[j]? with
  |none=>
   have:σ₁=σ:=by simpa[aj,hj]using h1
   rw[this]
  |some b=>
   obtain⟨f,h3⟩:=th hN hall hj h1
   rw[h3.is]
   exact on_get (hd j (by simp) b hj)
def any_spl(hN:NeuB N B){k i:Nat}(hreg:tU N pts ops k i=true){σ σ₁ σ₂ σ':St}(h1:bk C B pts ops (List.range' 0 (ops.toList.take (i+1)).length) σ σ₁)(h2:aj C B pts ops k σ₁ σ₂)(hs:SameAt ops k σ₁ σ₂)
  (h3:bk C B pts ops (List.range' (i+1) (ops.toList.drop (i+1)).length) σ₁ σ'):eS C B pts ops σ σ':=by
 unfold tU at hreg
 simp only[qaa]at hreg
 obtain⟨g1,g2,g3,g4,g5⟩:=hreg
 have hki:k<i:=by simpa[qbd]using g2
 have hall:∀(j:Nat) b,ops[j]?=some b->az N pts b≠none:=by
  intro j b hj he
  have hm:b∈ops.toList:=by have:=qcU hj;simpa using this
  have:=qag.1 g3 b hm
  rw[he]at this;cases this
 split at g5
 case h_2=>cases g5
 rename_i a b ha hb
 simp only[qaa]at g5
 obtain⟨hre,hds,g6⟩:=g5
 obtain⟨d,hd⟩:=qbi.1 hds
 have hi:i<ops.size:=(qav.1 hb).1
 have ht:(ops.toList.take (i+1)).length=i+1:=by simp;omega
 rw[ht]at h1
 have hsp:List.range' 0 (i+1)=List.range' 0 k++(k :: (List.range' (k+1) (i - k - 1)++[i])):=by
  have e1:List.range' 0 (i+1)=List.range' 0 k++List.range' (0+k) (i+1 - k):=by rw[qc1];congr 1;omega
  have e2:List.range' (0+k) (i+1 - k)=k :: List.range' (k+1) (i - k):=by
   rw[show i+1 - k=(i - k)+1 by omega,qdn,qaL]
  have e3:List.range' (k+1) (i - k)=List.range' (k+1) (i - k - 1)++[i]:=by
   have:List.range' (k+1) (i - k)=List.range' (k+1) (i - k - 1)++List.range' (k+1+(i - k - 1)) 1:=by rw[qc1];congr 1;omega
   rw[this,show k+1+(i - k - 1)=i by omega];rfl
  rw[e1,e2,e3]
 rw[hsp]at h1
 obtain⟨τ0,p1,τ1,p2,p3⟩:=ops_app h1
 obtain⟨τ2,p4,τ3,p5,p6⟩:=ops_app p3
 cases p6
 obtain⟨e,he⟩:=th hN hall ha p2
 have hm:az N pts a=some .hr:=by
  have hre:=hre
  unfold reOk at hre
  simp only[qaa]at hre
  have c1:=hre.1
  split at c1
  ·assumption
  ·cases c1
 obtain⟨e1,e2⟩:=um hm he.tc
 have hother:∀j,j≠k->∀b,ops[j]?=some b->∀x,b.dst=some x->x≠d:=by
  intro j hjk b hj x hx
  have:=allX_ok g6 j b (by simpa using hj)
  rw[qaL]at this
  cases hjb:Nat.beq j k with
  |true=>exact absurd (qac hjb) hjk
  |false=>
   rw[hjb,qc3,hd]at this
   exact iL this (by simp) x hx
 have hkeep:σ₁.tmps[d]?=τ1.tmps[d]?:=by
  have:bk C B pts ops (List.range' (k+1) (i - k - 1)++[i]) τ1 σ₁:=p3
  refine vV hN hall (λj hj=>hother j ?_) this
  rw[qau,qcP,qam]at hj
  omega
 obtain⟨g,hg⟩:=th hN hall ha h2
 obtain⟨f1,f2⟩:=um hm hg.tc
 have hge:g=e:=by
  obtain⟨a',d',x,q1,q2,q3,q4⟩:=hs
  rw[ha]at q1;cases q1
  rw[hd]at q2;cases q2
  rw[hg.is,rm,hd]at q4
  simp only[qa2]at q4
  rw[qdD trivial,qdD (qaP.1 q3).1]at q4
  rw[hkeep,he.is,rm,hd]at q3
  simp only[qa2]at q3
  rw[qdD trivial]at q3
  split at q3
  ·cases g;cases e
   simp only at *
   cases q3;cases q4
   simp_all
  ·cases q3
 subst hge
 have hrest:∀j,j≠k->j≠i->j<ops.size->∀τ τ',aj C B pts ops j τ τ'->splS C B N pts ops k i a g j τ τ':=by
  intro j hk hji hj τ τ' h
  have hj':ops[j]?=some ops[j]:=by simp[hj]
  obtain⟨f,hf⟩:=th hN hall hj' h
  exact⟨_,f,hj',hf,λh=>absurd h hk,λh=>absurd h hji⟩
 have hrun:runR (splS C B N pts ops k i a g) (List.range ops.size) σ σ':=by
  have e0:List.range ops.size=List.range' 0 (i+1)++List.range' (i+1) (ops.toList.drop (i+1)).length:=by
   have:(ops.toList.drop (i+1)).length=ops.size - (i+1):=by simp
   rw[this,qcj]
   have:=qc1 (s:=0) (m:=i+1) (n:=ops.size - (i+1))
   rw[qaL]at this
   rw[this];congr 1;omega
  rw[e0,hsp]
  refine uQ (uQ (σ₁:=τ0) (im (λj hj=>?_) p1) ⟨τ1,⟨a,g,ha,he,λ_=>rfl,λh=>absurd h (by omega)⟩,uQ (σ₁:=τ2) (im (λj hj=>?_) p4) ⟨σ₁,?_,rfl⟩⟩) (im (λj hj=>?_) h3)
  ·rw[qcP]at hj
   exact hrest j (by omega) (by omega) (by omega)
  ·rw[qcP]at hj
   exact hrest j (by omega) (by omega) (by omega)
  ·obtain⟨f,hf⟩:=th hN hall hb p5
   exact⟨b,f,hb,hf,λh=>absurd h (by omega),λ_=>hg.st⟩
  ·rw[qcP]at hj
   have:(ops.toList.drop (i+1)).length=ops.size - (i+1):=by simp
   exact hrest j (by omega) (by omega) (by omega)
 have hback:∀(i:Nat) o,ops[i]?=some o->∀e∈o.after.toList,Region.binds .any e=true->e.on<i:=by
  intro i o ho e he hb
  have:=eV g1 i o (by simpa using ho) e he hb
  omega
 have hz:unl ops.size (Array.replicate ops.size false)=List.range ops.size:=by
  unfold unl
  rw[qc5]
  intro i hi
  rw[qaN]at hi
  rw[qaw,qbS,qdD hi]
  rfl
 refine .inl λt=>?_
 obtain⟨r1,_,_⟩:=go_okR (S:=splS C B N pts ops k i a g) hback (λj n hj hn=>spl_pair ha hb hre g4 j n hj hn) ops.size t (Array.replicate ops.size false) (by simp) (by rw[hz];simp) (λx o hx ho=>by
  have hlt:x<ops.size:=(qav.1 ho).1
  rw[qaw,qbS,qdD hlt]at hx
  cases hx) σ σ' (by rw[hz];exact hrun)
 refine pI (λj τ τ' hS=>?_) r1
 obtain⟨b',f,q1,q2,_,_⟩:=hS
 rw[q2.is]
 exact q2.st τ (sees_refl b' τ)
end
end Sx
namespace Sx
section
variable [Val] {C:Cfg} {B:Below} {N:Tc} {pts:TB} {ops:Tm}
def wu(q:Oper->Oper->Bool)(b:Oper)(m:Nat):Tv->Nat->Bool
 | [],_=>true
 |a :: l,k=>(Nat.testBit m k||q a b)&&wu q b m l (k+1)
def rp(q:Oper->Oper->Bool)(ms:TB):Tv->Tv->Nat->Bool
 |_,[],_=>true
 |pre,b :: l,i=>wu q b (ms.getD i 0) pre 0&&rp q ms (pre++[b]) l (i+1)
def tK{q:Oper->Oper->Bool}{b:Oper}{m:Nat}:∀ {l:Tv} {k:Nat},wu q b m l k=true->∀(j:Nat) a,l[j]?=some a->m.testBit (k+j)=true∨q a b=true
 | [],k,_,j,a,h=>by simp at h
 |a :: l,k,h,j,c,hj=>by
  simp only[wu,qaa,qbs]at h
  cases j with
  |zero=>simp at hj;subst hj;exact h.1
  |succ j=>
   have:=tK h.2 j c (by simpa using hj)
   rwa [show k+1+j=k+(j+1)by omega]at this
def pK{q:Oper->Oper->Bool}{ms:TB}:∀ {l pre:Tv} {i:Nat},pre.length=i->rp q ms pre l i=true->∀(j:Nat) b,l[j]?=some b->∀(k:Nat) a,k<i+j->(pre++l)[k]?=some a->(ms.getD (i+j) 0).testBit k=true∨q a b=true
 | [],pre,i,_,_,j,b,h,_,_,_,_=>by simp at h
 |b :: l,pre,i,hp,h,j,c,hj,k,a,hk,ha=>by
  simp only[rp,qaa]at h
  cases j with
  |zero=>
   simp at hj
   subst hj
   rw[qah (by omega)]at ha
   have:=tK h.1 k a ha
   simpa using this
  |succ j=>
   have:=pK (pre:=pre++[b]) (i:=i+1) (by simp[hp]) h.2 j c (by simpa using hj) k a (by omega) (by simpa using ha)
   rwa [show i+1+j=i+(j+1)by omega]at this
def sE{b:Oper}{m i:Nat}:∀ {l:Tv} {k:Nat} (j:Nat) a,l[j]?=some a->m.testBit (k+j)=false->conf pts a b=true->(k+j,i)∈sD pts b m i l k
 | [],k,j,a,h,_,_=>by simp at h
 |a :: l,k,j,c,hj,hb,hc=>by
  unfold sD
  cases j with
  |zero=>
   simp at hj
   subst hj
   simp only[qca]at hb ⊢
   rw[hb,hc]
   simp
  |succ j=>
   have:=sE (i:=i) (k:=k+1) j c (by simpa using hj) (by rwa [show k+1+j=k+(j+1)by omega]) hc
   rw[show k+1+j=k+(j+1)by omega]at this
   split
   ·exact this
   ·exact qap _ this
def sC{ms:TB}:∀ {l pre:Tv} {i:Nat},pre.length=i->∀(j:Nat) b,l[j]?=some b->∀(k:Nat) a,k<i+j->(pre++l)[k]?=some a->(ms.getD (i+j) 0).testBit k=false->conf pts a b=true->(k,i+j)∈vr pts ms pre l i
 | [],pre,i,_,j,b,h,_,_,_,_,_,_=>by simp at h
 |b :: l,pre,i,hp,j,c,hj,k,a,hk,ha,ht,hc=>by
  unfold vr
  rw[qau]
  cases j with
  |zero=>
   simp at hj
   subst hj
   rw[qah (by omega)]at ha
   have:=sE (pts:=pts) (i:=i) (k:=0) k a ha (by simpa using ht) hc
   left
   simpa using this
  |succ j=>
   right
   have:=sC (pre:=pre++[b]) (i:=i+1) (by simp[hp]) j c (by simpa using hj) k a (by omega) (by simpa using ha) (by rwa [show i+1+j=i+(j+1)by omega]) hc
   rwa [show i+1+j=i+(j+1)by omega]at this
def opT(pts:TB)(o:Oper):TB:=((cV pts o).1++en pts o).filterMap λx=>match x with
 | .tmp t=>some t
 |_=>none
def ssaB(pts:TB):Tv->Tv->Bool
 |_,[]=>true
 |pre,b :: l=>bL b.dst (opT pts b)&&(pre.all λa=>bL b.dst (opT pts a)&&bN a.dst b.dst)&&ssaB pts (pre++[b]) l
def uX:∀ {l pre:Tv},ssaB pts pre l=true->∀(j:Nat) b,l[j]?=some b->∀(k:Nat) a,(pre++l)[k]?=some a->(k<=pre.length+j->bL b.dst (opT pts a)=true)/\(k<pre.length+j->bN a.dst b.dst=true)
 | [],pre,_,j,b,h,_,_,_=>by simp at h
 |b :: l,pre,h,j,c,hj,k,a,ha=>by
  simp only[ssaB,qaa,qag]at h
  obtain⟨⟨h1,h2⟩,h3⟩:=h
  cases j with
  |zero=>
   simp at hj
   subst hj
   refine⟨λhk=>?_,λhk=>?_⟩
   ·rcases qaQ k pre.length with hlt|hge
    ·rw[qah hlt]at ha
     exact(h2 a (qab ha)).1
    ·obtain rfl:k=pre.length:=by omega
     rw[qan (qaf _),qbu]at ha
     simp at ha
     subst ha
     exact h1
   ·rw[qah (by omega)]at ha
    exact(h2 a (qab ha)).2
  |succ j=>
   have:=uX h3 j c (by simpa using hj) k a (by simpa using ha)
   simp only[qaB,qaD,qbA]at this
   exact⟨λhk=>this.1 (by omega),λhk=>this.2 (by omega)⟩
def sepReg(N:Tc)(pts:TB)(ops:Tm):Bool:=
 fo ops.toList 0&&(ops.toList.all (okS N pts)&&(ops.toList.any (dh pts)&&(ops.toList.all (λo=>!dh pts o||o.dst.isSome)&&(ssaB pts [] ops.toList&&rp (λa b=>stat2 N pts ops a b && !fp a b) (ancs ops.toList []) [] ops.toList 0))))
def splK(N:Tc)(pts:TB)(ops:Tm)(i:Nat):Nat->Option Nat
 |0=>none
 |k+1=>match ops[k]?,ops[i]? with
  |some a,some b=>match reOk N pts ops a b&&tU N pts ops k i with
   |true=>some k
   |false=>splK N pts ops i k
  |_,_=>none
def splI(N:Tc)(pts:TB)(ops:Tm):Nat->Option (List (Nat×Nat))
 |0=>none
 |i+1=>match splK N pts ops i i with
  |some k=>some [(k+1000,i)]
  |none=>splI N pts ops i
def drOf(N:Tc):Dr:=λpts ops=>match vt pts ops with
 | []=>match tI N pts ops with
  |true=>some []
  |false=>splI N pts ops ops.size
 |p :: ps=>match splOf (p :: ps),sepReg N pts ops with
  |none,true=>some (p :: ps)
  |_,_=>none
def splK_ok{i:Nat}:∀ {n k:Nat},splK N pts ops i n=some k->tU N pts ops k i=true
 |0,k,h=>by cases h
 |n+1,k,h=>by
  unfold splK at h
  split at h
  ·split at h
   next hq=>
    cases h
    simp only[qaa]at hq
    exact hq.2
   ·exact splK_ok h
  ·cases h
def splI_ok:∀ {n:Nat} {ps:List (Nat×Nat)},splI N pts ops n=some ps->∃k i,ps=[(k+1000,i)]/\tU N pts ops k i=true
 |0,ps,h=>by cases h
 |n+1,ps,h=>by
  unfold splI at h
  split at h
  next k hk=>
   cases h
   exact⟨k,n,rfl,splK_ok hk⟩
  ·exact splI_ok h
def hcls0{o:Oper}(h:hCls pts o=0):(cV pts o).1=[]/\en pts o=[]/\dh pts o=false:=by
 obtain⟨dst,op,ty,pos,after,guard⟩:=o
 cases op<;>simp only[hCls]at h<;>first|(exact⟨rfl,rfl,rfl⟩)|(exact absurd h (by decide))|skip
 case alloc t=>cases hn:dh pts ⟨dst,.alloc t,ty,pos,after,guard⟩with
  |true=>rw[hn]at h;cases h
  |false=>exact⟨rfl,rfl,rfl⟩
 case box t x=>cases hn:dh pts ⟨dst,.box t x,ty,pos,after,guard⟩with
  |true=>rw[hn]at h;cases h
  |false=>exact⟨rfl,rfl,rfl⟩
 case load t a=>
  split at h
  ·cases h
  next hk=>
   refine⟨?_,rfl,rfl⟩
   simp only[cV]
 case store t a x=>
  split at h
  ·cases h
  next hk=>
   refine⟨?_,?_,rfl⟩
   ·simp only[cV]
   ·simp only[en]
 case call c=>
  cases hc:c.callee with
  |builtin b=>
   rw[hc]at h
   simp only[cV,en,dh,hc]
   cases b<;>first|(exact⟨rfl,rfl,rfl⟩)|(exact absurd h (by simp))
  |value f=>simp only[cV,en,dh,hc];exact⟨trivial,trivial,trivial⟩
  |invoke r m=>simp only[cV,en,dh,hc];exact⟨trivial,trivial,trivial⟩
def hcls1{o:Oper}(h:hCls pts o=1):en pts o=[]/\dh pts o=false:=by
 obtain⟨dst,op,ty,pos,after,guard⟩:=o
 cases op<;>simp only[hCls]at h<;>first|(exact⟨rfl,rfl⟩)|(exact absurd h (by decide))|skip
 case alloc t=>cases hn:dh pts ⟨dst,.alloc t,ty,pos,after,guard⟩with
  |true=>rw[hn]at h;cases h
  |false=>exact⟨rfl,rfl⟩
 case box t x=>cases hn:dh pts ⟨dst,.box t x,ty,pos,after,guard⟩with
  |true=>rw[hn]at h;cases h
  |false=>exact⟨rfl,rfl⟩
 case store t a x=>split at h<;>cases h
 case call c=>
  cases hc:c.callee with
  |builtin b=>
   rw[hc]at h
   simp only[en,dh,hc]
   cases b<;>first|(exact⟨rfl,rfl⟩)|(exact absurd h (by simp))
  |value f=>simp only[en,dh,hc];exact⟨trivial,trivial⟩
  |invoke r m=>simp only[en,dh,hc];exact⟨trivial,trivial⟩
def qQ(o:Oper):hCls pts o=0∨hCls pts o=1∨hCls pts o=2:=by
 obtain⟨dst,op,ty,pos,after,guard⟩:=o
 cases op<;>simp only[hCls]<;>first|(exact .inl trivial)|(exact .inr (.inl trivial))|(exact .inr (.inr trivial))|skip
 case alloc t=>split<;>simp
 case box t x=>split<;>simp
 case load t a=>split<;>simp
 case store t a x=>split<;>simp
 case call c=>split<;>first|(split<;>simp)|simp
end
end Sx
namespace Sx
section
variable [Val] {C:Cfg} {B:Below} {N:Tc} {pts:TB} {ops:Tm}
def fresh_adr{mk:Nat->Value}(h:Fresh mk)(k:Nat):adr (mk k)=[k]:=by
 cases h<;>simp[adr,tag]
def wA{S:Nat->St->St->Prop}{sl:Nat->Tp}(hS:∀i σ σ',S i σ σ'->dM C B pts ops sl i σ σ'):∀ {l:TB},l.Nodup->∀ {σ σ':St},runR S l σ σ'->iq C B pts ops sl l σ σ'
 | [],_,_,_,h=>h
 |i :: l,hn,σ,σ',⟨σ₁,h1,h2⟩=>by
  rw[qbX]at hn
  exact⟨hn.1,σ₁,hS i _ _ h1,wA hS hn.2 h2⟩
def opT_mem{o:Oper}{t:Nat}(h:Operand.tmp t∈(cV pts o).1++en pts o):t∈opT pts o:=by
 unfold opT
 exact qbE.2 ⟨.tmp t,h,rfl⟩
def any_okS [Kno](hN:NeuB N B)(hreg:sepReg N pts ops=true){σ σ':St}(h:bk C B pts ops (List.range ops.size) σ σ')(hsep:SepAt pts ops σ'.tmps (vt pts ops)):eS C B pts ops σ σ':=by
 simp only[sepReg,qaa]at hreg
 obtain⟨g1,g2,g3,g4,g5,g6⟩:=hreg
 have hok:∀i∈List.range ops.size,∃o,ops[i]?=some o/\okS N pts o=true:=by
  intro i hi
  rw[qaN]at hi
  exact⟨ops[i],by simp[hi],qag.1 g2 _ (by simp)⟩
 obtain⟨rc,R⟩:=recs_of hN (List.range ops.size) σ σ' qcr hok h
 have hsz:∀ {i:Nat} {o:Oper},ops[i]?=some o->i<ops.size:=λhi=>(qav.1 hi).1
 have hrg:∀ {i:Nat} {o:Oper},ops[i]?=some o->i∈List.range ops.size:=λhi=>qaN.2 (hsz hi)
 have hl:∀ {i:Nat} {o:Oper},ops[i]?=some o->ops.toList[i]?=some o:=λhi=>by simpa using hi
 have hop:∀ {i:Nat} {o:Oper},ops[i]?=some o->∀x∈(cV pts o).1++en pts o,oval σ'.tmps x=oval (rc i).σ.tmps x:=by
  intro i o hi x hx
  refine kK λt ht=>?_
  subst ht
  refine R.args i (hrg hi) t λj hj hij o' ho' hd=>?_
  have:=(uX g5 j o' (hl ho') i o (by simpa using hi)).1 (by simpa using hij)
  exact oT this t (opT_mem hx) t hd rfl
 have hF:∀ {i:Nat} {o:Oper},ops[i]?=some o->∀r∈fpo pts (oval (rc i).σ.tmps) o,r∈fAt pts σ'.tmps o:=by
  intro i o hi r hr
  unfold fpo at hr
  unfold fAt
  obtain⟨x,hx,hr⟩:=qbI.1 hr
  exact qbI.2 ⟨x,hx,by rw[hop hi x (qaF _ hx)];exact hr⟩
 have hW:∀ {i:Nat} {o:Oper},ops[i]?=some o->dstIn pts σ'.tmps o->∀p∈(rc i).ws,p.1∈wAt pts σ'.tmps o:=by
  intro i o hi hdi p hp
  have K:=R.ok i (hrg hi) o hi
  unfold Rec.ws at hp
  unfold wAt
  rw[qbI]
  rcases qau.1 hp with hp|hp
  ·have:=K.wr p (by simpa using hp)
   unfold wpo at this
   obtain⟨x,hx,hr⟩:=qbI.1 this
   exact⟨x,qaF _ hx,by rw[hop hi x (qaK _ hx)];exact hr⟩
  ·unfold Rec.slot at hp
   split at hp
   next k q hk hq=>
    have hp:p=(k,q.1):=by simpa using hp
    subst hp
    obtain⟨f1,f2,f3⟩:=K.fr q hq
    have hc2:hCls pts o=2:=by
     rcases qQ (pts:=pts) o with h0|h0|h0
     ·rw[(hcls0 h0).2.2]at f3;cases f3
     ·rw[(hcls1 h0).2]at f3;cases f3
     ·exact h0
    have hds:o.dst.isSome=true:=by
     have:=qag.1 g4 o (qab (hl hi))
     rw[f3]at this
     simpa using this
    obtain⟨d,hd⟩:=qbi.1 hds
    obtain⟨v,hv⟩:=hdi d hd hc2
    have hval:=R.res i (hrg hi) o d v hi hd (λj hj hij o' ho' hd'=>by
     have:=(uX g5 j o' (hl ho') i o (by simpa using hi)).2 (by simpa using hij)
     rw[hd,hd']at this
     simp[bN]at this) hv
    refine⟨.tmp d,rS hd hc2,?_⟩
    have ho:oval σ'.tmps (.tmp d)=v:=by simp[oval,List.getD_eq_getElem?_getD,hv]
    rw[ho,hval]
    unfold Rec.val HEff.val
    rw[hk]
    simp only[hq]
    rw[fresh_adr f1]
    exact qam.2 rfl
   ·cases hp
 have hno:∀ {i:Nat} {o:Oper},ops[i]?=some o->hCls pts o≠2->(rc i).ws=[]:=by
  intro i o hi hc
  have K:=R.ok i (hrg hi) o hi
  have hw:en pts o=[]/\dh pts o=false:=by
   rcases qQ (pts:=pts) o with h0|h0|h0
   ·exact(hcls0 h0).2
   ·exact hcls1 h0
   ·exact absurd h0 hc
  have e1:(rc i).e.set=none:=by
   cases hs:(rc i).e.set with
   |none=>rfl
   |some p=>
    have:=K.wr p hs
    unfold wpo at this
    rw[hw.1]at this
    cases this
  have e2:(rc i).e.push=none:=by
   cases hs:(rc i).e.push with
   |none=>rfl
   |some p=>have:=(K.fr p hs).2.2;rw[hw.2]at this;cases this
  unfold Rec.ws Rec.slot
  rw[e1,e2]
  cases (rc i).k<;>rfl
 have hno2:∀ {i:Nat} {o:Oper},hCls pts o=0->fpo pts (oval (rc i).σ.tmps) o=[]:=by
  intro i o hc
  unfold fpo
  rw[(hcls0 hc).1]
  rfl
 refine .inr ⟨λi=>if i<ops.size then(rc i).k else none,σ'.heap.length - σ.heap.length,g3,?_,?_,λt=>?_⟩
 ·intro i k hk
  simp only at hk
  split at hk
  next hi=>
   have:=R.slot i (qaN.2 hi) k hk
   omega
  ·cases hk
 ·intro i j k hk hk'
  simp only at hk hk'
  split at hk
  next hi=>
   split at hk'
   next hj=>
    exact R.inj i (qaN.2 hi) j (qaN.2 hj) k hk hk'
   ·cases hk'
  ·cases hk
 have hback:∀(i:Nat) o,ops[i]?=some o->∀e∈o.after.toList,Region.binds .any e=true->e.on<i:=by
  intro i o ho e he hb
  have:=eV g1 i o (by simpa using ho) e he hb
  omega
 have hpair:∀i k:Nat,i<ops.size->k<i->Anc ops k i∨∀τ τ₁ τ':St,recS N pts ops rc k τ τ₁->recS N pts ops rc i τ₁ τ'->∃ρ,recS N pts ops rc i τ ρ/\recS N pts ops rc k ρ τ':=by
  intro i k hi hki
  have hb:ops[i]?=some ops[i]:=by simp[hi]
  have ha:ops[k]?=some (ops[k]'(by omega)):=by simp[show k<ops.size by omega]
  generalize ops[i]=b at hb
  generalize ops[k]'(by omega)=a at ha
  have hq:=pK (pre:=[]) (i:=0) rfl g6 i b (by simpa using hb) k a (by omega) (by simpa using ha)
  rw[qaL]at hq
  cases htb:(List.getD (ancs ops.toList []) i 0).testBit k with
  |true=>exact .inl (qr ops.toList [] rfl (λi k h=>by simp at h) i k htb)
  |false=>
   right
   rw[htb]at hq
   have hq:=hq.resolve_left (by simp)
   simp only[qaa]at hq
   obtain⟨q1,q2⟩:=hq
   have d:(∀p∈(rc k).ws,p.1∉fpo pts (oval (rc i).σ.tmps) b)/\(∀p∈(rc i).ws,p.1∉fpo pts (oval (rc k).σ.tmps) a)/\(∀p∈(rc k).ws,∀q∈(rc i).ws,p.1≠q.1):=by
    cases hcf:conf pts a b with
    |true=>
     have hm:=sC (pts:=pts) (ms:=ancs ops.toList []) (l:=ops.toList) (pre:=[]) (i:=0) rfl i b (by simpa using hb) k a (by omega) (by simpa using ha) (by rw[qaL];exact htb) hcf
     rw[qaL]at hm
     obtain⟨a',b',r1,r2,s1,s2,s3,s4,s5⟩:=hsep (k,i) hm
     have r1:ops[k]?=some a':=r1
     have r2:ops[i]?=some b':=r2
     rw[ha]at r1;rw[hb]at r2
     cases r1;cases r2
     exact⟨λp hp hf=>s1 _ (hW ha s4 p hp) (hF hb _ hf),λp hp hf=>s3 _ (hW hb s5 p hp) (hF ha _ hf),λp hp q hq e=>s2 _ (hW ha s4 p hp) (e▸hW hb s5 q hq)⟩
    |false=>
     have hcf:Nat.ble 3 (hCls pts a+hCls pts b)=false:=by
      unfold conf at hcf
      cases he:fp a b with
      |true=>rw[he]at q2;cases q2
      |false=>rw[he]at hcf;simpa using hcf
     have hlt:¬3<=hCls pts a+hCls pts b:=λh=>by rw[qaZ h]at hcf;cases hcf
     rcases qQ (pts:=pts) a with e1|e1|e1<;>rcases qQ (pts:=pts) b with e2|e2|e2
     ·rw[hno ha (by omega),hno hb (by omega)];exact⟨λ_ h=>(by cases h),λ_ h=>(by cases h),λ_ h=>(by cases h)⟩
     ·rw[hno ha (by omega),hno hb (by omega)];exact⟨λ_ h=>(by cases h),λ_ h=>(by cases h),λ_ h=>(by cases h)⟩
     ·rw[hno ha (by omega),hno2 e1];exact⟨λ_ h=>(by cases h),λ_ _ h=>(by cases h),λ_ h=>(by cases h)⟩
     ·rw[hno ha (by omega),hno hb (by omega)];exact⟨λ_ h=>(by cases h),λ_ h=>(by cases h),λ_ h=>(by cases h)⟩
     ·rw[hno ha (by omega),hno hb (by omega)];exact⟨λ_ h=>(by cases h),λ_ h=>(by cases h),λ_ h=>(by cases h)⟩
     ·omega
     ·rw[hno hb (by omega),hno2 e2];exact⟨λ_ _ h=>(by cases h),λ_ h=>(by cases h),λ_ _ _ h=>(by cases h)⟩
     ·omega
     ·omega
   rintro τ τ₁ τ' ⟨a1,h1,h2,rfl⟩ ⟨b1,h3,h4,rfl⟩
   rw[ha]at h1;rw[hb]at h3
   cases h1;cases h3
   obtain⟨w1,w2,w3⟩:=swapR (R.ok k (hrg ha) a ha) (R.ok i (hrg hb) b hb) q1 d.1 d.2.1 d.2.2 h2 h4
   exact⟨_,⟨b,hb,w1,rfl⟩,⟨a,ha,w2,w3⟩⟩
 have hz:unl ops.size (Array.replicate ops.size false)=List.range ops.size:=by
  unfold unl
  rw[qc5]
  intro i hi
  rw[qaN]at hi
  rw[qaw,qbS,qdD hi]
  rfl
 have hrun:=R.run σ'.heap.length (qaf _)
 have hend:St.padTo σ' σ'.heap.length=σ':=by
  unfold St.padTo St.pad
  rw[qbu]
  simp
 rw[hend]at hrun
 obtain⟨r1,r2,_⟩:=go_okR (S:=recS N pts ops rc) hback hpair ops.size t (Array.replicate ops.size false) (by simp) (by rw[hz];simp) (λx o hx ho=>by
  have hlt:x<ops.size:=hsz ho
  rw[qaw,qbS,qdD hlt]at hx
  cases hx) _ _ (by rw[hz];exact hrun)
 refine wA (λi τ τ' hS=>?_) r2 r1
 obtain⟨o,h1,h2,rfl⟩:=hS
 exact(R.ok i (hrg h1) o h1).step τ h2 _ (by simp only[hsz h1,if_true])
def splOf_one(k i:Nat):splOf [(k+1000,i)]=some (k,i):=by
 have hb:Nat.ble 1000 (k+1000)=true:=qaZ (Nat.le_add_left 1000 k)
 generalize hm:k+1000=m at *
 have hk:m - 1000=k:=by omega
 unfold splOf
 simp only[hb,hk]
def drOf_ok [Kno]{C:Cfg}(hN:∀f n,N f=some n->neuF N C f n=true)(hk:∀f args H r H',Kno.kh f args H r H'->N f=none∨(N f=some (2*args.length+1)/\H'=H)):DrOk C (drOf N):=by
 intro pts ops ps h
 unfold drOf at h
 split at h
 ·split at h
  next hr=>
   cases h
   exact λn σ σ' hx hs=>dr_ok hN hk pts ops hr n σ σ' hx
  ·obtain⟨k,i,hps,hr⟩:=splI_ok h
   have e:splOf ps=some (k,i):=hps▸splOf_one k i
   rw[e]
   exact λn σ σ₁ σ₂ σ' h1 h2 h3 h4=>any_spl (vR hN hk n).1.1 hr h1 h2 h3 h4
 next p qs he=>
  split at h
  next hn hr=>
   cases h
   rw[hn]
   exact λn σ σ' hx hs=>any_okS (vR hN hk n).1.1 hr hx (by rw[he];exact hs)
  ·cases h
end
end Sx
end Go.Am
namespace Go.Am
open Sx Go.Proofs
def neuT:List (Nat×Nat):=[(22,4),(48,0),(70,2),(73,4),(99,2),(101,2),(109,6),(110,2),(111,2),(112,4),(40,3),(28,3)]
def lookN(l:List (Nat×Nat))(f:Nat):Tp:=match l with
 | []=>none
 |p :: l=>match Nat.beq p.1 f with
  |true=>some p.2
  |false=>lookN l f
def neuN(f:TN):Tp:=lookN neuT f
def ti{f n:Nat}:∀ {l:List (Nat×Nat)},lookN l f=some n->(f,n)∈l
 |p :: l,h=>by
  unfold lookN at h
  split at h
  next e=>
   cases h
   have:=qac e
   subst this
   exact qaE
  ·exact qap _ (ti h)
def neuT_ok:(neuT.all λp=>neuF neuN cc p.1 p.2)=true:=by kernel_rfl
def neuN_ok(f n:Nat)(h:neuN f=some n):neuF neuN cc f n=true:=qag.1 neuT_ok (f,n) (ti h)
def drN:Dr:=drOf neuN
def nF(k:Nat)(an:List An):Fn1:=fn1 cc.P k ((ab k).getD ⟨[],[]⟩) an
def iF {k:Nat} {g:Func} {an:List An} (h0:(xc k).C.P.funcs[k]?=some g) (h:(g.body,((g.name == "runtime.NumGoroutine")||(xc k).C.opq k),g.ntmps,g.results.toList,ab k)=(some (er (xc k) (nF k an).code),false,(nF k an).nt,(nF k an).rvs,some (nF k an).sg)):FnIs (xc k) ab k (nF k an):=by
 simp only[qbY]at h
 exact⟨⟨g,h0,h.1,h.2.1,h.2.2.1,h.2.2.2.1⟩,rfl,h.2.2.2.2⟩
abbrev e_f(k:Nat)(a:List An):(R HT:Type)->Alg R HT->TE->HT->(TE->HT->R)->R:=λR HT A ls h K=>aF A (xc k) ab drN (nF k a) ls h K
abbrev i_i(k:Nat)(a:List An):Prop:=FnIs (xc k) ab k (nF k a)
def i4:i_i 4 an4:=iF Tryz.func4 (by kernel_rfl)
def i5:i_i 5 an5:=iF Tryz.func5 (by kernel_rfl)
def i6:i_i 6 an6:=iF Tryz.func6 (by kernel_rfl)
def i7:i_i 7 an7:=iF Tryz.func7 (by kernel_rfl)
def i8:i_i 8 an8:=iF Tryz.func8 (by kernel_rfl)
def i9:i_i 9 an9:=iF Tryz.func9 (by kernel_rfl)
def i10:i_i 10 an10:=iF Tryz.func10 (by kernel_rfl)
def i12:i_i 12 an12:=iF Tryz.func12 (by kernel_rfl)
def i13:i_i 13 an13:=iF Tryz.func13 (by kernel_rfl)
def i14:i_i 14 an14:=iF Tryz.func14 (by kernel_rfl)
def i15:i_i 15 an15:=iF Tryz.func15 (by kernel_rfl)
def i16:i_i 16 an16:=iF Tryz.func16 (by kernel_rfl)
def i17:i_i 17 an17:=iF Tryz.func17 (by kernel_rfl)
def i18:i_i 18 an18:=iF Tryz.func18 (by kernel_rfl)
def i19:i_i 19 an19:=iF Tryz.func19 (by kernel_rfl)
def i20:i_i 20 an20:=iF Tryz.func20 (by kernel_rfl)
def i21:i_i 21 an21:=iF Tryz.func21 (by kernel_rfl)
def i22:i_i 22 an22:=iF Tryz.func22 (by kernel_rfl)
def i23:i_i 23 an23:=iF Tryz.func23 (by kernel_rfl)
def i24:i_i 24 an24:=iF Tryz.func24 (by kernel_rfl)
def i25:i_i 25 an25:=iF Tryz.func25 (by kernel_rfl)
def i26:i_i 26 an26:=iF Tryz.func26 (by kernel_rfl)
def i27:i_i 27 an27:=iF Tryz.func27 (by kernel_rfl)
def i28:i_i 28 an28:=iF Tryz.func28 (by kernel_rfl)
def i29:i_i 29 an29:=iF Tryz.func29 (by kernel_rfl)
def i30:i_i 30 an30:=iF Tryz.func30 (by kernel_rfl)
def i31:i_i 31 an31:=iF Tryz.func31 (by kernel_rfl)
def i32:i_i 32 an32:=iF Tryz.func32 (by kernel_rfl)
def i33:i_i 33 an33:=iF Tryz.func33 (by kernel_rfl)
def i34:i_i 34 an34:=iF Tryz.func34 (by kernel_rfl)
def i35:i_i 35 an35:=iF Tryz.func35 (by kernel_rfl)
def i36:i_i 36 an36:=iF Tryz.func36 (by kernel_rfl)
def i37:i_i 37 an37:=iF Tryz.func37 (by kernel_rfl)
def i38:i_i 38 an38:=iF Tryz.func38 (by kernel_rfl)
def i39:i_i 39 an39:=iF Tryz.func39 (by kernel_rfl)
def i41:i_i 41 an41:=iF Tryz.func41 (by kernel_rfl)
def i42:i_i 42 an42:=iF Tryz.func42 (by kernel_rfl)
def i43:i_i 43 an43:=iF Tryz.func43 (by kernel_rfl)
def i44:i_i 44 an44:=iF Tryz.func44 (by kernel_rfl)
def i45:i_i 45 an45:=iF Tryz.func45 (by kernel_rfl)
def i46:i_i 46 an46:=iF Tryz.func46 (by kernel_rfl)
def i47:i_i 47 an47:=iF Tryz.func47 (by kernel_rfl)
def i48:i_i 48 an48:=iF Tryz.func48 (by kernel_rfl)
def i49:i_i 49 an49:=iF Tryz.func49 (by kernel_rfl)
def i50:i_i 50 an50:=iF Tryz.func50 (by kernel_rfl)
def i51:i_i 51 an51:=iF Tryz.func51 (by kernel_rfl)
def i52:i_i 52 an52:=iF Tryz.func52 (by kernel_rfl)
def i53:i_i 53 an53:=iF Tryz.func53 (by kernel_rfl)
def i54:i_i 54 an54:=iF Tryz.func54 (by kernel_rfl)
def i57:i_i 57 an57:=iF Tryz.func57 (by kernel_rfl)
def i58:i_i 58 an58:=iF Tryz.func58 (by kernel_rfl)
def i59:i_i 59 an59:=iF Tryz.func59 (by kernel_rfl)
def i60:i_i 60 an60:=iF Tryz.func60 (by kernel_rfl)
def i61:i_i 61 an61:=iF Tryz.func61 (by kernel_rfl)
def i62:i_i 62 an62:=iF Tryz.func62 (by kernel_rfl)
def i63:i_i 63 an63:=iF Tryz.func63 (by kernel_rfl)
def i64:i_i 64 an64:=iF Tryz.func64 (by kernel_rfl)
def i65:i_i 65 an65:=iF Tryz.func65 (by kernel_rfl)
def i67:i_i 67 an67:=iF Tryz.func67 (by kernel_rfl)
def i68:i_i 68 an68:=iF Tryz.func68 (by kernel_rfl)
def i69:i_i 69 an69:=iF Tryz.func69 (by kernel_rfl)
def i70:i_i 70 an70:=iF Tryz.func70 (by kernel_rfl)
def i71:i_i 71 an71:=iF Tryz.func71 (by kernel_rfl)
def i72:i_i 72 an72:=iF Tryz.func72 (by kernel_rfl)
def i73:i_i 73 an73:=iF Tryz.func73 (by kernel_rfl)
def i74:i_i 74 an74:=iF Tryz.func74 (by kernel_rfl)
def i75:i_i 75 an75:=iF Tryz.func75 (by kernel_rfl)
def i84:i_i 84 an84:=iF Tryz.func84 (by kernel_rfl)
def i86:i_i 86 an86:=iF Tryz.func86 (by kernel_rfl)
def i94:i_i 94 an94:=iF Tryz.func94 (by kernel_rfl)
def i95:i_i 95 an95:=iF Tryz.func95 (by kernel_rfl)
def i96:i_i 96 an96:=iF Tryz.func96 (by kernel_rfl)
def i97:i_i 97 an97:=iF Tryz.func97 (by kernel_rfl)
def i98:i_i 98 an98:=iF Tryz.func98 (by kernel_rfl)
def i99:i_i 99 an99:=iF Tryz.func99 (by kernel_rfl)
def i100:i_i 100 an100:=iF Tryz.func100 (by kernel_rfl)
def i101:i_i 101 an101:=iF Tryz.func101 (by kernel_rfl)
def i102:i_i 102 an102:=iF Tryz.func102 (by kernel_rfl)
def i103:i_i 103 an103:=iF Tryz.func103 (by kernel_rfl)
def i104:i_i 104 an104:=iF Tryz.func104 (by kernel_rfl)
def i105:i_i 105 an105:=iF Tryz.func105 (by kernel_rfl)
def i106:i_i 106 an106:=iF Tryz.func106 (by kernel_rfl)
def i107:i_i 107 an107:=iF Tryz.func107 (by kernel_rfl)
def i108:i_i 108 an108:=iF Tryz.func108 (by kernel_rfl)
def i109:i_i 109 an109:=iF Tryz.func109 (by kernel_rfl)
def i110:i_i 110 an110:=iF Tryz.func110 (by kernel_rfl)
def i111:i_i 111 an111:=iF Tryz.func111 (by kernel_rfl)
def i112:i_i 112 an112:=iF Tryz.func112 (by kernel_rfl)
def i113:i_i 113 an113:=iF Tryz.func113 (by kernel_rfl)
def i122:i_i 122 an122:=iF Tryz.func122 (by kernel_rfl)
def i123:i_i 123 an123:=iF Tryz.func123 (by kernel_rfl)
def i124:i_i 124 an124:=iF Tryz.func124 (by kernel_rfl)
def i125:i_i 125 an125:=iF Tryz.func125 (by kernel_rfl)
def i126:i_i 126 an126:=iF Tryz.func126 (by kernel_rfl)
def i127:i_i 127 an127:=iF Tryz.func127 (by kernel_rfl)
def i128:i_i 128 an128:=iF Tryz.func128 (by kernel_rfl)
def i131:i_i 131 an131:=iF Tryz.func131 (by kernel_rfl)
def e13:@f13=e_f 13 an13:=by kernel_rfl
def e16:@f16=e_f 16 an16:=by kernel_rfl
def e18:@f18=e_f 18 an18:=by kernel_rfl
def e21:@f21=e_f 21 an21:=by kernel_rfl
def e27:@f27=e_f 27 an27:=by kernel_rfl
def e32:@f32=e_f 32 an32:=by kernel_rfl
def e39:@f39=e_f 39 an39:=by kernel_rfl
def e42:@f42=e_f 42 an42:=by kernel_rfl
def e43:@f43=e_f 43 an43:=by kernel_rfl
def e44:@f44=e_f 44 an44:=by kernel_rfl
def e50:@f50=e_f 50 an50:=by kernel_rfl
def e67:@f67=e_f 67 an67:=by kernel_rfl
def e73:@f73=e_f 73 an73:=by kernel_rfl
def e75:@f75=e_f 75 an75:=by kernel_rfl
def e103:@f103=e_f 103 an103:=by kernel_rfl
def e107:@f107=e_f 107 an107:=by kernel_rfl
def e10:@f10=e_f 10 an10:=by kernel_rfl
def e20:@f20=e_f 20 an20:=by kernel_rfl
def e24:@f24=e_f 24 an24:=by kernel_rfl
def e37:@f37=e_f 37 an37:=by kernel_rfl
def e47:@f47=e_f 47 an47:=by kernel_rfl
def e48:@f48=e_f 48 an48:=by kernel_rfl
def e53:@f53=e_f 53 an53:=by kernel_rfl
def e61:@f61=e_f 61 an61:=by kernel_rfl
def e64:@f64=e_f 64 an64:=by kernel_rfl
def e69:@f69=e_f 69 an69:=by kernel_rfl
def e70:@f70=e_f 70 an70:=by kernel_rfl
def e74:@f74=e_f 74 an74:=by kernel_rfl
def e94:@f94=e_f 94 an94:=by kernel_rfl
def e95:@f95=e_f 95 an95:=by kernel_rfl
def e104:@f104=e_f 104 an104:=by kernel_rfl
def e109:@f109=e_f 109 an109:=by kernel_rfl
def e123:@f123=e_f 123 an123:=by kernel_rfl
def e127:@f127=e_f 127 an127:=by kernel_rfl
def e5:@f5=e_f 5 an5:=by kernel_rfl
def e12:@f12=e_f 12 an12:=by kernel_rfl
def e17:@f17=e_f 17 an17:=by kernel_rfl
def e19:@f19=e_f 19 an19:=by kernel_rfl
def e23:@f23=e_f 23 an23:=by kernel_rfl
def e26:@f26=e_f 26 an26:=by kernel_rfl
def e28:@f28=e_f 28 an28:=by kernel_rfl
def e31:@f31=e_f 31 an31:=by kernel_rfl
def e33:@f33=e_f 33 an33:=by kernel_rfl
def e38:@f38=e_f 38 an38:=by kernel_rfl
def e45:@f45=e_f 45 an45:=by kernel_rfl
def e62:@f62=e_f 62 an62:=by kernel_rfl
def e63:@f63=e_f 63 an63:=by kernel_rfl
def e68:@f68=e_f 68 an68:=by kernel_rfl
def e102:@f102=e_f 102 an102:=by kernel_rfl
def e105:@f105=e_f 105 an105:=by kernel_rfl
def e108:@f108=e_f 108 an108:=by kernel_rfl
def e111:@f111=e_f 111 an111:=by kernel_rfl
def e15:@f15=e_f 15 an15:=by kernel_rfl
def e25:@f25=e_f 25 an25:=by kernel_rfl
def e34:@f34=e_f 34 an34:=by kernel_rfl
def e35:@f35=e_f 35 an35:=by kernel_rfl
def e49:@f49=e_f 49 an49:=by kernel_rfl
def e52:@f52=e_f 52 an52:=by kernel_rfl
def e57:@f57=e_f 57 an57:=by kernel_rfl
def e58:@f58=e_f 58 an58:=by kernel_rfl
def e84:@f84=e_f 84 an84:=by kernel_rfl
def e98:@f98=e_f 98 an98:=by kernel_rfl
def e99:@f99=e_f 99 an99:=by kernel_rfl
def e101:@f101=e_f 101 an101:=by kernel_rfl
def e112:@f112=e_f 112 an112:=by kernel_rfl
def e124:@f124=e_f 124 an124:=by kernel_rfl
def e128:@f128=e_f 128 an128:=by kernel_rfl
def e4:@f4=e_f 4 an4:=by kernel_rfl
def e6:@f6=e_f 6 an6:=by kernel_rfl
def e7:@f7=e_f 7 an7:=by kernel_rfl
def e8:@f8=e_f 8 an8:=by kernel_rfl
def e22:@f22=e_f 22 an22:=by kernel_rfl
def e29:@f29=e_f 29 an29:=by kernel_rfl
def e41:@f41=e_f 41 an41:=by kernel_rfl
def e46:@f46=e_f 46 an46:=by kernel_rfl
def e60:@f60=e_f 60 an60:=by kernel_rfl
def e65:@f65=e_f 65 an65:=by kernel_rfl
def e71:@f71=e_f 71 an71:=by kernel_rfl
def e72:@f72=e_f 72 an72:=by kernel_rfl
def e100:@f100=e_f 100 an100:=by kernel_rfl
def e106:@f106=e_f 106 an106:=by kernel_rfl
def e110:@f110=e_f 110 an110:=by kernel_rfl
def e126:@f126=e_f 126 an126:=by kernel_rfl
def e131:@f131=e_f 131 an131:=by kernel_rfl
def e9:@f9=e_f 9 an9:=by kernel_rfl
def e14:@f14=e_f 14 an14:=by kernel_rfl
def e30:@f30=e_f 30 an30:=by kernel_rfl
def e36:@f36=e_f 36 an36:=by kernel_rfl
def e51:@f51=e_f 51 an51:=by kernel_rfl
def e54:@f54=e_f 54 an54:=by kernel_rfl
def e59:@f59=e_f 59 an59:=by kernel_rfl
def e86:@f86=e_f 86 an86:=by kernel_rfl
def e96:@f96=e_f 96 an96:=by kernel_rfl
def e97:@f97=e_f 97 an97:=by kernel_rfl
def e113:@f113=e_f 113 an113:=by kernel_rfl
def e122:@f122=e_f 122 an122:=by kernel_rfl
def e125:@f125=e_f 125 an125:=by kernel_rfl
end Go.Am
namespace Go.Am
namespace Sx
def unL(P:TF)(un:TM->DataW Unit->Option (Tl)):List (Nat×TypeId)->List (DataW Unit)->Nat->Option (Tl)
 | [],[],_=>some []
 |(o,t) :: l,d :: ds,off=>match Nat.beq o off,un t d with
  |true,some v=>match Nat.beq v.length (P.cellsOf t),unL P un l ds (off+v.length)with
   |true,some vs=>some (v++vs)
   |_,_=>none
  |_,_=>none
 |_,_,_=>none
def unD(P:TF):Nat->TM->DataW Unit->Option (Tl)
 |0,_,_=>none
 |fu+1,t,d=>match P.underlying t,d with
  |some .bool,.lit (.bool b)=>some [.bool b]
  |some (.int k),.lit (.int _ n)=>some [.int k n]
  |some (.struct fs),.agg ds=>match unL P (unD P fu) (fs.toList.map λf=>(f.offset,f.type)) ds 0 with
   |some vs=>if vs.length=P.cellsOf t then some vs else none
   |none=>none
  |some (.array n e),.agg ds=>match unL P (unD P fu) ((List.range n).map λi=>(i*P.cellsOf e,e)) ds 0 with
   |some vs=>if vs.length=P.cellsOf t then some vs else none
   |none=>none
  |_,_=>none
section
variable {P:TF} {w:World} {base:Nat} {spare:Ty} {held:Bool} {enc:TypeId×Value->Unit}
def seg_ok{un:TM->DataW Unit->Option (Tl)}{fuel:Nat}(hun:∀t d vs,un t d=some vs->∀cs p,DataW.trod enc P w base spare held fuel t cs=some (d,p)->cs=vs){α:Type}(o:α->Nat)(ty:α->TM)(cs:Tl) :
  ∀(l:List α) (xs:List (DataW Unit×List MemPlace)) (off:Nat) (vs:Tl),l.mapM (λa=>DataW.trod enc P w base spare held fuel (ty a) ((cs.drop (o a)).take (P.cellsOf (ty a))))=some xs->
   unL P un (l.map λa=>(o a,ty a)) (xs.map (·.1)) off=some vs->(cs.drop off).take vs.length=vs
 | [],xs,off,vs,h1,h2=>by
  simp only[qdl,qc7,qaq]at h1
  subst h1
  simp only[qbk,unL,qaq]at h2
  subst h2
  simp
 |a :: l,xs,off,vs,h1,h2=>by
  rw[qbV]at h1
  obtain⟨x,h3,h1⟩:=qar.1 h1
  obtain⟨ys,h4,h1⟩:=qar.1 h1
  cases h1
  simp only[qas,unL]at h2
  split at h2
  next v e1 e2=>
   split at h2
   next ws e3 e4=>
    cases h2
    have e1:=qac e1
    have e3:=qac e3
    have hv:=hun _ _ _ e2 _ _ h3
    have ih:=seg_ok hun o ty cs l ys _ _ h4 e4
    rw[e1,←e3]at hv
    rw[qaB,qdm,hv,qbU]
    rw[ih]
   ·cases h2
  ·cases h2
def unD_ok:∀(fu:Nat) (t:TM) (d:DataW Unit) (vs:Tl),unD P fu t d=some vs->∀(fuel:Nat) (cs:Tl) (p:List MemPlace),DataW.trod enc P w base spare held fuel t cs=some (d,p)->cs=vs
 |0,_,_,_,h=>by cases h
 |fu+1,t,d,vs,h=>by
  intro fuel cs p hp
  cases fuel with
  |zero=>simp[DataW.trod]at hp
  |succ fuel=>
   have hun:∀t d vs,unD P fu t d=some vs->∀cs p,DataW.trod enc P w base spare held fuel t cs=some (d,p)->cs=vs:=λt d vs h cs p=>unD_ok fu t d vs h fuel cs p
   simp only[unD]at h
   split at h
   next b e=>
    cases h
    simp only[DataW.trod,e]at hp
    split at hp<;>simp_all
   next k k' n e=>
    cases h
    simp only[DataW.trod,e]at hp
    split at hp<;>first|cases hp|skip
    all_goals first
     |(split at hp<;>first|(rename_i hh;simp at hp;obtain⟨⟨rfl,rfl⟩,_⟩:=hp;rw[hh.1];done)|(cases hp;done))
     |simp_all
   next fs ds e=>
    split at h
    next ws e2=>
     split at h
     next e3=>
      cases h
      simp only[DataW.trod,e]at hp
      split at hp
      next e4=>
       obtain⟨xs,h5,h6⟩:=qad.1 hp
       simp only[qbY,DataW.agg.injEq]at h6
       rw[←h6.1]at e2
       have:=seg_ok hun (λf:Field=>f.offset) (λf:Field=>f.type) cs _ xs 0 _ h5 e2
       rw[qaV,qaS (by omega)]at this
       exact this
      ·cases hp
     ·cases h
    ·cases h
   next n el ds e=>
    split at h
    next ws e2=>
     split at h
     next e3=>
      cases h
      simp only[DataW.trod,e]at hp
      split at hp
      next e4=>
       obtain⟨xs,h5,h6⟩:=qad.1 hp
       simp only[qbY,DataW.agg.injEq]at h6
       rw[←h6.1]at e2
       have:=seg_ok hun (λi=>i*P.cellsOf el) (λ_=>el) cs _ xs 0 _ h5 e2
       rw[qaV,qaS (by omega)]at this
       exact this
      ·cases hp
     ·cases h
    ·cases h
   ·cases h
end
section
variable [Val]
def ng [Glo]{W:World}{g:Nat}{vs:Tl}(h0:Nat.blt g gB=true)(h1:vs.all aU=true)(h2:vs.all flat=true)(h:∃c e fr,W.heap[g]?=some (.cells c e fr)/\c.toList=vs) :
  gBlk g<W.heap.size/\vs.all aU=true/\∃c e fr,W.heap[gBlk g]?=some (.cells c e fr)/\bO (λ_=>none) vs c (gOff g):=by
 obtain⟨c,e,fr,h3,h4⟩:=h
 rw[uy h0,uz h0]
 refine⟨(qav.1 h3).1,h1,c,e,fr,h3,.of_list ?_⟩
 rw[h4]
 exact⟨rfl,λi x y hx hy=>by rw[hx]at hy;cases hy;exact .of_flat (qag.1 h2 x (qab hx))⟩
end
end Sx
namespace Sx
open Go.ChangeShapes Go.WideShapes Go.ChangeAt Go.WideMaps Go.WideElems Go.RowKit
def kept_of{W W':World}(h1:W'.os=W.os)(h2:W'.output=W.output)(h3:∀b,b<W.heap.size->W'.heap[b]?=W.heap[b]?)(may:MemPlace->Prop):W.keptBut W' may:=by
 refine⟨h1,h2,λi hi=>?_⟩
 rw[h3 i hi]
 exact(World.keptBut_refl W may).2.2 i hi
def kz{P:TF}{w:World}{laid:List (String×DataW Unit)}{ps:List MemPlace}(h:DataW.LaidVars P w laid ps):∀n d,(n,d)∈laid->∀g t fu vs,P.globalNamed n=some g->(P.globals[g]?).map (·.type)=some t->unD P fu t d=some vs->
  ∃c e fr,w.heap[g]?=some (.cells c e fr)/\c.toList=vs:=by
 induction laid generalizing ps with
 |nil=>intro n d h;cases h
 |cons x l ih=>
  obtain⟨n0,d0⟩:=x
  obtain⟨g0,t0,cs,fuel,p,q,a1,a2,a3,a4,a5,a6⟩:=h
  intro n d hm g t fu vs b1 b2 b3
  rcases qal.1 hm with e|hm
  ·cases e
   rw[a1]at b1;cases b1
   rw[a2]at b2;cases b2
   have hc:=unD_ok fu _ _ vs b3 _ _ _ a4
   unfold World.var? at a3
   rw[a1]at a3
   simp only[qak]at a3
   split at a3
   next c ty fr e=>
    cases a3
    exact⟨_,_,_,e,hc⟩
   ·cases a3
  ·exact ih a5 n d hm g t fu vs b1 b2 b3
section
variable [Val] [Kno]
def ans_yes{t:Bool}(h:ans t=yes):t=true:=by cases t;cases h;rfl
end
end Sx
end Go.Am
end

/-
  PART 5 OF THE PROOF: Sy3 Sy4 Sy5 Sy6 Sy7 Ge0 Ge1 Ge2 Ge3 Ge4 Ge5 Ge6 Gq Sx12 Sx13 Px1 Sx14 Bx1 Gy (no conditions).
-/
import Derived.Test.YtfbajaepoamenaaGreatDoorCR4
import Derived.Calls
import Derived.LaidMore
import Derived.MakeChecks
import Derived.OpenShut
import Derived.ProofKit
import Derived.Stop.Joined
import Derived.Test.YtfbajaepoamenaaGreatDoorRows
import GoSem.ClaimJoined
set_option linter.unusedSectionVars false
set_option linter.unusedSimpArgs false
set_option linter.unusedVariables false
set_option linter.constructorNameAsVariable false
set_option linter.defProp false
/-
 REGIONS THAT DRAW THEIR ORDER,where several operations make blocks: the blocks that they touch are told apart by the values behind them.
-/
namespace Go.Am
namespace Sx
section
variable [Val] {C:Cfg} {B:Below} {N:FuncId→Option Nat} {pts:List Nat} {ops:Array Oper}
def runR(S:Nat→St→St→Prop):List Nat→St→St→Prop
 | [],σ,σ'=>σ'=σ
 |i :: l,σ,σ'=>∃σ₁,S i σ σ₁∧runR S l σ₁ σ'
theorem ky{S:Nat→St→St→Prop}{i:Nat}{post:List Nat}:∀(pre:List Nat),(∀k∈pre,∀σ σ₁ σ':St,S k σ σ₁→S i σ₁ σ'→∃τ,S i σ τ∧S k τ σ')→
  ∀σ σ':St,runR S (pre++i :: post) σ σ'→runR S (i :: (pre++post)) σ σ'
 | [],_,σ,σ',h=>h
 |k :: pre,hc,σ,σ',⟨σ₁,h1,h2⟩=>by
  obtain⟨σ₂,h3,h4⟩:=ky pre (fun k hk=>hc k (by simp[hk])) σ₁ σ' h2
  obtain⟨τ,h5,h6⟩:=hc k (by simp) σ σ₁ σ₂ h1 h3
  exact⟨τ,h5,σ₂,h6,h4⟩
theorem go_okR{S:Nat→St→St→Prop}(hback:∀(i:Nat) o,ops[i]? = some o→∀e∈o.after.toList,Region.binds .any e=true→e.on<i)
  (hpair:∀i k:Nat,i<ops.size→k<i→Anc ops k i∨∀σ σ₁ σ':St,S k σ σ₁→S i σ₁ σ'→∃τ,S i σ τ∧S k τ σ'):∀(fuel t:Nat) (listed:Array Bool),listed.size=ops.size→(unl ops.size listed).length=fuel→
  (∀(x:Nat) o,listed.getD x true=true→ops[x]? = some o→∀e∈o.after.toList,Region.binds .any e=true→listed.getD e.on false=true)→
  ∀σ σ':St,runR S (unl ops.size listed) σ σ'→runR S (Region.linearise.go .any ops fuel t listed []) σ σ'∧(Region.linearise.go .any ops fuel t listed []).Nodup∧∀x∈Region.linearise.go .any ops fuel t listed [],listed.getD x true=false
 |0,t,listed,_,hl,_,σ,σ',h=>by
  have:unl ops.size listed=[]:=List.length_eq_zero_iff.1 hl
  rw[this]at h
  simpa[Region.linearise.go]using h
 |fuel+1,t,listed,hsz,hl,hcl,σ,σ',h=>by
  simp only[Region.linearise.go]
  generalize hrs:((List.range ops.size).filter fun i=>!listed.getD i true&&((ops[i]?).map (·.after.all fun e=>!Region.binds .any e||listed.getD e.on false)).getD false)=rs
  have hready:∀i∈rs,i<ops.size∧listed.getD i true=false∧∀o,ops[i]? = some o→∀e∈o.after.toList,Region.binds .any e=true→listed.getD e.on false=true:=by
   intro i hi
   rw[←hrs,List.mem_filter,List.mem_range]at hi
   obtain⟨h1,h2⟩:=hi
   simp only[Bool.and_eq_true,Bool.not_eq_true']at h2
   refine⟨h1,h2.1,fun o ho e he hb=>?_⟩
   have h3:=h2.2
   rw[ho]at h3
   simp only[Option.map_some,Option.getD_some]at h3
   rw[Array.all_eq_true']at h3
   have:=h3 e (by simpa using he)
   rw[hb]at this
   simpa using this
  have hne:rs≠[]:=by
   have hu:unl ops.size listed≠[]:=by intro e;rw[e]at hl;cases hl
   obtain⟨i0,tl,hu0⟩:=List.exists_cons_of_ne_nil hu
   have hi0:i0∈unl ops.size listed:=by rw[hu0];simp
   have hi1:=hi0
   rw[unl,List.mem_filter,List.mem_range]at hi1
   have hmem:i0∈rs:=by
    rw[←hrs,List.mem_filter,List.mem_range]
    refine⟨hi1.1,?_⟩
    simp only[Bool.and_eq_true]
    refine⟨hi1.2,?_⟩
    have ho:ops[i0]? = some ops[i0]:=by simp[hi1.1]
    rw[ho]
    simp only[Option.map_some,Option.getD_some]
    rw[Array.all_eq_true']
    intro e he
    cases hb:Region.binds .any e with
    |false=>simp
    |true=>
     have hlt:=hback i0 _ ho e (by simpa using he) hb
     simp only[Bool.not_true,Bool.false_or]
     by_cases hlis:listed.getD e.on true=true
     ·have hs:e.on<listed.size:=by omega
      rw[Array.getD_eq_getD_getElem?]at hlis ⊢
      rw[Array.getElem?_eq_getElem hs]at hlis ⊢
      exact hlis
     ·exfalso
      have hm:e.on∈unl ops.size listed:=by
       rw[unl,List.mem_filter,List.mem_range]
       exact⟨by omega,by simpa using hlis⟩
      rw[hu0]at hm
      rcases List.mem_cons.1 hm with hm|hm
      ·omega
      ·have hs:(unl ops.size listed).Pairwise (· < ·):=List.Pairwise.filter _ List.pairwise_lt_range
       rw[hu0,List.pairwise_cons]at hs
       have:=hs.1 _ hm
       omega
   intro e;rw[e]at hmem;cases hmem
  have hlen:0<rs.length:=List.length_pos_iff.2 hne
  have hget:rs[t%rs.length]? = some (rs[t%rs.length]'(Nat.mod_lt _ hlen)):=List.getElem?_eq_getElem (Nat.mod_lt _ hlen)
  rw[hget]
  simp only
  generalize hi:rs[t%rs.length]'(Nat.mod_lt _ hlen)=i
  have hmem:i∈rs:=by rw[←hi];exact List.getElem_mem _
  obtain⟨i1,i2,i3⟩:=hready i hmem
  rw[linearise_go_acc,List.reverse_singleton,List.singleton_append]
  have hiu:i∈(List.range ops.size).filter fun j=>!listed.getD j true:=by
   rw[List.mem_filter,List.mem_range];exact⟨i1,by simp[i2]⟩
  obtain⟨pre,post,e1,e2,e3⟩:=fk List.nodup_range hiu
  have hord:=iW e1
  have hnew:unl ops.size (listed.setIfInBounds i true)=pre++post:=by
   rw[←e2]
   unfold unl
   refine List.filter_congr fun j hj=>?_
   rw[Array.getD_eq_getD_getElem?,Array.getD_eq_getD_getElem?,Array.getElem?_setIfInBounds]
   by_cases hji:i=j
   ·subst hji
    rw[if_pos rfl,if_pos (by omega)]
    simp
   ·rw[if_neg hji]
    have:(j != i)=true:=by simpa using fun e=>hji e.symm
    simp[this]
  have hmf:=ky (S:=S) (i:=i) (post:=post) pre (fun k hk σ σ₁ σ' s1 s2=>by
   obtain⟨m1,m2⟩:=e3 k hk
   rw[List.mem_filter,List.mem_range]at m1
   rcases hpair i k i1 (hord k hk)with hanc|hcm
   ·exfalso
    have:=lr hcl hanc i3
    have m3:=m1.2
    rw[Array.getD_eq_getD_getElem?]at this m3
    rw[Array.getElem?_eq_getElem (by omega)]at this m3
    simp only[Option.getD_some]at this m3
    rw[this]at m3
    cases m3
   ·exact hcm _ _ _ s1 s2) σ σ'
  obtain⟨σ₁,s1,s2⟩:=hmf (by rw[←e1];exact h)
  obtain⟨r1,r2,r3⟩:=go_okR hback hpair fuel (t / rs.length) (listed.setIfInBounds i true) (by simp[hsz]) (by
    rw[hnew]
    have:(unl ops.size listed).length=(pre++post).length+1:=by
     show(List.filter _ _).length=_
     rw[e1];simp;omega
    omega) (by
    intro x o hx ho e he hb
    have keep:∀y,listed.getD y false=true→(listed.setIfInBounds i true).getD y false=true:=by
     intro y hy
     rw[Array.getD_eq_getD_getElem?]at hy ⊢
     rw[Array.getElem?_setIfInBounds]
     split
     ·rename_i h1
      subst h1
      rw[if_pos (by omega)];rfl
     ·exact hy
    by_cases hxi:x=i
    ·subst hxi;exact keep _ (i3 o ho e he hb)
    ·refine keep _ (hcl x o ?_ ho e he hb)
     rw[Array.getD_eq_getD_getElem?,Array.getElem?_setIfInBounds,if_neg (fun e=>hxi e.symm)]at hx
     rw[Array.getD_eq_getD_getElem?];exact hx) σ₁ σ' (by rw[hnew];exact s2)
  have hout:∀x∈Region.linearise.go .any ops fuel (t / rs.length) (listed.setIfInBounds i true) [],x≠i∧listed.getD x true=false:=by
   intro x hx
   have:=r3 x hx
   rw[Array.getD_eq_getD_getElem?,Array.getElem?_setIfInBounds]at this
   by_cases hxi:i=x
   ·subst hxi
    rw[if_pos rfl,if_pos (by omega)]at this
    cases this
   ·rw[if_neg hxi]at this
    exact⟨Ne.symm hxi,by rw[Array.getD_eq_getD_getElem?];exact this⟩
  refine⟨⟨σ₁,s1,r1⟩,List.nodup_cons.2 ⟨fun hm=>(hout i hm).1 rfl,r2⟩,fun x hx=>?_⟩
  rcases List.mem_cons.1 hx with rfl|hx
  ·exact i2
  ·exact(hout x hx).2
end
end Sx
end Go.Am

/-
 REGIONS THAT DRAW THEIR ORDER: what each operation has done,as a record;two records change places;whatever the order.
-/
namespace Go.Am
namespace Sx
noncomputable def dB(ws:List (Nat×HObj))(H:List HObj):List HObj:=ws.foldl (fun H p=>H.set p.1 p.2) H
theorem dU:∀(ws:List (Nat×HObj)) (H:List HObj),(dB ws H).length=H.length
 | [],H=>rfl
 |p :: ws,H=>by
  show(dB ws (H.set p.1 p.2)).length=_
  rw[dU ws];simp
theorem hJ{r:Nat}:∀ {ws:List (Nat×HObj)} {H:List HObj},(∀p∈ws,p.1≠r)→(dB ws H)[r]? = H[r]?
 | [],H,_=>rfl
 |p :: ws,H,h=>by
  show(dB ws (H.set p.1 p.2))[r]? = _
  rw[hJ fun q hq=>h q (List.mem_cons_of_mem _ hq),List.getElem?_set_ne (h p (by simp))]
theorem oY{i:Nat}{x:HObj}:∀ {ws:List (Nat×HObj)} {H:List HObj},(∀p∈ws,p.1≠i)→dB ws (H.set i x)=(dB ws H).set i x
 | [],H,_=>rfl
 |p :: ws,H,h=>by
  show dB ws ((H.set i x).set p.1 p.2)=(dB ws (H.set p.1 p.2)).set i x
  rw[List.set_comm _ _ (Ne.symm (h p (by simp))),oY fun q hq=>h q (List.mem_cons_of_mem _ hq)]
theorem fL:∀ {a b:List (Nat×HObj)} {H:List HObj},(∀p∈a,∀q∈b,p.1≠q.1)→dB a (dB b H)=dB b (dB a H)
 | [],b,H,_=>rfl
 |p :: a,b,H,h=>by
  show dB a ((dB b H).set p.1 p.2)=dB b (dB a (H.set p.1 p.2))
  rw[←oY fun q hq=>Ne.symm (h p (by simp) q hq)]
  exact fL fun q hq=>h q (List.mem_cons_of_mem _ hq)
section
variable [Val] {C:Cfg} {B:Below} {N:FuncId→Option Nat} {pts:List Nat} {ops:Array Oper}
structure Rec where
 σ:St
 e:HEff
 rw:Option (Nat×Option (List Value))
 k:Option Nat
noncomputable def Rec.on(r:Rec)(o:Oper)(τ:St):St:=dK o.dst r.e r.rw r.k τ
def Rec.sees(N:FuncId→Option Nat)(pts:List Nat)(ops:Array Oper)(r:Rec)(o:Oper)(τ:St):Prop:=
 mt N pts ops o r.σ τ∧∀k,r.k=some k→(r.e.put τ.heap)[k]? = some .dead
noncomputable def Rec.slot(r:Rec):List (Nat×HObj):=match r.k,r.e.push with
 |some k,some p=>[(k,p.1)]
 |_,_=>[]
noncomputable def Rec.ws(r:Rec):List (Nat×HObj):=r.e.set.toList++r.slot
structure Rec.Ok(C:Cfg)(B:Below)(N:FuncId→Option Nat)(pts:List Nat)(ops:Array Oper)(i:Nat)(o:Oper)(r:Rec):Prop where
 row:∀p,r.rw=some p→aG N pts o=some (.row p.1 true)
 wr:∀p,r.e.set=some p→p.1∈wpo pts (oval r.σ.tmps) o
 kp:r.k=none↔r.e.push=none
 fr:∀p,r.e.push=some p→Fresh p.2∧aG N pts o=some .hw∧cO pts o=true
 step:∀τ,r.sees N pts ops o τ→∀sl:Nat→Option Nat,sl i=r.k→de C B pts ops sl i τ (r.on o τ)
theorem dz(e:HEff)(H:List HObj):e.put H=dB e.set.toList H:=by
 unfold HEff.put
 cases e.set<;>rfl
theorem eE{r:Rec}{o:Oper}{τ:St}(h:r.k=none↔r.e.push=none):(r.on o τ).heap=dB r.ws τ.heap:=by
 unfold Rec.on dK
 rw[dy]
 unfold Rec.ws Rec.slot
 cases hk:r.k with
 |none=>
  simp only[HEff.heap,h.1 hk,dz,List.append_nil]
 |some k=>
  cases hp:r.e.push with
  |none=>rw[h.2 hp]at hk;cases hk
  |some p=>
   simp only[dz]
   show(dB r.e.set.toList τ.heap).set k p.1=_
   unfold dB
   rw[List.foldl_append]
   rfl
theorem kD{r:Rec}{o:Oper}{τ:St}:(r.on o τ).loc=(match r.rw with|some p=>τ.loc.set p.1 p.2|none=>τ.loc):=by
 unfold Rec.on dK
 rw[nn]
 all_goals (cases r.rw<;>rfl)
noncomputable def Rec.val(r:Rec):Value:=match r.k with
 |some k=>r.e.val k
 |none=>r.e.v
theorem jz{r:Rec}{o:Oper}{τ:St}(h:r.k=none↔r.e.push=none):(r.on o τ).tmps=(match o.dst with|some d=>τ.tmps.set d r.val|none=>τ.tmps):=by
 unfold Rec.on dK
 rw[np]
 unfold Rec.val
 cases hk:r.k with
 |none=>simp only[HEff.val,h.1 hk];all_goals (cases o.dst<;>rfl)
 |some k=>cases o.dst<;>rfl
noncomputable def rowOk:MC→MC→Bool
 | .row s w,.row s' w'=>!Nat.beq s s'||(!w && !w')
 |_,_=>true
noncomputable def stat2(N:FuncId→Option Nat)(pts:List Nat)(ops:Array Oper)(a b:Oper):Bool:=
 match aG N pts a,aG N pts b with
 |some m,some n=>rowOk m n&&cw a.dst (bD ops b)&&cw b.dst (bD ops a)&&cd a.dst b.dst
 |_,_=>false
theorem lB{d:Option Tmp}{l:List Nat}(hd:cw d l=true):∀t∈l,∀x,d=some x→x≠t:=by
 intro t ht x hx he
 subst hx he
 simp only[cw,Bool.not_eq_true',List.contains_eq_mem,decide_eq_false_iff_not]at hd
 exact hd ht
theorem unseenR{a b:Oper}{m n:MC}{ra rb:Rec}{ia:Nat}(ha:aG N pts a=some m)(hb:aG N pts b=some n)(oka:ra.Ok C B N pts ops ia a)(hrow:rowOk m n=true∨rowOk n m=true)(hd:cw a.dst (bD ops b)=true)
  (d1:∀p∈ra.ws,p.1∉fpo pts (oval rb.σ.tmps) b) {τ:St}:mt N pts ops b rb.σ (ra.on a τ)↔mt N pts ops b rb.σ τ:=by
 have ht:∀t∈bD ops b,(ra.on a τ).tmps[t]? = τ.tmps[t]?:=fun t ht=>by
  unfold Rec.on dK
  exact kH fun x hx=>lB hd t ht x hx
 have hl:∀s w,aG N pts b=some (.row s w)→(ra.on a τ).loc[s]? = τ.loc[s]?:=fun s w hm=>by
  rw[kD]
  cases hrw:ra.rw with
  |none=>rfl
  |some p=>
   have h1:=oka.row p hrw
   rw[ha]at h1
   rw[hb]at hm
   cases h1;cases hm
   have:p.1≠s:=by
    intro he
    subst he
    rcases hrow with h|h<;>simp[rowOk]at h
   show(τ.loc.set p.1 p.2)[s]? = _
   rw[List.getElem?_set_ne this]
 have hh:∀r∈fpo pts (oval rb.σ.tmps) b,(ra.on a τ).heap[r]? = τ.heap[r]?:=fun r hr=>by
  rw[eE oka.kp]
  exact hJ fun p hp e=>d1 p hp (e▸hr)
 constructor
 ·rintro⟨q1,q2,q3⟩
  refine⟨fun t h=>by rw[←ht t h];exact q1 t h,?_,fun r hr x hx hal=>by rw[←hh r hr];exact q3 r hr x hx hal⟩
  rw[hb]at q2 ⊢
  cases n<;>first|trivial|(rename_i s w;exact(hl s w hb).symm.trans q2)
 ·rintro⟨q1,q2,q3⟩
  refine⟨fun t h=>by rw[ht t h];exact q1 t h,?_,fun r hr x hx hal=>by rw[hh r hr];exact q3 r hr x hx hal⟩
  rw[hb]at q2 ⊢
  cases n<;>first|trivial|(rename_i s w;exact(hl s w hb).trans q2)
theorem swapR{a b:Oper}{ra rb:Rec}{ia ib:Nat}(oka:ra.Ok C B N pts ops ia a)(okb:rb.Ok C B N pts ops ib b)(hs:stat2 N pts ops a b=true)
  (d1:∀p∈ra.ws,p.1∉fpo pts (oval rb.σ.tmps) b) (d2:∀p∈rb.ws,p.1∉fpo pts (oval ra.σ.tmps) a) (d3:∀p∈ra.ws,∀q∈rb.ws,p.1≠q.1) {τ:St} (ha:ra.sees N pts ops a τ) (hb:rb.sees N pts ops b (ra.on a τ)) :
  rb.sees N pts ops b τ∧ra.sees N pts ops a (rb.on b τ)∧rb.on b (ra.on a τ)=ra.on a (rb.on b τ):=by
 unfold stat2 at hs
 split at hs
 case h_2=>cases hs
 rename_i m n hm hn
 simp only[Bool.and_eq_true]at hs
 obtain⟨⟨⟨c1,c2⟩,c3⟩,c4⟩:=hs
 have ub:=unseenR (rb:=rb) hm hn oka (.inl c1) c2 d1 (τ:=τ)
 have ua:=unseenR (rb:=ra) hn hm okb (.inr c1) c3 d2 (τ:=τ)
 refine⟨⟨ub.1 hb.1,fun k hk=>?_⟩,⟨ua.2 ha.1,fun k hk=>?_⟩,?_⟩
 ·have h1:=hb.2 k hk
  have hkb:∃p,rb.e.push=some p:=by
   cases hp:rb.e.push with
   |none=>rw[okb.kp.2 hp]at hk;cases hk
   |some p=>exact⟨p,rfl⟩
  obtain⟨p,hp⟩:=hkb
  have hmem:(k,p.1)∈rb.ws:=by simp[Rec.ws,Rec.slot,hk,hp]
  rw[eE oka.kp,dz,←fL (fun q hq s hs e=>d3 q hq s (List.mem_append_left _ hs) e),hJ (fun q hq e=>d3 q hq _ hmem e)]at h1
  rw[dz];exact h1
 ·have h1:=ha.2 k hk
  have hka:∃p,ra.e.push=some p:=by
   cases hp:ra.e.push with
   |none=>rw[oka.kp.2 hp]at hk;cases hk
   |some p=>exact⟨p,rfl⟩
  obtain⟨p,hp⟩:=hka
  have hmem:(k,p.1)∈ra.ws:=by simp[Rec.ws,Rec.slot,hk,hp]
  rw[eE okb.kp,dz,fL (fun q hq s hs e=>d3 q (List.mem_append_left _ hq) s hs e),hJ (fun q hq e=>d3 _ hmem q hq e.symm)]
  rw[dz]at h1;exact h1
 ·have h1:(rb.on b (ra.on a τ)).tmps=(ra.on a (rb.on b τ)).tmps:=by
   rw[jz okb.kp,jz oka.kp,jz oka.kp,jz okb.kp]
   cases hx:a.dst with
   |none=>rfl
   |some x=>
    cases hy:b.dst with
    |none=>rfl
    |some y=>
     rw[hx,hy]at c4
     have:x≠y:=by
      intro he;subst he;simp[cd]at c4
     exact set_comm _ _ _ this
  have h2:(rb.on b (ra.on a τ)).loc=(ra.on a (rb.on b τ)).loc:=by
   rw[kD,kD,kD,kD]
   cases hx:ra.rw with
   |none=>rfl
   |some p=>
    cases hy:rb.rw with
    |none=>rfl
    |some q=>
     have e1:=oka.row p hx
     have e2:=okb.row q hy
     rw[hm]at e1
     rw[hn]at e2
     cases e1;cases e2
     have:p.1≠q.1:=by
      intro he
      rw[he]at c1
      simp[rowOk]at c1
     exact set_comm _ _ _ this
  have h3:(rb.on b (ra.on a τ)).heap=(ra.on a (rb.on b τ)).heap:=by
   rw[eE okb.kp,eE oka.kp,eE oka.kp,eE okb.kp]
   exact(fL d3).symm
  generalize rb.on b (ra.on a τ)=x at *
  generalize ra.on a (rb.on b τ)=y at *
  cases x;cases y
  simp only at h1 h2 h3
  subst h1;subst h2;subst h3
  rfl
end
end Sx
end Go.Am

/-
 REGIONS THAT DRAW THEIR ORDER: the run in the text's order,as records,with room kept for the blocks.
-/
namespace Go.Am
namespace Sx
section
variable [Val] {C:Cfg} {B:Below} {N:FuncId→Option Nat} {pts:List Nat} {ops:Array Oper}
def St.padTo(σ:St)(m:Nat):St:=σ.pad (m - σ.heap.length)
def recS(N:FuncId→Option Nat)(pts:List Nat)(ops:Array Oper)(rc:Nat→Rec)(i:Nat)(τ τ':St):Prop:=∃o,ops[i]? = some o∧(rc i).sees N pts ops o τ∧τ'=(rc i).on o τ
theorem hI{D:List HObj}:∀ {ws:List (Nat×HObj)} {H:List HObj},(∀p∈ws,p.1<H.length)→dB ws (H++D)=dB ws H++D
 | [],H,_=>rfl
 |p :: ws,H,h=>by
  show dB ws ((H++D).set p.1 p.2)=dB ws (H.set p.1 p.2)++D
  rw[List.set_append_left _ _ (h p (by simp)),hI fun q hq=>by
   have:=h q (List.mem_cons_of_mem _ hq)
   simpa using this]
structure RunOk(C:Cfg)(B:Below)(N:FuncId→Option Nat)(pts:List Nat)(ops:Array Oper)(l:List Nat)(σ σ':St)(rc:Nat→Rec):Prop where
 len:σ.heap.length≤σ'.heap.length
 ok:∀i∈l,∀o,ops[i]? = some o→(rc i).Ok C B N pts ops i o
 slot:∀i∈l,∀k,(rc i).k=some k→σ.heap.length≤k∧k<σ'.heap.length
 inj:∀i∈l,∀j∈l,∀k,(rc i).k=some k→(rc j).k=some k→i=j
 keep:∀t,(∀j∈l,∀o,ops[j]? = some o→o.dst≠some t)→σ'.tmps[t]? = σ.tmps[t]?
 args:∀i∈l,∀t,(∀j∈l,i≤j→∀o,ops[j]? = some o→o.dst≠some t)→σ'.tmps[t]? = (rc i).σ.tmps[t]?
 res:∀i∈l,∀o d v,ops[i]? = some o→o.dst=some d→(∀j∈l,i<j→∀o,ops[j]? = some o→o.dst≠some d)→σ'.tmps[d]? = some v→v=(rc i).val
 run:∀m,σ'.heap.length≤m→runR (recS N pts ops rc) l (St.padTo σ m) (St.padTo σ' m)
theorem effOn_len{dst:Option Tmp}{e:HEff}{rw:Option (Nat×Option (List Value))}{σ:St}:(dK dst e rw none σ).heap.length=σ.heap.length+(match e.push with|some _=>1|none=>0):=by
 unfold dK
 rw[dy]
 simp only[HEff.heap,HEff.put]
 cases e.push<;>cases e.set<;>simp
theorem ik{dst:Option Tmp}{e:HEff}{rw:Option (Nat×Option (List Value))}{k:Option Nat}{σ:St}:(dK dst e rw k σ).tmps=(match dst with|some d=>σ.tmps.set d (match k with|none=>e.val σ.heap.length|some k=>e.val k)|none=>σ.tmps):=by
 unfold dK
 rw[np]
 all_goals (cases dst<;>rfl)
theorem rec_one(hN:NeuB N B){i:Nat}{o:Oper}(hi:ops[i]? = some o)(hc:okS N pts o=true){σ σ₁:St}(hs:av C B pts ops i σ σ₁) :
  ∃r:Rec,r.σ=σ∧r.Ok C B N pts ops i o∧σ.heap.length≤σ₁.heap.length∧(∀k,r.k=some k→k=σ.heap.length∧k<σ₁.heap.length)∧
   (∀t,o.dst≠some t→σ₁.tmps[t]? = σ.tmps[t]?)∧(∀d v,o.dst=some d→σ₁.tmps[d]? = some v→v=r.val)∧
   ∀m,σ₁.heap.length≤m→r.sees N pts ops o (St.padTo σ m)∧St.padTo σ₁ m=r.on o (St.padTo σ m):=by
 obtain⟨e,rw,h1,h2,h3,h4,h5,h6⟩:=local_okS (N:=N) hN hi hc hs
 have hlen:σ₁.heap.length=σ.heap.length+(match e.push with|some _=>1|none=>0):=by rw[h1];exact effOn_len
 refine⟨⟨σ,e,rw,match e.push with|some _=>some σ.heap.length|none=>none⟩,rfl,⟨h2,fun p hp=>(h4 p hp).1,?_,fun p hp=>⟨(h5 p hp).2.1,h3 (by rw[show e.push=some p from hp];simp),(h5 p hp).1⟩,?_⟩,by omega,?_,?_,?_,?_⟩
 ·cases hp:e.push<;>simp
 ·intro τ hτ sl hsl
  unfold Rec.on
  simp only at hsl ⊢
  cases hp:e.push with
  |none=>
   rw[hp]at hsl
   exact(h6 τ hτ.1 sl).1 hp hsl
  |some p=>
   rw[hp]at hsl
   refine(h6 τ hτ.1 sl).2 p _ hp hsl (hτ.2 _ ?_)
   simp only[hp]
 ·intro k hk
  simp only at hk
  cases hp:e.push with
  |none=>rw[hp]at hk;cases hk
  |some p=>
   rw[hp]at hk hlen
   cases hk
   exact⟨rfl,by simp only at hlen;omega⟩
 ·intro t ht
  rw[h1]
  unfold dK
  exact kH fun x hx e=>ht (by rw[hx,e])
 ·intro d v hd hv
  rw[h1,ik,hd]at hv
  simp only[List.getElem?_set]at hv
  split at hv
  ·split at hv
   ·cases hv
    unfold Rec.val
    simp only[HEff.val]
    cases hp:e.push<;>rfl
   ·cases hv
  ·rename_i hne;exact absurd trivial hne
 ·intro m hm
  have hD:(St.padTo σ m).heap=σ.heap++List.replicate (m - σ.heap.length) .dead:=rfl
  have hset:∀p∈e.set.toList,p.1<σ.heap.length:=fun p hp=>by
   obtain⟨_,x,hx,_⟩:=h4 p (by simpa using hp)
   exact(List.getElem?_eq_some_iff.1 hx).1
  refine⟨⟨⟨fun t _=>rfl,?_,fun r _ x hx _=>?_⟩,fun k hk=>?_⟩,?_⟩
  ·cases aG N pts o with
   |none=>trivial
   |some mc=>cases mc<;>first|trivial|rfl
  ·rw[hD,List.getElem?_append_left (List.getElem?_eq_some_iff.1 hx).1]
   exact hx
  ·simp only at hk
   cases hp:e.push with
   |none=>rw[hp]at hk;cases hk
   |some p=>
    rw[hp]at hk hlen
    cases hk
    simp only at hlen ⊢
    rw[dz,hD,hI hset,List.getElem?_append_right (by rw[dU];exact Nat.le_refl _),dU,Nat.sub_self,List.getElem?_replicate,if_pos (by omega)]
  · -- the same state
   have e1:(St.padTo σ₁ m).tmps=((⟨σ,e,rw,match e.push with|some _=>some σ.heap.length|none=>none⟩ : Rec).on o (St.padTo σ m)).tmps:=by
    show σ₁.tmps=_
    unfold Rec.on
    rw[h1,ik,ik]
    show _=(match o.dst with|some d=>σ.tmps.set d _|none=>σ.tmps)
    cases o.dst with
    |none=>rfl
    |some d=>
     simp only[HEff.val]
     cases hp:e.push<;>rfl
   have e2:(St.padTo σ₁ m).loc=((⟨σ,e,rw,match e.push with|some _=>some σ.heap.length|none=>none⟩ : Rec).on o (St.padTo σ m)).loc:=by
    show σ₁.loc=_
    unfold Rec.on
    rw[h1]
    unfold dK
    rw[nn,nn]
    rfl
   have e3:(St.padTo σ₁ m).heap=((⟨σ,e,rw,match e.push with|some _=>some σ.heap.length|none=>none⟩ : Rec).on o (St.padTo σ m)).heap:=by
    show σ₁.heap++List.replicate (m - σ₁.heap.length) .dead=_
    unfold Rec.on
    have hh:σ₁.heap=e.heap σ.heap:=by rw[h1];unfold dK;rw[dy]
    unfold dK
    rw[dy,hD]
    cases hp:e.push with
    |none=>
     rw[hp]at hlen
     simp only[hp,HEff.heap,dz]at hh ⊢
     rw[hI hset,hh]
     simp only[dU]
    |some p=>
     rw[hp]at hlen
     simp only at hlen
     simp only[hp,HEff.heap,dz]at hh ⊢
     rw[hI hset,hh]
     have hn:m - σ.heap.length=(m - σ.heap.length - 1)+1:=by omega
     rw[hn,List.replicate_succ]
     rw[List.set_append_right _ _ (by rw[dU];exact Nat.le_refl _),dU,Nat.sub_self,List.set_cons_zero]
     simp only[List.append_assoc,List.length_append,dU,List.length_cons,List.length_nil,List.cons_append,List.nil_append]
     rw[show m - (σ.heap.length+(0+1))=m - σ.heap.length - 1 by omega]
   generalize hX:(⟨σ,e,rw,match e.push with|some _=>some σ.heap.length|none=>none⟩ : Rec).on o (St.padTo σ m)=X at *
   generalize St.padTo σ₁ m=Y at *
   cases X;cases Y
   simp only at e1 e2 e3
   subst e1;subst e2;subst e3
   rfl
theorem mg{S S':Nat→St→St→Prop}:∀ {l:List Nat},(∀i∈l,∀σ σ',S i σ σ'→S' i σ σ')→∀ {σ σ':St},runR S l σ σ'→runR S' l σ σ'
 | [],_,_,_,h=>h
 |i :: l,hs,σ,σ',⟨σ₁,h1,h2⟩=>⟨σ₁,hs i (by simp) _ _ h1,mg (fun j hj=>hs j (List.mem_cons_of_mem _ hj)) h2⟩
theorem recs_of(hN:NeuB N B):∀(l:List Nat) (σ σ':St),l.Pairwise (· < ·)→(∀i∈l,∃o,ops[i]? = some o∧okS N pts o=true)→cf C B pts ops l σ σ'→∃rc:Nat→Rec,RunOk C B N pts ops l σ σ' rc
 | [],σ,σ',_,_,h=>by
  have:σ'=σ:=h
  subst this
  exact⟨fun _=>⟨σ',⟨none,none,undef⟩,none,none⟩,Nat.le_refl _,fun _ h=>(by cases h),fun _ h=>(by cases h),fun _ h=>(by cases h),fun _ _=>rfl,fun _ h=>(by cases h),fun _ h=>(by cases h),fun _ _=>rfl⟩
 |i :: l,σ,σ',hp,hok,⟨σ₁,h1,h2⟩=>by
  obtain⟨o,hi,hc⟩:=hok i (by simp)
  obtain⟨r,rfl,r1,r2,r3,r4,r5,r6⟩:=rec_one hN hi hc h1
  rw[List.pairwise_cons]at hp
  obtain⟨rc,R⟩:=recs_of hN l σ₁ σ' hp.2 (fun j hj=>hok j (List.mem_cons_of_mem _ hj)) h2
  have hne:∀j∈l,j≠i:=fun j hj e=>by have:=hp.1 j hj;omega
  have hat:∀j∈l,(if j=i then r else rc j)=rc j:=fun j hj=>if_neg (hne j hj)
  refine⟨fun j=>if j=i then r else rc j,Nat.le_trans r2 R.len,?_,?_,?_,?_,?_,?_,?_⟩
  ·intro j hj o' ho'
   rcases List.mem_cons.1 hj with rfl|hj
   ·simp only[if_true]
    rw[hi]at ho';cases ho';exact r1
   ·simp only[hat j hj];exact R.ok j hj o' ho'
  ·intro j hj k hk
   rcases List.mem_cons.1 hj with rfl|hj
   ·simp only[if_true]at hk
    obtain⟨e1,e2⟩:=r3 k hk
    have:=R.len
    omega
   ·simp only[hat j hj]at hk
    have:=R.slot j hj k hk
    omega
  ·intro j hj j' hj' k hk hk'
   rcases List.mem_cons.1 hj with q1|q1<;>rcases List.mem_cons.1 hj' with q2|q2
   ·rw[q1,q2]
   ·simp only[q1,if_true]at hk
    simp only[hat j' q2]at hk'
    have e1:=r3 k hk
    have e2:=R.slot j' q2 k hk'
    omega
   ·simp only[q2,if_true]at hk'
    simp only[hat j q1]at hk
    have e1:=r3 k hk'
    have e2:=R.slot j q1 k hk
    omega
   ·simp only[hat j q1]at hk
    simp only[hat j' q2]at hk'
    exact R.inj j q1 j' q2 k hk hk'
  ·intro t ht
   rw[R.keep t fun j hj=>ht j (List.mem_cons_of_mem _ hj)]
   exact r4 t (ht i (by simp) o hi)
  ·intro j hj t ht
   rcases List.mem_cons.1 hj with rfl|hj
   ·simp only[if_true]
    have hall:∀j'∈l,∀o',ops[j']? = some o'→o'.dst≠some t:=fun j' hj'=>ht j' (List.mem_cons_of_mem _ hj') (Nat.le_of_lt (hp.1 j' hj'))
    rw[R.keep t hall]
    exact r4 t (ht j (by simp) (Nat.le_refl _) o hi)
   ·simp only[hat j hj]
    exact R.args j hj t fun j' hj'=>ht j' (List.mem_cons_of_mem _ hj')
  ·intro j hj o' d v ho' hd hlt hv
   rcases List.mem_cons.1 hj with rfl|hj
   ·simp only[if_true]
    rw[hi]at ho';cases ho'
    refine r5 d v hd ?_
    rw[←R.keep d fun j' hj'=>hlt j' (List.mem_cons_of_mem _ hj') (hp.1 j' hj')]
    exact hv
   ·simp only[hat j hj]
    exact R.res j hj o' d v ho' hd (fun j' hj'=>hlt j' (List.mem_cons_of_mem _ hj')) hv
  ·intro m hm
   obtain⟨s1,s2⟩:=r6 m (Nat.le_trans R.len hm)
   refine⟨St.padTo σ₁ m,⟨o,hi,?_,?_⟩,?_⟩
   ·simp only[if_true];exact s1
   ·simp only[if_true];exact s2
   ·refine mg (fun j hj τ τ' h=>?_) (R.run m hm)
    obtain⟨o',q1,q2,q3⟩:=h
    exact⟨o',q1,by simp only[hat j hj];exact q2,by simp only[hat j hj];exact q3⟩
end
end Sx
end Go.Am

/-
 REGIONS THAT DRAW THEIR ORDER,where several operations make blocks: whatever the order,if the values tell the blocks apart.
-/
namespace Go.Am
namespace Sx
section
variable [Val] {C:Cfg} {B:Below} {N:FuncId→Option Nat} {pts:List Nat} {ops:Array Oper}
noncomputable def qP(q:Oper→Oper→Bool)(b:Oper)(m:Nat):List Oper→Nat→Bool
 | [],_=>true
 |a :: l,k=>(Nat.testBit m k||q a b)&&qP q b m l (k+1)
noncomputable def nk(q:Oper→Oper→Bool)(ms:List Nat):List Oper→List Oper→Nat→Bool
 |_,[],_=>true
 |pre,b :: l,i=>qP q b (ms.getD i 0) pre 0&&nk q ms (pre++[b]) l (i+1)
theorem oT{q:Oper→Oper→Bool}{b:Oper}{m:Nat}:∀ {l:List Oper} {k:Nat},qP q b m l k=true→∀(j:Nat) a,l[j]? = some a→m.testBit (k+j)=true∨q a b=true
 | [],k,_,j,a,h=>by simp at h
 |a :: l,k,h,j,c,hj=>by
  simp only[qP,Bool.and_eq_true,Bool.or_eq_true]at h
  cases j with
  |zero=>simp at hj;subst hj;exact h.1
  |succ j=>
   have:=oT h.2 j c (by simpa using hj)
   rwa [show k+1+j=k+(j+1)by omega]at this
theorem lZ{q:Oper→Oper→Bool}{ms:List Nat}:∀ {l pre:List Oper} {i:Nat},pre.length=i→nk q ms pre l i=true→∀(j:Nat) b,l[j]? = some b→∀(k:Nat) a,k<i+j→(pre++l)[k]? = some a→(ms.getD (i+j) 0).testBit k=true∨q a b=true
 | [],pre,i,_,_,j,b,h,_,_,_,_=>by simp at h
 |b :: l,pre,i,hp,h,j,c,hj,k,a,hk,ha=>by
  simp only[nk,Bool.and_eq_true]at h
  cases j with
  |zero=>
   simp at hj
   subst hj
   rw[List.getElem?_append_left (by omega)]at ha
   have:=oT h.1 k a ha
   simpa using this
  |succ j=>
   have:=lZ (pre:=pre++[b]) (i:=i+1) (by simp[hp]) h.2 j c (by simpa using hj) k a (by omega) (by simpa using ha)
   rwa [show i+1+j=i+(j+1)by omega]at this
theorem od{b:Oper}{m i:Nat}:∀ {l:List Oper} {k:Nat} (j:Nat) a,l[j]? = some a→m.testBit (k+j)=false→conf pts a b=true→(k+j,i)∈oc pts b m i l k
 | [],k,j,a,h,_,_=>by simp at h
 |a :: l,k,j,c,hj,hb,hc=>by
  unfold oc
  cases j with
  |zero=>
   simp at hj
   subst hj
   simp only[Nat.add_zero]at hb ⊢
   rw[hb,hc]
   simp
  |succ j=>
   have:=od (i:=i) (k:=k+1) j c (by simpa using hj) (by rwa [show k+1+j=k+(j+1)by omega]) hc
   rw[show k+1+j=k+(j+1)by omega]at this
   split
   ·exact this
   ·exact List.mem_cons_of_mem _ this
theorem ob{ms:List Nat}:∀ {l pre:List Oper} {i:Nat},pre.length=i→∀(j:Nat) b,l[j]? = some b→∀(k:Nat) a,k<i+j→(pre++l)[k]? = some a→(ms.getD (i+j) 0).testBit k=false→conf pts a b=true→(k,i+j)∈qj pts ms pre l i
 | [],pre,i,_,j,b,h,_,_,_,_,_,_=>by simp at h
 |b :: l,pre,i,hp,j,c,hj,k,a,hk,ha,ht,hc=>by
  unfold qj
  rw[List.mem_append]
  cases j with
  |zero=>
   simp at hj
   subst hj
   rw[List.getElem?_append_left (by omega)]at ha
   have:=od (pts:=pts) (i:=i) (k:=0) k a ha (by simpa using ht) hc
   left
   simpa using this
  |succ j=>
   right
   have:=ob (pre:=pre++[b]) (i:=i+1) (by simp[hp]) j c (by simpa using hj) k a (by omega) (by simpa using ha) (by rwa [show i+1+j=i+(j+1)by omega]) hc
   rwa [show i+1+j=i+(j+1)by omega]at this
noncomputable def opT(pts:List Nat)(o:Oper):List Nat:=((cE pts o).1++dX pts o).filterMap fun x=>match x with
 | .tmp t=>some t
 |_=>none
noncomputable def ssaB(pts:List Nat):List Oper→List Oper→Bool
 |_,[]=>true
 |pre,b :: l=>cw b.dst (opT pts b)&&(pre.all fun a=>cw b.dst (opT pts a)&&cd a.dst b.dst)&&ssaB pts (pre++[b]) l
theorem pY:∀ {l pre:List Oper},ssaB pts pre l=true→∀(j:Nat) b,l[j]? = some b→∀(k:Nat) a,(pre++l)[k]? = some a→(k≤pre.length+j→cw b.dst (opT pts a)=true)∧(k<pre.length+j→cd a.dst b.dst=true)
 | [],pre,_,j,b,h,_,_,_=>by simp at h
 |b :: l,pre,h,j,c,hj,k,a,ha=>by
  simp only[ssaB,Bool.and_eq_true,List.all_eq_true]at h
  obtain⟨⟨h1,h2⟩,h3⟩:=h
  cases j with
  |zero=>
   simp at hj
   subst hj
   refine⟨fun hk=>?_,fun hk=>?_⟩
   ·rcases Nat.lt_or_ge k pre.length with hlt|hge
    ·rw[List.getElem?_append_left hlt]at ha
     exact(h2 a (List.mem_of_getElem? ha)).1
    ·obtain rfl:k=pre.length:=by omega
     rw[List.getElem?_append_right (Nat.le_refl _),Nat.sub_self]at ha
     simp at ha
     subst ha
     exact h1
   ·rw[List.getElem?_append_left (by omega)]at ha
    exact(h2 a (List.mem_of_getElem? ha)).2
  |succ j=>
   have:=pY h3 j c (by simpa using hj) k a (by simpa using ha)
   simp only[List.length_append,List.length_cons,List.length_nil]at this
   exact⟨fun hk=>this.1 (by omega),fun hk=>this.2 (by omega)⟩
noncomputable def sepReg(N:FuncId→Option Nat)(pts:List Nat)(ops:Array Oper):Bool:=
 fg ops.toList 0&&(ops.toList.all (okS N pts)&&(ops.toList.any (cO pts)&&(ops.toList.all (fun o=>!cO pts o||o.dst.isSome)&&(ssaB pts [] ops.toList&&nk (fun a b=>stat2 N pts ops a b && !en a b) (ancs ops.toList []) [] ops.toList 0))))
noncomputable def drOf(N:FuncId→Option Nat):Dr:=fun pts ops=>match qk pts ops with
 | []=>match oS N pts ops with
  |true=>some []
  |false=>none
 |p :: ps=>match sepReg N pts ops with
  |true=>some (p :: ps)
  |false=>none
theorem hcls0{o:Oper}(h:hCls pts o=0):(cE pts o).1=[]∧dX pts o=[]∧cO pts o=false:=by
 obtain⟨dst,op,ty,pos,after,guard⟩:=o
 cases op<;>simp only[hCls]at h<;>first|(exact⟨rfl,rfl,rfl⟩)|(exact absurd h (by decide))|skip
 case alloc t=>cases hn:cO pts ⟨dst,.alloc t,ty,pos,after,guard⟩with
  |true=>rw[hn]at h;cases h
  |false=>exact⟨rfl,rfl,rfl⟩
 case box t x=>cases hn:cO pts ⟨dst,.box t x,ty,pos,after,guard⟩with
  |true=>rw[hn]at h;cases h
  |false=>exact⟨rfl,rfl,rfl⟩
 case load t a=>
  split at h
  ·cases h
  ·rename_i hk
   refine⟨?_,rfl,rfl⟩
   simp only[cE]
 case store t a x=>
  split at h
  ·cases h
  ·rename_i hk
   refine⟨?_,?_,rfl⟩
   ·simp only[cE]
   ·simp only[dX]
 case call c=>
  cases hc:c.callee with
  |builtin b=>
   rw[hc]at h
   simp only[cE,dX,cO,hc]
   cases b<;>first|(exact⟨rfl,rfl,rfl⟩)|(exact absurd h (by simp))
  |value f=>simp only[cE,dX,cO,hc];exact⟨trivial,trivial,trivial⟩
  |invoke r m=>simp only[cE,dX,cO,hc];exact⟨trivial,trivial,trivial⟩
theorem hcls1{o:Oper}(h:hCls pts o=1):dX pts o=[]∧cO pts o=false:=by
 obtain⟨dst,op,ty,pos,after,guard⟩:=o
 cases op<;>simp only[hCls]at h<;>first|(exact⟨rfl,rfl⟩)|(exact absurd h (by decide))|skip
 case alloc t=>cases hn:cO pts ⟨dst,.alloc t,ty,pos,after,guard⟩with
  |true=>rw[hn]at h;cases h
  |false=>exact⟨rfl,rfl⟩
 case box t x=>cases hn:cO pts ⟨dst,.box t x,ty,pos,after,guard⟩with
  |true=>rw[hn]at h;cases h
  |false=>exact⟨rfl,rfl⟩
 case store t a x=>split at h<;>cases h
 case call c=>
  cases hc:c.callee with
  |builtin b=>
   rw[hc]at h
   simp only[dX,cO,hc]
   cases b<;>first|(exact⟨rfl,rfl⟩)|(exact absurd h (by simp))
  |value f=>simp only[dX,cO,hc];exact⟨trivial,trivial⟩
  |invoke r m=>simp only[dX,cO,hc];exact⟨trivial,trivial⟩
theorem mW(o:Oper):hCls pts o=0∨hCls pts o=1∨hCls pts o=2:=by
 obtain⟨dst,op,ty,pos,after,guard⟩:=o
 cases op<;>simp only[hCls]<;>first|(exact .inl trivial)|(exact .inr (.inl trivial))|(exact .inr (.inr trivial))|skip
 case alloc t=>split<;>simp
 case box t x=>split<;>simp
 case load t a=>split<;>simp
 case store t a x=>split<;>simp
 case call c=>split<;>first|(split<;>simp)|simp
end
end Sx
end Go.Am

/-
 REGIONS THAT DRAW THEIR ORDER: whatever the order.
-/
namespace Go.Am
namespace Sx
section
variable [Val] {C:Cfg} {B:Below} {N:FuncId→Option Nat} {pts:List Nat} {ops:Array Oper}
theorem fresh_adr{mk:Nat→Value}(h:Fresh mk)(k:Nat):adr (mk k)=[k]:=by
 cases h<;>simp[adr,tag]
theorem qX{S:Nat→St→St→Prop}{sl:Nat→Option Nat}(hS:∀i σ σ',S i σ σ'→de C B pts ops sl i σ σ'):∀ {l:List Nat},l.Nodup→∀ {σ σ':St},runR S l σ σ'→fM C B pts ops sl l σ σ'
 | [],_,_,_,h=>h
 |i :: l,hn,σ,σ',⟨σ₁,h1,h2⟩=>by
  rw[List.nodup_cons]at hn
  exact⟨hn.1,σ₁,hS i _ _ h1,qX hS hn.2 h2⟩
theorem opT_mem{o:Oper}{t:Nat}(h:Operand.tmp t∈(cE pts o).1++dX pts o):t∈opT pts o:=by
 unfold opT
 exact List.mem_filterMap.2 ⟨.tmp t,h,rfl⟩
theorem any_okS [Kno](hN:NeuB N B)(hreg:sepReg N pts ops=true){σ σ':St}(h:cf C B pts ops (List.range ops.size) σ σ')(hsep:SepAt pts ops σ'.tmps (qk pts ops)):fT C B pts ops σ σ':=by
 simp only[sepReg,Bool.and_eq_true]at hreg
 obtain⟨g1,g2,g3,g4,g5,g6⟩:=hreg
 have hok:∀i∈List.range ops.size,∃o,ops[i]? = some o∧okS N pts o=true:=by
  intro i hi
  rw[List.mem_range]at hi
  exact⟨ops[i],by simp[hi],List.all_eq_true.1 g2 _ (by simp)⟩
 obtain⟨rc,R⟩:=recs_of hN (List.range ops.size) σ σ' List.pairwise_lt_range hok h
 have hsz:∀ {i:Nat} {o:Oper},ops[i]? = some o→i<ops.size:=fun hi=>(Array.getElem?_eq_some_iff.1 hi).1
 have hrg:∀ {i:Nat} {o:Oper},ops[i]? = some o→i∈List.range ops.size:=fun hi=>List.mem_range.2 (hsz hi)
 have hl:∀ {i:Nat} {o:Oper},ops[i]? = some o→ops.toList[i]? = some o:=fun hi=>by simpa using hi
 have hop:∀ {i:Nat} {o:Oper},ops[i]? = some o→∀x∈(cE pts o).1++dX pts o,oval σ'.tmps x=oval (rc i).σ.tmps x:=by
  intro i o hi x hx
  refine iB fun t ht=>?_
  subst ht
  refine R.args i (hrg hi) t fun j hj hij o' ho' hd=>?_
  have:=(pY g5 j o' (hl ho') i o (by simpa using hi)).1 (by simpa using hij)
  exact lB this t (opT_mem hx) t hd rfl
 have hF:∀ {i:Nat} {o:Oper},ops[i]? = some o→∀r∈fpo pts (oval (rc i).σ.tmps) o,r∈fAt pts σ'.tmps o:=by
  intro i o hi r hr
  unfold fpo at hr
  unfold fAt
  obtain⟨x,hx,hr⟩:=List.mem_flatMap.1 hr
  exact List.mem_flatMap.2 ⟨x,hx,by rw[hop hi x (List.mem_append_left _ hx)];exact hr⟩
 have hW:∀ {i:Nat} {o:Oper},ops[i]? = some o→dstIn pts σ'.tmps o→∀p∈(rc i).ws,p.1∈wAt pts σ'.tmps o:=by
  intro i o hi hdi p hp
  have K:=R.ok i (hrg hi) o hi
  unfold Rec.ws at hp
  unfold wAt
  rw[List.mem_flatMap]
  rcases List.mem_append.1 hp with hp|hp
  ·have:=K.wr p (by simpa using hp)
   unfold wpo at this
   obtain⟨x,hx,hr⟩:=List.mem_flatMap.1 this
   exact⟨x,List.mem_append_left _ hx,by rw[hop hi x (List.mem_append_right _ hx)];exact hr⟩
  ·unfold Rec.slot at hp
   split at hp
   ·rename_i k q hk hq
    have hp:p=(k,q.1):=by simpa using hp
    subst hp
    obtain⟨f1,f2,f3⟩:=K.fr q hq
    have hc2:hCls pts o=2:=by
     rcases mW (pts:=pts) o with h0|h0|h0
     ·rw[(hcls0 h0).2.2]at f3;cases f3
     ·rw[(hcls1 h0).2]at f3;cases f3
     ·exact h0
    have hds:o.dst.isSome=true:=by
     have:=List.all_eq_true.1 g4 o (List.mem_of_getElem? (hl hi))
     rw[f3]at this
     simpa using this
    obtain⟨d,hd⟩:=Option.isSome_iff_exists.1 hds
    obtain⟨v,hv⟩:=hdi d hd hc2
    have hval:=R.res i (hrg hi) o d v hi hd (fun j hj hij o' ho' hd'=>by
     have:=(pY g5 j o' (hl ho') i o (by simpa using hi)).2 (by simpa using hij)
     rw[hd,hd']at this
     simp[cd]at this) hv
    refine⟨.tmp d,nK hd hc2,?_⟩
    have ho:oval σ'.tmps (.tmp d)=v:=by simp[oval,List.getD_eq_getElem?_getD,hv]
    rw[ho,hval]
    unfold Rec.val HEff.val
    rw[hk]
    simp only[hq]
    rw[fresh_adr f1]
    exact List.mem_singleton.2 rfl
   ·cases hp
 have hno:∀ {i:Nat} {o:Oper},ops[i]? = some o→hCls pts o≠2→(rc i).ws=[]:=by
  intro i o hi hc
  have K:=R.ok i (hrg hi) o hi
  have hw:dX pts o=[]∧cO pts o=false:=by
   rcases mW (pts:=pts) o with h0|h0|h0
   ·exact(hcls0 h0).2
   ·exact hcls1 h0
   ·exact absurd h0 hc
  have e1:(rc i).e.set=none:=by
   cases hs:(rc i).e.set with
   |none=>rfl
   |some p=>
    have:=K.wr p hs
    unfold wpo at this
    rw[hw.1]at this
    cases this
  have e2:(rc i).e.push=none:=by
   cases hs:(rc i).e.push with
   |none=>rfl
   |some p=>have:=(K.fr p hs).2.2;rw[hw.2]at this;cases this
  unfold Rec.ws Rec.slot
  rw[e1,e2]
  cases (rc i).k<;>rfl
 have hno2:∀ {i:Nat} {o:Oper},hCls pts o=0→fpo pts (oval (rc i).σ.tmps) o=[]:=by
  intro i o hc
  unfold fpo
  rw[(hcls0 hc).1]
  rfl
 refine .inr ⟨fun i=>if i<ops.size then(rc i).k else none,σ'.heap.length - σ.heap.length,g3,?_,?_,fun t=>?_⟩
 ·intro i k hk
  simp only at hk
  split at hk
  ·rename_i hi
   have:=R.slot i (List.mem_range.2 hi) k hk
   omega
  ·cases hk
 ·intro i j k hk hk'
  simp only at hk hk'
  split at hk
  ·rename_i hi
   split at hk'
   ·rename_i hj
    exact R.inj i (List.mem_range.2 hi) j (List.mem_range.2 hj) k hk hk'
   ·cases hk'
  ·cases hk
 have hback:∀(i:Nat) o,ops[i]? = some o→∀e∈o.after.toList,Region.binds .any e=true→e.on<i:=by
  intro i o ho e he hb
  have:=fh g1 i o (by simpa using ho) e he hb
  omega
 have hpair:∀i k:Nat,i<ops.size→k<i→Anc ops k i∨∀τ τ₁ τ':St,recS N pts ops rc k τ τ₁→recS N pts ops rc i τ₁ τ'→∃ρ,recS N pts ops rc i τ ρ∧recS N pts ops rc k ρ τ':=by
  intro i k hi hki
  have hb:ops[i]? = some ops[i]:=by simp[hi]
  have ha:ops[k]? = some (ops[k]'(by omega)):=by simp[show k<ops.size by omega]
  generalize ops[i]=b at hb
  generalize ops[k]'(by omega)=a at ha
  have hq:=lZ (pre:=[]) (i:=0) rfl g6 i b (by simpa using hb) k a (by omega) (by simpa using ha)
  rw[Nat.zero_add]at hq
  cases htb:(List.getD (ancs ops.toList []) i 0).testBit k with
  |true=>exact .inl (pm ops.toList [] rfl (fun i k h=>by simp at h) i k htb)
  |false=>
   right
   rw[htb]at hq
   have hq:=hq.resolve_left (by simp)
   simp only[Bool.and_eq_true]at hq
   obtain⟨q1,q2⟩:=hq
   have d:(∀p∈(rc k).ws,p.1∉fpo pts (oval (rc i).σ.tmps) b)∧(∀p∈(rc i).ws,p.1∉fpo pts (oval (rc k).σ.tmps) a)∧(∀p∈(rc k).ws,∀q∈(rc i).ws,p.1≠q.1):=by
    cases hcf:conf pts a b with
    |true=>
     have hm:=ob (pts:=pts) (ms:=ancs ops.toList []) (l:=ops.toList) (pre:=[]) (i:=0) rfl i b (by simpa using hb) k a (by omega) (by simpa using ha) (by rw[Nat.zero_add];exact htb) hcf
     rw[Nat.zero_add]at hm
     obtain⟨a',b',r1,r2,s1,s2,s3,s4,s5⟩:=hsep (k,i) hm
     have r1:ops[k]? = some a':=r1
     have r2:ops[i]? = some b':=r2
     rw[ha]at r1;rw[hb]at r2
     cases r1;cases r2
     exact⟨fun p hp hf=>s1 _ (hW ha s4 p hp) (hF hb _ hf),fun p hp hf=>s3 _ (hW hb s5 p hp) (hF ha _ hf),fun p hp q hq e=>s2 _ (hW ha s4 p hp) (e▸hW hb s5 q hq)⟩
    |false=>
     have hcf:Nat.ble 3 (hCls pts a+hCls pts b)=false:=by
      unfold conf at hcf
      cases he:en a b with
      |true=>rw[he]at q2;cases q2
      |false=>rw[he]at hcf;simpa using hcf
     have hlt:¬3≤hCls pts a+hCls pts b:=fun h=>by rw[Nat.ble_eq_true_of_le h]at hcf;cases hcf
     rcases mW (pts:=pts) a with e1|e1|e1<;>rcases mW (pts:=pts) b with e2|e2|e2
     ·rw[hno ha (by omega),hno hb (by omega)];exact⟨fun _ h=>(by cases h),fun _ h=>(by cases h),fun _ h=>(by cases h)⟩
     ·rw[hno ha (by omega),hno hb (by omega)];exact⟨fun _ h=>(by cases h),fun _ h=>(by cases h),fun _ h=>(by cases h)⟩
     ·rw[hno ha (by omega),hno2 e1];exact⟨fun _ h=>(by cases h),fun _ _ h=>(by cases h),fun _ h=>(by cases h)⟩
     ·rw[hno ha (by omega),hno hb (by omega)];exact⟨fun _ h=>(by cases h),fun _ h=>(by cases h),fun _ h=>(by cases h)⟩
     ·rw[hno ha (by omega),hno hb (by omega)];exact⟨fun _ h=>(by cases h),fun _ h=>(by cases h),fun _ h=>(by cases h)⟩
     ·omega
     ·rw[hno hb (by omega),hno2 e2];exact⟨fun _ _ h=>(by cases h),fun _ h=>(by cases h),fun _ _ _ h=>(by cases h)⟩
     ·omega
     ·omega
   rintro τ τ₁ τ' ⟨a1,h1,h2,rfl⟩ ⟨b1,h3,h4,rfl⟩
   rw[ha]at h1;rw[hb]at h3
   cases h1;cases h3
   obtain⟨w1,w2,w3⟩:=swapR (R.ok k (hrg ha) a ha) (R.ok i (hrg hb) b hb) q1 d.1 d.2.1 d.2.2 h2 h4
   exact⟨_,⟨b,hb,w1,rfl⟩,⟨a,ha,w2,w3⟩⟩
 have hz:unl ops.size (Array.replicate ops.size false)=List.range ops.size:=by
  unfold unl
  rw[List.filter_eq_self]
  intro i hi
  rw[List.mem_range]at hi
  rw[Array.getD_eq_getD_getElem?,Array.getElem?_replicate,if_pos hi]
  rfl
 have hrun:=R.run σ'.heap.length (Nat.le_refl _)
 have hend:St.padTo σ' σ'.heap.length=σ':=by
  unfold St.padTo St.pad
  rw[Nat.sub_self]
  simp
 rw[hend]at hrun
 obtain⟨r1,r2,_⟩:=go_okR (S:=recS N pts ops rc) hback hpair ops.size t (Array.replicate ops.size false) (by simp) (by rw[hz];simp) (fun x o hx ho=>by
  have hlt:x<ops.size:=hsz ho
  rw[Array.getD_eq_getD_getElem?,Array.getElem?_replicate,if_pos hlt]at hx
  cases hx) _ _ (by rw[hz];exact hrun)
 refine qX (fun i τ τ' hS=>?_) r2 r1
 obtain⟨o,h1,h2,rfl⟩:=hS
 exact(R.ok i (hrg h1) o h1).step τ h2 _ (by simp only[hsz h1,if_true])
theorem drOf_ok [Kno]{C:Cfg}(hN:∀f n,N f=some n→neuF N C f n=true)(hk:∀f args H r H',Kno.kh f args H r H'→N f=none):DrOk C (drOf N):=by
 intro pts ops ps h n σ σ' hx hs
 unfold drOf at h
 split at h
 ·split at h
  ·rename_i hr
   exact dr_ok hN hk pts ops hr n σ σ' hx
  ·cases h
 ·rename_i p qs he
  split at h
  ·rename_i hr
   cases h
   exact any_okS (neu_ok hN hk n).1 hr hx (by rw[he];exact hs)
  ·cases h
end
end Sx
end Go.Am

/-
 THE FUNCTIONS OF THE PROGRAM ARE WHAT IS TOLD OF THEM,BY PROGRAM.
-/
set_option maxRecDepth 100000
namespace Go.Am
open Sx Go.Proofs
def neuT:List (Nat×Nat):=[(9,3),(17,2),(18,2),(33,1),(34,2),(35,2),(36,1),(54,1),(55,2),(19,2),(66,1)]
def lookN(l:List (Nat×Nat))(f:Nat):Option Nat:=match l with
 | []=>none
 |p :: l=>match Nat.beq p.1 f with
  |true=>some p.2
  |false=>lookN l f
def neuN(f:FuncId):Option Nat:=lookN neuT f
theorem oC{f n:Nat}:∀ {l:List (Nat×Nat)},lookN l f=some n→(f,n)∈l
 |p :: l,h=>by
  unfold lookN at h
  split at h
  ·rename_i e
   cases h
   have:=Nat.eq_of_beq_eq_true e
   subst this
   exact List.mem_cons_self
  ·exact List.mem_cons_of_mem _ (oC h)
theorem neuT_ok:(neuT.all fun p=>neuF neuN cc p.1 p.2)=true:=by kernel_rfl
theorem neuN_ok(f n:Nat)(h:neuN f=some n):neuF neuN cc f n=true:=List.all_eq_true.1 neuT_ok (f,n) (oC h)
noncomputable def drN:Dr:=drOf neuN
noncomputable def n3:Fn1:=fn1 cc.P 3 ((ab 3).getD ⟨[],[]⟩) an3
noncomputable def n4:Fn1:=fn1 cc.P 4 ((ab 4).getD ⟨[],[]⟩) an4
noncomputable def n5:Fn1:=fn1 cc.P 5 ((ab 5).getD ⟨[],[]⟩) an5
noncomputable def n6:Fn1:=fn1 cc.P 6 ((ab 6).getD ⟨[],[]⟩) an6
noncomputable def n7:Fn1:=fn1 cc.P 7 ((ab 7).getD ⟨[],[]⟩) an7
noncomputable def n8:Fn1:=fn1 cc.P 8 ((ab 8).getD ⟨[],[]⟩) an8
noncomputable def n9:Fn1:=fn1 cc.P 9 ((ab 9).getD ⟨[],[]⟩) an9
noncomputable def n10:Fn1:=fn1 cc.P 10 ((ab 10).getD ⟨[],[]⟩) an10
noncomputable def n11:Fn1:=fn1 cc.P 11 ((ab 11).getD ⟨[],[]⟩) an11
noncomputable def n12:Fn1:=fn1 cc.P 12 ((ab 12).getD ⟨[],[]⟩) an12
noncomputable def n13:Fn1:=fn1 cc.P 13 ((ab 13).getD ⟨[],[]⟩) an13
noncomputable def n14:Fn1:=fn1 cc.P 14 ((ab 14).getD ⟨[],[]⟩) an14
noncomputable def n15:Fn1:=fn1 cc.P 15 ((ab 15).getD ⟨[],[]⟩) an15
noncomputable def n16:Fn1:=fn1 cc.P 16 ((ab 16).getD ⟨[],[]⟩) an16
noncomputable def n17:Fn1:=fn1 cc.P 17 ((ab 17).getD ⟨[],[]⟩) an17
noncomputable def n18:Fn1:=fn1 cc.P 18 ((ab 18).getD ⟨[],[]⟩) an18
noncomputable def n19:Fn1:=fn1 cc.P 19 ((ab 19).getD ⟨[],[]⟩) an19
noncomputable def n20:Fn1:=fn1 cc.P 20 ((ab 20).getD ⟨[],[]⟩) an20
noncomputable def n21:Fn1:=fn1 cc.P 21 ((ab 21).getD ⟨[],[]⟩) an21
noncomputable def n22:Fn1:=fn1 cc.P 22 ((ab 22).getD ⟨[],[]⟩) an22
noncomputable def n23:Fn1:=fn1 cc.P 23 ((ab 23).getD ⟨[],[]⟩) an23
noncomputable def n24:Fn1:=fn1 cc.P 24 ((ab 24).getD ⟨[],[]⟩) an24
noncomputable def n25:Fn1:=fn1 cc.P 25 ((ab 25).getD ⟨[],[]⟩) an25
noncomputable def n26:Fn1:=fn1 cc.P 26 ((ab 26).getD ⟨[],[]⟩) an26
noncomputable def n27:Fn1:=fn1 cc.P 27 ((ab 27).getD ⟨[],[]⟩) an27
noncomputable def n28:Fn1:=fn1 cc.P 28 ((ab 28).getD ⟨[],[]⟩) an28
noncomputable def n29:Fn1:=fn1 cc.P 29 ((ab 29).getD ⟨[],[]⟩) an29
noncomputable def n30:Fn1:=fn1 cc.P 30 ((ab 30).getD ⟨[],[]⟩) an30
noncomputable def n31:Fn1:=fn1 cc.P 31 ((ab 31).getD ⟨[],[]⟩) an31
noncomputable def n32:Fn1:=fn1 cc.P 32 ((ab 32).getD ⟨[],[]⟩) an32
noncomputable def n33:Fn1:=fn1 cc.P 33 ((ab 33).getD ⟨[],[]⟩) an33
noncomputable def n34:Fn1:=fn1 cc.P 34 ((ab 34).getD ⟨[],[]⟩) an34
noncomputable def n35:Fn1:=fn1 cc.P 35 ((ab 35).getD ⟨[],[]⟩) an35
noncomputable def n36:Fn1:=fn1 cc.P 36 ((ab 36).getD ⟨[],[]⟩) an36
noncomputable def n37:Fn1:=fn1 cc.P 37 ((ab 37).getD ⟨[],[]⟩) an37
noncomputable def n38:Fn1:=fn1 cc.P 38 ((ab 38).getD ⟨[],[]⟩) an38
noncomputable def n39:Fn1:=fn1 cc.P 39 ((ab 39).getD ⟨[],[]⟩) an39
noncomputable def n40:Fn1:=fn1 cc.P 40 ((ab 40).getD ⟨[],[]⟩) an40
noncomputable def n41:Fn1:=fn1 cc.P 41 ((ab 41).getD ⟨[],[]⟩) an41
noncomputable def n42:Fn1:=fn1 cc.P 42 ((ab 42).getD ⟨[],[]⟩) an42
noncomputable def n43:Fn1:=fn1 cc.P 43 ((ab 43).getD ⟨[],[]⟩) an43
noncomputable def n44:Fn1:=fn1 cc.P 44 ((ab 44).getD ⟨[],[]⟩) an44
noncomputable def n45:Fn1:=fn1 cc.P 45 ((ab 45).getD ⟨[],[]⟩) an45
noncomputable def n46:Fn1:=fn1 cc.P 46 ((ab 46).getD ⟨[],[]⟩) an46
noncomputable def n47:Fn1:=fn1 cc.P 47 ((ab 47).getD ⟨[],[]⟩) an47
noncomputable def n48:Fn1:=fn1 cc.P 48 ((ab 48).getD ⟨[],[]⟩) an48
noncomputable def n49:Fn1:=fn1 cc.P 49 ((ab 49).getD ⟨[],[]⟩) an49
noncomputable def n50:Fn1:=fn1 cc.P 50 ((ab 50).getD ⟨[],[]⟩) an50
noncomputable def n51:Fn1:=fn1 cc.P 51 ((ab 51).getD ⟨[],[]⟩) an51
noncomputable def n52:Fn1:=fn1 cc.P 52 ((ab 52).getD ⟨[],[]⟩) an52
noncomputable def n53:Fn1:=fn1 cc.P 53 ((ab 53).getD ⟨[],[]⟩) an53
noncomputable def n54:Fn1:=fn1 cc.P 54 ((ab 54).getD ⟨[],[]⟩) an54
noncomputable def n55:Fn1:=fn1 cc.P 55 ((ab 55).getD ⟨[],[]⟩) an55
noncomputable def n56:Fn1:=fn1 cc.P 56 ((ab 56).getD ⟨[],[]⟩) an56
noncomputable def n57:Fn1:=fn1 cc.P 57 ((ab 57).getD ⟨[],[]⟩) an57
noncomputable def n58:Fn1:=fn1 cc.P 58 ((ab 58).getD ⟨[],[]⟩) an58
noncomputable def n59:Fn1:=fn1 cc.P 59 ((ab 59).getD ⟨[],[]⟩) an59
noncomputable def n60:Fn1:=fn1 cc.P 60 ((ab 60).getD ⟨[],[]⟩) an60
noncomputable def n61:Fn1:=fn1 cc.P 61 ((ab 61).getD ⟨[],[]⟩) an61
noncomputable def n62:Fn1:=fn1 cc.P 62 ((ab 62).getD ⟨[],[]⟩) an62
noncomputable def n63:Fn1:=fn1 cc.P 63 ((ab 63).getD ⟨[],[]⟩) an63
noncomputable def n64:Fn1:=fn1 cc.P 64 ((ab 64).getD ⟨[],[]⟩) an64
noncomputable def n65:Fn1:=fn1 cc.P 65 ((ab 65).getD ⟨[],[]⟩) an65
noncomputable def n66:Fn1:=fn1 cc.P 66 ((ab 66).getD ⟨[],[]⟩) an66
noncomputable def n67:Fn1:=fn1 cc.P 67 ((ab 67).getD ⟨[],[]⟩) an67
noncomputable def n68:Fn1:=fn1 cc.P 68 ((ab 68).getD ⟨[],[]⟩) an68
noncomputable def n69:Fn1:=fn1 cc.P 69 ((ab 69).getD ⟨[],[]⟩) an69
noncomputable def n70:Fn1:=fn1 cc.P 70 ((ab 70).getD ⟨[],[]⟩) an70
noncomputable def n71:Fn1:=fn1 cc.P 71 ((ab 71).getD ⟨[],[]⟩) an71
noncomputable def n72:Fn1:=fn1 cc.P 72 ((ab 72).getD ⟨[],[]⟩) an72
noncomputable def n73:Fn1:=fn1 cc.P 73 ((ab 73).getD ⟨[],[]⟩) an73
noncomputable def n74:Fn1:=fn1 cc.P 74 ((ab 74).getD ⟨[],[]⟩) an74
noncomputable def n75:Fn1:=fn1 cc.P 75 ((ab 75).getD ⟨[],[]⟩) an75
noncomputable def n76:Fn1:=fn1 cc.P 76 ((ab 76).getD ⟨[],[]⟩) an76
noncomputable def n85:Fn1:=fn1 cc.P 85 ((ab 85).getD ⟨[],[]⟩) an85
noncomputable def n86:Fn1:=fn1 cc.P 86 ((ab 86).getD ⟨[],[]⟩) an86
noncomputable def n87:Fn1:=fn1 cc.P 87 ((ab 87).getD ⟨[],[]⟩) an87
noncomputable def n88:Fn1:=fn1 cc.P 88 ((ab 88).getD ⟨[],[]⟩) an88
noncomputable def n89:Fn1:=fn1 cc.P 89 ((ab 89).getD ⟨[],[]⟩) an89
noncomputable def n97:Fn1:=fn1 cc.P 97 ((ab 97).getD ⟨[],[]⟩) an97
noncomputable def n98:Fn1:=fn1 cc.P 98 ((ab 98).getD ⟨[],[]⟩) an98
noncomputable def n99:Fn1:=fn1 cc.P 99 ((ab 99).getD ⟨[],[]⟩) an99
noncomputable def n100:Fn1:=fn1 cc.P 100 ((ab 100).getD ⟨[],[]⟩) an100
noncomputable def n101:Fn1:=fn1 cc.P 101 ((ab 101).getD ⟨[],[]⟩) an101
noncomputable def n107:Fn1:=fn1 cc.P 107 ((ab 107).getD ⟨[],[]⟩) an107
noncomputable def n108:Fn1:=fn1 cc.P 108 ((ab 108).getD ⟨[],[]⟩) an108
theorem i3:FnIs (xc 3) ab 3 n3:=⟨⟨Tryz.f3,Tryz.func3,by kernel_rfl,by kernel_rfl,by kernel_rfl,by kernel_rfl⟩,rfl,by kernel_rfl⟩
theorem i4:FnIs (xc 4) ab 4 n4:=⟨⟨Tryz.f4,Tryz.func4,by kernel_rfl,by kernel_rfl,by kernel_rfl,by kernel_rfl⟩,rfl,by kernel_rfl⟩
theorem i5:FnIs (xc 5) ab 5 n5:=⟨⟨Tryz.f5,Tryz.func5,by kernel_rfl,by kernel_rfl,by kernel_rfl,by kernel_rfl⟩,rfl,by kernel_rfl⟩
theorem i6:FnIs (xc 6) ab 6 n6:=⟨⟨Tryz.f6,Tryz.func6,by kernel_rfl,by kernel_rfl,by kernel_rfl,by kernel_rfl⟩,rfl,by kernel_rfl⟩
theorem i7:FnIs (xc 7) ab 7 n7:=⟨⟨Tryz.f7,Tryz.func7,by kernel_rfl,by kernel_rfl,by kernel_rfl,by kernel_rfl⟩,rfl,by kernel_rfl⟩
theorem i8:FnIs (xc 8) ab 8 n8:=⟨⟨Tryz.f8,Tryz.func8,by kernel_rfl,by kernel_rfl,by kernel_rfl,by kernel_rfl⟩,rfl,by kernel_rfl⟩
theorem i9:FnIs (xc 9) ab 9 n9:=⟨⟨Tryz.f9,Tryz.func9,by kernel_rfl,by kernel_rfl,by kernel_rfl,by kernel_rfl⟩,rfl,by kernel_rfl⟩
theorem i10:FnIs (xc 10) ab 10 n10:=⟨⟨Tryz.f10,Tryz.func10,by kernel_rfl,by kernel_rfl,by kernel_rfl,by kernel_rfl⟩,rfl,by kernel_rfl⟩
theorem i11:FnIs (xc 11) ab 11 n11:=⟨⟨Tryz.f11,Tryz.func11,by kernel_rfl,by kernel_rfl,by kernel_rfl,by kernel_rfl⟩,rfl,by kernel_rfl⟩
theorem i12:FnIs (xc 12) ab 12 n12:=⟨⟨Tryz.f12,Tryz.func12,by kernel_rfl,by kernel_rfl,by kernel_rfl,by kernel_rfl⟩,rfl,by kernel_rfl⟩
theorem i13:FnIs (xc 13) ab 13 n13:=⟨⟨Tryz.f13,Tryz.func13,by kernel_rfl,by kernel_rfl,by kernel_rfl,by kernel_rfl⟩,rfl,by kernel_rfl⟩
theorem i14:FnIs (xc 14) ab 14 n14:=⟨⟨Tryz.f14,Tryz.func14,by kernel_rfl,by kernel_rfl,by kernel_rfl,by kernel_rfl⟩,rfl,by kernel_rfl⟩
theorem i15:FnIs (xc 15) ab 15 n15:=⟨⟨Tryz.f15,Tryz.func15,by kernel_rfl,by kernel_rfl,by kernel_rfl,by kernel_rfl⟩,rfl,by kernel_rfl⟩
theorem i16:FnIs (xc 16) ab 16 n16:=⟨⟨Tryz.f16,Tryz.func16,by kernel_rfl,by kernel_rfl,by kernel_rfl,by kernel_rfl⟩,rfl,by kernel_rfl⟩
theorem i17:FnIs (xc 17) ab 17 n17:=⟨⟨Tryz.f17,Tryz.func17,by kernel_rfl,by kernel_rfl,by kernel_rfl,by kernel_rfl⟩,rfl,by kernel_rfl⟩
theorem i18:FnIs (xc 18) ab 18 n18:=⟨⟨Tryz.f18,Tryz.func18,by kernel_rfl,by kernel_rfl,by kernel_rfl,by kernel_rfl⟩,rfl,by kernel_rfl⟩
theorem i19:FnIs (xc 19) ab 19 n19:=⟨⟨Tryz.f19,Tryz.func19,by kernel_rfl,by kernel_rfl,by kernel_rfl,by kernel_rfl⟩,rfl,by kernel_rfl⟩
theorem i20:FnIs (xc 20) ab 20 n20:=⟨⟨Tryz.f20,Tryz.func20,by kernel_rfl,by kernel_rfl,by kernel_rfl,by kernel_rfl⟩,rfl,by kernel_rfl⟩
theorem i21:FnIs (xc 21) ab 21 n21:=⟨⟨Tryz.f21,Tryz.func21,by kernel_rfl,by kernel_rfl,by kernel_rfl,by kernel_rfl⟩,rfl,by kernel_rfl⟩
theorem i22:FnIs (xc 22) ab 22 n22:=⟨⟨Tryz.f22,Tryz.func22,by kernel_rfl,by kernel_rfl,by kernel_rfl,by kernel_rfl⟩,rfl,by kernel_rfl⟩
theorem i23:FnIs (xc 23) ab 23 n23:=⟨⟨Tryz.f23,Tryz.func23,by kernel_rfl,by kernel_rfl,by kernel_rfl,by kernel_rfl⟩,rfl,by kernel_rfl⟩
theorem i24:FnIs (xc 24) ab 24 n24:=⟨⟨Tryz.f24,Tryz.func24,by kernel_rfl,by kernel_rfl,by kernel_rfl,by kernel_rfl⟩,rfl,by kernel_rfl⟩
theorem i25:FnIs (xc 25) ab 25 n25:=⟨⟨Tryz.f25,Tryz.func25,by kernel_rfl,by kernel_rfl,by kernel_rfl,by kernel_rfl⟩,rfl,by kernel_rfl⟩
theorem i26:FnIs (xc 26) ab 26 n26:=⟨⟨Tryz.f26,Tryz.func26,by kernel_rfl,by kernel_rfl,by kernel_rfl,by kernel_rfl⟩,rfl,by kernel_rfl⟩
theorem i27:FnIs (xc 27) ab 27 n27:=⟨⟨Tryz.f27,Tryz.func27,by kernel_rfl,by kernel_rfl,by kernel_rfl,by kernel_rfl⟩,rfl,by kernel_rfl⟩
theorem i28:FnIs (xc 28) ab 28 n28:=⟨⟨Tryz.f28,Tryz.func28,by kernel_rfl,by kernel_rfl,by kernel_rfl,by kernel_rfl⟩,rfl,by kernel_rfl⟩
theorem i29:FnIs (xc 29) ab 29 n29:=⟨⟨Tryz.f29,Tryz.func29,by kernel_rfl,by kernel_rfl,by kernel_rfl,by kernel_rfl⟩,rfl,by kernel_rfl⟩
theorem i30:FnIs (xc 30) ab 30 n30:=⟨⟨Tryz.f30,Tryz.func30,by kernel_rfl,by kernel_rfl,by kernel_rfl,by kernel_rfl⟩,rfl,by kernel_rfl⟩
theorem i31:FnIs (xc 31) ab 31 n31:=⟨⟨Tryz.f31,Tryz.func31,by kernel_rfl,by kernel_rfl,by kernel_rfl,by kernel_rfl⟩,rfl,by kernel_rfl⟩
theorem i32:FnIs (xc 32) ab 32 n32:=⟨⟨Tryz.f32,Tryz.func32,by kernel_rfl,by kernel_rfl,by kernel_rfl,by kernel_rfl⟩,rfl,by kernel_rfl⟩
theorem i33:FnIs (xc 33) ab 33 n33:=⟨⟨Tryz.f33,Tryz.func33,by kernel_rfl,by kernel_rfl,by kernel_rfl,by kernel_rfl⟩,rfl,by kernel_rfl⟩
theorem i34:FnIs (xc 34) ab 34 n34:=⟨⟨Tryz.f34,Tryz.func34,by kernel_rfl,by kernel_rfl,by kernel_rfl,by kernel_rfl⟩,rfl,by kernel_rfl⟩
theorem i35:FnIs (xc 35) ab 35 n35:=⟨⟨Tryz.f35,Tryz.func35,by kernel_rfl,by kernel_rfl,by kernel_rfl,by kernel_rfl⟩,rfl,by kernel_rfl⟩
theorem i36:FnIs (xc 36) ab 36 n36:=⟨⟨Tryz.f36,Tryz.func36,by kernel_rfl,by kernel_rfl,by kernel_rfl,by kernel_rfl⟩,rfl,by kernel_rfl⟩
theorem i37:FnIs (xc 37) ab 37 n37:=⟨⟨Tryz.f37,Tryz.func37,by kernel_rfl,by kernel_rfl,by kernel_rfl,by kernel_rfl⟩,rfl,by kernel_rfl⟩
theorem i38:FnIs (xc 38) ab 38 n38:=⟨⟨Tryz.f38,Tryz.func38,by kernel_rfl,by kernel_rfl,by kernel_rfl,by kernel_rfl⟩,rfl,by kernel_rfl⟩
theorem i39:FnIs (xc 39) ab 39 n39:=⟨⟨Tryz.f39,Tryz.func39,by kernel_rfl,by kernel_rfl,by kernel_rfl,by kernel_rfl⟩,rfl,by kernel_rfl⟩
theorem i40:FnIs (xc 40) ab 40 n40:=⟨⟨Tryz.f40,Tryz.func40,by kernel_rfl,by kernel_rfl,by kernel_rfl,by kernel_rfl⟩,rfl,by kernel_rfl⟩
theorem i41:FnIs (xc 41) ab 41 n41:=⟨⟨Tryz.f41,Tryz.func41,by kernel_rfl,by kernel_rfl,by kernel_rfl,by kernel_rfl⟩,rfl,by kernel_rfl⟩
theorem i42:FnIs (xc 42) ab 42 n42:=⟨⟨Tryz.f42,Tryz.func42,by kernel_rfl,by kernel_rfl,by kernel_rfl,by kernel_rfl⟩,rfl,by kernel_rfl⟩
theorem i43:FnIs (xc 43) ab 43 n43:=⟨⟨Tryz.f43,Tryz.func43,by kernel_rfl,by kernel_rfl,by kernel_rfl,by kernel_rfl⟩,rfl,by kernel_rfl⟩
theorem i44:FnIs (xc 44) ab 44 n44:=⟨⟨Tryz.f44,Tryz.func44,by kernel_rfl,by kernel_rfl,by kernel_rfl,by kernel_rfl⟩,rfl,by kernel_rfl⟩
theorem i45:FnIs (xc 45) ab 45 n45:=⟨⟨Tryz.f45,Tryz.func45,by kernel_rfl,by kernel_rfl,by kernel_rfl,by kernel_rfl⟩,rfl,by kernel_rfl⟩
theorem i46:FnIs (xc 46) ab 46 n46:=⟨⟨Tryz.f46,Tryz.func46,by kernel_rfl,by kernel_rfl,by kernel_rfl,by kernel_rfl⟩,rfl,by kernel_rfl⟩
theorem i47:FnIs (xc 47) ab 47 n47:=⟨⟨Tryz.f47,Tryz.func47,by kernel_rfl,by kernel_rfl,by kernel_rfl,by kernel_rfl⟩,rfl,by kernel_rfl⟩
theorem i48:FnIs (xc 48) ab 48 n48:=⟨⟨Tryz.f48,Tryz.func48,by kernel_rfl,by kernel_rfl,by kernel_rfl,by kernel_rfl⟩,rfl,by kernel_rfl⟩
theorem i49:FnIs (xc 49) ab 49 n49:=⟨⟨Tryz.f49,Tryz.func49,by kernel_rfl,by kernel_rfl,by kernel_rfl,by kernel_rfl⟩,rfl,by kernel_rfl⟩
theorem i50:FnIs (xc 50) ab 50 n50:=⟨⟨Tryz.f50,Tryz.func50,by kernel_rfl,by kernel_rfl,by kernel_rfl,by kernel_rfl⟩,rfl,by kernel_rfl⟩
theorem i51:FnIs (xc 51) ab 51 n51:=⟨⟨Tryz.f51,Tryz.func51,by kernel_rfl,by kernel_rfl,by kernel_rfl,by kernel_rfl⟩,rfl,by kernel_rfl⟩
theorem i52:FnIs (xc 52) ab 52 n52:=⟨⟨Tryz.f52,Tryz.func52,by kernel_rfl,by kernel_rfl,by kernel_rfl,by kernel_rfl⟩,rfl,by kernel_rfl⟩
theorem i53:FnIs (xc 53) ab 53 n53:=⟨⟨Tryz.f53,Tryz.func53,by kernel_rfl,by kernel_rfl,by kernel_rfl,by kernel_rfl⟩,rfl,by kernel_rfl⟩
theorem i54:FnIs (xc 54) ab 54 n54:=⟨⟨Tryz.f54,Tryz.func54,by kernel_rfl,by kernel_rfl,by kernel_rfl,by kernel_rfl⟩,rfl,by kernel_rfl⟩
theorem i55:FnIs (xc 55) ab 55 n55:=⟨⟨Tryz.f55,Tryz.func55,by kernel_rfl,by kernel_rfl,by kernel_rfl,by kernel_rfl⟩,rfl,by kernel_rfl⟩
theorem i56:FnIs (xc 56) ab 56 n56:=⟨⟨Tryz.f56,Tryz.func56,by kernel_rfl,by kernel_rfl,by kernel_rfl,by kernel_rfl⟩,rfl,by kernel_rfl⟩
theorem i57:FnIs (xc 57) ab 57 n57:=⟨⟨Tryz.f57,Tryz.func57,by kernel_rfl,by kernel_rfl,by kernel_rfl,by kernel_rfl⟩,rfl,by kernel_rfl⟩
theorem i58:FnIs (xc 58) ab 58 n58:=⟨⟨Tryz.f58,Tryz.func58,by kernel_rfl,by kernel_rfl,by kernel_rfl,by kernel_rfl⟩,rfl,by kernel_rfl⟩
theorem i59:FnIs (xc 59) ab 59 n59:=⟨⟨Tryz.f59,Tryz.func59,by kernel_rfl,by kernel_rfl,by kernel_rfl,by kernel_rfl⟩,rfl,by kernel_rfl⟩
theorem i60:FnIs (xc 60) ab 60 n60:=⟨⟨Tryz.f60,Tryz.func60,by kernel_rfl,by kernel_rfl,by kernel_rfl,by kernel_rfl⟩,rfl,by kernel_rfl⟩
theorem i61:FnIs (xc 61) ab 61 n61:=⟨⟨Tryz.f61,Tryz.func61,by kernel_rfl,by kernel_rfl,by kernel_rfl,by kernel_rfl⟩,rfl,by kernel_rfl⟩
theorem i62:FnIs (xc 62) ab 62 n62:=⟨⟨Tryz.f62,Tryz.func62,by kernel_rfl,by kernel_rfl,by kernel_rfl,by kernel_rfl⟩,rfl,by kernel_rfl⟩
theorem i63:FnIs (xc 63) ab 63 n63:=⟨⟨Tryz.f63,Tryz.func63,by kernel_rfl,by kernel_rfl,by kernel_rfl,by kernel_rfl⟩,rfl,by kernel_rfl⟩
theorem i64:FnIs (xc 64) ab 64 n64:=⟨⟨Tryz.f64,Tryz.func64,by kernel_rfl,by kernel_rfl,by kernel_rfl,by kernel_rfl⟩,rfl,by kernel_rfl⟩
theorem i65:FnIs (xc 65) ab 65 n65:=⟨⟨Tryz.f65,Tryz.func65,by kernel_rfl,by kernel_rfl,by kernel_rfl,by kernel_rfl⟩,rfl,by kernel_rfl⟩
theorem i66:FnIs (xc 66) ab 66 n66:=⟨⟨Tryz.f66,Tryz.func66,by kernel_rfl,by kernel_rfl,by kernel_rfl,by kernel_rfl⟩,rfl,by kernel_rfl⟩
theorem i67:FnIs (xc 67) ab 67 n67:=⟨⟨Tryz.f67,Tryz.func67,by kernel_rfl,by kernel_rfl,by kernel_rfl,by kernel_rfl⟩,rfl,by kernel_rfl⟩
theorem i68:FnIs (xc 68) ab 68 n68:=⟨⟨Tryz.f68,Tryz.func68,by kernel_rfl,by kernel_rfl,by kernel_rfl,by kernel_rfl⟩,rfl,by kernel_rfl⟩
theorem i69:FnIs (xc 69) ab 69 n69:=⟨⟨Tryz.f69,Tryz.func69,by kernel_rfl,by kernel_rfl,by kernel_rfl,by kernel_rfl⟩,rfl,by kernel_rfl⟩
theorem i70:FnIs (xc 70) ab 70 n70:=⟨⟨Tryz.f70,Tryz.func70,by kernel_rfl,by kernel_rfl,by kernel_rfl,by kernel_rfl⟩,rfl,by kernel_rfl⟩
theorem i71:FnIs (xc 71) ab 71 n71:=⟨⟨Tryz.f71,Tryz.func71,by kernel_rfl,by kernel_rfl,by kernel_rfl,by kernel_rfl⟩,rfl,by kernel_rfl⟩
theorem i72:FnIs (xc 72) ab 72 n72:=⟨⟨Tryz.f72,Tryz.func72,by kernel_rfl,by kernel_rfl,by kernel_rfl,by kernel_rfl⟩,rfl,by kernel_rfl⟩
theorem i73:FnIs (xc 73) ab 73 n73:=⟨⟨Tryz.f73,Tryz.func73,by kernel_rfl,by kernel_rfl,by kernel_rfl,by kernel_rfl⟩,rfl,by kernel_rfl⟩
theorem i74:FnIs (xc 74) ab 74 n74:=⟨⟨Tryz.f74,Tryz.func74,by kernel_rfl,by kernel_rfl,by kernel_rfl,by kernel_rfl⟩,rfl,by kernel_rfl⟩
theorem i75:FnIs (xc 75) ab 75 n75:=⟨⟨Tryz.f75,Tryz.func75,by kernel_rfl,by kernel_rfl,by kernel_rfl,by kernel_rfl⟩,rfl,by kernel_rfl⟩
theorem i76:FnIs (xc 76) ab 76 n76:=⟨⟨Tryz.f76,Tryz.func76,by kernel_rfl,by kernel_rfl,by kernel_rfl,by kernel_rfl⟩,rfl,by kernel_rfl⟩
theorem i85:FnIs (xc 85) ab 85 n85:=⟨⟨Tryz.f85,Tryz.func85,by kernel_rfl,by kernel_rfl,by kernel_rfl,by kernel_rfl⟩,rfl,by kernel_rfl⟩
theorem i86:FnIs (xc 86) ab 86 n86:=⟨⟨Tryz.f86,Tryz.func86,by kernel_rfl,by kernel_rfl,by kernel_rfl,by kernel_rfl⟩,rfl,by kernel_rfl⟩
theorem i87:FnIs (xc 87) ab 87 n87:=⟨⟨Tryz.f87,Tryz.func87,by kernel_rfl,by kernel_rfl,by kernel_rfl,by kernel_rfl⟩,rfl,by kernel_rfl⟩
theorem i88:FnIs (xc 88) ab 88 n88:=⟨⟨Tryz.f88,Tryz.func88,by kernel_rfl,by kernel_rfl,by kernel_rfl,by kernel_rfl⟩,rfl,by kernel_rfl⟩
theorem i89:FnIs (xc 89) ab 89 n89:=⟨⟨Tryz.f89,Tryz.func89,by kernel_rfl,by kernel_rfl,by kernel_rfl,by kernel_rfl⟩,rfl,by kernel_rfl⟩
theorem i97:FnIs (xc 97) ab 97 n97:=⟨⟨Tryz.f97,Tryz.func97,by kernel_rfl,by kernel_rfl,by kernel_rfl,by kernel_rfl⟩,rfl,by kernel_rfl⟩
theorem i98:FnIs (xc 98) ab 98 n98:=⟨⟨Tryz.f98,Tryz.func98,by kernel_rfl,by kernel_rfl,by kernel_rfl,by kernel_rfl⟩,rfl,by kernel_rfl⟩
theorem i99:FnIs (xc 99) ab 99 n99:=⟨⟨Tryz.f99,Tryz.func99,by kernel_rfl,by kernel_rfl,by kernel_rfl,by kernel_rfl⟩,rfl,by kernel_rfl⟩
theorem i100:FnIs (xc 100) ab 100 n100:=⟨⟨Tryz.f100,Tryz.func100,by kernel_rfl,by kernel_rfl,by kernel_rfl,by kernel_rfl⟩,rfl,by kernel_rfl⟩
theorem i101:FnIs (xc 101) ab 101 n101:=⟨⟨Tryz.f101,Tryz.func101,by kernel_rfl,by kernel_rfl,by kernel_rfl,by kernel_rfl⟩,rfl,by kernel_rfl⟩
theorem i107:FnIs (xc 107) ab 107 n107:=⟨⟨Tryz.f107,Tryz.func107,by kernel_rfl,by kernel_rfl,by kernel_rfl,by kernel_rfl⟩,rfl,by kernel_rfl⟩
theorem i108:FnIs (xc 108) ab 108 n108:=⟨⟨Tryz.f108,Tryz.func108,by kernel_rfl,by kernel_rfl,by kernel_rfl,by kernel_rfl⟩,rfl,by kernel_rfl⟩
end Go.Am

/-
 THE FUNCTIONS OF THE PROGRAM ARE WHAT IS TOLD OF THEM,BY PROGRAM,part 1.
-/
set_option maxRecDepth 100000
namespace Go.Am
open Sx Go.Proofs
theorem e6:@f6=fun R HT A ls h K=>aE A (xc 6) ab drN n6 ls h K:=by kernel_rfl
theorem e27:@f27=fun R HT A ls h K=>aE A (xc 27) ab drN n27 ls h K:=by kernel_rfl
theorem e28:@f28=fun R HT A ls h K=>aE A (xc 28) ab drN n28 ls h K:=by kernel_rfl
theorem e37:@f37=fun R HT A ls h K=>aE A (xc 37) ab drN n37 ls h K:=by kernel_rfl
theorem e39:@f39=fun R HT A ls h K=>aE A (xc 39) ab drN n39 ls h K:=by kernel_rfl
theorem e42:@f42=fun R HT A ls h K=>aE A (xc 42) ab drN n42 ls h K:=by kernel_rfl
theorem e55:@f55=fun R HT A ls h K=>aE A (xc 55) ab drN n55 ls h K:=by kernel_rfl
theorem e62:@f62=fun R HT A ls h K=>aE A (xc 62) ab drN n62 ls h K:=by kernel_rfl
theorem e63:@f63=fun R HT A ls h K=>aE A (xc 63) ab drN n63 ls h K:=by kernel_rfl
theorem e66:@f66=fun R HT A ls h K=>aE A (xc 66) ab drN n66 ls h K:=by kernel_rfl
theorem e98:@f98=fun R HT A ls h K=>aE A (xc 98) ab drN n98 ls h K:=by kernel_rfl
end Go.Am

/-
 THE FUNCTIONS OF THE PROGRAM ARE WHAT IS TOLD OF THEM,BY PROGRAM,part 2.
-/
set_option maxRecDepth 100000
namespace Go.Am
open Sx Go.Proofs
theorem e4:@f4=fun R HT A ls h K=>aE A (xc 4) ab drN n4 ls h K:=by kernel_rfl
theorem e9:@f9=fun R HT A ls h K=>aE A (xc 9) ab drN n9 ls h K:=by kernel_rfl
theorem e25:@f25=fun R HT A ls h K=>aE A (xc 25) ab drN n25 ls h K:=by kernel_rfl
theorem e29:@f29=fun R HT A ls h K=>aE A (xc 29) ab drN n29 ls h K:=by kernel_rfl
theorem e32:@f32=fun R HT A ls h K=>aE A (xc 32) ab drN n32 ls h K:=by kernel_rfl
theorem e45:@f45=fun R HT A ls h K=>aE A (xc 45) ab drN n45 ls h K:=by kernel_rfl
theorem e48:@f48=fun R HT A ls h K=>aE A (xc 48) ab drN n48 ls h K:=by kernel_rfl
theorem e51:@f51=fun R HT A ls h K=>aE A (xc 51) ab drN n51 ls h K:=by kernel_rfl
theorem e57:@f57=fun R HT A ls h K=>aE A (xc 57) ab drN n57 ls h K:=by kernel_rfl
theorem e61:@f61=fun R HT A ls h K=>aE A (xc 61) ab drN n61 ls h K:=by kernel_rfl
theorem e71:@f71=fun R HT A ls h K=>aE A (xc 71) ab drN n71 ls h K:=by kernel_rfl
theorem e73:@f73=fun R HT A ls h K=>aE A (xc 73) ab drN n73 ls h K:=by kernel_rfl
theorem e86:@f86=fun R HT A ls h K=>aE A (xc 86) ab drN n86 ls h K:=by kernel_rfl
theorem e99:@f99=fun R HT A ls h K=>aE A (xc 99) ab drN n99 ls h K:=by kernel_rfl
end Go.Am

/-
 THE FUNCTIONS OF THE PROGRAM ARE WHAT IS TOLD OF THEM,BY PROGRAM,part 3.
-/
set_option maxRecDepth 100000
namespace Go.Am
open Sx Go.Proofs
theorem e8:@f8=fun R HT A ls h K=>aE A (xc 8) ab drN n8 ls h K:=by kernel_rfl
theorem e14:@f14=fun R HT A ls h K=>aE A (xc 14) ab drN n14 ls h K:=by kernel_rfl
theorem e15:@f15=fun R HT A ls h K=>aE A (xc 15) ab drN n15 ls h K:=by kernel_rfl
theorem e16:@f16=fun R HT A ls h K=>aE A (xc 16) ab drN n16 ls h K:=by kernel_rfl
theorem e17:@f17=fun R HT A ls h K=>aE A (xc 17) ab drN n17 ls h K:=by kernel_rfl
theorem e18:@f18=fun R HT A ls h K=>aE A (xc 18) ab drN n18 ls h K:=by kernel_rfl
theorem e26:@f26=fun R HT A ls h K=>aE A (xc 26) ab drN n26 ls h K:=by kernel_rfl
theorem e30:@f30=fun R HT A ls h K=>aE A (xc 30) ab drN n30 ls h K:=by kernel_rfl
theorem e33:@f33=fun R HT A ls h K=>aE A (xc 33) ab drN n33 ls h K:=by kernel_rfl
theorem e35:@f35=fun R HT A ls h K=>aE A (xc 35) ab drN n35 ls h K:=by kernel_rfl
theorem e53:@f53=fun R HT A ls h K=>aE A (xc 53) ab drN n53 ls h K:=by kernel_rfl
theorem e59:@f59=fun R HT A ls h K=>aE A (xc 59) ab drN n59 ls h K:=by kernel_rfl
theorem e72:@f72=fun R HT A ls h K=>aE A (xc 72) ab drN n72 ls h K:=by kernel_rfl
theorem e75:@f75=fun R HT A ls h K=>aE A (xc 75) ab drN n75 ls h K:=by kernel_rfl
theorem e76:@f76=fun R HT A ls h K=>aE A (xc 76) ab drN n76 ls h K:=by kernel_rfl
theorem e100:@f100=fun R HT A ls h K=>aE A (xc 100) ab drN n100 ls h K:=by kernel_rfl
end Go.Am

/-
 THE FUNCTIONS OF THE PROGRAM ARE WHAT IS TOLD OF THEM,BY PROGRAM,part 4.
-/
set_option maxRecDepth 100000
namespace Go.Am
open Sx Go.Proofs
theorem e3:@f3=fun R HT A ls h K=>aE A (xc 3) ab drN n3 ls h K:=by kernel_rfl
theorem e5:@f5=fun R HT A ls h K=>aE A (xc 5) ab drN n5 ls h K:=by kernel_rfl
theorem e13:@f13=fun R HT A ls h K=>aE A (xc 13) ab drN n13 ls h K:=by kernel_rfl
theorem e19:@f19=fun R HT A ls h K=>aE A (xc 19) ab drN n19 ls h K:=by kernel_rfl
theorem e20:@f20=fun R HT A ls h K=>aE A (xc 20) ab drN n20 ls h K:=by kernel_rfl
theorem e21:@f21=fun R HT A ls h K=>aE A (xc 21) ab drN n21 ls h K:=by kernel_rfl
theorem e38:@f38=fun R HT A ls h K=>aE A (xc 38) ab drN n38 ls h K:=by kernel_rfl
theorem e41:@f41=fun R HT A ls h K=>aE A (xc 41) ab drN n41 ls h K:=by kernel_rfl
theorem e47:@f47=fun R HT A ls h K=>aE A (xc 47) ab drN n47 ls h K:=by kernel_rfl
theorem e50:@f50=fun R HT A ls h K=>aE A (xc 50) ab drN n50 ls h K:=by kernel_rfl
theorem e60:@f60=fun R HT A ls h K=>aE A (xc 60) ab drN n60 ls h K:=by kernel_rfl
theorem e68:@f68=fun R HT A ls h K=>aE A (xc 68) ab drN n68 ls h K:=by kernel_rfl
theorem e87:@f87=fun R HT A ls h K=>aE A (xc 87) ab drN n87 ls h K:=by kernel_rfl
theorem e97:@f97=fun R HT A ls h K=>aE A (xc 97) ab drN n97 ls h K:=by kernel_rfl
theorem e107:@f107=fun R HT A ls h K=>aE A (xc 107) ab drN n107 ls h K:=by kernel_rfl
end Go.Am

/-
 THE FUNCTIONS OF THE PROGRAM ARE WHAT IS TOLD OF THEM,BY PROGRAM,part 5.
-/
set_option maxRecDepth 100000
namespace Go.Am
open Sx Go.Proofs
theorem e7:@f7=fun R HT A ls h K=>aE A (xc 7) ab drN n7 ls h K:=by kernel_rfl
theorem e23:@f23=fun R HT A ls h K=>aE A (xc 23) ab drN n23 ls h K:=by kernel_rfl
theorem e24:@f24=fun R HT A ls h K=>aE A (xc 24) ab drN n24 ls h K:=by kernel_rfl
theorem e31:@f31=fun R HT A ls h K=>aE A (xc 31) ab drN n31 ls h K:=by kernel_rfl
theorem e34:@f34=fun R HT A ls h K=>aE A (xc 34) ab drN n34 ls h K:=by kernel_rfl
theorem e36:@f36=fun R HT A ls h K=>aE A (xc 36) ab drN n36 ls h K:=by kernel_rfl
theorem e43:@f43=fun R HT A ls h K=>aE A (xc 43) ab drN n43 ls h K:=by kernel_rfl
theorem e44:@f44=fun R HT A ls h K=>aE A (xc 44) ab drN n44 ls h K:=by kernel_rfl
theorem e46:@f46=fun R HT A ls h K=>aE A (xc 46) ab drN n46 ls h K:=by kernel_rfl
theorem e52:@f52=fun R HT A ls h K=>aE A (xc 52) ab drN n52 ls h K:=by kernel_rfl
theorem e54:@f54=fun R HT A ls h K=>aE A (xc 54) ab drN n54 ls h K:=by kernel_rfl
theorem e56:@f56=fun R HT A ls h K=>aE A (xc 56) ab drN n56 ls h K:=by kernel_rfl
theorem e65:@f65=fun R HT A ls h K=>aE A (xc 65) ab drN n65 ls h K:=by kernel_rfl
theorem e69:@f69=fun R HT A ls h K=>aE A (xc 69) ab drN n69 ls h K:=by kernel_rfl
theorem e89:@f89=fun R HT A ls h K=>aE A (xc 89) ab drN n89 ls h K:=by kernel_rfl
theorem e101:@f101=fun R HT A ls h K=>aE A (xc 101) ab drN n101 ls h K:=by kernel_rfl
end Go.Am

/-
 THE FUNCTIONS OF THE PROGRAM ARE WHAT IS TOLD OF THEM,BY PROGRAM,part 6.
-/
set_option maxRecDepth 100000
namespace Go.Am
open Sx Go.Proofs
theorem e10:@f10=fun R HT A ls h K=>aE A (xc 10) ab drN n10 ls h K:=by kernel_rfl
theorem e11:@f11=fun R HT A ls h K=>aE A (xc 11) ab drN n11 ls h K:=by kernel_rfl
theorem e12:@f12=fun R HT A ls h K=>aE A (xc 12) ab drN n12 ls h K:=by kernel_rfl
theorem e22:@f22=fun R HT A ls h K=>aE A (xc 22) ab drN n22 ls h K:=by kernel_rfl
theorem e40:@f40=fun R HT A ls h K=>aE A (xc 40) ab drN n40 ls h K:=by kernel_rfl
theorem e49:@f49=fun R HT A ls h K=>aE A (xc 49) ab drN n49 ls h K:=by kernel_rfl
theorem e58:@f58=fun R HT A ls h K=>aE A (xc 58) ab drN n58 ls h K:=by kernel_rfl
theorem e64:@f64=fun R HT A ls h K=>aE A (xc 64) ab drN n64 ls h K:=by kernel_rfl
theorem e67:@f67=fun R HT A ls h K=>aE A (xc 67) ab drN n67 ls h K:=by kernel_rfl
theorem e70:@f70=fun R HT A ls h K=>aE A (xc 70) ab drN n70 ls h K:=by kernel_rfl
theorem e74:@f74=fun R HT A ls h K=>aE A (xc 74) ab drN n74 ls h K:=by kernel_rfl
theorem e85:@f85=fun R HT A ls h K=>aE A (xc 85) ab drN n85 ls h K:=by kernel_rfl
theorem e88:@f88=fun R HT A ls h K=>aE A (xc 88) ab drN n88 ls h K:=by kernel_rfl
theorem e108:@f108=fun R HT A ls h K=>aE A (xc 108) ab drN n108 ls h K:=by kernel_rfl
end Go.Am

/-
 THE FUNCTIONS OF THE PROGRAM ARE WHAT IS TOLD OF THEM,BY PROGRAM.
-/
set_option maxRecDepth 100000
namespace Go.Am
end Go.Am

/-
 WHAT THE PACKAGE-LEVEL VARIABLES HOLD,read off the row's list;a call as the row sees it.
-/
namespace Go.Am
namespace Sx
noncomputable def unL(P:Program)(un:TypeId→DataW Unit→Option (List Value)):List (Nat×TypeId)→List (DataW Unit)→Nat→Option (List Value)
 | [],[],_=>some []
 |(o,t) :: l,d :: ds,off=>match Nat.beq o off,un t d with
  |true,some v=>match Nat.beq v.length (P.cellsOf t),unL P un l ds (off+v.length)with
   |true,some vs=>some (v++vs)
   |_,_=>none
  |_,_=>none
 |_,_,_=>none
noncomputable def unD(P:Program):Nat→TypeId→DataW Unit→Option (List Value)
 |0,_,_=>none
 |fu+1,t,d=>match P.underlying t,d with
  |some .bool,.lit (.bool b)=>some [.bool b]
  |some (.int k),.lit (.int _ n)=>some [.int k n]
  |some (.struct fs),.agg ds=>match unL P (unD P fu) (fs.toList.map fun f=>(f.offset,f.type)) ds 0 with
   |some vs=>if vs.length=P.cellsOf t then some vs else none
   |none=>none
  |some (.array n e),.agg ds=>match unL P (unD P fu) ((List.range n).map fun i=>(i*P.cellsOf e,e)) ds 0 with
   |some vs=>if vs.length=P.cellsOf t then some vs else none
   |none=>none
  |_,_=>none
section
variable {P:Program} {w:World} {base:Nat} {spare:Nat→Bool} {held:Bool} {enc:TypeId×Value→Unit}
theorem seg_ok{un:TypeId→DataW Unit→Option (List Value)}{fuel:Nat}(hun:∀t d vs,un t d=some vs→∀cs p,DataW.trod enc P w base spare held fuel t cs=some (d,p)→cs=vs){α:Type}(o:α→Nat)(ty:α→TypeId)(cs:List Value) :
  ∀(l:List α) (xs:List (DataW Unit×List MemPlace)) (off:Nat) (vs:List Value),l.mapM (fun a=>DataW.trod enc P w base spare held fuel (ty a) ((cs.drop (o a)).take (P.cellsOf (ty a))))=some xs→
   unL P un (l.map fun a=>(o a,ty a)) (xs.map (·.1)) off=some vs→(cs.drop off).take vs.length=vs
 | [],xs,off,vs,h1,h2=>by
  simp only[List.mapM_nil,Option.pure_def,Option.some.injEq]at h1
  subst h1
  simp only[List.map_nil,unL,Option.some.injEq]at h2
  subst h2
  simp
 |a :: l,xs,off,vs,h1,h2=>by
  rw[List.mapM_cons]at h1
  obtain⟨x,h3,h1⟩:=Option.bind_eq_some_iff.1 h1
  obtain⟨ys,h4,h1⟩:=Option.bind_eq_some_iff.1 h1
  cases h1
  simp only[List.map_cons,unL]at h2
  split at h2
  ·rename_i v e1 e2
   split at h2
   ·rename_i ws e3 e4
    cases h2
    have e1:=Nat.eq_of_beq_eq_true e1
    have e3:=Nat.eq_of_beq_eq_true e3
    have hv:=hun _ _ _ e2 _ _ h3
    have ih:=seg_ok hun o ty cs l ys _ _ h4 e4
    rw[e1,←e3]at hv
    rw[List.length_append,List.take_add,hv,List.drop_drop]
    rw[ih]
   ·cases h2
  ·cases h2
theorem unD_ok:∀(fu:Nat) (t:TypeId) (d:DataW Unit) (vs:List Value),unD P fu t d=some vs→∀(fuel:Nat) (cs:List Value) (p:List MemPlace),DataW.trod enc P w base spare held fuel t cs=some (d,p)→cs=vs
 |0,_,_,_,h=>by cases h
 |fu+1,t,d,vs,h=>by
  intro fuel cs p hp
  cases fuel with
  |zero=>simp[DataW.trod]at hp
  |succ fuel=>
   have hun:∀t d vs,unD P fu t d=some vs→∀cs p,DataW.trod enc P w base spare held fuel t cs=some (d,p)→cs=vs:=fun t d vs h cs p=>unD_ok fu t d vs h fuel cs p
   simp only[unD]at h
   split at h
   ·rename_i b e
    cases h
    simp only[DataW.trod,e]at hp
    split at hp<;>simp_all
   ·rename_i k k' n e
    cases h
    simp only[DataW.trod,e]at hp
    split at hp<;>first|cases hp|skip
    all_goals first
     |(split at hp<;>first|(rename_i hh;simp at hp;obtain⟨⟨rfl,rfl⟩,_⟩:=hp;rw[hh.1];done)|(cases hp;done))
     |simp_all
   ·rename_i fs ds e
    split at h
    ·rename_i ws e2
     split at h
     ·rename_i e3
      cases h
      simp only[DataW.trod,e]at hp
      split at hp
      ·rename_i e4
       obtain⟨xs,h5,h6⟩:=Option.map_eq_some_iff.1 hp
       simp only[Prod.mk.injEq,DataW.agg.injEq]at h6
       rw[←h6.1]at e2
       have:=seg_ok hun (fun f:Field=>f.offset) (fun f:Field=>f.type) cs _ xs 0 _ h5 e2
       rw[List.drop_zero,List.take_of_length_le (by omega)]at this
       exact this
      ·cases hp
     ·cases h
    ·cases h
   ·rename_i n el ds e
    split at h
    ·rename_i ws e2
     split at h
     ·rename_i e3
      cases h
      simp only[DataW.trod,e]at hp
      split at hp
      ·rename_i e4
       obtain⟨xs,h5,h6⟩:=Option.map_eq_some_iff.1 hp
       simp only[Prod.mk.injEq,DataW.agg.injEq]at h6
       rw[←h6.1]at e2
       have:=seg_ok hun (fun i=>i*P.cellsOf el) (fun _=>el) cs _ xs 0 _ h5 e2
       rw[List.drop_zero,List.take_of_length_le (by omega)]at this
       exact this
      ·cases hp
     ·cases h
    ·cases h
   ·cases h
end
section
variable [Val]
end
end Sx
end Go.Am

/-
 FROM A CALL TO THE ROW: arguments without addresses.
-/
namespace Go.Am
namespace Sx
open Go.ChangeShapes Go.WideShapes Go.ChangeAt Go.WideMaps Go.WideElems Go.RowKit
theorem kept_of{W W':World}(h1:W'.os=W.os)(h2:W'.output=W.output)(h3:∀b,b<W.heap.size→W'.heap[b]? = W.heap[b]?)(may:MemPlace→Prop):W.keptBut W' may:=by
 refine⟨h1,h2,fun i hi=>?_⟩
 rw[h3 i hi]
 exact(World.keptBut_refl W may).2.2 i hi
theorem lM{P:Program}{w:World}{laid:List (String×DataW Unit)}{ps:List MemPlace}(h:DataW.LaidVars P w laid ps):∀n d,(n,d)∈laid→∀g t fu vs,P.globalNamed n=some g→(P.globals[g]?).map (·.type)=some t→unD P fu t d=some vs→
  ∃c e fr,w.heap[g]? = some (.cells c e fr)∧c.toList=vs:=by
 induction laid generalizing ps with
 |nil=>intro n d h;cases h
 |cons x l ih=>
  obtain⟨n0,d0⟩:=x
  obtain⟨g0,t0,cs,fuel,p,q,a1,a2,a3,a4,a5,a6⟩:=h
  intro n d hm g t fu vs b1 b2 b3
  rcases List.mem_cons.1 hm with e|hm
  ·cases e
   rw[a1]at b1;cases b1
   rw[a2]at b2;cases b2
   have hc:=unD_ok fu _ _ vs b3 _ _ _ a4
   unfold World.var? at a3
   rw[a1]at a3
   simp only[Option.bind_some]at a3
   split at a3
   ·rename_i c ty fr e
    cases a3
    exact⟨_,_,_,e,hc⟩
   ·cases a3
  ·exact ih a5 n d hm g t fu vs b1 b2 b3
section
variable [Val] [Kno]
theorem ans_yes{t:Bool}(h:ans t=yes):t=true:=by cases t;cases h;rfl
end
end Sx
end Go.Am

/-
 THE ALGEBRA OF PROPOSITIONS: what must hold,that code does as it is told to do.
-/
namespace Go.Am
namespace Sx
section
variable [Val] [Kno]
def condP(b:Bool)(x y:Prop):Prop:=(b=true→x)∧(b=false→y)
def ariP(op:BinOp)(k:IntKind)(a b:Int)(K:Int→Prop):Prop:=
 match op with
 | .add=>K (k.wrap (a+b))
 | .sub=>K (k.wrap (a - b))
 | .mul=>K (k.wrap (a*b))
 | .quo=>b≠0∧K (k.wrap (a.tdiv b))
 | .rem=>b≠0∧K (a.tmod b)
 | .and=>(b=1∧K (a%2))∨(b≠1∧∃n,pf .and k a b n∧K n)
 |op=>∃n,pf op k a b n∧K n
def cmpP(op:BinOp)(a b:Int)(K:Bool→Prop):Prop:=
 match op with
 | .eql=>K (a==b)
 | .neq=>K (a != b)
 | .lss=>K (decide (a<b))
 | .leq=>K (decide (a≤b))
 | .gtr=>K (decide (a > b))
 | .geq=>K (decide (a ≥ b))
 |_=>False
def optP{α:Type}(o:Option α)(K:α→Prop):Prop:=∃x,o=some x∧K x
def unIP(ls:List Lf)(K:Int→List Lf→Prop):Prop:=match ls with | .i n :: r=>K n r|_=>False
def unBP(ls:List Lf)(K:Bool→List Lf→Prop):Prop:=match ls with | .b n :: r=>K n r|_=>False
def unVP(ls:List Lf)(K:Value→List Lf→Prop):Prop:=match ls with | .v n :: r=>K n r|_=>False
def un0P(ls:List Lf)(K:Prop):Prop:=match ls with | []=>K|_=>False
def ucIP(k:IntKind)(ls:List Value)(K:Int→List Value→Prop):Prop:=match ls with | .int k' n :: r=>k=k'∧K n r|_=>False
def ucBP(ls:List Value)(K:Bool→List Value→Prop):Prop:=match ls with | .bool n :: r=>K n r|_=>False
def ucVP(ls:List Value)(K:Value→List Value→Prop):Prop:=match ls with|n :: r=>K n r|_=>False
def uc0P(ls:List Value)(K:Prop):Prop:=match ls with | []=>K|_=>False
noncomputable def getL(h:List HObj):bR:=fun i=>h[i]?
def peekP(f:Pk)(h:List HObj)(K:List Value→Prop):Prop:=∃cs,f.run (getL h)=some cs∧K cs
def heapP(f:Hp)(h:List HObj)(K:List Value→List HObj→Prop):Prop:=∃acts cs,f.run (getL h) h.length=some (acts,cs)∧K cs (eV h acts)
def callP(C:Cfg)(Sg:FuncId→Option Sig)(g:FuncId)(ls:List Lf)(h:List HObj)(K:List Lf→List HObj→Prop):Prop:=∃rs h',dg C Sg g ls h rs h'∧K rs h'
def callvP(C:Cfg)(v:Value)(args:List Value)(hs:List SK)(h:List HObj)(K:List Lf→List HObj→Prop):Prop:=∃rs h',CallV C v args hs h rs h'∧K rs h'
noncomputable def itP(F:(List Lf→List HObj→Prop)→List Lf→List HObj→Prop)(n:Nat):List Lf→List HObj→Prop:=
 match n with
 |0=>fun _ _=>False
 |n+1=>F (itP F n)
def loopP(F:(List Lf→List HObj→Prop)→List Lf→List HObj→Prop)(ls:List Lf)(h:List HObj):Prop:=∃n,itP F n ls h
def rfunP(C:Cfg)(T:Nat→Site)(κ:Nat)(v:Value)(vals:List Value)(h:List HObj)(K:Option Code→List HObj→Prop):Prop:=
 ∃g first cap r H1 lp,v = .func (.func g) first cap∧
  fS C g (first.toList++[.func (.yield h.length) #[] #[]]++cap.toList) (h++[.loop (lpOf (T κ) κ vals)]) r H1∧
  dw H1 h.length=some lp∧lp.state≠.busy∧K lp.pending (H1.set h.length (.loop { lp with state:=.exhausted }))
def pendP(pd:Option Code)(kn kr:Prop)(ks:List (Nat×Prop)):Prop:=
 match pd with
 |none=>kn
 |some .ret=>kr
 |some (.exit id)=>∃x,(id,x)∈ks∧x
 |_=>False
def lp1P(l:Nat)(h:List HObj)(K:List HObj→Prop):Prop:=∃lp,dw h l=some lp∧lp.state = .ready∧K (h.set l (.loop { lp with state:=.busy }))
def lp2P(l:Nat)(j:Option Code)(h:List HObj)(K:List HObj→Prop):Prop:=∃lp,dw h l=some lp∧K (h.set l (.loop { lp with state:=if j.isNone then .ready else .done,pending:=j }))
noncomputable def PA(C:Cfg)(Sg:FuncId→Option Sig)(T:Nat→Site):Alg Prop (List HObj) where
 fail:=False
 cond:=condP
 ari:=ariP
 shf:=fun op k a k' b K=>∃n,ShRun op k a k' b n∧K n
 cmp:=cmpP
 eqs:=fun l K=>K (cD l)
 conv:=fun k a K=>K (k.wrap a)
 sel:=fun t a b K=>K (if t then a else b)
 opt:=optP
 chk:=fun v K=>cN v=true∧K
 unI:=unIP
 unB:=unBP
 unV:=unVP
 un0:=un0P
 ucI:=ucIP
 ucB:=ucBP
 ucV:=ucVP
 uc0:=uc0P
 peek:=peekP
 heap:=heapP
 new:=fun o h K=>K h.length (h++[o])
 call:=callP C Sg
 callv:=callvP C
 join:=fun b m=>m b
 loop:=loopP
 rfun:=rfunP C T
 pend:=pendP
 lp1:=lp1P
 lp2:=lp2P
theorem ew(C:Cfg)(Sg:FuncId→Option Sig)(T:Nat→Site):AlgOk (PA C Sg T) C Sg T id id where
 fail:=fun h=>h
 cond:=by
  intro b x y h
  cases b
  ·exact .inr ⟨rfl,h.2 rfl⟩
  ·exact .inl ⟨rfl,h.1 rfl⟩
 ari:=by
  intro op k a b K h
  have h:ariP op k a b K:=h
  cases op<;>simp only[ariP]at h
  ·exact⟨_,fun P t w=>by simp[binOp,Op.intArith],h⟩
  ·exact⟨_,fun P t w=>by simp[binOp,Op.intArith],h⟩
  ·exact⟨_,fun P t w=>by simp[binOp,Op.intArith],h⟩
  ·obtain⟨hb,h⟩:=h
   exact⟨_,fun P t w=>by simp[binOp,Op.intDiv,hb],h⟩
  ·obtain⟨hb,h⟩:=h
   exact⟨_,fun P t w=>by simp[binOp,Op.intDiv,hb],h⟩
  ·rcases h with⟨rfl,h'⟩|⟨_,n,h1,h2⟩
   ·exact⟨_,kN rfl,h'⟩
   ·exact⟨n,h1,h2⟩
  all_goals exact h
 shf:=fun op k a k' b K h=>h
 cmp:=by
  intro op a b K h
  have h:cmpP op a b K:=h
  cases op<;>simp only[cmpP]at h<;>exact⟨_,rfl,h⟩
 eqs:=fun l K h=>h
 conv:=fun k a K h=>h
 sel:=fun t a b K h=>h
 opt:=fun o K h=>h
 chk:=fun v K h=>h
 unI:=by
  intro ls K h
  match ls,h with
  | .i n :: r,h=>exact⟨n,r,rfl,h⟩
 unB:=by
  intro ls K h
  match ls,h with
  | .b n :: r,h=>exact⟨n,r,rfl,h⟩
 unV:=by
  intro ls K h
  match ls,h with
  | .v n :: r,h=>exact⟨n,r,rfl,h⟩
 un0:=by
  intro ls K h
  match ls,h with
  | [],h=>exact⟨rfl,h⟩
 ucI:=by
  intro k ls K h
  match ls,h with
  | .int k' n :: r,h=>
   obtain⟨rfl,h⟩ : k=k'∧K n r:=h
   exact⟨n,r,rfl,h⟩
 ucB:=by
  intro ls K h
  match ls,h with
  | .bool n :: r,h=>exact⟨n,r,rfl,h⟩
 ucV:=by
  intro ls K h
  match ls,h with
  |n :: r,h=>exact⟨n,r,rfl,h⟩
 uc0:=by
  intro ls K h
  match ls,h with
  | [],h=>exact⟨rfl,h⟩
 peek:=fun f h K hk=>hk
 heap:=by
  intro f h K hk
  obtain⟨acts,cs,h1,h2⟩:=hk
  exact⟨acts,cs,_,h1,rfl,h2⟩
 new:=fun o h K hk=>⟨_,rfl,hk⟩
 call:=fun g ls h K hk=>hk
 callv:=fun v args hs h K hk=>hk
 join:=fun b m h=>h
 loop:=by
  intro F ls h hk
  obtain⟨n,hk⟩:=hk
  exact⟨itP F,fun ls h=>(id:False→False),fun n ls h=>rfl,n,hk⟩
 rfun:=by
  intro κ v vals h K hk
  obtain⟨g,first,cap,r,H1,lp,h1,h2,h3,h4,h5⟩:=hk
  exact⟨g,first,cap,r,H1,lp,_,h1,h2,h3,h4,rfl,h5⟩
 pend:=by
  intro pd kn kr ks h
  have h:pendP pd kn kr ks:=h
  unfold pendP at h
  split at h
  ·exact .inl ⟨rfl,h⟩
  ·exact .inr (.inl ⟨rfl,h⟩)
  ·obtain⟨x,h1,h2⟩:=h
   exact .inr (.inr ⟨_,x,rfl,h1,h2⟩)
  ·exact h.elim
 lp1:=by
  intro l h K hk
  obtain⟨lp,h1,h2,h3⟩:=hk
  exact⟨lp,_,h1,h2,rfl,h3⟩
 lp2:=by
  intro l j h K hk
  obtain⟨lp,h1,h2⟩:=hk
  exact⟨lp,_,h1,rfl,h2⟩
theorem SL.plain_scalar{l:SL}{k:LK}(h:l.is k=true)(hk:k.plain=true):scalar l.val=true:=by
 cases l<;>cases k<;>first|(cases hk;done)|(cases h;done)|rfl
theorem iP:∀ {cs:List SL} {ks:List LK},aO cs ks=true→ks.all LK.plain=true→(cs.map SL.val).all scalar=true
 | [],[],_,_=>rfl
 |c :: cs,k :: ks,h,hk=>by
  simp only[aO,Bool.and_eq_true]at h
  simp only[List.all_cons,Bool.and_eq_true]at hk
  simp only[List.map_cons,List.all_cons,Bool.and_eq_true]
  exact⟨SL.plain_scalar h.1 hk.1,iP h.2 hk.2⟩
 | [],_ :: _,h,_=>by cases h
 |_ :: _,[],h,_=>by cases h
theorem S0.plain_flat1{x:S0}{k:SK}(h:x.is k=true)(hk:k.plain=true):dY x.val=true:=by
 cases x with
 |leaf l=>
  cases k with
  |leaf k=>
   have:=SL.plain_scalar h hk
   show dY l.val=true
   cases hv:l.val<;>rw[hv]at this<;>first|exact this|cases this
  |agg _=>cases h
 |agg cs=>
  cases k with
  |leaf k=>cases h
  |agg ks=>exact iP h hk
theorem gP{v:Value}(h:dY v=true):flat v=true:=by
 cases v<;>first|exact h|cases h
theorem gg:∀ {xs:List S0} {sks:List SK},bX xs sks=true→sks.all SK.plain=true→(ao xs).all dY=true
 | [],[],_,_=>rfl
 |x :: xs,k :: ks,h,hk=>by
  simp only[bX,Bool.and_eq_true]at h
  simp only[List.all_cons,Bool.and_eq_true]at hk
  simp only[ao,List.map_cons,List.all_cons,Bool.and_eq_true]
  exact⟨S0.plain_flat1 h.1 hk.1,gg h.2 hk.2⟩
 | [],_ :: _,h,_=>by cases h
 |_ :: _,[],h,_=>by cases h
theorem rl{xs:List S0}{sks:List SK}(h:bX xs sks=true)(hk:sks.all SK.plain=true):(ao xs).all flat=true:=by
 have:=gg h hk
 rw[List.all_eq_true]at this ⊢
 exact fun v hv=>gP (this v hv)
theorem rL{vs:List Value}(h:vs.all dY=true):flat (eq vs)=true:=by
 match vs,h with
 | [],_=>rfl
 | [v],h=>
  simp only[List.all_cons,List.all_nil,Bool.and_true]at h
  exact gP h
 |a :: b :: l,h=>
  show flat (.tuple (a :: b :: l).toArray)=true
  simp only[flat,Bool.and_eq_true]
  exact⟨by simp,h⟩
end
@[reducible] def KnoC (C:Cfg) (N:FuncId→Option Nat) [Val]:Kno:=⟨fun f args r=>∀H,em C f args H r H,fun f args H r H'=>N f=none∧em C f args H r H'⟩
section
variable [Val]
def Ct(C:Cfg)(N:FuncId→Option Nat)(Sg:FuncId→Option Sig)(g:FuncId)(ls rs:List Lf):Prop:=let _:Kno:=KnoC C N;∀H,dg C Sg g ls H rs H
theorem pc{C:Cfg}{N:FuncId→Option Nat}(hm:C.P.follows .mixedOrders=true){f:FuncId}{args:List Value}{H:List HObj}{r:Value}{H':List HObj}(h:let _:Kno:=KnoC C N;fS C f args H r H'):em C f args H r H':=
 @uCall_ok _ _ (KnoC C N) hm (fun _ _ _ h=>h) (fun _ _ _ _ _ h=>h.2) _ _ _ _ _ h
theorem ct_of{C:Cfg}{N:FuncId→Option Nat}{Sg:FuncId→Option Sig}(hm:C.P.follows .mixedOrders=true)(hG:∀g vs,C.G g=some vs→vs.all flat=true){g:FuncId}{sg:Sig}(hs:Sg g=some sg)(hp:sg.plain=true){ls rs:List Lf}{H':List HObj}
  (h:let _:Kno:=KnoC C N;dg C Sg g ls [] rs H'):Ct C N Sg g ls rs:=by
 let _:Kno:=KnoC C N
 obtain⟨sg',xs,ys,c1,c2,c3,c4⟩:=h
 rw[hs]at c1
 cases c1
 simp only[Sig.plain,Bool.and_eq_true]at hp
 have ha:=rl c2.1 hp.1
 have hr:=rL (gg c3.1 hp.2)
 intro H
 exact⟨sg,xs,ys,hs,c2,c3,⟨0,.inl ⟨fun H=>frame_ok hG (pc hm c4) ha hr H,rfl⟩⟩⟩
end
section
variable [Val] [Kno]
theorem cv{n:Int}(h1:-9223372036854775808≤n)(h2:n≤9223372036854775807):IntKind.wrap .i64 n=n:=by
 simp only[IntKind.wrap,IntKind.bits,IntKind.signed,Bool.true_and,ge_iff_le,decide_eq_true_eq]
 split<;>omega
theorem nL{n:Int}(h1:0≤n)(h2:n≤255):IntKind.wrap .u8 n=n:=by
 simp only[IntKind.wrap,IntKind.bits,IntKind.signed,Bool.false_and,Bool.false_eq_true,if_false]
 omega
end
end Sx
end Go.Am

/-
 CALLS THAT ONLY READ: slices under other names of their blocks;what a run over these blocks alone answers.
-/
namespace Go.Am
namespace Sx
section
variable [Val]
end
end Sx
end Go.Am

/-
 RUNS IN THE DIRECT STYLE: what the texts by program use,and what makes a table of runs true.
-/
set_option maxRecDepth 100000
namespace Go.Am
open Sx
abbrev FB:=List Lf→HTr→(List Lf→HTr→RT)→RT
noncomputable def nf:FB:=fun _ _ _=>none
noncomputable def tell(rs:List Lf)(_:HTr):RT:=nm rs fun rs=>some rs
noncomputable def memo(g:FB):FB:=fun ls h K=>nm ls fun ls=>@Option.rec _ (fun _=>RT) none (fun rs=>K rs h) (g ls .empty tell)
noncomputable def fB{R:Type}(b:Bool)(k:Bool→R):R:=Bool.rec (k false) (k true) b
noncomputable def flatI(v:Value):Bool:=match v with
 | .int _ _=>true
 | .bool _=>true
 |_=>false
noncomputable def allR(c:Tr Value)(n:Nat):Bool:=@Nat.rec (fun _=>Bool) true (fun i ih=>@Bool.rec (fun _=>Bool) false ih (flatI ((bw i).get nilV c))) n
noncomputable def ext(h:HTr)(d:RT)(ls:List Lf):HTr→(List Lf→HTr→RT)→RT:=
 @List.rec Lf (fun _=>HTr→(List Lf→HTr→RT)→RT) (fun h0 k=>k [] h0) (fun x _ ih h0 k=>match x with
  | .i n=>fI n fun n=>ih h0 fun l h1=>k (.i n :: l) h1
  | .b t=>fB t fun t=>ih h0 fun l h1=>k (.b t :: l) h1
  | .v v=>match v with
   | .slice (some a) len cx=>match h.at a.block with
    |some (.t n e _ c)=>match tagB a.spot e,allR c n with
     |true,true=>iE h0 (.t n e false c) fun h1=>fN a.off fun o=>fN len fun len=>fN cx fun cx=>ih h1 fun l h2=>k (.v (.slice (some ⟨h0.n,o,tag e⟩) len cx) :: l) h2
     |_,_=>d
    |_=>d
   |v=>match flat v with
    |true=>ih h0 fun l h1=>k (.v v :: l) h1
    |false=>d) ls
noncomputable def bb(ls:List Lf)(X:RT):RT:=@Bool.rec (fun _=>RT) none X (cU ls)
theorem fx{K K':List Lf→HTr→RT}(h:∀rs h,K rs h=K' rs h):K=K':=funext fun rs=>funext fun x=>h rs x
noncomputable abbrev cB(x y:RT)(b:Bool):RT:=@Bool.rec (fun _=>RT) x y b
theorem c2{A B Z:Sort _}{f g:A→B→Z}(h:f=g)(x0:A)(x1:B):f x0 x1=g x0 x1:=by rw[h]
theorem c3{A B C Z:Sort _}{f g:A→B→C→Z}(h:f=g)(x0:A)(x1:B)(x2:C):f x0 x1 x2=g x0 x1 x2:=by rw[h]
theorem c4{A B C D Z:Sort _}{f g:A→B→C→D→Z}(h:f=g)(x0:A)(x1:B)(x2:C)(x3:D):f x0 x1 x2 x3=g x0 x1 x2 x3:=by rw[h]
theorem c5{A B C D E Z:Sort _}{f g:A→B→C→D→E→Z}(h:f=g)(x0:A)(x1:B)(x2:C)(x3:D)(x4:E):f x0 x1 x2 x3 x4=g x0 x1 x2 x3 x4:=by rw[h]
theorem c6{A B C D E F Z:Sort _}{f g:A→B→C→D→E→F→Z}(h:f=g)(x0:A)(x1:B)(x2:C)(x3:D)(x4:E)(x5:F):f x0 x1 x2 x3 x4 x5=g x0 x1 x2 x3 x4 x5:=by rw[h]
theorem c7{A B C D E F G Z:Sort _}{f g:A→B→C→D→E→F→G→Z}(h:f=g)(x0:A)(x1:B)(x2:C)(x3:D)(x4:E)(x5:F)(x6:G):f x0 x1 x2 x3 x4 x5 x6=g x0 x1 x2 x3 x4 x5 x6:=by rw[h]
theorem c8{A B C D E F G H Z:Sort _}{f g:A→B→C→D→E→F→G→H→Z}(h:f=g)(x0:A)(x1:B)(x2:C)(x3:D)(x4:E)(x5:F)(x6:G)(x7:H):f x0 x1 x2 x3 x4 x5 x6 x7=g x0 x1 x2 x3 x4 x5 x6 x7:=by rw[h]
theorem c9{A B C D E F G H I Z:Sort _}{f g:A→B→C→D→E→F→G→H→I→Z}(h:f=g)(x0:A)(x1:B)(x2:C)(x3:D)(x4:E)(x5:F)(x6:G)(x7:H)(x8:I):f x0 x1 x2 x3 x4 x5 x6 x7 x8=g x0 x1 x2 x3 x4 x5 x6 x7 x8:=by rw[h]
noncomputable abbrev rI(F:Int→List Lf→RT)(ls:List Lf):RT:=@List.rec Lf (fun _=>RT) none (fun x l _=>@Lf.rec (fun _=>RT) (fun a=>F a l) (fun _=>none) (fun _=>none) x) ls
noncomputable abbrev rV(F:Value→List Lf→RT)(ls:List Lf):RT:=@List.rec Lf (fun _=>RT) none (fun x l _=>@Lf.rec (fun _=>RT) (fun _=>none) (fun _=>none) (fun a=>F a l) x) ls
noncomputable abbrev r0(X:RT)(ls:List Lf):RT:=@List.rec Lf (fun _=>RT) X (fun _ _ _=>none) ls
noncomputable def lookF(l:List (Nat×FB))(g:Nat)(d:FB):FB:=@List.rec _ (fun _=>FB) d (fun p _ ih=>@Bool.rec (fun _=>FB) ih p.2 (Nat.beq p.1 g)) l
noncomputable def tblF(l:List (Nat×FB))(c:aa):aa:=fun ck=>match ck with
 | .f g=>lookF l g (c (.f g))
 | .y κ vs i=>c (.y κ vs i)
section
variable {Sg:FuncId→Option Sig} {T:Nat→Site} {call:aa}
theorem af{t:Bool}{X Y X' Y':RT}(h1:X=X')(h2:Y=Y'):(BA Sg T call).cond t X Y = @Bool.rec (fun _=>RT) Y' X' t:=by subst h1 h2;rfl
theorem aj{a b:Int}{K K':Int→RT}(h:∀n,K n=K' n):(BA Sg T call).ari .add .i64 a b K=addK a b (fun c=>ai c K'):=by obtain rfl:K=K':=funext h;rfl
theorem cQ{a b:Int}{K K':Int→RT}(h:∀n,K n=K' n):(BA Sg T call).ari .add .u8 a b K=addK a b (fun c=>ek c K'):=by obtain rfl:K=K':=funext h;rfl
theorem aq{a b:Int}{K K':Int→RT}(h:∀n,K n=K' n):(BA Sg T call).ari .sub .i64 a b K=subK a b (fun c=>ai c K'):=by obtain rfl:K=K':=funext h;rfl
theorem aF{a b:Int}{K K':Int→RT}(h:∀n,K n=K' n):(BA Sg T call).ari .mul .i64 a b K=mulK a b (fun c=>ai c K'):=by obtain rfl:K=K':=funext h;rfl
theorem bt{a b:Int}{K K':Int→RT}(h:∀n,K n=K' n):(BA Sg T call).ari .quo .i64 a b K = @Bool.rec (fun _=>RT) (quoK a b (fun c=>ai c K')) none (isZ b):=by obtain rfl:K=K':=funext h;rfl
theorem cS{k:IntKind}{a b:Int}{K K':Int→RT}(h:∀n,K n=K' n):(BA Sg T call).ari .rem k a b K = @Bool.rec (fun _=>RT) (remK a b K') none (isZ b):=by obtain rfl:K=K':=funext h;rfl
theorem q_shf{op:BinOp}{k k':IntKind}{a b:Int}{K K':Int→RT}(h:∀n,K n=K' n):(BA Sg T call).shf op k a k' b K=shfB op k a k' b K':=by obtain rfl:K=K':=funext h;rfl
theorem bO{a b:Int}{K:Bool→RT}{X:RT}(h:K (eqZK a b)=X):(BA Sg T call).cmp .eql a b K=X:=h
theorem bh{a b:Int}{K:Bool→RT}{X:RT}(h:K (notK (eqZK a b))=X):(BA Sg T call).cmp .neq a b K=X:=h
theorem aP{a b:Int}{K:Bool→RT}{X:RT}(h:K (notK (leZ b a))=X):(BA Sg T call).cmp .lss a b K=X:=h
theorem pQ{a b:Int}{K:Bool→RT}{X:RT}(h:K (leZ a b)=X):(BA Sg T call).cmp .leq a b K=X:=h
theorem dR{a b:Int}{K:Bool→RT}{X:RT}(h:K (notK (leZ a b))=X):(BA Sg T call).cmp .gtr a b K=X:=h
theorem bZ{a b:Int}{K:Bool→RT}{X:RT}(h:K (leZ b a)=X):(BA Sg T call).cmp .geq a b K=X:=h
theorem eT{l:List (Lf×Lf)}{K:Bool→RT}{X:RT}(h:K (eqsV l)=X):(BA Sg T call).eqs l K=X:=h
theorem cq{a:Int}{K K':Int→RT}(h:∀n,K n=K' n):(BA Sg T call).conv .i64 a K=ai a K':=by obtain rfl:K=K':=funext h;rfl
theorem nq{a:Int}{K K':Int→RT}(h:∀n,K n=K' n):(BA Sg T call).conv .u8 a K=ek a K':=by obtain rfl:K=K':=funext h;rfl
theorem pP{k:IntKind}{a:Int}{K K':Int→RT}(h:∀n,K n=K' n):(BA Sg T call).conv k a K=outK k a K':=by obtain rfl:K=K':=funext h;rfl
theorem q_sel{t:Bool}{a b:Int}{K K':Int→RT}(h:∀n,K n=K' n):(BA Sg T call).sel t a b K=selB t a b K':=by obtain rfl:K=K':=funext h;rfl
theorem am{α:Type}{o:Option α}{K K':α→RT}(h:∀n,K n=K' n):(BA Sg T call).opt o K=optB o K':=by obtain rfl:K=K':=funext h;rfl
theorem bp{v:Value}{K K':RT}(h:K=K'):(BA Sg T call).chk v K=chkB v K':=by subst h;rfl
theorem ae{ls:List Lf}{K K':Int→List Lf→RT}(h:∀n r,K n r=K' n r):(BA Sg T call).unI ls K=unIB ls K':=by obtain rfl:K=K':=funext fun n=>funext fun r=>h n r;rfl
theorem bj{ls:List Lf}{K K':Bool→List Lf→RT}(h:∀n r,K n r=K' n r):(BA Sg T call).unB ls K=unBB ls K':=by obtain rfl:K=K':=funext fun n=>funext fun r=>h n r;rfl
theorem iH{ls:List Lf}{K K':Value→List Lf→RT}(h:∀n r,K n r=K' n r):(BA Sg T call).unV ls K=unVB ls K':=by obtain rfl:K=K':=funext fun n=>funext fun r=>h n r;rfl
theorem ah{ls:List Lf}{K K':RT}(h:K=K'):(BA Sg T call).un0 ls K=un0B ls K':=by subst h;rfl
theorem bi{a:Int}{r:List Lf}{K:Int→List Lf→RT}{X:RT}(h:K a r=X):(BA Sg T call).unI (.i a :: r) K=X:=h
theorem oR{a:Bool}{r:List Lf}{K:Bool→List Lf→RT}{X:RT}(h:K a r=X):(BA Sg T call).unB (.b a :: r) K=X:=h
theorem bP{a:Value}{r:List Lf}{K:Value→List Lf→RT}{X:RT}(h:K a r=X):(BA Sg T call).unV (.v a :: r) K=X:=h
theorem aQ{K X:RT}(h:K=X):(BA Sg T call).un0 [] K=X:=h
theorem q_rI{ls:List Lf}{K K':Int→List Lf→RT}(h:∀n r,K n r=K' n r):(BA Sg T call).unI ls K=rI K' ls:=by
 obtain rfl:K=K':=funext fun n=>funext fun r=>h n r
 match ls with
 | []=>rfl
 | .i _ :: _=>rfl
 | .b _ :: _=>rfl
 | .v _ :: _=>rfl
theorem q_rV{ls:List Lf}{K K':Value→List Lf→RT}(h:∀n r,K n r=K' n r):(BA Sg T call).unV ls K=rV K' ls:=by
 obtain rfl:K=K':=funext fun n=>funext fun r=>h n r
 match ls with
 | []=>rfl
 | .i _ :: _=>rfl
 | .b _ :: _=>rfl
 | .v _ :: _=>rfl
theorem q_r0{ls:List Lf}{K K':RT}(h:K=K'):(BA Sg T call).un0 ls K=r0 K' ls:=by
 subst h
 match ls with
 | []=>rfl
 |_ :: _=>rfl
theorem ak{k:IntKind}{ls:List Value}{K K':Int→List Value→RT}(h:∀n r,K n r=K' n r):(BA Sg T call).ucI k ls K=ucIB k ls K':=by obtain rfl:K=K':=funext fun n=>funext fun r=>h n r;rfl
theorem q_ucB{ls:List Value}{K K':Bool→List Value→RT}(h:∀n r,K n r=K' n r):(BA Sg T call).ucB ls K=ucBB ls K':=by obtain rfl:K=K':=funext fun n=>funext fun r=>h n r;rfl
theorem dA{ls:List Value}{K K':Value→List Value→RT}(h:∀n r,K n r=K' n r):(BA Sg T call).ucV ls K=ucVB ls K':=by obtain rfl:K=K':=funext fun n=>funext fun r=>h n r;rfl
theorem az{ls:List Value}{K K':RT}(h:K=K'):(BA Sg T call).uc0 ls K=uc0B ls K':=by subst h;rfl
theorem q_lg{C:Cfg}{n:Nat}{p:Value}{h:HTr}{K K':List Value→RT}(hK:∀l,K l=K' l):(BA Sg T call).peek (.lg C n p) h K=lgB C n p h K':=by obtain rfl:K=K':=funext hK;rfl
theorem q_peek{f:bR→Option (List Value)}{h:HTr}{K K':List Value→RT}(hK:∀l,K l=K' l):(BA Sg T call).peek (.fn f) h K=rM T (.fn f) h K':=by obtain rfl:K=K':=funext hK;rfl
theorem q_st{p:Value}{new:List Value}{h:HTr}{K K':List Value→HTr→RT}(hK:∀l h,K l h=K' l h):(BA Sg T call).heap (.st p new) h K=stB p new h K':=by obtain rfl:K=K':=funext fun l=>funext fun h=>hK l h;rfl
theorem q_ap{C:Cfg}{esz bytes:Nat}{s x:Value}{h:HTr}{K K':List Value→HTr→RT}(hK:∀l h,K l h=K' l h):(BA Sg T call).heap (.ap C esz bytes s x) h K=apB T C esz bytes s x h K':=by obtain rfl:K=K':=funext fun l=>funext fun h=>hK l h;rfl
theorem q_heap{f:bR→Nat→Option (List Act1×List Value)}{h:HTr}{K K':List Value→HTr→RT}(hK:∀l h,K l h=K' l h):(BA Sg T call).heap (.fn f) h K=pC T (.fn f) h K':=by obtain rfl:K=K':=funext fun l=>funext fun h=>hK l h;rfl
theorem cz{o:HObj}{h:HTr}{K K':Nat→HTr→RT}(hK:∀l h,K l h=K' l h):(BA Sg T call).new o h K=newB o h K':=by obtain rfl:K=K':=funext fun l=>funext fun h=>hK l h;rfl
theorem ay{g:FuncId}{ls:List Lf}{h:HTr}{K K':List Lf→HTr→RT}(hK:∀l h,K l h=K' l h):(BA Sg T call).call g ls h K=ba call g ls h K':=by obtain rfl:K=K':=funext fun l=>funext fun h=>hK l h;rfl
theorem cR{v:Value}{args:List Value}{hs:List SK}{h:HTr}{K K':List Lf→HTr→RT}(hK:∀l h,K l h=K' l h):(BA Sg T call).callv v args hs h K=cT Sg T call v args hs h K':=by obtain rfl:K=K':=funext fun l=>funext fun h=>hK l h;rfl
theorem q_rfun{κ:Nat}{v:Value}{args:List Value}{h:HTr}{K K':Option Code→HTr→RT}(hK:∀l h,K l h=K' l h):(BA Sg T call).rfun κ v args h K=pR Sg call κ v args h K':=by obtain rfl:K=K':=funext fun l=>funext fun h=>hK l h;rfl
theorem q_pend{p:Option Code}{X X' Y Y':RT}{l l':List (Nat×RT)}(h1:X=X')(h2:Y=Y')(h3:l=l'):(BA Sg T call).pend p X Y l=pendB p X' Y' l':=by subst h1 h2 h3;rfl
theorem q_lp1{l:Nat}{h:HTr}{K K':HTr→RT}(hK:∀h,K h=K' h):(BA Sg T call).lp1 l h K=lp1B l h K':=by obtain rfl:K=K':=funext hK;rfl
theorem q_lp2{l:Nat}{j:Option Code}{h:HTr}{K K':HTr→RT}(hK:∀h,K h=K' h):(BA Sg T call).lp2 l j h K=lp2B l j h K':=by obtain rfl:K=K':=funext hK;rfl
theorem aR{B B':List Lf→HTr→RT}{M M':(List Lf→HTr→RT)→RT}(h1:∀l h,B l h=B' l h)(h2:∀j,M j=M' j):(BA Sg T call).join B M=bo B' M':=by
 obtain rfl:B=B':=funext fun l=>funext fun h=>h1 l h
 obtain rfl:M=M':=funext h2
 rfl
theorem bg{F F':(List Lf→HTr→RT)→List Lf→HTr→RT}{ls:List Lf}{h:HTr}(hF:∀s l h,F s l h=F' s l h):(BA Sg T call).loop F ls h=bJ F' ls h:=by
 obtain rfl:F=F':=funext fun s=>funext fun l=>funext fun h=>hF s l h
 rfl
theorem dl{g:FuncId}{ls vs:List Lf}{h:HTr}{K:List Lf→HTr→RT}{X:RT}(hg:cU ls=cU vs)(hX:call (.f g) ls h K=X):(BA Sg T call).call g ls h K=bb vs X:=by
 show ba call g ls h K=_
 unfold ba bb
 rw[hg,hX]
 cases cU vs<;>rfl
theorem aL{g:FuncId}{ls:List Lf}{h:HTr}{K:List Lf→HTr→RT}{X:RT}(hg:cU ls=true)(hX:call (.f g) ls h K=X):(BA Sg T call).call g ls h K=X:=by
 show ba call g ls h K=_
 unfold ba
 rw[hg];exact hX
end
section
variable [Val] [Kno]
abbrev KN1:=Nat×List Lf×List Lf
def pg(C:Cfg)(Sg:FuncId→Option Sig)(T:Nat→Site)(k:Nat)(g:FB):Prop:=∀ls h K w,iO ls→g ls h K=some w→∃rs h',dg C Sg k ls (absH T (toL h)) rs (absH T (toL h'))∧K rs h'=some w
def AllK(C:Cfg)(Sg:FuncId→Option Sig)(l:List KN1):Prop:=∀p∈l,∀H,dg C Sg p.1 p.2.1 H p.2.2 H
theorem AllK.nil{C:Cfg}{Sg:FuncId→Option Sig}:AllK C Sg []:=fun _ h=>by cases h
theorem AllK.cons{C:Cfg}{Sg:FuncId→Option Sig}{f:Nat}{ls rs:List Lf}{l:List KN1}(h:∀H,dg C Sg f ls H rs H)(hl:AllK C Sg l):AllK C Sg ((f,ls,rs) :: l):=by
 intro p hp
 rcases List.mem_cons.1 hp with rfl|hp
 ·exact h
 ·exact hl p hp
theorem AllK.app{C:Cfg}{Sg:FuncId→Option Sig}{l m:List KN1}(h:AllK C Sg l)(hm:AllK C Sg m):AllK C Sg (l++m):=by
 intro p hp
 rcases List.mem_append.1 hp with hp|hp
 ·exact h p hp
 ·exact hm p hp
theorem qx{C:Cfg}{Sg:FuncId→Option Sig}{T:Nat→Site}{g:Nat}{d:FB}(hd:pg C Sg T g d):∀ {l:List (Nat×FB)},(∀p∈l,pg C Sg T p.1 p.2)→pg C Sg T g (lookF l g d)
 | [],_=>hd
 |p :: l,h=>by
  have e:lookF (p :: l) g d = @Bool.rec (fun _=>FB) (lookF l g d) p.2 (Nat.beq p.1 g):=rfl
  rw[e]
  cases hb:Nat.beq p.1 g with
  |true=>
   have:=Nat.eq_of_beq_eq_true hb
   subst this
   exact h p List.mem_cons_self
  |false=>exact qx hd (fun q hq=>h q (List.mem_cons_of_mem _ hq))
theorem al{C:Cfg}{Sg:FuncId→Option Sig}{T:Nat→Site}{c:aa}(hc:CallBOk C Sg T c){l:List (Nat×FB)}(h:∀p∈l,pg C Sg T p.1 p.2):CallBOk C Sg T (tblF l c):=
 ⟨fun g ls hh K w hls hk=>qx (fun ls h K w=>hc.f g ls h K w) h ls hh K w hls hk,fun κ vs l ls h K w st pd xs e hy hk=>hc.y κ vs l ls h K w st pd xs e hy hk⟩
def YOk(C:Cfg)(Sg:FuncId→Option Sig)(T:Nat→Site)(κ:Nat)(g:List Value→Nat→FB):Prop:=∀vs l ls h K w st pd xs,h.at l=some (.lp κ st pd vs)→Told ((T κ).params.map (·.2)) ls xs→g vs l ls h K=some w→
  ∃b h',hQ C l (ao xs) (absH T (toL h)) (.bool b) (absH T (toL h'))∧K [.b b] h'=some w
noncomputable def lookY(l:List (Nat×(List Value→Nat→FB)))(κ:Nat)(d:List Value→Nat→FB):List Value→Nat→FB:=@List.rec _ (fun _=>List Value→Nat→FB) d (fun p _ ih=>@Bool.rec (fun _=>List Value→Nat→FB) ih p.2 (Nat.beq p.1 κ)) l
theorem qy{C:Cfg}{Sg:FuncId→Option Sig}{T:Nat→Site}{g:Nat}{d:List Value→Nat→FB}(hd:YOk C Sg T g d):∀ {l:List (Nat×(List Value→Nat→FB))},(∀p∈l,YOk C Sg T p.1 p.2)→YOk C Sg T g (lookY l g d)
 | [],_=>hd
 |p :: l,h=>by
  have e:lookY (p :: l) g d = @Bool.rec (fun _=>List Value→Nat→FB) (lookY l g d) p.2 (Nat.beq p.1 g):=rfl
  rw[e]
  cases hb:Nat.beq p.1 g with
  |true=>
   have:=Nat.eq_of_beq_eq_true hb
   subst this
   exact h p List.mem_cons_self
  |false=>exact qy hd (fun q hq=>h q (List.mem_cons_of_mem _ hq))
theorem tell_eq:tell=fun rs _=>some rs:=by
 funext rs h
 exact dH rs _
theorem memo_ok{C:Cfg}{Sg:FuncId→Option Sig}{T:Nat→Site}(hpl:∀f sg ls rs H',Sg f=some sg→sg.plain=true→dg C Sg f ls [] rs H'→∀H,dg C Sg f ls H rs H)
  {k:Nat} {g:FB} {sg:Sig} (hg:pg C Sg T k g) (hs:Sg k=some sg) (hp:sg.plain=true):pg C Sg T k (memo g):=by
 intro ls h K w hls hk
 unfold memo at hk
 rw[dH,tell_eq]at hk
 cases e:g ls .empty (fun rs _=>some rs)with
 |none=>rw[e]at hk;cases hk
 |some rs=>
  rw[e]at hk
  obtain⟨rs',h',a1,a2⟩:=hg ls .empty _ rs hls e
  cases a2
  exact⟨rs,h,hpl k sg ls rs _ hs hp a1 _,hk⟩
end
end Go.Am

/-
 WHAT A ROUND OF EACH LOOP OVER AN ITERATOR DOES,BY PROGRAM.
-/
set_option maxRecDepth 100000
namespace Go.Am
open Sx Go.Proofs
section
variable {R HT:Type} (A:Alg R HT)
noncomputable def y96(vs:List Value)(lp:Nat)(ls:List Lf)(h:HT)(K:List Lf→HT→R):R:=A.ucV vs (fun J a0=>A.chk J ( A.uc0 a0 ( A.unI ls (fun n10 a1=>A.unI a1 (fun n12 a2=>A.unI a2 (fun n14 a3=>A.unI a3 (fun n16 a4=>A.un0 a4 ( A.lp1 lp h (fun O=>A.peek (.lg cc 1 J) O (fun a5=>A.ucV a5 (fun U a6=>A.chk U ( A.uc0 a6 ( A.new (.cells [(.int .i64 n10)] 1 true) O (fun a7 a8=>A.heap (.ap cc 1 8 U (.slice (some ⟨a7,0,(some 11)⟩) 1 2)) a8 (fun a9 b0=>A.ucV a9 (fun V b1=>A.chk V ( A.uc0 b1 ( A.heap (.st J [V]) b0 (fun c1 b2=>A.lp2 lp none b2 (fun c0=>K [(.b true)] c0))))))))))))))))))))
noncomputable def y336(vs:List Value)(lp:Nat)(ls:List Lf)(h:HT)(K:List Lf→HT→R):R:=A.ucV vs (fun a0 b0=>A.chk a0 ( A.ucV b0 (fun V b1=>A.chk V ( A.uc0 b1 ( A.unI ls (fun n12 b2=>A.unI b2 (fun n14 c0=>A.unI c0 (fun n16 c1=>A.unI c1 (fun n18 d0=>A.un0 d0 ( A.new (.cells [(.int .i64 (.ofNat 0)),(.int .i64 (.ofNat 0)),(.int .u8 (.ofNat 0))] 3 true) h (fun J d1=>A.heap (.st (.pointer (some ⟨J,0,none⟩)) [(.int .i64 n14),(.int .i64 n16),(.int .u8 n18)]) d1 (fun h5 d2=>A.lp1 lp d2 (fun O=>A.peek (.lg cc 3 a0) O (fun d3=>A.ucI .i64 d3 (fun n26 d4=>A.ucI .i64 d4 (fun n28 d5=>A.ucV d5 (fun a1 d6=>A.chk a1 ( A.uc0 d6 ( A.opt (fdP 1 (.pointer (some ⟨J,0,none⟩))) (fun a2=>A.chk a2 ( A.opt (fdP 0 a2) (fun a3=>A.chk a3 ( A.peek (.lg cc 1 a3) O (fun d7=>A.ucI .i64 d7 (fun n35 d8=>A.uc0 d8 ( A.opt (fdP 1 (.pointer (some ⟨J,0,none⟩))) (fun a4=>A.chk a4 ( A.opt (fdP 1 a4) (fun a5=>A.chk a5 ( A.peek (.lg cc 1 a5) O (fun d9=>A.ucI .u8 d9 (fun n40 e0=>A.uc0 e0 ( A.call 44 [(.i n26),(.i n28),(.v a1),(.i n35),(.i n40)] O (fun e1 U=>A.unI e1 (fun n44 e2=>A.unI e2 (fun n46 f0=>A.un0 f0 ( A.cmp .neq n44 (.ofNat 0) (fun f1=>A.join (fun f2 gl=>A.un0 f2 ( A.lp2 lp none gl (fun g0=>K [(.b true)] g0))) (fun a6=>A.cond f1 ( A.peek (.lg cc 1 V) U (fun g1=>A.ucV g1 (fun a7 g2=>A.chk a7 ( A.uc0 g2 ( A.opt (fdP 0 (.pointer (some ⟨J,0,none⟩))) (fun a8=>A.chk a8 ( A.peek (.lg cc 1 a8) U (fun g5=>A.ucI .i64 g5 (fun n58 g6=>A.uc0 g6 ( A.new (.cells [(.int .i64 n58),(.int .u8 n44)] 2 true) U (fun g7 g8=>A.heap (.ap cc 2 16 a7 (.slice (some ⟨g7,0,(some 12)⟩) 1 2)) g8 (fun g9 h0=>A.ucV g9 (fun a9 h1=>A.chk a9 ( A.uc0 h1 ( A.heap (.st V [a9]) h0 (fun h6 h2=>a6 [] h2)))))))))))))))) ( a6 [] U))))))))))))))))))))))))))))))))))))))))
noncomputable def y896(vs:List Value)(lp:Nat)(ls:List Lf)(h:HT)(K:List Lf→HT→R):R:=A.ucV vs (fun J a1=>A.chk J ( A.uc0 a1 ( A.unI ls (fun n10 a2=>A.unI a2 (fun n12 a3=>A.un0 a3 ( A.new (.cells [(.int .i64 (.ofNat 0)),(.int .u8 (.ofNat 0))] 2 true) h (fun U a4=>A.heap (.st (.pointer (some ⟨U,0,none⟩)) [(.int .i64 n10),(.int .u8 n12)]) a4 (fun d3 a5=>A.lp1 lp a5 (fun O=>A.peek (.lg cc 1 J) O (fun a6=>A.ucV a6 (fun V a7=>A.chk V ( A.uc0 a7 ( A.peek (.lg cc 2 (.pointer (some ⟨U,0,none⟩))) O (fun a8=>A.ucI .i64 a8 (fun n23 a9=>A.ucI .u8 a9 (fun n25 b0=>A.uc0 b0 ( A.new (.cells [(.int .i64 n23),(.int .u8 n25)] 2 true) O (fun b1 b2=>A.heap (.ap cc 2 16 V (.slice (some ⟨b1,0,(some 12)⟩) 1 2)) b2 (fun c0 c1=>A.ucV c0 (fun a0 d0=>A.chk a0 ( A.uc0 d0 ( A.heap (.st J [a0]) c1 (fun d4 d1=>A.lp2 lp none d1 (fun d2=>K [(.b true)] d2))))))))))))))))))))))))
end
theorem ey96:@y96=fun R HT A vs lp ls h K=>mO A (xc 0) ab drN (ac 96) vs lp ls h K:=by kernel_rfl
theorem ey336:@y336=fun R HT A vs lp ls h K=>mO A (xc 0) ab drN (ac 336) vs lp ls h K:=by kernel_rfl
theorem ey896:@y896=fun R HT A vs lp ls h K=>mO A (xc 0) ab drN (ac 896) vs lp ls h K:=by kernel_rfl
end Go.Am


/-
  PART 5 OF THE PROOF: Sx9c Sx10 Sx11 Sy1 Sy2 Sy3 Sy4 Sy5 Sy6 Sy7 Ge0 Ge1 Ge2 Ge3 Ge4 Ge5 Ge6 Gq Sx12 Sx13 Px1 Sx14 Bx1 Gh Tx1 Tx2 Tx3 (no conditions).
-/
import Derived.Test.YtnoemfdfghfkoaaGreatDoorCL4
import Derived.BigCall
import Derived.Calls
import Derived.LaidMore
import Derived.MakeChecks
import Derived.OpenShut
import Derived.ProofKit
import Derived.Shelf.Strings.Builder1
import Derived.Stop.Joined
import Derived.Test.YtnoemfdfghfkoaaGreatDoorProg
import Derived.Test.YtnoemfdfghfkoaaGreatDoorRows
import Derived.WalkKit
import GoSem.ClaimJoined
set_option linter.unusedSectionVars false
set_option linter.unusedSimpArgs false
set_option linter.unusedVariables false
set_option linter.constructorNameAsVariable false
set_option linter.defProp false
/-
 REGIONS THAT DRAW THEIR ORDER,third part: functions that have nothing to do with the heap.
-/
namespace Go.Am
namespace Sx
section
variable [Val] [Kno] {C:Cfg}
def Lo(v:Value):Prop:=match v with
 | .pointer (some p)=>p.spot=some 0
 |_=>True
theorem qD{v:Value}(h:plain v=true):Lo v:=by
 cases v<;>try trivial
 rename_i a
 cases a<;>first|trivial|(simp[plain,fl,scalar,fh]at h)
theorem clearV_lo{keys:List Nat}{v:Value}(h:Lo v):Lo (fj keys v):=by
 unfold fj
 repeat' split
 all_goals first|exact h|trivial
def LoS(as0:List Nat)(σ:St):Prop:=∀a∈as0,∀v,σ.tmps[a]? = some v→Lo v
noncomputable def ov(N:FuncId→Option Nat)(pts as0:List Nat)(o:Oper):Bool:=
 (match aw N pts o with
 |some .no=>true
 |some (.row _ _)=>true
 |some (.neu _)=>true
 |_=>false) &&
 match o.dst with
 |some d=>!as0.contains d||(Nat.beq (pts.getD d 0) (d+2)&&match o.op with
  | .alloc _=>true
  | .box _ _=>true
  |_=>false)
 |none=>true
noncomputable def neuC(N:FuncId→Option Nat)(pts as0:List Nat):Code→Bool
 | .skip | .label _ | .ret | .exit _=>true
 | .seq a b=>neuC N pts as0 a&&neuC N pts as0 b
 | .cond _ a b=>neuC N pts as0 a&&neuC N pts as0 b
 | .block _ b=>neuC N pts as0 b
 | .loop b=>neuC N pts as0 b
 | .scope b=>neuC N pts as0 b
 | .region _ ops _=>ops.toList.all (ov N pts as0)
 |_=>false
noncomputable def rdOp(N:FuncId→Option Nat)(pts:List Nat)(o:Oper):Bool:=match aw N pts o with
 |some .no=>true
 |some (.row _ _)=>true
 |some (.neu _)=>true
 |some .hr=>true
 |_=>false
noncomputable def rdC(N:FuncId→Option Nat)(pts:List Nat):Code→Bool
 | .skip | .label _ | .ret | .exit _=>true
 | .seq a b=>rdC N pts a&&rdC N pts b
 | .cond _ a b=>rdC N pts a&&rdC N pts b
 | .block _ b=>rdC N pts b
 | .loop b=>rdC N pts b
 | .scope b=>rdC N pts b
 | .region _ ops _=>ops.toList.all (rdOp N pts)
 |_=>false
noncomputable def ez(l:List ResultVar):List Nat:=l.filterMap fun r=>match r with
 | .cell a _=>some a
 | .tmp _=>none
noncomputable def neuF(N:FuncId→Option Nat)(C:Cfg)(f:FuncId)(n:Nat):Bool:=
 match C.P.funcs[f]? with
 |some fn=>match fn.body with
  |some b=>match Nat.beq (n%2) 0 with
   |true=>neuC N (C.pts f) (ez fn.results.toList) b&&(ez fn.results.toList).all fun a=>Nat.ble (n / 2) a
   |false=>C.opq f||rdC N (C.pts f) b
  |none=>false
 |none=>false
theorem ow{pts:List Nat}{d:Nat}{t:TypeId}{v:Value}{e:Eff}(hp:pts.getD d 0=d+2)(he:br C pts (some d) t v=some e):∃s vs,e = .lnew s vs:=by
 unfold br at he
 split at he
 ·cases he
 ·simp only at he
  split at he
  ·cases he
  ·exact⟨_,_,(Option.some.inj he).symm⟩
theorem qG{as0:List Nat}{σ τ:St}{dst:Option Tmp}{v:Value}(h:LoS as0 σ)(ht:τ.tmps=σ.tmps)(hv:(∀d,dst=some d→d∉as0)∨Lo v):LoS as0 (τ.put dst v):=by
 intro a ha x hx
 cases dst with
 |none=>exact h a ha x (by rw[←ht];exact hx)
 |some d=>
  simp only[St.put,List.getElem?_set,ht]at hx
  split at hx
  ·rename_i hd
   subst hd
   split at hx
   ·cases hx
    rcases hv with hv|hv
    ·exact absurd ha (hv _ rfl)
    ·exact hv
   ·cases hx
  ·exact h a ha x hx
theorem qQ{N:FuncId→Option Nat}{B:Below}(hN:NeuB N B){pts as0:List Nat}{ops:Array Oper}(hops:ops.toList.all (ov N pts as0)=true){i:Nat}{σ σ':St}(hl:LoS as0 σ)(h:ai C B pts ops i σ σ') :
  σ'.heap=σ.heap∧LoS as0 σ'∧∀H,ai C B pts ops i { σ with heap:=H } { σ' with heap:=H }:=by
 cases hi:ops[i]? with
 |none=>
  have:σ'=σ:=by simpa[ai,hi]using h
  subst this
  exact⟨rfl,hl,fun H=>by simp[ai,hi]⟩
 |some o=>
  have ho:ov N pts as0 o=true:=List.all_eq_true.1 hops o (by
   have:=Array.mem_of_getElem? hi
   simpa using this)
  unfold ov at ho
  rw[Bool.and_eq_true]at ho
  obtain⟨o1,o2⟩:=ho
  have hm:aw N pts o≠none:=by intro e;rw[e]at o1;cases o1
  obtain⟨e,rfl,te,le⟩:=eZ hN hi hm h
  have hh:e.hp=none:=by
   cases he:e.hp with
   |none=>rfl
   |some x=>
    have:=te.2 (by rw[he];simp)
    rw[this]at o1;cases o1
  refine⟨by rw[jO,hh];rfl,?_,fun H=>?_⟩
  ·by_cases hd:∀d,o.dst=some d→d∉as0
   ·unfold Ef.on
    exact qG hl rfl (.inl hd)
   · -- a local row is laid
    obtain⟨d,hd⟩:=Classical.not_forall.1 hd
    obtain⟨hdst,hd⟩:=Classical.not_imp.1 hd
    have hd:=Classical.not_not.1 hd
    rw[hdst]at o2
    simp only[List.contains_eq_mem,hd,decide_true,Bool.not_true,Bool.false_or,Bool.and_eq_true]at o2
    have hp:pts.getD d 0=d+2:=by simpa using o2.1
    unfold ai at h
    simp only[hi]at h
    split at h
    ·exact h.elim
    ·rw[h];exact qG hl rfl (.inr trivial)
    ·rcases h with⟨ef,h1,h2⟩|⟨v,h1,h2⟩
     ·have hef:∃s vs,ef = .lnew s vs:=by
       have o3:=o2.2
       obtain⟨dst,op,ty,pos,after,guard⟩:=o
       simp only at hdst o3
       subst hdst
       cases op<;>first|cases o3|skip
       ·simp only[ah]at h1
        obtain⟨z,_,hz⟩:=Option.bind_eq_some_iff.1 h1
        exact ow hp hz
       ·exact ow hp h1
      obtain⟨s,vs,rfl⟩:=hef
      obtain⟨p,hp1,hp2⟩:=h2
      rw[hp2]
      simp only[aA]at hp1
      split at hp1
      ·cases hp1
       exact qG hl rfl (.inr rfl)
      ·cases hp1
     ·rw[h2]
      exact qG hl rfl (.inr (qD h1.2.2.1))
  ·have hs:Sees N pts ops o σ { σ with heap:=H }:=by
    refine⟨fun t _=>rfl,?_⟩
    cases hmm:aw N pts o with
    |none=>trivial
    |some m=>rw[hmm]at o1;cases m<;>first|trivial|cases o1|rfl
   have:=le _ hs
   have e2:e.on o.dst { σ with heap:=H } = { e.on o.dst σ with heap:=H }:=by
    unfold Ef.on
    rw[hh]
    cases o.dst<;>rfl
   rw[e2]at this
   exact this
theorem pA{N:FuncId→Option Nat}{B:Below}(hN:NeuB N B){pts as0:List Nat}{ops:Array Oper}(hops:ops.toList.all (ov N pts as0)=true):∀(l:List Nat) {σ σ':St},LoS as0 σ→bC C B pts ops l σ σ'→
  σ'.heap=σ.heap∧LoS as0 σ'∧∀H,bC C B pts ops l { σ with heap:=H } { σ' with heap:=H }
 | [],σ,σ',hl,h=>by
  have:σ'=σ:=h
  subst this
  exact⟨rfl,hl,fun H=>rfl⟩
 |i :: l,σ,σ',hl,⟨σ₁,h1,h2⟩=>by
  obtain⟨a1,a2,a3⟩:=qQ hN hops hl h1
  obtain⟨b1,b2,b3⟩:=pA hN hops l a2 h2
  exact⟨b1.trans a1,b2,fun H=>⟨_,a3 H,b3 H⟩⟩
theorem lP{as0:List Nat}{σ σ':St}(hl:LoS as0 σ)(h:dz σ σ'):LoS as0 σ':=by
 intro a ha v hv
 obtain⟨_,_,h3,h4⟩:=h
 have hlt:a<σ'.tmps.length:=(List.getElem?_eq_some_iff.1 hv).1
 have hx:σ.tmps[a]? = some (σ.tmps[a]'(by omega)):=List.getElem?_eq_getElem _
 rcases h4 a _ _ hx hv with e|⟨_,h5,_⟩
 ·rw[e];exact hl a ha _ hx
 ·exact qD h5
theorem iq{σ σ':St}(h:dz σ σ')(H:List HObj):dz { σ with heap:=H } { σ' with heap:=H }:=⟨h.1,rfl,h.2.2.1,h.2.2.2⟩
theorem qx{N:FuncId→Option Nat}{B:Below}(hN:NeuB N B){pts as0:List Nat}{ops:Array Oper}(hops:ops.toList.all (ov N pts as0)=true):∀(l:List Nat) {σ σ':St},LoS as0 σ→dj C B pts ops l σ σ'→
  σ'.heap=σ.heap∧LoS as0 σ'∧∀H,dj C B pts ops l { σ with heap:=H } { σ' with heap:=H }
 | [],σ,σ',hl,h=>by
  have:σ'=σ:=h
  subst this
  exact⟨rfl,hl,fun H=>rfl⟩
 |i :: l,σ,σ',hl,⟨σ₀,σ₁,h0,h1,h2⟩=>by
  obtain⟨a1,a2,a3⟩:=qQ hN hops (lP hl h0) h1
  obtain⟨b1,b2,b3⟩:=qx hN hops l a2 h2
  exact⟨b1.trans (a1.trans h0.2.1),b2,fun H=>⟨_,_,iq h0 H,a3 H,b3 H⟩⟩
theorem clear_lo{as0:List Nat}{σ:St}{keys:List Nat}(hl:LoS as0 σ):LoS as0 (σ.clear keys):=by
 unfold St.clear
 split
 ·exact hl
 ·intro a ha v hv
  simp only[List.getElem?_map,Option.map_eq_some_iff]at hv
  obtain⟨x,hx,rfl⟩:=hv
  exact clearV_lo (hl a ha x hx)
theorem clearHp(σ:St)(keys:List Nat)(H:List HObj):St.clear { σ with heap:=H } keys = { σ.clear keys with heap:=H }:=by
 unfold St.clear
 split<;>rfl
theorem pW(σ:St)(keys:List Nat):(σ.clear keys).heap=σ.heap:=by
 unfold St.clear
 split<;>rfl
theorem rI{σ:St}{r:ResultVar}{as0:List Nat}(hl:LoS as0 σ)(ha:∀a∈ez [r],a∈as0)(H:List HObj):dl C { σ with heap:=H } r=dl C σ r:=by
 cases r with
 |tmp t=>rfl
 |cell a t=>
  have hm:a∈as0:=ha a (by simp[ez])
  unfold dl
  simp only
  cases hv:σ.tmps[a]? with
  |none=>simp[List.getD_eq_getElem?_getD,hv,undef]
  |some v=>
   have:=hl a hm v hv
   simp only[List.getD_eq_getElem?_getD,hv,Option.getD_some]
   cases v<;>try rfl
   rename_i p
   cases p with
   |none=>rfl
   |some p=>
    have hs:p.spot=some 0:=this
    simp only[hs]
theorem jZ{σ:St}{as0:List Nat}(hl:LoS as0 σ)(H:List HObj):∀(l:List ResultVar),(∀a∈ez l,a∈as0)→bP C { σ with heap:=H } l=bP C σ l
 | [],_=>rfl
 |r :: l,ha=>by
  have h1:=rI (C:=C) (r:=r) hl (fun a h=>ha a (by cases r<;>simp[ez]at h ⊢;exact .inl h)) H
  have h2:=jZ hl H l (fun a h=>ha a (by cases r<;>simp[ez]at h ⊢<;>first|exact h|exact .inr h))
  simp only[bP,h1,h2]
theorem new_neu{N:FuncId→Option Nat}{pts as0:List Nat}{o:Oper}(h:bY pts o=true)(hn:ov N pts as0 o=true):False:=by
 have hm:aw N pts o=some .hw:=by
  obtain⟨dst,op,ty,pos,after,guard⟩:=o
  cases op<;>simp only[bY,Bool.false_eq_true]at h<;>first|rfl|skip
  ·cases dst with
   |none=>cases h
   |some d=>
    simp only[aw]
    rw[if_neg (fun e=>by
     have h:(!Nat.beq (pts.getD d 0) (d+2))=true:=h
     rw[e,show Nat.beq (d+2) (d+2)=true from Nat.beq_refl _]at h;cases h)]
  ·cases dst with
   |none=>cases h
   |some d=>
    simp only[aw]
    rw[if_neg (fun e=>by
     have h:(!Nat.beq (pts.getD d 0) (d+2))=true:=h
     rw[e,show Nat.beq (d+2) (d+2)=true from Nat.beq_refl _]at h;cases h)]
  ·rename_i c
   simp only[aw]
   split at h
   ·rename_i hc;rw[hc]
   ·cases h
 unfold ov at hn
 rw[hm]at hn
 cases hn
theorem step_rd{N:FuncId→Option Nat}{B:Below}(hN:NeuB N B){pts:List Nat}{ops:Array Oper}(hops:ops.toList.all (rdOp N pts)=true){i:Nat}{σ σ':St}(h:ai C B pts ops i σ σ'):σ'.heap=σ.heap:=by
 cases hi:ops[i]? with
 |none=>
  have:σ'=σ:=by simpa[ai,hi]using h
  rw[this]
 |some o=>
  have ho:rdOp N pts o=true:=List.all_eq_true.1 hops o (by
   have:=Array.mem_of_getElem? hi
   simpa using this)
  have hm:aw N pts o≠none:=by intro e;unfold rdOp at ho;rw[e]at ho;cases ho
  obtain⟨e,rfl,te,_⟩:=eZ hN hi hm h
  have hh:e.hp=none:=by
   cases he:e.hp with
   |none=>rfl
   |some x=>
    have:=te.2 (by rw[he];simp)
    unfold rdOp at ho
    rw[this]at ho;cases ho
  rw[jO,hh];rfl
theorem ops_rd{N:FuncId→Option Nat}{B:Below}(hN:NeuB N B){pts:List Nat}{ops:Array Oper}(hops:ops.toList.all (rdOp N pts)=true):∀(l:List Nat) {σ σ':St},bC C B pts ops l σ σ'→σ'.heap=σ.heap
 | [],_,_,h=>by cases h;rfl
 |_ :: l,_,_,⟨_,h1,h2⟩=>(ops_rd hN hops l h2).trans (step_rd hN hops h1)
theorem opsR_rd{N:FuncId→Option Nat}{B:Below}(hN:NeuB N B){pts:List Nat}{ops:Array Oper}(hops:ops.toList.all (rdOp N pts)=true):∀(l:List Nat) {σ σ':St},dj C B pts ops l σ σ'→σ'.heap=σ.heap
 | [],_,_,h=>by cases h;rfl
 |_ :: l,_,_,⟨_,_,h0,h1,h2⟩=>(opsR_rd hN hops l h2).trans ((step_rd hN hops h1).trans h0.2.1)
theorem new_rd{N:FuncId→Option Nat}{pts:List Nat}{o:Oper}(h:bY pts o=true)(hn:rdOp N pts o=true):False:=by
 have hm:aw N pts o=some .hw:=by
  obtain⟨dst,op,ty,pos,after,guard⟩:=o
  cases op<;>simp only[bY,Bool.false_eq_true]at h<;>first|rfl|skip
  ·cases dst with
   |none=>cases h
   |some d=>
    simp only[aw]
    rw[if_neg (fun e=>by
     have h:(!Nat.beq (pts.getD d 0) (d+2))=true:=h
     rw[e,show Nat.beq (d+2) (d+2)=true from Nat.beq_refl _]at h;cases h)]
  ·cases dst with
   |none=>cases h
   |some d=>
    simp only[aw]
    rw[if_neg (fun e=>by
     have h:(!Nat.beq (pts.getD d 0) (d+2))=true:=h
     rw[e,show Nat.beq (d+2) (d+2)=true from Nat.beq_refl _]at h;cases h)]
  ·rename_i c
   simp only[aw]
   split at h
   ·rename_i hc;rw[hc]
   ·cases h
 unfold rdOp at hn
 rw[hm]at hn
 cases hn
theorem neu_ok{N:FuncId→Option Nat}(hN:∀f n,N f=some n→neuF N C f n=true)(hk:∀f args H r H',Kno.kh f args H r H'→N f=none∨(N f=some (2*args.length+1)∧H'=H)):∀n,(NeuB N (sm C n).toBelow∧∀pts c,rdC N pts c=true→∀σ e σ',(sm C n).ex pts c σ e σ'→σ'.heap=σ.heap)∧
  ∀pts as0 c,neuC N pts as0 c=true→∀σ e σ',LoS as0 σ→(sm C n).ex pts c σ e σ'→σ'.heap=σ.heap∧LoS as0 σ'∧∀H,(sm C n).ex pts c { σ with heap:=H } e { σ' with heap:=H }
 |0=>⟨⟨⟨fun f args H r H' hf h=>(by
   rcases h with h|h
   ·exact⟨h.2,fun H2=>.inl ⟨h.1,rfl⟩⟩
   ·have hf:N f=some (2*args.length):=hf
    rcases hk f args H r H' h with e|⟨e,_⟩
    ·rw[e]at hf;cases hf
    ·rw[e]at hf
     have:=Option.some.inj hf
     omega),fun f args H r H' hf h=>(by
   rcases h with h|h
   ·exact h.2
   ·have hf:N f=some (2*args.length+1):=hf
    rcases hk f args H r H' h with e|⟨_,e⟩
    ·rw[e]at hf;cases hf
    ·exact e)⟩,fun _ _ _ _ _ _ h=>absurd h id⟩,fun _ _ _ _ _ _ _ _ h=>absurd h id⟩
 |n+1=>by
  obtain⟨⟨ihc,ihr⟩,ihe⟩:=neu_ok hN hk n
  refine⟨⟨⟨fun f args H r H' hf h=>?_,fun f args H r H' hf h=>?_⟩,fun pts c hc σ e σ' h=>?_⟩,fun pts as0 c hc σ e σ' hl h=>?_⟩
  rotate_left
  ·rcases h with h|⟨fn,b,e,σ,vs,c1,c2,c3,c4,c5,c6,c7,c8,c9⟩
   ·rcases h with h|h
    ·exact h.2
    ·have hf:N f=some (2*args.length+1):=hf
     rcases hk f args H r H' h with e|⟨_,e⟩
     ·rw[e]at hf;cases hf
     ·exact e
   ·have hn:=hN f _ hf
    have c3':=(Bool.or_eq_false_iff.1 c3).2
    unfold neuF at hn
    have hodd:Nat.beq ((2*args.length+1)%2) 0=false:=by
     rw[show(2*args.length+1)%2=1 by omega];rfl
    simp only[c1,c2,hodd,c3',Bool.false_or]at hn
    exact c9.trans (ihr _ _ hn _ _ _ c4)
  ·have h:jr C (sm C n) pts c σ e σ':=h
   cases c with
   |skip=>obtain⟨rfl,rfl⟩:=h;rfl
   |label l=>obtain⟨rfl,rfl⟩:=h;rfl
   |ret=>obtain⟨rfl,rfl⟩:=h;rfl
   |exit id=>obtain⟨rfl,rfl⟩:=h;rfl
   |seq a b=>
    simp only[rdC,Bool.and_eq_true]at hc
    obtain⟨e₁,σ₁,h1,h2⟩:=h
    have a1:=ihr _ _ hc.1 _ _ _ h1
    rcases h2 with⟨rfl,h2⟩|⟨h2,rfl,rfl⟩
    ·exact(ihr _ _ hc.2 _ _ _ h2).trans a1
    ·exact a1
   |cond x a b=>
    simp only[rdC,Bool.and_eq_true]at hc
    obtain⟨t,h1,h2⟩:=h
    cases t with
    |true=>exact ihr _ _ hc.1 _ _ _ h2
    |false=>exact ihr _ _ hc.2 _ _ _ h2
   |block id b=>
    obtain⟨e₁,h1,rfl⟩:=h
    exact ihr pts b hc _ _ _ h1
   |scope b=>exact ihr pts b hc _ _ _ h
   |loop b=>
    obtain⟨e₁,σ₁,h1,h2⟩:=h
    have a1:=ihr pts b hc _ _ _ h1
    rw[pW]at a1
    rcases h2 with⟨rfl,h2⟩|⟨h2,rfl,rfl⟩
    ·exact(ihr pts (.loop b) hc _ _ _ h2).trans a1
    ·exact a1
   |region id ops draw=>
    obtain⟨rfl,hq⟩:=h
    cases draw with
    |true=>
     obtain⟨σ₀,h0,h1⟩ : ∃σ₀,dz σ σ₀∧ew C (sm C n).toBelow pts ops σ₀ σ':=hq
     rcases h1 with h1|⟨sl,m,q1,_⟩
     ·exact(ops_rd ihc hc _ (h1 0)).trans h0.2.1
     ·exfalso
      obtain⟨o,o1,o2⟩:=List.any_eq_true.1 q1
      exact new_rd o2 (List.all_eq_true.1 hc o o1)
    |false=>
     have hq:dj C (sm C n).toBelow pts ops (List.range ops.size) σ σ':=hq
     exact opsR_rd ihc hc _ hq
   |_=>cases hc
  rotate_right
  ·rcases h with h|⟨fn,b,e,σ,vs,c1,c2,c3,c4,c5,c6,c7,c8,c9⟩
   ·rcases h with h|h
    ·exact⟨h.2,fun H2=>.inl (.inl ⟨h.1,rfl⟩)⟩
    ·have hf:N f=some (2*args.length):=hf
     rcases hk f args H r H' h with e|⟨e,_⟩
     ·rw[e]at hf;cases hf
     ·rw[e]at hf
      have:=Option.some.inj hf
      omega
   ·have hn:=hN f _ hf
    unfold neuF at hn
    have hev:Nat.beq (2*args.length%2) 0=true:=by
     rw[show 2*args.length%2=0 by omega];rfl
    simp only[c1,c2,hev,Bool.and_eq_true,List.all_eq_true,show 2*args.length / 2=args.length by omega]at hn
    have hl:LoS (ez fn.results.toList) (hU fn args H):=by
     intro a ha v hv
     have hge:args.length≤a:=by simpa using hn.2 a ha
     simp only[hU]at hv
     rw[List.getElem?_append_right hge,List.getElem?_replicate]at hv
     split at hv
     ·cases hv;trivial
     ·cases hv
    obtain⟨d1,d2,d3⟩:=ihe _ _ _ hn.1 _ _ _ hl c4
    refine⟨c9.trans d1,fun H2=>.inr ⟨fn,b,e,_,vs,c1,c2,c3,d3 H2,c5,?_,c7,c8,rfl⟩⟩
    rw[jZ d2 H2 _ (fun a h=>h)]
    exact c6
  ·have h:jr C (sm C n) pts c σ e σ':=h
   show _∧_∧∀H,jr C (sm C n) pts c { σ with heap:=H } e { σ' with heap:=H }
   cases c with
   |skip=>obtain⟨rfl,rfl⟩:=h;exact⟨rfl,hl,fun H=>⟨rfl,rfl⟩⟩
   |label l=>obtain⟨rfl,rfl⟩:=h;exact⟨rfl,hl,fun H=>⟨rfl,rfl⟩⟩
   |ret=>obtain⟨rfl,rfl⟩:=h;exact⟨rfl,hl,fun H=>⟨rfl,rfl⟩⟩
   |exit id=>obtain⟨rfl,rfl⟩:=h;exact⟨rfl,hl,fun H=>⟨rfl,rfl⟩⟩
   |seq a b=>
    simp only[neuC,Bool.and_eq_true]at hc
    obtain⟨e₁,σ₁,h1,h2⟩:=h
    obtain⟨a1,a2,a3⟩:=ihe _ _ _ hc.1 _ _ _ hl h1
    rcases h2 with⟨rfl,h2⟩|⟨h2,rfl,rfl⟩
    ·obtain⟨b1,b2,b3⟩:=ihe _ _ _ hc.2 _ _ _ a2 h2
     exact⟨b1.trans a1,b2,fun H=>⟨_,_,a3 H,.inl ⟨rfl,b3 H⟩⟩⟩
    ·exact⟨a1,a2,fun H=>⟨_,_,a3 H,.inr ⟨h2,rfl,rfl⟩⟩⟩
   |cond x a b=>
    simp only[neuC,Bool.and_eq_true]at hc
    obtain⟨t,h1,h2⟩:=h
    cases t with
    |true=>
     obtain⟨b1,b2,b3⟩:=ihe _ _ _ hc.1 _ _ _ hl h2
     exact⟨b1,b2,fun H=>⟨true,h1,b3 H⟩⟩
    |false=>
     obtain⟨b1,b2,b3⟩:=ihe _ _ _ hc.2 _ _ _ hl h2
     exact⟨b1,b2,fun H=>⟨false,h1,b3 H⟩⟩
   |block id b=>
    obtain⟨e₁,h1,rfl⟩:=h
    obtain⟨b1,b2,b3⟩:=ihe pts as0 b hc _ _ _ hl h1
    exact⟨b1,b2,fun H=>⟨_,b3 H,rfl⟩⟩
   |scope b=>exact ihe pts as0 b hc _ _ _ hl h
   |loop b=>
    obtain⟨e₁,σ₁,h1,h2⟩:=h
    obtain⟨a1,a2,a3⟩:=ihe pts as0 b hc _ _ _ (clear_lo hl) h1
    rw[pW]at a1
    rcases h2 with⟨rfl,h2⟩|⟨h2,rfl,rfl⟩
    ·obtain⟨b1,b2,b3⟩:=ihe pts as0 (.loop b) hc _ _ _ a2 h2
     exact⟨b1.trans a1,b2,fun H=>⟨_,_,by rw[clearHp];exact a3 H,.inl ⟨rfl,b3 H⟩⟩⟩
    ·exact⟨a1,a2,fun H=>⟨_,_,by rw[clearHp];exact a3 H,.inr ⟨h2,rfl,rfl⟩⟩⟩
   |region id ops draw=>
    obtain⟨rfl,hq⟩:=h
    cases draw with
    |true=>
     obtain⟨σ₀,h0,h1⟩ : ∃σ₀,dz σ σ₀∧ew C (sm C n).toBelow pts ops σ₀ σ':=hq
     have hl0:=lP hl h0
     rcases h1 with h1|⟨sl,m,q1,_⟩
     case inr=>
      exfalso
      obtain⟨o,o1,o2⟩:=List.any_eq_true.1 q1
      exact new_neu o2 (List.all_eq_true.1 hc o o1)
     obtain⟨a1,a2,_⟩:=pA ihc hc _ hl0 (h1 0)
     refine⟨a1.trans h0.2.1,a2,fun H=>⟨rfl,⟨_,iq h0 H,.inl fun t=>?_⟩⟩⟩
     exact(pA ihc hc _ hl0 (h1 t)).2.2 H
    |false=>
     have hq:dj C (sm C n).toBelow pts ops (List.range ops.size) σ σ':=hq
     obtain⟨a1,a2,a3⟩:=qx ihc hc _ hl hq
     exact⟨a1,a2,fun H=>⟨rfl,a3 H⟩⟩
   |_=>cases hc
theorem dr_ok{N:FuncId→Option Nat}(hN:∀f n,N f=some n→neuF N C f n=true)(hk:∀f args H r H',Kno.kh f args H r H'→N f=none∨(N f=some (2*args.length+1)∧H'=H))(pts:List Nat)(ops:Array Oper)(h:oH N pts ops=true)(n:Nat)(σ σ':St)(hx:bC C (sm C n).toBelow pts ops (List.range ops.size) σ σ') :
  ew C (sm C n).toBelow pts ops σ σ':=any_ok (neu_ok hN hk n).1.1 h hx
end
end Sx
end Go.Am

/-
 THE ALGEBRA OF RUNS TELLS THE TRUTH;whole runs.
-/
namespace Go.Am
noncomputable def LK.plain:LK→Bool
 | .v=>false
 |_=>true
noncomputable def SK.plain:SK→Bool
 | .leaf k=>k.plain
 | .agg ks=>ks.all LK.plain
noncomputable def Sig.plain(s:Sig):Bool:=s.ps.all SK.plain&&s.rs.all SK.plain
namespace Sx
section
variable [Val] [Kno]
variable {w:List Lf}
theorem pB(k:IntKind)(c:Int)(K:Int→RT):outG k c K=K (k.wrap c):=by
 unfold outG
 cases e:fits k c with
 |true=>rw[nU e]
 |false=>exact fS _ _
theorem out64_eq(c:Int)(K:Int→RT):out64 c K=K (IntKind.wrap .i64 c):=by
 refine Eq.trans ?_ (pB .i64 c K)
 cases c<;>rfl
theorem outU8_eq(c:Int)(K:Int→RT):outU8 c K=K (IntKind.wrap .u8 c):=by
 refine Eq.trans ?_ (pB .u8 c K)
 cases c<;>rfl
theorem jS(k:IntKind)(c:Int)(K:Int→RT):outK k c K=K (k.wrap c):=by
 cases k<;>first|exact pB _ _ _|exact out64_eq _ _|exact outU8_eq _ _
theorem addK_eq(a b:Int)(K:Int→RT):addK a b K=K (a+b):=by
 unfold addK
 cases a with
 |ofNat m=>
  cases b with
  |ofNat n=>exact congrArg K rfl
  |negSucc n=>
   simp only[en]
   cases e:Nat.blt n m with
   |true=>rw[Nat.blt_eq]at e;exact congrArg K (show Int.ofNat (m - (n+1))=Int.ofNat m+Int.negSucc n by simp only[Int.ofNat_eq_natCast,Int.negSucc_eq];omega)
   |false=>
    have e:¬n<m:=fun h=>by rw[←Nat.blt_eq,e]at h;cases h
    exact congrArg K (show Int.negSucc (n - m)=Int.ofNat m+Int.negSucc n by simp only[Int.ofNat_eq_natCast,Int.negSucc_eq];omega)
 |negSucc m=>
  cases b with
  |ofNat n=>
   simp only[en]
   cases e:Nat.blt m n with
   |true=>rw[Nat.blt_eq]at e;exact congrArg K (show Int.ofNat (n - (m+1))=Int.negSucc m+Int.ofNat n by simp only[Int.ofNat_eq_natCast,Int.negSucc_eq];omega)
   |false=>
    have e:¬m<n:=fun h=>by rw[←Nat.blt_eq,e]at h;cases h
    exact congrArg K (show Int.negSucc (m - n)=Int.negSucc m+Int.ofNat n by simp only[Int.ofNat_eq_natCast,Int.negSucc_eq];omega)
  |negSucc n=>exact congrArg K (show Int.negSucc (m+n+1)=Int.negSucc m+Int.negSucc n by simp only[Int.negSucc_eq];omega)
theorem subK_eq(a b:Int)(K:Int→RT):subK a b K=K (a - b):=by
 unfold subK
 cases a with
 |ofNat m=>
  cases b with
  |ofNat n=>
   simp only[en]
   cases e:Nat.ble n m with
   |true=>rw[Nat.ble_eq]at e;exact congrArg K (show Int.ofNat (m - n)=Int.ofNat m - Int.ofNat n by simp only[Int.ofNat_eq_natCast];omega)
   |false=>
    have e:¬n≤m:=fun h=>by rw[←Nat.ble_eq,e]at h;cases h
    exact congrArg K (show Int.negSucc (n - (m+1))=Int.ofNat m - Int.ofNat n by simp only[Int.ofNat_eq_natCast,Int.negSucc_eq];omega)
  |negSucc n=>exact congrArg K (show Int.ofNat (m+n+1)=Int.ofNat m - Int.negSucc n by simp only[Int.ofNat_eq_natCast,Int.negSucc_eq];omega)
 |negSucc m=>
  cases b with
  |ofNat n=>exact congrArg K (show Int.negSucc (m+n)=Int.negSucc m - Int.ofNat n by simp only[Int.ofNat_eq_natCast,Int.negSucc_eq];omega)
  |negSucc n=>
   simp only[en]
   cases e:Nat.ble m n with
   |true=>rw[Nat.ble_eq]at e;exact congrArg K (show Int.ofNat (n - m)=Int.negSucc m - Int.negSucc n by simp only[Int.ofNat_eq_natCast,Int.negSucc_eq];omega)
   |false=>
    have e:¬m≤n:=fun h=>by rw[←Nat.ble_eq,e]at h;cases h
    exact congrArg K (show Int.negSucc (m - (n+1))=Int.negSucc m - Int.negSucc n by simp only[Int.negSucc_eq];omega)
theorem mulK_eq(a b:Int)(K:Int→RT):mulK a b K=K (a*b):=by
 unfold mulK
 cases a with
 |ofNat m=>
  cases b with
  |ofNat n=>exact congrArg K rfl
  |negSucc n=>
   cases m with
   |zero=>exact congrArg K (show Int.ofNat 0=Int.ofNat 0*Int.negSucc n by simp)
   |succ m=>
    refine congrArg K (show Int.negSucc ((m+1)*n+m)=Int.ofNat (m+1)*Int.negSucc n from ?_)
    simp only[Int.ofNat_eq_natCast,Int.negSucc_eq,Int.natCast_add,Int.natCast_mul]
    simp only[Int.natCast_one,Int.mul_neg,Int.mul_add,Int.add_mul]
    omega
 |negSucc m=>
  cases b with
  |ofNat n=>
   cases n with
   |zero=>exact congrArg K (show Int.ofNat 0=Int.negSucc m*Int.ofNat 0 by simp)
   |succ n=>
    refine congrArg K (show Int.negSucc (m*(n+1)+n)=Int.negSucc m*Int.ofNat (n+1)from ?_)
    simp only[Int.ofNat_eq_natCast,Int.negSucc_eq,Int.natCast_add,Int.natCast_mul]
    simp only[Int.natCast_one,Int.neg_mul,Int.mul_add,Int.add_mul]
    omega
  |negSucc n=>
   refine congrArg K (show Int.ofNat ((m+1)*(n+1))=Int.negSucc m*Int.negSucc n from ?_)
   simp only[Int.ofNat_eq_natCast,Int.negSucc_eq,Int.natCast_add,Int.natCast_mul]
   simp only[Int.natCast_one,Int.neg_mul_neg]
theorem quoK_eq(a b:Int)(K:Int→RT):quoK a b K=K (Int.tdiv a b):=by
 unfold quoK
 cases a with
 |ofNat m=>
  cases b with
  |ofNat n=>exact congrArg K rfl
  |negSucc n=>exact fS _ _
 |negSucc m=>exact fS _ _
theorem remK_eq(a b:Int)(K:Int→RT):remK a b K=K (Int.tmod a b):=by
 unfold remK
 cases a with
 |ofNat m=>
  cases b with
  |ofNat n=>exact congrArg K rfl
  |negSucc n=>exact fS _ _
 |negSucc m=>exact fS _ _
theorem oc{b:Int}(h:isZ b=false):b≠0:=by
 intro e;subst e;cases h
theorem fitsK{k:IntKind}{c:Int}{K:Int→RT}(h:outK k c K=some w):K (k.wrap c)=some w:=(jS k c K).symm.trans h
theorem ariB_ok{op:BinOp}{k:IntKind}{a b:Int}{K:Int→RT}(h:ariB op k a b K=some w):∃n,qV op k a b n∧K n=some w:=by
 cases op<;>simp only[ariB,reduceCtorEq]at h
 ·rw[addK_eq,jS]at h
  exact⟨_,fun P t w=>by simp[binOp,Op.intArith],h⟩
 ·rw[subK_eq,jS]at h
  exact⟨_,fun P t w=>by simp[binOp,Op.intArith],h⟩
 ·rw[mulK_eq,jS]at h
  exact⟨_,fun P t w=>by simp[binOp,Op.intArith],h⟩
 ·cases hb:isZ b with
  |true=>rw[hb]at h;cases h
  |false=>
   rw[hb]at h
   simp only[quoK_eq,jS]at h
   have hb:=oc hb
   exact⟨_,fun P t w=>by simp[binOp,Op.intDiv,hb],h⟩
 ·cases hb:isZ b with
  |true=>rw[hb]at h;cases h
  |false=>
   rw[hb]at h
   simp only[remK_eq]at h
   have hb:=oc hb
   exact⟨_,fun P t w=>by simp[binOp,Op.intDiv,hb],h⟩
 ·split at h
  ·rename_i hb
   have hb:=eqI_iff.1 hb
   subst hb
   rw[fS]at h
   exact⟨_,pG rfl,h⟩
  ·split at h
   ·rw[fS]at h
    exact⟨_,pF _ _,fitsK h⟩
   ·cases h
 ·split at h
  ·rw[fS]at h
   exact⟨_,rL _ _,fitsK h⟩
  ·cases h
 ·split at h
  ·rw[fS]at h
   exact⟨_,pI _ _,fitsK h⟩
  ·cases h
theorem eqI_eq(x y:Int):eqI x y=(x==y):=by rw[Bool.eq_iff_iff,eqI_iff,beq_iff_eq]
theorem mz(x y:Int):eqZK x y=(x==y):=by
 rw[←eqI_eq]
 cases x<;>cases y<;>rfl
theorem leZ_eq(x y:Int):leZ x y=decide (x≤y):=by rw[Bool.eq_iff_iff,leZ_iff,decide_eq_true_iff]
theorem notK_eq(b:Bool):notK b = !b:=by cases b<;>rfl
theorem cmpB_ok{op:BinOp}{a b:Int}{K:Bool→RT}(h:cmpB op a b K=some w):∃t,kT op a b=some t∧K t=some w:=by
 cases op<;>simp only[cmpB,reduceCtorEq,mz,leZ_eq,notK_eq]at h
 ·exact⟨_,rfl,h⟩
 ·exact⟨_,rfl,h⟩
 ·exact⟨_,rfl,by rw[show decide (a<b) = !decide (b≤a)by rw[Bool.eq_iff_iff];simp];exact h⟩
 ·exact⟨_,rfl,h⟩
 ·exact⟨_,rfl,by rw[show decide (a > b) = !decide (a≤b)by rw[Bool.eq_iff_iff];simp];exact h⟩
 ·exact⟨_,rfl,h⟩
theorem eqLf_eq(a b:Lf):eqLf a b=mw a b:=by
 cases a<;>cases b<;>try rfl
 ·exact mz _ _
 ·rename_i x y;cases x<;>cases y<;>rfl
theorem eqsV_eq(l:List (Lf×Lf)):eqsV l=fv l:=by
 unfold fv
 induction l with
 |nil=>rfl
 |cons p l ih=>
  show(Bool.rec false (eqsV l) (eqLf p.1 p.2):Bool)=_
  rw[eqLf_eq,List.all_cons,ih]
  cases mw p.1 p.2<;>rfl
theorem eqsB_ok{l:List (Lf×Lf)}{K:Bool→RT}(h:eqsB l K=some w):K (fv l)=some w:=by
 rw[←eqsV_eq];exact h
structure CallBOk(C:Cfg)(Sg:FuncId→Option Sig)(T:Nat→Site)(call:aa):Prop where
 f:∀g ls h K w,dG ls→call (.f g) ls h K=some w→∃rs h',cj C Sg g ls (absH T (toL h)) rs (absH T (toL h'))∧K rs h'=some w
 y:∀κ vs l ls h K w st pd xs,h.at l=some (.lp κ st pd vs)→Told ((T κ).params.map (·.2)) ls xs→call (.y κ vs l) ls h K=some w→
  ∃b h',gn C l (af xs) (absH T (toL h)) (.bool b) (absH T (toL h'))∧K [.b b] h'=some w
theorem mF(T:Nat→Site)(h:HL):getH T h=fun i=>(absH T h)[i]?:=by
 funext i
 simp only[getH,absH,List.getElem?_map]
 cases h[i]?<;>rfl
theorem getT_eq(T:Nat→Site)(h:HTr):getT T h=fun i=>(absH T (toL h))[i]?:=by
 funext i
 simp only[getT,absH,List.getElem?_map,eS,Option.map_map]
 cases h.at i<;>rfl
theorem iP(T:Nat→Site)(h:HTr):getT T h=getH T (toL h):=(getT_eq T h).trans (mF T (toL h)).symm
theorem gG{T:Nat→Site}{h:HTr}{i:Nat}{x:HOT}(e:h.at i=some x):getH T (toL h) i=some (absO T x.ho):=by
 rw[←iP];unfold getT;rw[e]
theorem bL(T:Nat→Site)(h:HL):(absH T h).length=h.length:=by simp[absH]
theorem fK(T:Nat→Site)(h:HL)(i:Nat)(o:HO):absH T (h.set i o)=(absH T h).set i (absO T o):=by simp[absH,List.map_set]
theorem fJ(T:Nat→Site)(h:HL)(o:HO):absH T (h++[o])=absH T h++[absO T o]:=by simp[absH]
theorem kM(T:Nat→Site):∀(l:List Act1) (h:HL),absH T (gu h l)=ep (absH T h) l
 | [],h=>rfl
 |a :: l,h=>by
  have ih:=kM T l (a.onH h)
  show absH T (gu (a.onH h) l)=ep (a.on (absH T h)) l
  rw[ih]
  congr 1
  cases a with
  |set i o=>exact fK T h i _
  |push o=>exact fJ T h _
theorem md:∀ {l:List Act1} {h:HTr} {k:HTr→RT},qW l h k=some w→∃h',toL h'=gu (toL h) l∧k h'=some w
 | [],h,k,hk=>⟨h,rfl,hk⟩
 | .set i o :: l,h,k,hk=>by
  have hk:(jD o fun o=>putK h i o fun h=>qW l h k)=some w:=hk
  obtain⟨x,e1,e2⟩:=dU (o:=o) (k:=fun o=>putK h i o fun h=>qW l h k)
  rw[e2,eO]at hk
  obtain⟨h',e,hk⟩:=md hk
  exact⟨h',by rw[e,eT,e1];rfl,hk⟩
 | .push o :: l,h,k,hk=>by
  have hk:(jD o fun o=>dE h o fun h=>qW l h k)=some w:=hk
  obtain⟨x,e1,e2⟩:=dU (o:=o) (k:=fun o=>dE h o fun h=>qW l h k)
  rw[e2,cG]at hk
  obtain⟨h',e,hk⟩:=md hk
  exact⟨h',by rw[e,cH,e1];rfl,hk⟩
theorem qP(s:Option Nat):spot0 s=(s != some 0):=by
 cases s with
 |none=>rfl
 |some k=>cases k<;>rfl
theorem qj(v:Value):goodF v=bM v:=by
 unfold goodF
 split
 ·rename_i a
  rw[qP]
  simp[bM,noLoc,aX,cr,bH,aT,aD]
 ·rename_i a _ _
  rw[qP]
  simp[bM,noLoc,aX,cr,bH,aT,aD]
 ·rfl
theorem pq{α:Type}(l:List α):lenR l=l.length:=by
 induction l with
 |nil=>rfl
 |cons a l ih=>exact congrArg Nat.succ ih
theorem ldB_ok{T:Nat→Site}{n:Nat}{p:Value}{h:HTr}{K:List Value→RT}(hk:ldB n p h K=some w):∃cs,ldP n p (getH T (toL h))=some cs∧K cs=some w:=by
 unfold ldB at hk
 split at hk
 ·rename_i a
  split at hk
  ·rename_i hs
   split at hk
   ·rename_i m e rw' c hat
    split at hk
    ·rename_i hle
     rw[Nat.ble_eq]at hle
     refine⟨_,?_,hk⟩
     unfold ldP
     simp only[hs,eA,gG hat,HOT.ho,absO,Option.bind_some,cut]
     rw[if_pos (by rw[aH];exact hle),gg c n a.off m hle]
    ·cases hk
   ·cases hk
  ·cases hk
 ·cases hk
theorem lgB_ok{T:Nat→Site}{C:Cfg}{n:Nat}{p:Value}{h:HTr}{K:List Value→RT}(hk:lgB C n p h K=some w):∃cs,lgP C n p (getH T (toL h))=some cs∧K cs=some w:=by
 unfold lgB at hk
 split at hk
 ·rename_i a
  split at hk
  ·rename_i hs
   split at hk
   ·rename_i m e rw' c hat
    split at hk
    ·rename_i hle
     rw[Nat.ble_eq]at hle
     refine⟨_,?_,hk⟩
     unfold lgP
     simp only[hs,eA,gG hat,HOT.ho,absO,Option.bind_some,cut]
     rw[if_pos (by rw[aH];exact hle),gg c n a.off m hle]
    ·cases hk
   ·cases hk
  ·rename_i k hs
   split at hk
   ·rename_i hb
    split at hk
    ·rename_i vs hg
     split at hk
     ·rename_i cs hc
      refine⟨cs,?_,hk⟩
      unfold lgP
      simp only[hs,hb,hg,Option.bind_some]
      rw[jj]at hc
      exact hc
     ·cases hk
    ·cases hk
   ·cases hk
 ·cases hk
theorem stB_ok{T:Nat→Site}{p:Value}{new:List Value}{h:HTr}{K:List Value→HTr→RT}{n0:Nat}(hk:stB p new h K=some w) :
  ∃acts cs h',stP p new (getH T (toL h)) n0=some (acts,cs)∧toL h'=gu (toL h) acts∧K cs h'=some w:=by
 unfold stB at hk
 split at hk
 ·rename_i a
  split at hk
  ·rename_i hs
   split at hk
   ·rename_i m e c hat
    split at hk
    ·rename_i hle
     rw[Nat.ble_eq,pq]at hle
     rw[jB,eO]at hk
     refine⟨[.set a.block (.cells (aW (insT new a.off c) m) e true)],[],_,?_,?_,hk⟩
     ·unfold stP
      simp only[hs,gG hat,HOT.ho,absO,splice]
      rw[if_pos (by rw[aH];exact hle),kR hle]
      rfl
     ·rw[eT];rfl
    ·cases hk
   ·cases hk
  ·cases hk
 ·cases hk
theorem nm{s:Option Nat}{esz:Nat}:tagB s esz=true↔s=tag esz:=by
 unfold tagB tag
 cases s with
 |none=>simp
 |some k=>simp only[Nat.beq_eq,Option.some.injEq];try rfl
theorem slB_ok{C:Cfg}{T:Nat→Site}{esz:Nat}{x:Value}{h:HTr}{K:List Value→Nat→RT}(hk:slB C T esz x h K=some w) :
  ∃l n,slG C esz (getH T (toL h)) x=some (l,n)∧K l n=some w:=by
 have gen:∀ {x:Value},(match slG C esz (getT T h) x with|some p=>K p.1 p.2|none=>none)=some w→∃l n,slG C esz (getH T (toL h)) x=some (l,n)∧K l n=some w:=by
  intro x hk
  split at hk
  ·rename_i p e
   rw[iP]at e
   exact⟨p.1,p.2,e,hk⟩
  ·cases hk
 unfold slB at hk
 split at hk
 ·rename_i a len cx
  split at hk
  ·rename_i ht
   have ht:=nm.1 ht
   split at hk
   ·rename_i m e rw' c hat
    split at hk
    ·rename_i h1 h2
     have h1:=Nat.eq_of_beq_eq_true h1
     rw[Nat.ble_eq]at h2
     subst h1
     refine⟨_,_,?_,hk⟩
     unfold slG
     simp only[gG hat,HOT.ho,absO]
     rw[if_neg (by rw[ht];simp[tag]),if_pos ht]
     first|rw[if_pos rfl]|rw[if_pos trivial]
     rw[cut,if_pos (by rw[aH];exact h2),gg c _ a.off m h2]
     rfl
    ·cases hk
   ·cases hk
  ·exact gen hk
 ·exact gen hk
theorem qm{c:Tr Value}{m off wd esz:Nat}{new:List Value}{k:HOT→RT}(hle:off+wd≤m)(hk:growB c m off wd esz new k=some w) :
  ∃x:HOT,x.ho = .o (.cells (((aW c m).drop off).take wd++new) esz true)∧k x=some w:=by
 unfold growB at hk
 split at hk
 ·rename_i h1 h2
  have h1:=Nat.eq_of_beq_eq_true h1
  have h2:=Nat.eq_of_beq_eq_true h2
  subst h1 h2
  rw[jB,en,pq]at hk
  refine⟨_,?_,hk⟩
  show HO.o (.cells (aW (insT new wd c) (wd+new.length)) esz true)=_
  rw[je,List.drop_zero,List.take_of_length_le (by rw[aH];exact Nat.le_refl _)]
 ·rw[gg c wd off m hle]at hk
  obtain⟨x,e1,e2⟩:=dU (o:=.cells (((aW c m).drop off).take wd++new) esz true) (k:=k)
  rw[e2]at hk
  exact⟨x,e1,hk⟩
theorem apB_ok{C:Cfg}{T:Nat→Site}{esz bytes:Nat}{s x:Value}{h:HTr}{K:List Value→HTr→RT}(hk:apB T C esz bytes s x h K=some w) :
  ∃acts cs h',apG C esz bytes s x (getH T (toL h)) (toL h).length=some (acts,cs)∧toL h'=gu (toL h) acts∧K cs h'=some w:=by
 obtain⟨new,n,hsl,hk⟩:=slB_ok hk
 unfold apG
 rw[hsl,bh]
 simp only at hk ⊢
 split at hk
 ·cases n with
  |zero=>exact⟨_,_,h,rfl,rfl,hk⟩
  |succ n=>
   simp only at hk
   split at hk
   ·rename_i hz
    obtain⟨y,e1,e2⟩:=dU (o:=.cells new esz true) (k:=fun o=>dE h o fun h'=>fN (n+1) fun n=>K [.slice (some ⟨h.n,0,tag esz⟩) n 0] h')
    rw[e2,cG,en]at hk
    refine⟨[.push (.cells new esz true)],_,_,?_,?_,hk⟩
    ·show(if n+1=0 then some ([],[Value.slice none 0 0])else if cK (n+1) bytes then _ else none)=_
     rw[if_neg (by omega),if_pos hz]
    ·rw[cH,e1];rfl
   ·cases hk
 ·rename_i a len cx _
  split at hk
  ·cases hk
  ·rename_i ht
   have ht:=nm.1 ht
   split at hk
   ·rename_i m e rw' c hat
    split at hk
    ·rename_i h1 h2
     have h1:=Nat.eq_of_beq_eq_true h1
     rw[Nat.ble_eq]at h2
     subst h1
     have hb:a.off+len*e≤m:=h2
     have hcut:cut (aW c m) a.off (len*e)=some (((aW c m).drop a.off).take (len*e)):=by rw[cut,if_pos (by rw[aH];exact hb)]
     simp only[ht,ne_eq,not_true_eq_false,if_false,gG hat,HOT.ho,absO,hcut]
     cases cx with
     |zero=>
      simp only at hk ⊢
      cases n with
      |zero=>exact⟨[],_,h,by first|rw[if_pos rfl]|rw[if_pos trivial],rfl,hk⟩
      |succ n=>
       simp only at hk
       split at hk
       ·rename_i q1 q2
        obtain⟨y,e1,hk⟩:=qm hb hk
        rw[eO,cG,en]at hk
        refine⟨[.set a.block .dead,.push (.cells (((aW c m).drop a.off).take (len*e)++new) e true)],_,_,by rw[if_neg (by omega),if_pos (by rw[q2];rfl)],?_,hk⟩
        rw[cH,eT,e1];rfl
       ·cases hk
     |succ cap=>
      simp only at hk ⊢
      split at hk
      ·rename_i q0
       rw[Nat.ble_eq]at q0
       split at hk
       ·rename_i q1 q2
        rw[Nat.ble_eq,pq]at q2
        have q2:a.off+len*e+new.length≤m:=q2
        rw[jB,eO,en]at hk
        refine⟨[.set a.block (.cells ((aW c m).take (a.off+len*e)++new++(aW c m).drop (a.off+len*e+new.length)) e true)],_,_,by rw[if_pos q0,if_pos rfl,splice,if_pos (by rw[aH];exact q2)];rfl,?_,hk⟩
        rw[eT]
        show(toL h).set a.block (.o (.cells (aW (insT new (a.off+len*e) c) m) e true))=_
        rw[kR q2];rfl
       ·cases hk
      ·rename_i q0
       have q0:¬len+n≤cap:=fun h=>by rw[←Nat.ble_eq,q0]at h;cases h
       split at hk
       ·rename_i q1
        obtain⟨y,e1,hk⟩:=qm hb hk
        rw[cG,en]at hk
        refine⟨[.push (.cells (((aW c m).drop a.off).take (len*e)++new) e true)],_,_,by rw[if_neg q0,if_pos q1],?_,hk⟩
        rw[cH,e1];rfl
       ·cases hk
    ·cases hk
   ·cases hk
 ·cases hk
theorem heapB_ok{T:Nat→Site}{f:Hp}{h:HTr}{K:List Value→HTr→RT}(hk:heapB T f h K=some w) :
  ∃acts cs h',f.run (getH T (toL h)) (toL h).length=some (acts,cs)∧toL h'=gu (toL h) acts∧K cs h'=some w:=by
 unfold heapB at hk
 cases f with
 |st p new=>exact stB_ok (n0:=(toL h).length) hk
 |ap C esz bytes s x=>exact apB_ok hk
 |fn f=>
  simp only at hk
  rw[iP]at hk
  split at hk
  ·rename_i p e
   rw[jU]at hk
   obtain⟨h',e2,hk⟩:=md hk
   exact⟨p.1,p.2,h',by rw[bh];exact e,e2,hk⟩
  ·cases hk
theorem toSL_ok{k:LK}{v:Value}{l:SL}(h:toSL k v=some l):l.is k=true∧l.val=v∧l.good:=by
 cases k with
 |i k=>
  cases v<;>simp only[toSL]at h<;>first|cases h|skip
  split at h
  ·rename_i e;cases h;exact⟨e,rfl,trivial⟩
  ·cases h
 |b=>
  cases v<;>simp only[toSL]at h<;>cases h
  exact⟨rfl,rfl,trivial⟩
 |v=>
  simp only[toSL]at h
  split at h
  ·rename_i e;cases h;exact⟨rfl,rfl,e⟩
  ·cases h
theorem qS:∀ {ks:List LK} {vs:List Value} {xs:List SL},toSLs ks vs=some xs→aB xs ks=true∧xs.map SL.val=vs∧∀x∈xs,x.good
 | [],[],xs,h=>by cases h;exact⟨rfl,rfl,fun _ h=>by cases h⟩
 |k :: ks,v :: vs,xs,h=>by
  simp only[toSLs]at h
  split at h
  ·rename_i x e
   split at h
   ·rename_i ys e2
    cases h
    obtain⟨a1,a2,a3⟩:=toSL_ok e
    obtain⟨b1,b2,b3⟩:=qS e2
    refine⟨by simp[aB,a1,b1],by simp[a2,b2],fun y hy=>?_⟩
    rcases List.mem_cons.1 hy with rfl|hy
    ·exact a3
    ·exact b3 y hy
   ·cases h
  ·cases h
 | [],_ :: _,_,h=>by cases h
 |_ :: _,[],_,h=>by cases h
theorem toS0_ok{sk:SK}{v:Value}{x:S0}(h:toS0 sk v=some x):x.is sk=true∧x.val=v∧x.good:=by
 cases sk with
 |leaf k=>
  obtain⟨l,e,rfl⟩:=Option.map_eq_some_iff.1 h
  obtain⟨a1,a2,a3⟩:=toSL_ok e
  refine⟨a1,a2,fun y hy=>?_⟩
  simp only[S0.cells,List.mem_singleton]at hy
  subst hy;exact a3
 |agg ks=>
  cases v<;>simp only[toS0]at h<;>first|cases h|skip
  obtain⟨l,e,rfl⟩:=Option.map_eq_some_iff.1 h
  obtain⟨a1,a2,a3⟩:=qS e
  exact⟨a1,by simp[S0.val,a2],a3⟩
theorem np:∀ {sks:List SK} {vs:List Value} {xs:List S0},toS0s sks vs=some xs→bn xs sks=true∧af xs=vs∧∀x∈xs,x.good
 | [],[],xs,h=>by cases h;exact⟨rfl,rfl,fun _ h=>by cases h⟩
 |k :: ks,v :: vs,xs,h=>by
  simp only[toS0s]at h
  split at h
  ·rename_i x e
   split at h
   ·rename_i ys e2
    cases h
    obtain⟨a1,a2,a3⟩:=toS0_ok e
    obtain⟨b1,b2,b3⟩:=np e2
    refine⟨by simp[bn,a1,b1],by simp only[af,List.map_cons,a2]at b2 ⊢;rw[b2],fun y hy=>?_⟩
    rcases List.mem_cons.1 hy with rfl|hy
    ·exact a3
    ·exact b3 y hy
   ·cases h
  ·cases h
 | [],_ :: _,_,h=>by cases h
 |_ :: _,[],_,h=>by cases h
theorem eqLK_ok{a b:LK}(h:eqLK a b=true):a=b:=by
 cases a<;>cases b<;>simp only[eqLK]at h<;>first|rfl|cases h|skip
 rw[cq h]
theorem qd:∀ {a b:List LK},eqLKs a b=true→a=b
 | [],[],_=>rfl
 |a :: l,b :: m,h=>by
  simp only[eqLKs,Bool.and_eq_true]at h
  rw[eqLK_ok h.1,qd h.2]
 | [],_ :: _,h=>by cases h
 |_ :: _,[],h=>by cases h
theorem eqSK_ok{a b:SK}(h:eqSK a b=true):a=b:=by
 cases a<;>cases b<;>simp only[eqSK]at h<;>first|cases h|skip
 ·rw[eqLK_ok h]
 ·rw[qd h]
theorem my:∀ {a b:List SK},eqSKs a b=true→a=b
 | [],[],_=>rfl
 |a :: l,b :: m,h=>by
  simp only[eqSKs,Bool.and_eq_true]at h
  rw[eqSK_ok h.1,my h.2]
 | [],_ :: _,h=>by cases h
 |_ :: _,[],h=>by cases h
theorem aS:∀ {ls:List Lf},ll ls=true→dG ls
 | [],_=>fun _ h=>by cases h
 | .i n :: ls,h=>fun l hl=>by
  rcases List.mem_cons.1 hl with rfl|hl
  ·trivial
  ·exact aS (ls:=ls) h l hl
 | .b n :: ls,h=>fun l hl=>by
  rcases List.mem_cons.1 hl with rfl|hl
  ·trivial
  ·exact aS (ls:=ls) h l hl
 | .v n :: ls,h=>fun l hl=>by
  have h:(match goodF n with|true=>ll ls|false=>false)=true:=h
  split at h
  ·rename_i e
   rw[qj]at e
   rcases List.mem_cons.1 hl with rfl|hl
   ·exact e
   ·exact aS (ls:=ls) h l hl
  ·cases h
theorem pV{C:Cfg}{Sg:FuncId→Option Sig}{T:Nat→Site}{call:aa}(hc:CallBOk C Sg T call){g:FuncId}{ls:List Lf}{h:HTr}{K:List Lf→HTr→RT}(hk:callB call g ls h K=some w) :
  ∃rs h',cj C Sg g ls (absH T (toL h)) rs (absH T (toL h'))∧K rs h'=some w:=by
 unfold callB at hk
 split at hk
 ·rename_i e;exact hc.f g ls h K w (aS e) hk
 ·cases hk
theorem iZ{C:Cfg}{Sg:FuncId→Option Sig}{T:Nat→Site}{call:aa}(hc:CallBOk C Sg T call){g:FuncId}{hs:Option (List SK)}{vals:List Value}{h:HTr}{K:List Lf→HTr→RT}(hk:iI Sg call g hs vals h K=some w) :
  ∃sg rs ys h',Sg g=some sg∧(∀x,hs=some x→sg.rs=x)∧Told sg.rs rs ys∧gm C g vals (absH T (toL h)) (dt (af ys)) (absH T (toL h'))∧K rs h'=some w:=by
 unfold iI at hk
 split at hk
 ·cases hk
 ·rename_i sg e
  split at hk
  ·cases hk
  ·rename_i e2
   split at hk
   ·cases hk
   ·rename_i xs e3
    obtain⟨rs,h',⟨sg',xs',ys,c1,c2,c3,c4⟩,hk⟩:=pV hc hk
    rw[e]at c1
    cases c1
    obtain⟨d1,d2,d3⟩:=np e3
    obtain⟨w1,_⟩:=bS c2.1 d1 c2.2.1
    rw[w1,d2]at c4
    refine⟨sg,rs,ys,h',e,fun x hx=>?_,c3,c4,hk⟩
    subst hx
    exact my e2
theorem fV{T:Nat→Site}{h:HTr}{l κ:Nat}{st:LoopState}{pd:Option Code}{vs:List Value}(e:h.at l=some (.lp κ st pd vs)):eo (absH T (toL h)) l=some { lpOf (T κ) κ vs with state:=st,pending:=pd }:=by
 unfold eo absH
 rw[List.getElem?_map,eS,e]
 rfl
theorem callvB_ok{C:Cfg}{Sg:FuncId→Option Sig}{T:Nat→Site}{call:aa}(hc:CallBOk C Sg T call){v:Value}{args:List Value}{hs:List SK}{h:HTr}{K:List Lf→HTr→RT}(hk:callvB Sg T call v args hs h K=some w) :
  ∃rs h',CallV C v args hs (absH T (toL h)) rs (absH T (toL h'))∧K rs h'=some w:=by
 unfold callvB at hk
 split at hk
 ·rename_i fn first cap
  split at hk
  ·rename_i g
   obtain⟨sg,rs,ys,h',c1,c2,c3,c4,c5⟩:=iZ hc hk
   rw[c2 _ rfl]at c3
   exact⟨rs,h',⟨ys,c3,.inl ⟨g,first,cap,rfl,c4⟩⟩,c5⟩
  ·rename_i l
   split at hk
   ·rename_i e1 e2
    have e1:first = #[]:=Array.toList_inj.1 e1
    have e2:cap = #[]:=Array.toList_inj.1 e2
    subst e1 e2
    split at hk
    ·rename_i κ st pd vs e
     split at hk
     ·cases hk
     ·rename_i e3
      have e3:=my e3
      subst e3
      split at hk
      ·cases hk
      ·rename_i xs e4
       split at hk
       ·rename_i e5
        obtain⟨d1,d2,d3⟩:=np e4
        obtain⟨b,h',y1,y2⟩:=hc.y κ vs l _ h K w st pd xs e ⟨d1,rfl,d3⟩ hk
        rw[d2]at y1
        refine⟨[.b b],h',⟨[.leaf (.b b)],⟨rfl,rfl,fun x hx=>?_⟩,.inr ⟨l,rfl,y1⟩⟩,y2⟩
        simp only[List.mem_singleton]at hx
        subst hx
        intro y hy
        simp only[S0.cells,List.mem_singleton]at hy
        subst hy;trivial
       ·cases hk
    ·cases hk
   ·cases hk
  ·cases hk
 ·cases hk
theorem rfunB_ok{C:Cfg}{Sg:FuncId→Option Sig}{T:Nat→Site}{call:aa}(hc:CallBOk C Sg T call){κ:Nat}{v:Value}{vals:List Value}{h:HTr}{K:Option Code→HTr→RT}(hk:rfunB Sg call κ v vals h K=some w) :
  ∃g first cap r H1 lp h2,v = .func (.func g) first cap∧gm C g (first.toList++[.func (.yield (absH T (toL h)).length) #[] #[]]++cap.toList) (absH T (toL h)++[.loop (lpOf (T κ) κ vals)]) r H1∧
   eo H1 (absH T (toL h)).length=some lp∧lp.state≠.busy∧absH T (toL h2)=H1.set (absH T (toL h)).length (.loop { lp with state:=.exhausted })∧K lp.pending h2=some w:=by
 unfold rfunB at hk
 split at hk
 ·rename_i fn first cap
  split at hk
  ·rename_i g
   rw[cG]at hk
   obtain⟨sg,rs,ys,h',_,_,c3,c4,c5⟩:=iZ hc hk
   have hlen:(absH T (toL h)).length=h.n:=by rw[bL,bh]
   split at c5
   ·rename_i κ' st pd vs e
    have hl:=fV (T:=T) e
    rw[cH,fJ]at c4
    have fin:∀(hst:st≠.busy),(putK h' h.n (.lp κ' .exhausted pd vs) fun h2=>K pd h2)=some w→∃g' first' cap' r H1 lp h2,(Value.func (.func g) first cap) = .func (.func g') first' cap'∧gm C g' (first'.toList++[.func (.yield (absH T (toL h)).length) #[] #[]]++cap'.toList) (absH T (toL h)++[.loop (lpOf (T κ) κ vals)]) r H1∧
      eo H1 (absH T (toL h)).length=some lp∧lp.state≠.busy∧absH T (toL h2)=H1.set (absH T (toL h)).length (.loop { lp with state:=.exhausted })∧K lp.pending h2=some w:=by
     intro hst hk
     rw[eO]at hk
     refine⟨g,first,cap,dt (af ys),absH T (toL h'),{ lpOf (T κ') κ' vs with state:=st,pending:=pd },h'.put h.n (.lp κ' .exhausted pd vs),rfl,?_,?_,hst,?_,hk⟩
     ·rw[hlen];exact c4
     ·rw[hlen];exact hl
     ·rw[eT,fK,hlen];rfl
    cases st with
    |busy=>cases c5
    |_=>exact fin (by simp) c5
   ·cases c5
  ·cases hk
 ·cases hk
theorem oB{id:Nat}:∀ {ks:List (Nat×RT)},(List.rec none (fun p _ ih=>match Nat.beq p.1 id with|true=>p.2|false=>ih) ks:RT)=some w→
  ∃id' x,some (Code.exit id)=some (Code.exit id')∧(id',x)∈ks∧x=some w
 | [],h=>by cases h
 |p :: ks,h=>by
  have h:(match Nat.beq p.1 id with|true=>p.2|false=>(List.rec none (fun p _ ih=>match Nat.beq p.1 id with|true=>p.2|false=>ih) ks:RT))=some w:=h
  split at h
  ·rename_i e
   exact⟨id,p.2,rfl,by rw[←Nat.eq_of_beq_eq_true e];exact List.mem_cons_self,h⟩
  ·obtain⟨id',x,a,b,c⟩:=oB h
   exact⟨id',x,a,List.mem_cons_of_mem _ b,c⟩
theorem shfB_ok{op:BinOp}{k k':IntKind}{a b:Int}{K:Int→RT}(h:shfB op k a k' b K=some w):∃n,ShRun op k a k' b n∧K n=some w:=by
 unfold shfB at h
 split at h
 ·rename_i hb
  have hb:¬b<0:=by have:=leZ_iff.1 hb;omega
  split at h
  ·rw[fS]at h
   exact⟨_,fun P t w=>by simp[binOp,Op.shift,hb],h⟩
  ·rw[fS]at h
   exact⟨_,fun P t w=>by simp[binOp,Op.shift,hb],h⟩
  ·cases h
 ·cases h
theorem BA_ok{C:Cfg}{Sg:FuncId→Option Sig}{T:Nat→Site}{call:aa}(hc:CallBOk C Sg T call):AlgOk (BA Sg T call) C Sg T (fun b=>b=some w) (fun h=>absH T (toL h)) where
 fail:=by intro h;cases h
 cond:=by
  intro b x y h
  cases b
  ·exact .inr ⟨rfl,h⟩
  ·exact .inl ⟨rfl,h⟩
 ari:=fun op k a b K h=>ariB_ok h
 shf:=fun op k a k' b K h=>shfB_ok h
 cmp:=fun op a b K h=>cmpB_ok h
 eqs:=fun l K h=>eqsB_ok h
 conv:=fun k a K h=>fitsK h
 sel:=by intro t a b K h;cases t<;>exact h
 opt:=by
  intro α o K h
  cases o with
  |none=>cases h
  |some x=>exact⟨x,rfl,h⟩
 chk:=by
  intro v K h
  have h:chkB v K=some w:=h
  unfold chkB at h
  split at h
  ·rename_i e;rw[qj]at e;exact⟨e,h⟩
  ·cases h
 unI:=by
  intro ls K h
  match ls,h with
  | .i n :: r,h=>exact⟨n,r,rfl,h⟩
 unB:=by
  intro ls K h
  match ls,h with
  | .b n :: r,h=>exact⟨n,r,rfl,h⟩
 unV:=by
  intro ls K h
  match ls,h with
  | .v n :: r,h=>exact⟨n,r,rfl,h⟩
 un0:=by
  intro ls K h
  match ls,h with
  | [],h=>exact⟨rfl,h⟩
 ucI:=by
  intro k ls K h
  match ls,h with
  | .int k' n :: r,h=>
   have h:(match dC k k' with|true=>K n r|false=>none)=some w:=h
   split at h
   ·rename_i e;rw[cq e];exact⟨n,r,rfl,h⟩
   ·cases h
 ucB:=by
  intro ls K h
  match ls,h with
  | .bool n :: r,h=>exact⟨n,r,rfl,h⟩
 ucV:=by
  intro ls K h
  match ls,h with
  |n :: r,h=>exact⟨n,r,rfl,h⟩
 uc0:=by
  intro ls K h
  match ls,h with
  | [],h=>exact⟨rfl,h⟩
 peek:=by
  intro f h K hk
  have hk:peekB T f h K=some w:=hk
  unfold peekB at hk
  rw[←mF]
  cases f with
  |ld n p=>exact ldB_ok hk
  |lg C n p=>exact lgB_ok hk
  |fn f=>
   simp only at hk
   rw[iP]at hk
   split at hk
   ·rename_i x e;exact⟨x,e,hk⟩
   ·cases hk
 heap:=by
  intro f h K hk
  have hk:heapB T f h K=some w:=hk
  obtain⟨acts,cs,h',a1,a2,a3⟩:=heapB_ok hk
  exact⟨acts,cs,h',by rw[←mF,bL];exact a1,by rw[a2];exact kM T acts (toL h),a3⟩
 new:=by
  intro o h K hk
  have hk:newB o h K=some w:=hk
  unfold newB at hk
  obtain⟨x,e1,e2⟩:=dU (o:=o) (k:=fun o=>dE h o fun h'=>K h.n h')
  rw[e2,cG]at hk
  exact⟨h.push x,by rw[cH,e1];exact fJ T (toL h) _,by rw[bL,bh];exact hk⟩
 call:=fun g ls h K hk=>pV hc hk
 callv:=fun v args hs h K hk=>callvB_ok hc hk
 join:=fun b m h=>h
 loop:=by
  intro F ls h hk
  refine⟨fun n=>Nat.rec (motive:=fun _=>List Lf→HTr→RT) (fun _ _=>none) (fun _ ih ls h=>F ih ls h) n,fun ls h=>(by simp),fun n ls h=>rfl,1000000,hk⟩
 rfun:=fun κ v vals h K hk=>rfunB_ok hc hk
 pend:=by
  intro pd kn kr ks h
  cases pd with
  |none=>exact .inl ⟨rfl,h⟩
  |some c=>
   cases c<;>first|exact .inr (.inl ⟨rfl,h⟩)|skip
   case exit id=>
    exact .inr (.inr (oB h))
   all_goals cases h
 lp1:=by
  intro l h K hk
  have hk:lp1B l h K=some w:=hk
  unfold lp1B at hk
  split at hk
  ·rename_i κ st pd vs e
   split at hk
   ·rw[eO]at hk
    exact⟨_,_,fV e,rfl,by rw[eT];exact fK T (toL h) l _,hk⟩
   ·cases hk
  ·cases hk
 lp2:=by
  intro l j h K hk
  have hk:lp2B l j h K=some w:=hk
  unfold lp2B at hk
  split at hk
  ·rename_i κ st pd vs e
   cases j with
   |none=>
    have hk:putK h l (.lp κ .ready none vs) K=some w:=hk
    rw[eO]at hk
    exact⟨_,h.put l (.lp κ .ready none vs),fV e,(congrArg (absH T) (eT h l (.lp κ .ready none vs))).trans (fK T (toL h) l (.lp κ .ready none vs)),hk⟩
   |some c=>
    have hk:putK h l (.lp κ .done (some c) vs) K=some w:=hk
    rw[eO]at hk
    exact⟨_,h.put l (.lp κ .done (some c) vs),fV e,(congrArg (absH T) (eT h l (.lp κ .done (some c) vs))).trans (fK T (toL h) l (.lp κ .done (some c) vs)),hk⟩
  ·cases hk
inductive TabOk(C:Cfg)(Sg:FuncId→Option Sig)(X:Ctxt)(dr:Dr)(A:Alg RT HTr)(f:FuncId)(ls:List Lf)(h:HTr)(K:List Lf→HTr→RT)(w:List Lf):Prop
 |run (fn:Fn1) (hi:FnIs X Sg f fn) (he:aj A X Sg dr fn ls h K=some w)
 |known (rs:List Lf) (hc:∀H,cj C Sg f ls H rs H) (hk:K rs h=some w)
 |alone (fn:Fn1) (rs:List Lf) (sg:Sig) (hi:FnIs X Sg f fn) (hs:Sg f=some sg) (hp:sg.plain=true) (he:aj A X Sg dr fn ls .empty (fun rs _=>some rs)=some rs) (hk:K rs h=some w)
end
end Sx
end Go.Am

/-
 CALLS THAT LEAVE NOTHING BEHIND: a run that begins with an empty heap is a run over any heap.
-/
namespace Go.Am
namespace Sx
def gfl(v:Value):Bool:=match v with
 | .pointer (some a)=>a.spot==some 1
 | .slice (some a) _ _=>a.spot==some 1
 |v=>scalar v
section
variable [Val]
theorem jM [Glo]{mu:HMap}{p:Pl}{x y:Option Obj}{o:HObj}(hxy:∀a,x=some a→y=some a)(h:objR mu p x o):objR mu p y o:=by
 cases o with
 |cells vs esz rw=>
  obtain⟨h1,h2,h3,c,e,fr,h4,h5⟩:=h
  exact⟨h1,h2,h3,c,e,fr,hxy _ h4,h5⟩
 |map es clock=>
  obtain⟨es',h1,h2⟩:=h
  exact⟨es',hxy _ h1,h2⟩
 |loop r=>
  obtain⟨L,h1,h2⟩:=h
  exact⟨L,hxy _ h1,h2⟩
 |siter s pos=>exact hxy _ h
 |dead=>trivial
theorem flatVRs [Glo]{la:LMap}{mu mu':HMap}{vs cs:List Value}(hf:vs.all flat=true)(h:VRs la mu vs cs):VRs la mu' vs cs:=by
 refine⟨h.1,fun i x y hx hy=>?_⟩
 have h1:=h.2 i x y hx hy
 have h2:flat x=true:=List.all_eq_true.1 hf x (List.mem_of_getElem? hx)
 rw[bK h2 h1]
 exact .of_flat h2
theorem gflVR [Glo]{la la':LMap}{mu mu':HMap}{v c:Value}(hf:gfl v=true)(h:VR la mu v c):VR la' mu' v c:=by
 cases h with
 |poison c=>cases hf
 |sym h=>cases hf
 |scalar h=>exact .scalar h
 |agg _ _=>cases hf
 |tuple _ _ _=>cases hf
 |func _ _ _ _ _=>cases hf
 |yield _=>cases hf
 |lptr _=>cases hf
 |hptr _=>cases hf
 |gptr=>exact .gptr
 |hslice _ _ _ _=>simp[gfl,tag]at hf
 |hslice0 _=>simp[gfl,tag]at hf
 |gslice hl hx=>exact .gslice hl hx
 |gslice0 hx=>exact .gslice0 hx
 |map _=>cases hf
theorem iQ [Glo]{mu mu':HMap}{vs:List Value}{c:Array Value}{o:Nat}(hf:vs.all gfl=true)(h:aV mu vs c o):aV mu' vs c o:=by
 intro i v hv
 obtain⟨v',h1,h2⟩:=h i v hv
 exact⟨v',h1,gflVR (List.all_eq_true.1 hf v (List.mem_of_getElem? hv)) h2⟩
theorem no_own{mu:HMap}{b:Nat}:¬Own mu [] b:=by
 rintro⟨id,o,p,h,_⟩
 simp at h
theorem frame_ok{C:Cfg}(hG:∀g vs,C.G g=some vs→vs.all gfl=true){f:FuncId}{args:List Value}{r:Value}{H':List HObj}(h:cd C f args [] r H')(ha:args.all flat=true)(hr:flat r=true)(H:List HObj):cd C f args H r H:=by
 intro _ base mu w args' hb hargs hW cs
 have hW0:WR C w.heap.size (fun _=>none) [] w:=by
  refine⟨fun id o h=>by simp at h,fun i j oi oj pi pj h=>by simp at h,fun i o p h=>by simp at h,fun i o p h=>by simp at h,fun _ _=>rfl,fun g vs hg=>?_⟩
  obtain⟨h1,h2,c,e,fr,h3,h4⟩:=hW.glob g vs hg
  exact⟨by omega,h2,c,e,fr,h3,iQ (hG g vs hg) h4⟩
 obtain⟨v,mu',w',a1,a2,a3,a4,a5⟩:=h _ w.heap.size (fun _=>none) w args' (Nat.le_refl _) (flatVRs ha hargs) hW0 cs
 have hkeep:∀(b:Nat) x,w.heap[b]? = some x→w'.heap[b]? = some x:=by
  intro b x hx
  have hlt:b<w.heap.size:=by
   rcases Nat.lt_or_ge b w.heap.size with h|h
   ·exact h
   ·rw[Array.getElem?_eq_none h]at hx;cases hx
  rw[a3.keep b hlt no_own];exact hx
 refine⟨v,mu,w',?_,?_,?_,a4,a5⟩
 ·rw[bK hr a1];exact .of_flat hr
 ·refine⟨fun id o h1 h2=>?_,hW.inj,hW.own,hW.ro,hW.dom,fun g vs hg=>?_⟩
  ·obtain⟨p,h3,h4⟩:=hW.obj id o h1 h2
   exact⟨p,h3,jM (hkeep p.b) h4⟩
  ·obtain⟨h1,h2,c,e,fr,h3,h4⟩:=hW.glob g vs hg
   exact⟨h1,h2,c,e,fr,hkeep _ _ h3,h4⟩
 ·exact⟨Nat.le_refl _,fun _ _=>rfl,a3.size,fun b hb _=>a3.keep b hb no_own,fun b h=>.inr h,a3.os,a3.tape,a3.output⟩
theorem frame_ro{C:Cfg}(hG:∀g vs,C.G g=some vs→vs.all gfl=true){f:FuncId}{args0 args:List Value}{r:Value}{H0 H' H:List HObj}(σ:Nat→Nat)(h:cd C f args0 H0 r H')(hr:flat r=true)
  (h0:∀(j:Nat) (o:HObj),H0[j]? = some o→∃vs e rw,o = .cells vs e false∧vs.all flat=true∧H[σ j]? = some (.cells vs e rw))
  (ha:∀ [Glo] (mu mu0:HMap) (cs:List Value),(∀j,j<H0.length→mu0 j=mu (σ j))→VRs noL mu args cs→VRs noL mu0 args0 cs):cd C f args H r H:=by
 intro _ base mu w args' hb hargs hW cs
 let mu0:HMap:=fun j=>if j<H0.length then mu (σ j)else none
 have hno:∀b,¬Own mu0 H0 b:=by
  rintro b ⟨id,o,p,h1,h2,_⟩
  obtain⟨vs,e,rw',rfl,_⟩:=h0 id o h1
  cases h2
 have hmu:∀(id:Nat) (o:HObj),H0[id]? = some o→mu0 id=mu (σ id):=by
  intro id o h1
  have:id<H0.length:=by
   rcases Nat.lt_or_ge id H0.length with h|h
   ·exact h
   ·rw[List.getElem?_eq_none h]at h1;cases h1
  simp only[mu0,if_pos this]
 have hobj:∀(id:Nat) (o:HObj),H0[id]? = some o→∃p,mu0 id=some p∧objR mu0 p w.heap[p.b]? o:=by
  intro id o h1
  obtain⟨vs,e,rw',rfl,hf,hH⟩:=h0 id o h1
  obtain⟨p,h3,h4⟩:=hW.obj (σ id) _ hH rfl
  obtain⟨g1,g2,g3,c,e',fr,g4,g5,g6,g7⟩:=h4
  refine⟨p,by rw[hmu id _ h1];exact h3,g1,g2,g3,c,e',fr,g4,g5,fun e=>by(cases e),fun i v hv=>?_⟩
  obtain⟨v',q1,q2⟩:=g7 i v hv
  have h2:flat v=true:=List.all_eq_true.1 hf v (List.mem_of_getElem? hv)
  refine⟨v',q1,?_⟩
  rw[bK h2 q2]
  exact .of_flat h2
 have hW0:WR C w.heap.size mu0 H0 w:=by
  refine⟨fun id o h1 _=>hobj id o h1,fun i j oi oj pi pj h1 h2 h3=>?_,fun i o p h1 h2=>?_,fun i o p h1 _ _ h2=>?_,fun id h1=>?_,fun g vs hg=>?_⟩
  ·obtain⟨vs,e,rw',rfl,_⟩:=h0 i oi h1
   cases h3
  ·obtain⟨vs,e,rw',rfl,_⟩:=h0 i o h1
   cases h2
  ·obtain⟨p',h3,h4⟩:=hobj i o h1
   rw[h2]at h3
   cases h3
   obtain⟨vs,e,rw',rfl,_⟩:=h0 i o h1
   obtain⟨_,_,_,c,e',fr,g4,_⟩:=h4
   rcases Nat.lt_or_ge p.b w.heap.size with h|h
   ·exact h
   ·rw[Array.getElem?_eq_none h]at g4;cases g4
  ·simp only[mu0,if_neg (Nat.not_lt.2 h1)]
  ·obtain⟨h1,h2,c,e,fr,h3,h4⟩:=hW.glob g vs hg
   exact⟨by omega,h2,c,e,fr,h3,iQ (hG g vs hg) h4⟩
 have hargs0:VRs noL mu0 args0 args'.toList:=ha mu mu0 _ (fun j hj=>by simp only[mu0,if_pos hj]) hargs
 obtain⟨v,mu',w',a1,a2,a3,a4,a5⟩:=h _ w.heap.size mu0 w args' (Nat.le_refl _) hargs0 hW0 cs
 have hkeep:∀(b:Nat) x,w.heap[b]? = some x→w'.heap[b]? = some x:=by
  intro b x hx
  have hlt:b<w.heap.size:=by
   rcases Nat.lt_or_ge b w.heap.size with h|h
   ·exact h
   ·rw[Array.getElem?_eq_none h]at hx;cases hx
  rw[a3.keep b hlt (hno b)];exact hx
 refine⟨v,mu,w',?_,?_,?_,a4,a5⟩
 ·rw[bK hr a1];exact .of_flat hr
 ·refine⟨fun id o h1 h2=>?_,hW.inj,hW.own,hW.ro,hW.dom,fun g vs hg=>?_⟩
  ·obtain⟨p,h3,h4⟩:=hW.obj id o h1 h2
   exact⟨p,h3,jM (hkeep p.b) h4⟩
  ·obtain⟨h1,h2,c,e,fr,h3,h4⟩:=hW.glob g vs hg
   exact⟨h1,h2,c,e,fr,hkeep _ _ h3,h4⟩
 ·exact⟨Nat.le_refl _,fun _ _=>rfl,a3.size,fun b hb _=>a3.keep b hb (hno b),fun b h=>.inr h,a3.os,a3.tape,a3.output⟩
end
section
variable [Val] [Kno]
end
end Sx
end Go.Am

/-
 WHERE AN OPERATION TOUCHES THE HEAP: at the addresses of its operands alone;a new block goes to the end.
-/
namespace Go.Am
namespace Sx
def em(F:List Nat)(H H2:List HObj):Prop:=∀r∈F,∀x,H[r]? = some x→x.alive=true→H2[r]? = some x
structure HEff where
 set:Option (Nat×HObj)
 push:Option (HObj×(Nat→Value))
 v:Value
noncomputable def HEff.put(e:HEff)(H:List HObj):List HObj:=match e.set with
 |some p=>H.set p.1 p.2
 |none=>H
noncomputable def HEff.heap(e:HEff)(H:List HObj):List HObj:=match e.push with
 |some p=>e.put H++[p.1]
 |none=>e.put H
noncomputable def HEff.val(e:HEff)(n:Nat):Value:=match e.push with
 |some p=>p.2 n
 |none=>e.v
def LocF(nw:Prop)(F W:List Nat)(f:List HObj→Option (List HObj×Value))(H:List HObj):Prop:=
 ∀H' v,f H=some (H',v)→∃e:HEff,H'=e.heap H∧v=e.val H.length∧(∀p,e.set=some p→p.1∈W∧∃x,H[p.1]? = some x∧x.alive=true)∧(∀p,e.push=some p→nw∧Fresh p.2∧p.1.alive=true)∧
  ∀H2,em F H H2→f H2=some (e.heap H2,e.val H2.length)
def LocG(F:List Nat)(f:List HObj→Option Value)(H:List HObj):Prop:=∀v,f H=some v→∀H2,em F H H2→f H2=some v
theorem bW{F:List Nat}{H H2:List HObj}(h:em F H H2){r:Nat}(hr:r∈F){vs:List Value}{e:Nat}{b:Bool}(hx:H[r]? = some (.cells vs e b)):H2[r]? = some (.cells vs e b):=h r hr _ hx rfl
theorem bm{F:List Nat}{H H2:List HObj}(h:em F H H2){r:Nat}(hr:r∈F){es:List MapEntry}{c:Nat}(hx:hmap H r=some (es,c)):H[r]? = some (.map es c)∧hmap H2 r=some (es,c):=by
 unfold hmap at hx
 split at hx
 ·rename_i e
  cases hx
  exact⟨e,by unfold hmap;rw[h r hr _ e rfl]⟩
 ·cases hx
theorem fq{C:Cfg}{H H2:List HObj}{esz:Nat}{x:Value}{p:List Value×Nat}(hc:bE C H esz x=some p){F:List Nat}(hF:∀r∈adr x,r∈F)(h:em F H H2):bE C H2 esz x=some p:=by
 unfold bE at hc ⊢
 split at hc
 ·exact hc
 ·rename_i a len cx
  split at hc
  ·rename_i hs;simp only[hs,if_true];exact hc
  ·rename_i hs
   split at hc
   ·rename_i ht
    simp only[hs,if_false,ht,if_true]
    split at hc
    ·rename_i vs e b hid
     have hm:a.block∈adr (.slice (some a) len cx):=by
      simp[adr,ht,tag]
     rw[bW h (hF _ hm) hid]
     exact hc
    ·cases hc
   ·cases hc
 ·exact hc
 ·cases hc
theorem pt{nw:Prop}{F W:List Nat}{H:List HObj}(hnw:nw)(x:HObj)(mk:Nat→Value)(hx:x.alive=true)(hm:Fresh mk):LocF nw F W (fun H=>some (H++[x],mk H.length)) H:=by
 intro H' v h
 cases h
 exact⟨⟨none,some (x,mk),undef⟩,rfl,rfl,fun p hp=>(by cases hp),fun p hp=>by cases hp;exact⟨hnw,hm,hx⟩,fun H2 _=>rfl⟩
theorem dX{nw:Prop}{F W:List Nat}{f:List HObj→Option (List HObj×Value)}{H:List HObj}{v:Value}(h:f H=some (H,v))(h2:∀H2,em F H H2→f H2=some (H2,v)) :
  ∃e:HEff,H=e.heap H∧v=e.val H.length∧(∀p,e.set=some p→p.1∈W∧∃x,H[p.1]? = some x∧x.alive=true)∧(∀p,e.push=some p→nw∧Fresh p.2∧p.1.alive=true)∧∀H2,em F H H2→f H2=some (e.heap H2,e.val H2.length):=
 ⟨⟨none,none,v⟩,rfl,rfl,fun p hp=>(by cases hp),fun p hp=>(by cases hp),h2⟩
theorem mN{nw:Prop}{F W:List Nat}{f:List HObj→Option (List HObj×Value)}{H:List HObj}{x:HObj}{mk:Nat→Value}(hnw:nw)(hx:x.alive=true)(hm:Fresh mk)(h2:∀H2,em F H H2→f H2=some (H2++[x],mk H2.length)) :
  ∃e:HEff,H++[x]=e.heap H∧mk H.length=e.val H.length∧(∀p,e.set=some p→p.1∈W∧∃x,H[p.1]? = some x∧x.alive=true)∧(∀p,e.push=some p→nw∧Fresh p.2∧p.1.alive=true)∧∀H2,em F H H2→f H2=some (e.heap H2,e.val H2.length):=
 ⟨⟨none,some (x,mk),undef⟩,rfl,rfl,fun p hp=>(by cases hp),fun p hp=>by cases hp;exact⟨hnw,hm,hx⟩,h2⟩
theorem dD{nw:Prop}{F W:List Nat}{f:List HObj→Option (List HObj×Value)}{H:List HObj}{i:Nat}{x y:HObj}{v:Value}(hi:i∈W)(hy:H[i]? = some y)(ha:y.alive=true)(h2:∀H2,em F H H2→f H2=some (H2.set i x,v)) :
  ∃e:HEff,H.set i x=e.heap H∧v=e.val H.length∧(∀p,e.set=some p→p.1∈W∧∃x,H[p.1]? = some x∧x.alive=true)∧(∀p,e.push=some p→nw∧Fresh p.2∧p.1.alive=true)∧∀H2,em F H H2→f H2=some (e.heap H2,e.val H2.length):=
 ⟨⟨some (i,x),none,v⟩,rfl,rfl,fun p hp=>by cases hp;exact⟨hi,y,hy,ha⟩,fun p hp=>(by cases hp),h2⟩
theorem rr{nw:Prop}{C:Cfg}{t:TypeId}{s x:Value}{H:List HObj}{F W:List Nat}(hnw:nw)(hs:∀r∈adr s,r∈F∧r∈W)(hx:∀r∈adr x,r∈F):LocF nw F W (dA C t s x) H:=by
 intro H' v hf
 unfold dA at hf
 split at hf
 case h_2=>cases hf
 rename_i elem hu
 split at hf
 ·cases hf
 rename_i info hi
 split at hf
 ·cases hf
 rename_i hsz
 split at hf
 ·cases hf
 rename_i hz
 split at hf
 ·cases hf
 rename_i new n hcv
 have base:∀H2,em F H H2→dA C t s x H2=(match (motive:=Value→Option (List HObj×Value)) s with
   | .slice none 0 0=>
    if n=0 then some (H2,.slice none 0 0)
    else if cK n info.bytes then some (H2++[.cells new info.size true],.slice (some ⟨H2.length,0,tag info.size⟩) n 0)else none
   | .slice (some a) len cx=>
    if a.spot≠tag info.size then none else
    match H2[a.block]? with
    |some (.cells vs e rw)=>
     if e≠info.size then none else
     match cut vs a.off (len*info.size)with
     |none=>none
     |some old=>
      match cx with
      |0=>
       if n=0 then some (H2,.slice (some a) len 0)
       else if rw&&cK (len+n) info.bytes then
        some (H2.set a.block .dead++[.cells (old++new) info.size true],.slice (some ⟨H2.length,0,tag info.size⟩) (len+n) 0)
       else none
      |cap+1=>
       if len+n≤cap then
        if rw then(splice vs (a.off+len*info.size) new).map fun vs'=>(H2.set a.block (.cells vs' e true),.slice (some a) (len+n) (cap+1))
        else if n=0 then some (H2,.slice (some a) len (cap+1))else none
       else if cK (len+n) info.bytes then
        some (H2++[.cells (old++new) info.size true],.slice (some ⟨H2.length,0,tag info.size⟩) (len+n) 0)
       else none
    |_=>none
   |_=>none):=by
  intro H2 h2
  unfold dA
  simp only[hu,hi,hsz,if_false,hz,fq hcv hx h2]
  rfl
 split at hf
 ·split at hf
  ·rename_i hn
   cases hf
   exact dX (by rw[base H fun _ _ _ h _=>h];simp only[hn,if_true]) fun H2 h2=>by rw[base H2 h2];simp only[hn,if_true]
  ·rename_i hn
   split at hf
   ·rename_i hok
    cases hf
    exact mN (mk:=fun k=>.slice (some ⟨k,0,tag info.size⟩) n 0) hnw rfl (.slice _ _ _) fun H2 h2=>by rw[base H2 h2];simp only[hn,if_false,hok,if_true]
   ·cases hf
 ·rename_i a len cx
  split at hf
  ·cases hf
  rename_i hsp
  have hm:a.block∈adr (.slice (some a) len cx):=by
   simp only[ne_eq,Classical.not_not]at hsp
   simp[adr,hsp,tag]
  split at hf
  case h_2=>cases hf
  rename_i vs e rw0 hid
  split at hf
  ·cases hf
  rename_i he
  split at hf
  ·cases hf
  rename_i old hcut
  have hid2:∀ {H2},em F H H2→H2[a.block]? = some (.cells vs e rw0):=fun h2=>bW h2 (hs _ hm).1 hid
  split at hf
  ·split at hf
   ·rename_i hn
    cases hf
    exact dX (by rw[base H fun _ _ _ h _=>h];simp only[hsp,hid,he,hcut,hn,if_true,if_false]) fun H2 h2=>by rw[base H2 h2];simp only[hsp,hid2 h2,he,hcut,hn,if_true,if_false]
   ·rename_i hn
    split at hf
    ·rename_i hok
     cases hf
     refine⟨⟨some (a.block,.dead),some (.cells (old++new) info.size true,fun k=>.slice (some ⟨k,0,tag info.size⟩) (len+n) 0),undef⟩,rfl,rfl,fun p hp=>by cases hp;exact⟨(hs _ hm).2,_,hid,rfl⟩,fun p hp=>by cases hp;exact⟨hnw,.slice _ _ _,rfl⟩,fun H2 h2=>?_⟩
     rw[base H2 h2];simp only[hsp,hid2 h2,he,hcut,hn,hok,if_true,if_false];rfl
    ·cases hf
  ·split at hf
   ·rename_i cap hle
    split at hf
    ·rename_i hrw
     obtain⟨vs',hspl,hq⟩:=Option.map_eq_some_iff.1 hf
     cases hq
     exact dD (hs _ hm).2 hid rfl fun H2 h2=>by rw[base H2 h2];simp only[hsp,hid2 h2,he,hcut,hle,hrw,if_true,if_false,hspl,Option.map_some]
    ·rename_i hrw
     split at hf
     ·rename_i hn
      cases hf
      exact dX (by rw[base H fun _ _ _ h _=>h];simp only[hsp,hid,he,hcut,hle,hn,hrw,if_true,if_false];simp[hn];omega) fun H2 h2=>by rw[base H2 h2];simp only[hsp,hid2 h2,he,hcut,hle,hrw,hn,if_true,if_false];simp[hn];omega
     ·cases hf
   ·rename_i cap hle
    split at hf
    ·rename_i hok
     cases hf
     exact mN (mk:=fun k=>.slice (some ⟨k,0,tag info.size⟩) (len+n) 0) hnw rfl (.slice _ _ _) fun H2 h2=>by rw[base H2 h2];simp only[hsp,hid2 h2,he,hcut,hle,hok,if_true,if_false]
    ·cases hf
 ·cases hf
theorem loc_copy{nw:Prop}{C:Cfg}{t:TypeId}{d x:Value}{H:List HObj}{F W:List Nat}(hs:∀r∈adr d,r∈F∧r∈W)(hx:∀r∈adr x,r∈F):LocF nw F W (jh C t d x) H:=by
 intro H' v hf
 unfold jh at hf
 split at hf
 ·rename_i elem hu
  split at hf
  ·cases hf
  rename_i hsz
  obtain⟨p,hp,hq⟩:=Option.map_eq_some_iff.1 hf
  cases hq
  exact dX (by unfold jh;simp only[hu,hsz,if_false,hp,Option.map_some]) fun H2 h2=>by unfold jh;simp only[hu,hsz,if_false,fq hp hx h2,Option.map_some]
 ·rename_i elem a dlen cx hu
  split at hf
  ·cases hf
  rename_i hsz
  split at hf
  ·cases hf
  rename_i hsp
  split at hf
  case h_2=>cases hf
  rename_i new n vs e hcv hid
  split at hf
  ·cases hf
  rename_i he
  obtain⟨vs',hspl,hq⟩:=Option.map_eq_some_iff.1 hf
  cases hq
  have hm:a.block∈adr (.slice (some a) dlen cx):=by
   simp only[ne_eq,Classical.not_not]at hsp
   simp[adr,hsp,tag]
  refine dD (hs _ hm).2 hid rfl fun H2 h2=>?_
  unfold jh
  simp only[hu,hsz,hsp,he,if_false,fq hcv hx h2,bW h2 (hs _ hm).1 hid,hspl,Option.map_some]
 ·cases hf
theorem loc_clear{nw:Prop}{C:Cfg}{t:TypeId}{x:Value}{H:List HObj}{F W:List Nat}(hs:∀r∈adr x,r∈F∧r∈W):LocF nw F W (eC C t x) H:=by
 intro H' v hf
 unfold eC at hf
 split at hf
 ·rename_i elem hu
  cases hf
  exact dX (by unfold eC;simp only[hu]) fun H2 h2=>by unfold eC;simp only[hu]
 ·rename_i elem a n cx hu
  split at hf
  ·cases hf
  rename_i hsz
  split at hf
  ·cases hf
  rename_i hsp
  split at hf
  case h_2=>cases hf
  rename_i z vs e hz hid
  split at hf
  ·cases hf
  rename_i he
  obtain⟨vs',hspl,hq⟩:=Option.map_eq_some_iff.1 hf
  cases hq
  have hm:a.block∈adr (.slice (some a) n cx):=by
   simp only[ne_eq,Classical.not_not]at hsp
   simp[adr,hsp,tag]
  refine dD (hs _ hm).2 hid rfl fun H2 h2=>?_
  unfold eC
  simp only[hu,hsz,hsp,he,if_false,hz,bW h2 (hs _ hm).1 hid,hspl,Option.map_some]
 ·cases hf
theorem loc_store{nw:Prop}{C:Cfg}{t:TypeId}{id off:Nat}{x:Value}{H:List HObj}{F W:List Nat}(h1:id∈F)(h2:id∈W):LocF nw F W (fy C t id off x) H:=by
 intro H' v hf
 unfold fy at hf
 split at hf
 ·rename_i vs e hid
  obtain⟨vs',hw,hq⟩:=Option.map_eq_some_iff.1 hf
  cases hq
  refine dD h2 hid rfl fun H2 h3=>?_
  unfold fy
  simp only[bW h3 h1 hid,hw,Option.map_some]
 ·cases hf
theorem lx{nw:Prop}{C:Cfg}{t:TypeId}{m k x:Value}{H:List HObj}{F W:List Nat}(hs:∀r∈adr m,r∈F∧r∈W):LocF nw F W (bq C t m k x) H:=by
 intro H' v hf
 unfold bq at hf
 split at hf
 case h_2=>cases hf
 rename_i kt et id hu
 split at hf
 ·cases hf
 rename_i hok
 split at hf
 ·cases hf
 rename_i es c hm
 obtain⟨f1,w1⟩:=hs id (by simp[adr])
 have g1:=(bm (fun _ _ _ h _=>h:em F H H) f1 hm).1
 split at hf
 ·cases hf
 ·rename_i hfi
  cases hf
  refine dD w1 g1 rfl fun H2 h2=>?_
  unfold bq
  simp only[hu,hok,(bm h2 f1 hm).2,hfi]
  rfl
 ·rename_i i hfi
  split at hf
  ·rename_i hb
   cases hf
   refine dD w1 g1 rfl fun H2 h2=>?_
   unfold bq
   simp only[hu,hok,(bm h2 f1 hm).2,hfi,hb]
   rfl
  ·cases hf
theorem loc_entry{nw:Prop}{C:Cfg}{t:TypeId}{m k:Value}{H:List HObj}{F W:List Nat}(hs:∀r∈adr m,r∈F∧r∈W):LocF nw F W (bp C t m k) H:=by
 intro H' v hf
 unfold bp at hf
 split at hf
 case h_2=>cases hf
 rename_i kt et id hu
 split at hf
 ·cases hf
 rename_i hok
 split at hf
 ·cases hf
 rename_i es c hm
 obtain⟨f1,w1⟩:=hs id (by simp[adr])
 have g1:=(bm (fun _ _ _ h _=>h:em F H H) f1 hm).1
 split at hf
 ·cases hf
 ·rename_i hfi
  split at hf
  ·cases hf
  rename_i z hz
  cases hf
  refine dD w1 g1 rfl fun H2 h2=>?_
  unfold bp
  simp only[hu,hok,(bm h2 f1 hm).2,hfi,hz]
  rfl
 ·rename_i i hfi
  split at hf
  ·cases hf
  rename_i e hei
  split at hf
  ·rename_i hb
   cases hf
   refine dD w1 g1 rfl fun H2 h2=>?_
   unfold bp
   simp only[hu,hok,(bm h2 f1 hm).2,hfi,hei,hb]
   rfl
  ·cases hf
theorem ru{nw:Prop}{m s x:Value}{H:List HObj}{F W:List Nat}(hs:∀r∈adr m,r∈F∧r∈W):LocF nw F W (bA m s x) H:=by
 intro H' v hf
 unfold bA at hf
 split at hf
 case h_2=>cases hf
 rename_i id b hb
 split at hf
 ·cases hf
 rename_i hok
 split at hf
 ·cases hf
 rename_i es c hm
 obtain⟨f1,w1⟩:=hs id (by simp[adr])
 have g1:=(bm (fun _ _ _ h _=>h:em F H H) f1 hm).1
 split at hf
 ·rename_i i hfi
  cases hf
  refine dD w1 g1 rfl fun H2 h2=>?_
  unfold bA
  simp only[hb,hok,(bm h2 f1 hm).2,hfi]
  rfl
 ·cases hf
theorem rt{nw:Prop}{C:Cfg}{t:TypeId}{m k:Value}{H:List HObj}{F W:List Nat}(hs:∀r∈adr m,r∈F∧r∈W):LocF nw F W (cA C t m k) H:=by
 intro H' v hf
 unfold cA at hf
 split at hf
 case h_2=>cases hf
 rename_i kt et hu
 split at hf
 ·cases hf
 rename_i hok
 split at hf
 ·cases hf
  exact dX (by unfold cA;simp only[hu,hok];rfl) fun H2 h2=>by unfold cA;simp only[hu,hok];rfl
 ·rename_i id
  obtain⟨f1,w1⟩:=hs id (by simp[adr])
  split at hf
  ·cases hf
  rename_i es c hm
  have g1:=(bm (fun _ _ _ h _=>h:em F H H) f1 hm).1
  split at hf
  ·cases hf
  ·rename_i hfi
   cases hf
   exact dX (by unfold cA;simp only[hu,hok,hm,hfi];rfl) fun H2 h2=>by unfold cA;simp only[hu,hok,(bm h2 f1 hm).2,hfi];rfl
  ·rename_i i hfi
   cases hf
   refine dD w1 g1 rfl fun H2 h2=>?_
   unfold cA
   simp only[hu,hok,(bm h2 f1 hm).2,hfi]
   rfl
 ·cases hf
theorem loc_make{nw:Prop}{C:Cfg}{t:TypeId}{l c:Value}{H:List HObj}{F W:List Nat}(hnw:nw):LocF nw F W (cg C t l c) H:=by
 intro H' v hf
 unfold cg at hf
 split at hf
 case h_2=>cases hf
 rename_i ln cn e h1 h2 hu
 split at hf
 case h_2=>cases hf
 rename_i info hi
 split at hf
 ·cases hf
 rename_i hsz
 split at hf
 case h_2=>cases hf
 rename_i z hz
 split at hf
 ·rename_i hb
  cases hf
  refine mN (mk:=fun k=>.slice (some ⟨k,0,tag info.size⟩) ln.toNat (cn.toNat+1)) hnw rfl (.slice _ _ _) fun H2 _=>?_
  unfold cg
  simp only[h1,h2,hu,hi,hsz,hz,hb,and_self,if_true,if_false]
 ·cases hf
theorem rx{C:Cfg}{t:TypeId}{m k:Value}{ok:Bool}{H:List HObj}{F:List Nat}(hs:∀r∈adr m,r∈F):LocG F (bB C t m k ok) H:=by
 intro v hf H2 h2
 unfold bB at hf
 unfold bB
 split at hf
 case h_2=>cases hf
 rename_i kt et hu
 split at hf
 ·cases hf
 rename_i hok
 simp only[hok]
 split at hf
 ·cases hf
 rename_i z hz
 split at hf
 ·exact hf
 ·rename_i id
  have f1:=hs id (by simp[adr])
  split at hf
  ·cases hf
  rename_i es c hm
  simp only[(bm h2 f1 hm).2]
  exact hf
 ·cases hf
theorem loc_arr{C:Cfg}{t:TypeId}{a:Addr}{lo hi mx:Option Value}{H:List HObj}{F:List Nat}(hs:∀r∈adr (.pointer (some a)),r∈F):LocG F (bI C t a lo hi mx) H:=by
 intro v hf H2 h2
 unfold bI at hf
 unfold bI
 split at hf
 case h_2=>cases hf
 rename_i n elem hu
 split at hf
 ·cases hf
 rename_i hsz
 simp only[hsz,if_false]
 split at hf
 ·cases hf
 rename_i l h m hb
 split at hf
 ·rename_i hsp
  simp only[hsp,if_true];exact hf
 ·rename_i hsp
  simp only[hsp,if_false]
  split at hf
  ·rename_i hn
   simp only[hn,if_true]
   split at hf
   ·rename_i vs e b hid
    rw[bW h2 (hs _ (by simp[adr,hn])) hid]
    exact hf
   ·cases hf
  ·cases hf
end Sx
end Go.Am

/-
 WHAT AN OPERATION DOES WHEREVER IT STANDS,told of the blocks that it touches.
-/
namespace Go.Am
namespace Sx
noncomputable def fpo(pts:List Nat)(ρ:Operand→Value)(o:Oper):List Nat:=(bT pts o).1.flatMap fun x=>adrK (bT pts o).2 (ρ x)
noncomputable def wpo(pts:List Nat)(ρ:Operand→Value)(o:Oper):List Nat:=(cU pts o).flatMap fun x=>adr (ρ x)
noncomputable def okS(N:FuncId→Option Nat)(pts:List Nat)(o:Oper):Bool:=
 match aw N pts o with
 |some .hw=>(match o.op with
  | .call c=>(match c.callee with
   | .builtin _=>true
   |_=>false)
  |_=>true)
 |some .hr=>(match o.op with
  | .call c=>(match c.callee with
   | .builtin _=>true
   |_=>false)
  |_=>true)
 |some _=>true
 |none=>false
theorem ch{C:Cfg}{ρ:Operand→Value}{o:Oper}{e:Eff}(h:bt C ρ o=some e):∃v,e = .val v:=by
 unfold bt at h
 split at h
 ·split at h
  ·split at h
   ·cases h;exact⟨_,rfl⟩
   ·cases h
  ·cases h
 ·cases h
theorem cu{x:Option Value}{e:Eff}(h:x.map Eff.val=some e):∃v,e = .val v:=by
 obtain⟨v,_,rfl⟩:=Option.map_eq_some_iff.1 h
 exact⟨v,rfl⟩
theorem nohop_or{a:Option Value}{b:Option Eff}{e:Eff}(hb:b=some e→∃v,e = .val v)(h:jR a b=some e):∃v,e = .val v:=by
 unfold jR at h
 split at h
 ·cases h;exact⟨_,rfl⟩
 ·exact hb h
def LocE(Q nw:Prop)(F W:List Nat):Eff→Prop
 | .hop f=>∀H,LocF nw F W f H
 | .hget f=>∀H,LocG F f H
 | .call _ _=>Q
 | .yield _ _=>Q
 |_=>True
theorem aZ{Q nw:Prop}{F W:List Nat}{e:Eff}(h:∃v,e = .val v):LocE Q nw F W e:=by
 obtain⟨v,rfl⟩:=h;trivial
theorem fx{v:Value}{p:Nat×Nat}(h:eN v=some p):adr v=[p.1]:=by
 unfold eN at h
 split at h
 ·rename_i a
  split at h
  ·rename_i hs
   cases h
   cases hsp:a.spot with
   |none=>simp[adr,hsp]
   |some k=>rw[hsp]at hs;cases hs
  ·cases h
 ·cases h
theorem qp{Q nw:Prop}{C:Cfg}{pts:List Nat}{d:Option Tmp}{t:TypeId}{v:Value}{e:Eff}{F W:List Nat}(hnw:∀x,d=some x→pts.getD x 0≠x+2→nw)(h:br C pts d t v=some e):LocE Q nw F W e:=by
 unfold br at h
 split at h
 ·cases h
 ·split at h
  ·cases h
  ·split at h
   ·cases h
   ·split at h
    ·cases h;trivial
    ·rename_i hpt
     cases h
     exact fun H=>pt (hnw _ rfl hpt) (.cells v.cells.toList (gX C.P t) true) (fun n=>.pointer (some ⟨n,0,none⟩)) rfl .ptr
theorem effOf_loc{C:Cfg}{pts:List Nat}{ρ:Operand→Value}{o:Oper}{e:Eff}(he:ah C pts ρ o=some e):LocE (∃c f,o.op = .call c∧c.callee = .value f) (bY pts o=true) (fpo pts ρ o) (wpo pts ρ o) e:=by
 unfold ah at he
 split at he
 ·cases he;trivial
 ·cases he;trivial
 ·split at he
  ·cases he;trivial
  ·cases he
 ·rename_i t ho
  obtain⟨z,_,he⟩:=Option.bind_eq_some_iff.1 he
  exact qp (fun x hx hp=>by simp only[bY,ho,hx];cases hb:Nat.beq (pts.getD x 0) (x+2)with
   |false=>rfl
   |true=>exact absurd (Nat.eq_of_beq_eq_true hb) hp) he
 ·rename_i t x ho
  exact qp (fun x hx hp=>by simp only[bY,ho,hx];cases hb:Nat.beq (pts.getD x 0) (x+2)with
   |false=>rfl
   |true=>exact absurd (Nat.eq_of_beq_eq_true hb) hp) he
 ·split at he
  ·exact aZ (cu he)
  ·cases he
 ·rename_i t n ps ho
  split at he
  ·obtain⟨r,_,rfl⟩:=Option.map_eq_some_iff.1 he
   exact fun H=>pt (by simp only[bY,ho]) (.cells r.2 r.1 true) (fun k=>.slice (some ⟨k,0,tag r.1⟩) n (n+1)) rfl (.slice _ _ _)
  ·cases he
 ·rename_i t a ho
  unfold cC at he
  split at he
  ·rename_i hk
   split at he
   ·rename_i p hp
    cases he
    intro H v hv H2 h2
    obtain⟨vs,h3,h4⟩:=Option.bind_eq_some_iff.1 hv
    have hm:p.1∈fpo pts ρ o:=by simp[fpo,bT,adrK,ho,hk,fx hp]
    refine Option.bind_eq_some_iff.2 ⟨vs,?_,h4⟩
    unfold cp at h3 ⊢
    split at h3
    ·rename_i hid;cases h3;rw[bW h2 hm hid]
    ·cases h3
   ·obtain⟨p,_,rfl⟩:=Option.map_eq_some_iff.1 he
    exact fun H v hv H2 _=>hv
  ·obtain⟨p,_,he⟩:=Option.bind_eq_some_iff.1 he
   exact aZ (cu he)
  ·obtain⟨p,_,rfl⟩:=Option.map_eq_some_iff.1 he
   trivial
 ·rename_i t a x ho
  unfold cT at he
  split at he
  ·cases he
  ·split at he
   ·rename_i hk
    obtain⟨p,hp,rfl⟩:=Option.map_eq_some_iff.1 he
    exact fun H=>loc_store (by simp[fpo,bT,adrK,ho,hk,fx hp]) (by simp[wpo,cU,ho,hk,fx hp])
   ·cases he
   ·obtain⟨p,_,rfl⟩:=Option.map_eq_some_iff.1 he
    trivial
 ·split at he<;>cases he<;>trivial
 ·split at he
  ·split at he
   ·split at he
    ·cases he;trivial
    ·cases he
   ·exact aZ (ch he)
  ·split at he
   ·split at he
    ·cases he;trivial
    ·cases he
   ·exact aZ (ch he)
  ·exact aZ (ch he)
 ·split at he
  ·cases he
  ·cases he;trivial
 ·rename_i t r ho
  split at he
  ·cases he
   exact fun H=>pt (by simp only[bY,ho]) (.map [] 0) (fun n=>.map (some n)) rfl .map
  ·cases he
 ·rename_i t l c ho
  cases he
  exact fun H=>loc_make (by simp only[bY,ho])
 ·rename_i t x lo hi mx ho
  split at he
  ·rename_i a hx
   split at he
   ·exact aZ (cu he)
   ·cases he
    exact fun H=>loc_arr fun r hr=>by simp[fpo,bT,adrK,adrP,ho,hx];exact hr
  ·exact aZ (nohop_or ch he)
 ·exact aZ (cu he)
 ·exact aZ (cu he)
 ·exact aZ (cu he)
 ·exact aZ (cu he)
 ·rename_i t m k ok ho
  split at he
  ·exact aZ (cu he)
  ·cases he
   exact fun H=>rx fun r hr=>by simp[fpo,bT,adrK,ho];exact hr
 ·rename_i t m k v ho
  cases he
  exact fun H=>lx fun r hr=>⟨by simp[fpo,bT,adrK,ho];exact hr,by simp[wpo,cU,ho];exact hr⟩
 ·rename_i t m k v ho
  cases he
  exact fun H=>lx fun r hr=>⟨by simp[fpo,bT,adrK,ho];exact hr,by simp[wpo,cU,ho];exact hr⟩
 ·rename_i t m k ho
  cases he
  exact fun H=>loc_entry fun r hr=>⟨by simp[fpo,bT,adrK,ho];exact hr,by simp[wpo,cU,ho];exact hr⟩
 ·rename_i t m s v ho
  cases he
  exact fun H=>ru fun r hr=>⟨by simp[fpo,bT,adrK,ho];exact hr,by simp[wpo,cU,ho];exact hr⟩
 ·split at he
  ·split at he
   ·cases he
   ·exact aZ (cu he)
  ·cases he
 ·rename_i c ho
  unfold dQ at he
  simp only at he
  cases hc:c.callee with
  |invoke r m=>simp only[hc]at he;cases he
  |builtin b=>
   simp only[hc]at he
   unfold aG at he
   split at he
   ·rename_i s x t ha ht
    split at he
    ·cases he
    ·cases he
     have two:∃a b,c.args.toList=[a,b]∧ρ a=s∧ρ b=x:=by
      match c.args.toList,ha with
      | [a,b],ha=>simp at ha;exact⟨a,b,rfl,ha.1,ha.2⟩
     obtain⟨a,b,e1,rfl,rfl⟩:=two
     exact fun H=>rr (by simp only[bY,ho,hc]) (fun r hr=>⟨by simp[fpo,bT,adrK,ho,hc,e1,hr],by simp[wpo,cU,ho,hc,e1,hr]⟩) fun r hr=>by simp[fpo,bT,adrK,ho,hc,e1,hr]
   ·rename_i x t ha ht
    split at he
    ·cases he;trivial
    ·rename_i id hu
     cases he
     have one:∃a,c.args.toList=[a]∧ρ a = .map (some id):=by
      cases hl:c.args.toList with
      |nil=>rw[hl]at ha;cases ha
      |cons a l=>
       rw[hl]at ha
       cases l with
       |nil=>exact⟨a,rfl,by simpa using ha⟩
       |cons b l=>simp at ha
     obtain⟨a,e1,e2⟩:=one
     intro H v hv H2 h2
     obtain⟨p,h3,h4⟩:=Option.map_eq_some_iff.1 hv
     have hm:id∈fpo pts ρ o:=by simp[fpo,bT,adrK,adrM,ho,hc,e1,e2]
     exact Option.map_eq_some_iff.2 ⟨p,(bm h2 hm h3).2,h4⟩
    ·cases he;trivial
    ·exact aZ (ch he)
   ·split at he
    ·cases he;trivial
    ·cases he;trivial
    ·cases he;trivial
    ·cases he
   ·rename_i d x t ha ht
    cases he
    have two:∃a b,c.args.toList=[a,b]∧ρ a=d∧ρ b=x:=by
     match c.args.toList,ha with
     | [a,b],ha=>simp at ha;exact⟨a,b,rfl,ha.1,ha.2⟩
    obtain⟨a,b,e1,rfl,rfl⟩:=two
    exact fun H=>loc_copy (fun r hr=>⟨by simp[fpo,bT,adrK,ho,hc,e1,hr],by simp[wpo,cU,ho,hc,e1,hr]⟩) fun r hr=>by simp[fpo,bT,adrK,ho,hc,e1,hr]
   ·rename_i m k t ha ht
    cases he
    have two:∃a b,c.args.toList=[a,b]∧ρ a=m∧ρ b=k:=by
     match c.args.toList,ha with
     | [a,b],ha=>simp at ha;exact⟨a,b,rfl,ha.1,ha.2⟩
    obtain⟨a,b,e1,rfl,rfl⟩:=two
    exact fun H=>rt fun r hr=>⟨by simp[fpo,bT,adrK,ho,hc,e1,hr],by simp[wpo,cU,ho,hc,e1,hr]⟩
   ·rename_i x t ha ht
    cases he
    have one:∃a,c.args.toList=[a]∧ρ a=x:=by
     match c.args.toList,ha with
     | [a],ha=>simp at ha;exact⟨a,rfl,ha⟩
    obtain⟨a,e1,rfl⟩:=one
    exact fun H=>loc_clear fun r hr=>⟨by simp[fpo,bT,adrK,ho,hc,e1,hr],by simp[wpo,cU,ho,hc,e1,hr]⟩
   ·exact aZ (ch he)
  |value f=>
   simp only[hc]at he
   split at he
   ·cases he
   ·split at he
    ·split at he
     ·cases he;exact⟨c,f,ho,hc⟩
     ·cases he
    ·split at he
     ·cases he;exact⟨c,f,ho,hc⟩
     ·cases he
    ·cases he
 ·exact aZ (ch he)
 ·exact aZ (ch he)
 ·cases he
section
variable [Val] {C:Cfg} {B:Below} {N:FuncId→Option Nat} {pts:List Nat} {ops:Array Oper}
def mb(N:FuncId→Option Nat)(pts:List Nat)(ops:Array Oper)(o:Oper)(σ τ:St):Prop:=
 (∀t∈bf ops o,τ.tmps[t]? = σ.tmps[t]?)∧(match aw N pts o with
 |some (.row s _)=>τ.loc[s]? = σ.loc[s]?
 |_=>True)∧em (fpo pts (oval σ.tmps) o) σ.heap τ.heap
noncomputable def dc(dst:Option Tmp)(e:HEff)(rw:Option (Nat×Option (List Value)))(k:Option Nat)(τ:St):St:=
 ({ tmps:=τ.tmps,loc:=(match rw with|some p=>τ.loc.set p.1 p.2|none=>τ.loc),heap:=(match k with
  |none=>e.heap τ.heap
  |some k=>match e.push with
   |some p=>(e.put τ.heap).set k p.1
   |none=>e.put τ.heap) }:St).put dst (match k with
  |none=>e.val τ.heap.length
  |some k=>e.val k)
theorem local_okS(hN:NeuB N B){i:Nat}{o:Oper}(hi:ops[i]? = some o)(hc:okS N pts o=true){σ σ':St}(hs:ai C B pts ops i σ σ') :
  ∃(e:HEff) (rw:Option (Nat×Option (List Value))),σ'=dc o.dst e rw none σ∧(∀p,rw=some p→aw N pts o=some (.row p.1 true))∧(e.push≠none→aw N pts o=some .hw)∧
   (∀p,e.set=some p→p.1∈wpo pts (oval σ.tmps) o∧∃x,σ.heap[p.1]? = some x∧x.alive=true)∧(∀p,e.push=some p→bY pts o=true∧Fresh p.2∧p.1.alive=true)∧
   ∀τ,mb N pts ops o σ τ→∀sl:Nat→Option Nat,
    (e.push=none→sl i=none→cF C B pts ops sl i τ (dc o.dst e rw none τ))∧
    (∀p k,e.push=some p→sl i=some k→(e.put τ.heap)[k]? = some .dead→cF C B pts ops sl i τ (dc o.dst e rw (some k) τ)):=by
 have hm:aw N pts o≠none:=by intro h;unfold okS at hc;rw[h]at hc;cases hc
 by_cases hcl:aw N pts o=some .hr∨aw N pts o=some .hw
 case neg=>
  obtain⟨e,h1,h2,h3⟩:=eZ hN hi hm hs
  have hh:e.hp=none:=by
   cases he:e.hp with
   |none=>rfl
   |some x=>exact absurd (.inr (h2.2 (by rw[he];simp))) hcl
  have hon:∀τ,e.on o.dst τ=dc o.dst ⟨none,none,e.v⟩ e.rw none τ:=fun τ=>by
   unfold Ef.on dc
   rw[hh]
   rfl
  refine⟨⟨none,none,e.v⟩,e.rw,by rw[h1,hon],h2.1,fun h=>absurd rfl h,fun p hp=>(by cases hp),fun p hp=>(by cases hp),fun τ hτ sl=>⟨fun _ hsl=>?_,fun p k hp=>(by cases hp)⟩⟩
  unfold cF
  rw[hsl]
  rw[←hon]
  refine h3 τ ⟨hτ.1,?_⟩
  have:=hτ.2.1
  cases hmm:aw N pts o with
  |none=>exact absurd hmm hm
  |some m=>
   rw[hmm]at this hcl
   cases m with
   |hr=>exact absurd (.inl rfl) hcl
   |hw=>exact absurd (.inr rfl) hcl
   |row s w=>exact this
   |_=>trivial
 case pos=>
  unfold ai at hs
  simp only[hi]at hs
  have hwτ:∀τ,mb N pts ops o σ τ→bi ops τ.tmps o=bi ops σ.tmps o:=fun τ hτ=>fF hτ.1
  have val:∀v:Value,σ'=σ.put o.dst v→(∀τ,mb N pts ops o σ τ→ai C B pts ops i τ (τ.put o.dst v))→
    ∃(e:HEff) (rw:Option (Nat×Option (List Value))),σ'=dc o.dst e rw none σ∧(∀p,rw=some p→aw N pts o=some (.row p.1 true))∧(e.push≠none→aw N pts o=some .hw)∧
     (∀p,e.set=some p→p.1∈wpo pts (oval σ.tmps) o∧∃x,σ.heap[p.1]? = some x∧x.alive=true)∧(∀p,e.push=some p→bY pts o=true∧Fresh p.2∧p.1.alive=true)∧
     ∀τ,mb N pts ops o σ τ→∀sl:Nat→Option Nat,
      (e.push=none→sl i=none→cF C B pts ops sl i τ (dc o.dst e rw none τ))∧
      (∀p k,e.push=some p→sl i=some k→(e.put τ.heap)[k]? = some .dead→cF C B pts ops sl i τ (dc o.dst e rw (some k) τ)):=by
   intro v hv h
   refine⟨⟨none,none,v⟩,none,hv,fun p hp=>(by cases hp),fun h=>absurd rfl h,fun p hp=>(by cases hp),fun p hp=>(by cases hp),fun τ hτ sl=>⟨fun _ hsl=>?_,fun p k hp=>(by cases hp)⟩⟩
   unfold cF
   rw[hsl]
   exact h τ hτ
  split at hs
  ·exact hs.elim
  ·rename_i hw
   refine val undef hs fun τ hτ=>?_
   unfold ai
   simp only[hi,hwτ τ hτ,hw]
  ·rename_i hw
   have step:∀ {τ τ':St},mb N pts ops o σ τ→((∃e,ah C pts (oval τ.tmps) o=some e∧fP B e o.dst τ τ')∨(∃v,fo C τ.tmps o v∧τ'=τ.put o.dst v))→ai C B pts ops i τ τ':=by
    intro τ τ' hτ h
    unfold ai
    simp only[hi,hwτ τ hτ,hw]
    exact h
   rcases hs with⟨e,he,hr⟩|⟨v,hv,rfl⟩
   ·have heτ:∀τ,mb N pts ops o σ τ→ah C pts (oval τ.tmps) o=some e:=fun τ hτ=>by
     rw[ft N pts hm (iU hτ.1)];exact he
    have hfit:=eM (N:=N) (fun _=>rfl) hm he
    have hloc:=effOf_loc he
    cases e with
    |val v=>
     obtain⟨p,hp,rfl⟩:=hr
     cases hp
     exact val v rfl fun τ hτ=>step hτ (.inl ⟨_,heτ τ hτ,_,rfl,rfl⟩)
    |lnew s vs=>
     have hfit:aw N pts o=some (.row s true):=hfit
     rw[hfit]at hcl;rcases hcl with h|h<;>cases h
    |lget s f=>
     have hfit:aw N pts o=some (.row s false):=hfit
     rw[hfit]at hcl;rcases hcl with h|h<;>cases h
    |lset s f=>
     have hfit:aw N pts o=some (.row s true):=hfit
     rw[hfit]at hcl;rcases hcl with h|h<;>cases h
    |hget f=>
     obtain⟨p,hp,rfl⟩:=hr
     simp only[aA]at hp
     obtain⟨v,hv,rfl⟩:=Option.map_eq_some_iff.1 hp
     refine val v rfl fun τ hτ=>step hτ (.inl ⟨_,heτ τ hτ,(τ,v),?_,rfl⟩)
     simp only[aA,hloc _ _ hv _ hτ.2.2,Option.map_some]
    |hop f=>
     obtain⟨p,hp,rfl⟩:=hr
     simp only[aA]at hp
     obtain⟨q,hv,rfl⟩:=Option.map_eq_some_iff.1 hp
     obtain⟨e,l1,l2,l3,l4,l5⟩:=hloc σ.heap q.1 q.2 hv
     refine⟨e,none,?_,fun p hp=>(by cases hp),fun _=>hfit,l3,l4,fun τ hτ sl=>⟨fun hp hsl=>?_,fun p k hp hsl hd=>?_⟩⟩
     ·unfold dc
      rw[l1,l2]
     ·unfold cF
      rw[hsl]
      exact step hτ (.inl ⟨_,heτ τ hτ,({ τ with heap:=e.heap τ.heap },e.val τ.heap.length),by simp only[aA,l5 _ hτ.2.2,Option.map_some],rfl⟩)
     ·unfold cF
      rw[hsl]
      refine⟨o,f,e.put τ.heap,p.1,p.2,hi,by rw[hwτ τ hτ];exact hw,heτ τ hτ,?_,?_,hd,(l4 p hp).2.1,?_⟩
      ·rw[l5 _ hτ.2.2]
       unfold HEff.heap HEff.val
       rw[hp]
      ·unfold HEff.put
       split<;>simp
      ·unfold dc HEff.val
       rw[hp]
    |call f args=>
     exfalso
     have hfit:(aw N pts o=some (.neu f)∧N f=some (2*args.length))∨(aw N pts o=some .hr∧N f=some (2*args.length+1))∨aw N pts o=some .hw:=hfit
     rcases hfit with⟨h,_⟩|⟨h,_⟩|h
     ·rw[h]at hcl;rcases hcl with h|h<;>cases h
     ·obtain⟨c,g,q1,q2⟩:=hloc
      unfold okS at hc
      simp only[h,q1,q2]at hc
      cases hc
     ·obtain⟨c,g,q1,q2⟩:=hloc
      unfold okS at hc
      simp only[h,q1,q2]at hc
      cases hc
    |yield l args=>
     exfalso
     have hfit:aw N pts o=some .hw:=hfit
     obtain⟨c,g,q1,q2⟩:=hloc
     unfold okS at hc
     simp only[hfit,q1,q2]at hc
     cases hc
   ·refine val v rfl fun τ hτ=>step hτ (.inr ⟨v,?_,rfl⟩)
    obtain⟨h1,h2,h3,h4⟩:=hv
    have hops:=iU hτ.1
    refine⟨h1,?_,h3,fun w=>?_⟩
    ·rw[List.all_eq_true]at h2 ⊢
     intro x hx
     rw[hops x hx];exact h2 x hx
    ·rw[execOp_congr N pts hm (ρ':=fun x=>den (oval σ.tmps x)) fun x hx=>by rw[hops x hx]]
     exact h4 w
end
end Sx
end Go.Am

/-
 REGIONS THAT DRAW THEIR ORDER,where several operations make blocks: the blocks that they touch are told apart by the values behind them.
-/
namespace Go.Am
namespace Sx
section
variable [Val] {C:Cfg} {B:Below} {N:FuncId→Option Nat} {pts:List Nat} {ops:Array Oper}
def runR(S:Nat→St→St→Prop):List Nat→St→St→Prop
 | [],σ,σ'=>σ'=σ
 |i :: l,σ,σ'=>∃σ₁,S i σ σ₁∧runR S l σ₁ σ'
theorem jJ{S:Nat→St→St→Prop}{i:Nat}{post:List Nat}:∀(pre:List Nat),(∀k∈pre,∀σ σ₁ σ':St,S k σ σ₁→S i σ₁ σ'→∃τ,S i σ τ∧S k τ σ')→
  ∀σ σ':St,runR S (pre++i :: post) σ σ'→runR S (i :: (pre++post)) σ σ'
 | [],_,σ,σ',h=>h
 |k :: pre,hc,σ,σ',⟨σ₁,h1,h2⟩=>by
  obtain⟨σ₂,h3,h4⟩:=jJ pre (fun k hk=>hc k (by simp[hk])) σ₁ σ' h2
  obtain⟨τ,h5,h6⟩:=hc k (by simp) σ σ₁ σ₂ h1 h3
  exact⟨τ,h5,σ₂,h6,h4⟩
theorem go_okR{S:Nat→St→St→Prop}(hback:∀(i:Nat) o,ops[i]? = some o→∀e∈o.after.toList,Region.binds .any e=true→e.on<i)
  (hpair:∀i k:Nat,i<ops.size→k<i→Anc ops k i∨∀σ σ₁ σ':St,S k σ σ₁→S i σ₁ σ'→∃τ,S i σ τ∧S k τ σ'):∀(fuel t:Nat) (listed:Array Bool),listed.size=ops.size→(unl ops.size listed).length=fuel→
  (∀(x:Nat) o,listed.getD x true=true→ops[x]? = some o→∀e∈o.after.toList,Region.binds .any e=true→listed.getD e.on false=true)→
  ∀σ σ':St,runR S (unl ops.size listed) σ σ'→runR S (Region.linearise.go .any ops fuel t listed []) σ σ'∧(Region.linearise.go .any ops fuel t listed []).Nodup∧∀x∈Region.linearise.go .any ops fuel t listed [],listed.getD x true=false
 |0,t,listed,_,hl,_,σ,σ',h=>by
  have:unl ops.size listed=[]:=List.length_eq_zero_iff.1 hl
  rw[this]at h
  simpa[Region.linearise.go]using h
 |fuel+1,t,listed,hsz,hl,hcl,σ,σ',h=>by
  simp only[Region.linearise.go]
  generalize hrs:((List.range ops.size).filter fun i=>!listed.getD i true&&((ops[i]?).map (·.after.all fun e=>!Region.binds .any e||listed.getD e.on false)).getD false)=rs
  have hready:∀i∈rs,i<ops.size∧listed.getD i true=false∧∀o,ops[i]? = some o→∀e∈o.after.toList,Region.binds .any e=true→listed.getD e.on false=true:=by
   intro i hi
   rw[←hrs,List.mem_filter,List.mem_range]at hi
   obtain⟨h1,h2⟩:=hi
   simp only[Bool.and_eq_true,Bool.not_eq_true']at h2
   refine⟨h1,h2.1,fun o ho e he hb=>?_⟩
   have h3:=h2.2
   rw[ho]at h3
   simp only[Option.map_some,Option.getD_some]at h3
   rw[Array.all_eq_true']at h3
   have:=h3 e (by simpa using he)
   rw[hb]at this
   simpa using this
  have hne:rs≠[]:=by
   have hu:unl ops.size listed≠[]:=by intro e;rw[e]at hl;cases hl
   obtain⟨i0,tl,hu0⟩:=List.exists_cons_of_ne_nil hu
   have hi0:i0∈unl ops.size listed:=by rw[hu0];simp
   have hi1:=hi0
   rw[unl,List.mem_filter,List.mem_range]at hi1
   have hmem:i0∈rs:=by
    rw[←hrs,List.mem_filter,List.mem_range]
    refine⟨hi1.1,?_⟩
    simp only[Bool.and_eq_true]
    refine⟨hi1.2,?_⟩
    have ho:ops[i0]? = some ops[i0]:=by simp[hi1.1]
    rw[ho]
    simp only[Option.map_some,Option.getD_some]
    rw[Array.all_eq_true']
    intro e he
    cases hb:Region.binds .any e with
    |false=>simp
    |true=>
     have hlt:=hback i0 _ ho e (by simpa using he) hb
     simp only[Bool.not_true,Bool.false_or]
     by_cases hlis:listed.getD e.on true=true
     ·have hs:e.on<listed.size:=by omega
      rw[Array.getD_eq_getD_getElem?]at hlis ⊢
      rw[Array.getElem?_eq_getElem hs]at hlis ⊢
      exact hlis
     ·exfalso
      have hm:e.on∈unl ops.size listed:=by
       rw[unl,List.mem_filter,List.mem_range]
       exact⟨by omega,by simpa using hlis⟩
      rw[hu0]at hm
      rcases List.mem_cons.1 hm with hm|hm
      ·omega
      ·have hs:(unl ops.size listed).Pairwise (· < ·):=List.Pairwise.filter _ List.pairwise_lt_range
       rw[hu0,List.pairwise_cons]at hs
       have:=hs.1 _ hm
       omega
   intro e;rw[e]at hmem;cases hmem
  have hlen:0<rs.length:=List.length_pos_iff.2 hne
  have hget:rs[t%rs.length]? = some (rs[t%rs.length]'(Nat.mod_lt _ hlen)):=List.getElem?_eq_getElem (Nat.mod_lt _ hlen)
  rw[hget]
  simp only
  generalize hi:rs[t%rs.length]'(Nat.mod_lt _ hlen)=i
  have hmem:i∈rs:=by rw[←hi];exact List.getElem_mem _
  obtain⟨i1,i2,i3⟩:=hready i hmem
  rw[linearise_go_acc,List.reverse_singleton,List.singleton_append]
  have hiu:i∈(List.range ops.size).filter fun j=>!listed.getD j true:=by
   rw[List.mem_filter,List.mem_range];exact⟨i1,by simp[i2]⟩
  obtain⟨pre,post,e1,e2,e3⟩:=eJ List.nodup_range hiu
  have hord:=ic e1
  have hnew:unl ops.size (listed.setIfInBounds i true)=pre++post:=by
   rw[←e2]
   unfold unl
   refine List.filter_congr fun j hj=>?_
   rw[Array.getD_eq_getD_getElem?,Array.getD_eq_getD_getElem?,Array.getElem?_setIfInBounds]
   by_cases hji:i=j
   ·subst hji
    rw[if_pos rfl,if_pos (by omega)]
    simp
   ·rw[if_neg hji]
    have:(j != i)=true:=by simpa using fun e=>hji e.symm
    simp[this]
  have hmf:=jJ (S:=S) (i:=i) (post:=post) pre (fun k hk σ σ₁ σ' s1 s2=>by
   obtain⟨m1,m2⟩:=e3 k hk
   rw[List.mem_filter,List.mem_range]at m1
   rcases hpair i k i1 (hord k hk)with hanc|hcm
   ·exfalso
    have:=kN hcl hanc i3
    have m3:=m1.2
    rw[Array.getD_eq_getD_getElem?]at this m3
    rw[Array.getElem?_eq_getElem (by omega)]at this m3
    simp only[Option.getD_some]at this m3
    rw[this]at m3
    cases m3
   ·exact hcm _ _ _ s1 s2) σ σ'
  obtain⟨σ₁,s1,s2⟩:=hmf (by rw[←e1];exact h)
  obtain⟨r1,r2,r3⟩:=go_okR hback hpair fuel (t / rs.length) (listed.setIfInBounds i true) (by simp[hsz]) (by
    rw[hnew]
    have:(unl ops.size listed).length=(pre++post).length+1:=by
     show(List.filter _ _).length=_
     rw[e1];simp;omega
    omega) (by
    intro x o hx ho e he hb
    have keep:∀y,listed.getD y false=true→(listed.setIfInBounds i true).getD y false=true:=by
     intro y hy
     rw[Array.getD_eq_getD_getElem?]at hy ⊢
     rw[Array.getElem?_setIfInBounds]
     split
     ·rename_i h1
      subst h1
      rw[if_pos (by omega)];rfl
     ·exact hy
    by_cases hxi:x=i
    ·subst hxi;exact keep _ (i3 o ho e he hb)
    ·refine keep _ (hcl x o ?_ ho e he hb)
     rw[Array.getD_eq_getD_getElem?,Array.getElem?_setIfInBounds,if_neg (fun e=>hxi e.symm)]at hx
     rw[Array.getD_eq_getD_getElem?];exact hx) σ₁ σ' (by rw[hnew];exact s2)
  have hout:∀x∈Region.linearise.go .any ops fuel (t / rs.length) (listed.setIfInBounds i true) [],x≠i∧listed.getD x true=false:=by
   intro x hx
   have:=r3 x hx
   rw[Array.getD_eq_getD_getElem?,Array.getElem?_setIfInBounds]at this
   by_cases hxi:i=x
   ·subst hxi
    rw[if_pos rfl,if_pos (by omega)]at this
    cases this
   ·rw[if_neg hxi]at this
    exact⟨Ne.symm hxi,by rw[Array.getD_eq_getD_getElem?];exact this⟩
  refine⟨⟨σ₁,s1,r1⟩,List.nodup_cons.2 ⟨fun hm=>(hout i hm).1 rfl,r2⟩,fun x hx=>?_⟩
  rcases List.mem_cons.1 hx with rfl|hx
  ·exact i2
  ·exact(hout x hx).2
end
end Sx
end Go.Am

/-
 REGIONS THAT DRAW THEIR ORDER: what each operation has done,as a record;two records change places;whatever the order.
-/
namespace Go.Am
namespace Sx
noncomputable def cS(ws:List (Nat×HObj))(H:List HObj):List HObj:=ws.foldl (fun H p=>H.set p.1 p.2) H
theorem dm:∀(ws:List (Nat×HObj)) (H:List HObj),(cS ws H).length=H.length
 | [],H=>rfl
 |p :: ws,H=>by
  show(cS ws (H.set p.1 p.2)).length=_
  rw[dm ws];simp
theorem gj{r:Nat}:∀ {ws:List (Nat×HObj)} {H:List HObj},(∀p∈ws,p.1≠r)→(cS ws H)[r]? = H[r]?
 | [],H,_=>rfl
 |p :: ws,H,h=>by
  show(cS ws (H.set p.1 p.2))[r]? = _
  rw[gj fun q hq=>h q (List.mem_cons_of_mem _ hq),List.getElem?_set_ne (h p (by simp))]
theorem oN{i:Nat}{x:HObj}:∀ {ws:List (Nat×HObj)} {H:List HObj},(∀p∈ws,p.1≠i)→cS ws (H.set i x)=(cS ws H).set i x
 | [],H,_=>rfl
 |p :: ws,H,h=>by
  show cS ws ((H.set i x).set p.1 p.2)=(cS ws (H.set p.1 p.2)).set i x
  rw[List.set_comm _ _ (Ne.symm (h p (by simp))),oN fun q hq=>h q (List.mem_cons_of_mem _ hq)]
theorem ff:∀ {a b:List (Nat×HObj)} {H:List HObj},(∀p∈a,∀q∈b,p.1≠q.1)→cS a (cS b H)=cS b (cS a H)
 | [],b,H,_=>rfl
 |p :: a,b,H,h=>by
  show cS a ((cS b H).set p.1 p.2)=cS b (cS a (H.set p.1 p.2))
  rw[←oN fun q hq=>Ne.symm (h p (by simp) q hq)]
  exact ff fun q hq=>h q (List.mem_cons_of_mem _ hq)
section
variable [Val] {C:Cfg} {B:Below} {N:FuncId→Option Nat} {pts:List Nat} {ops:Array Oper}
structure Rec where
 σ:St
 e:HEff
 rw:Option (Nat×Option (List Value))
 k:Option Nat
noncomputable def Rec.on(r:Rec)(o:Oper)(τ:St):St:=dc o.dst r.e r.rw r.k τ
def Rec.sees(N:FuncId→Option Nat)(pts:List Nat)(ops:Array Oper)(r:Rec)(o:Oper)(τ:St):Prop:=
 mb N pts ops o r.σ τ∧∀k,r.k=some k→(r.e.put τ.heap)[k]? = some .dead
noncomputable def Rec.slot(r:Rec):List (Nat×HObj):=match r.k,r.e.push with
 |some k,some p=>[(k,p.1)]
 |_,_=>[]
noncomputable def Rec.ws(r:Rec):List (Nat×HObj):=r.e.set.toList++r.slot
structure Rec.Ok(C:Cfg)(B:Below)(N:FuncId→Option Nat)(pts:List Nat)(ops:Array Oper)(i:Nat)(o:Oper)(r:Rec):Prop where
 row:∀p,r.rw=some p→aw N pts o=some (.row p.1 true)
 wr:∀p,r.e.set=some p→p.1∈wpo pts (oval r.σ.tmps) o
 kp:r.k=none↔r.e.push=none
 fr:∀p,r.e.push=some p→Fresh p.2∧aw N pts o=some .hw∧bY pts o=true
 step:∀τ,r.sees N pts ops o τ→∀sl:Nat→Option Nat,sl i=r.k→cF C B pts ops sl i τ (r.on o τ)
theorem cR(e:HEff)(H:List HObj):e.put H=cS e.set.toList H:=by
 unfold HEff.put
 cases e.set<;>rfl
theorem dY{r:Rec}{o:Oper}{τ:St}(h:r.k=none↔r.e.push=none):(r.on o τ).heap=cS r.ws τ.heap:=by
 unfold Rec.on dc
 rw[cQ]
 unfold Rec.ws Rec.slot
 cases hk:r.k with
 |none=>
  simp only[HEff.heap,h.1 hk,cR,List.append_nil]
 |some k=>
  cases hp:r.e.push with
  |none=>rw[h.2 hp]at hk;cases hk
  |some p=>
   simp only[cR]
   show(cS r.e.set.toList τ.heap).set k p.1=_
   unfold cS
   rw[List.foldl_append]
   rfl
theorem jP{r:Rec}{o:Oper}{τ:St}:(r.on o τ).loc=(match r.rw with|some p=>τ.loc.set p.1 p.2|none=>τ.loc):=by
 unfold Rec.on dc
 rw[mX]
 all_goals (cases r.rw<;>rfl)
noncomputable def Rec.val(r:Rec):Value:=match r.k with
 |some k=>r.e.val k
 |none=>r.e.v
theorem iT{r:Rec}{o:Oper}{τ:St}(h:r.k=none↔r.e.push=none):(r.on o τ).tmps=(match o.dst with|some d=>τ.tmps.set d r.val|none=>τ.tmps):=by
 unfold Rec.on dc
 rw[mY]
 unfold Rec.val
 cases hk:r.k with
 |none=>simp only[HEff.val,h.1 hk];all_goals (cases o.dst<;>rfl)
 |some k=>cases o.dst<;>rfl
noncomputable def rowOk:MC→MC→Bool
 | .row s w,.row s' w'=>!Nat.beq s s'||(!w && !w')
 |_,_=>true
noncomputable def stat2(N:FuncId→Option Nat)(pts:List Nat)(ops:Array Oper)(a b:Oper):Bool:=
 match aw N pts a,aw N pts b with
 |some m,some n=>rowOk m n&&bQ a.dst (bf ops b)&&bQ b.dst (bf ops a)&&bF a.dst b.dst
 |_,_=>false
theorem kW{d:Option Tmp}{l:List Nat}(hd:bQ d l=true):∀t∈l,∀x,d=some x→x≠t:=by
 intro t ht x hx he
 subst hx he
 simp only[bQ,Bool.not_eq_true',List.contains_eq_mem,decide_eq_false_iff_not]at hd
 exact hd ht
theorem unseenR{a b:Oper}{m n:MC}{ra rb:Rec}{ia:Nat}(ha:aw N pts a=some m)(hb:aw N pts b=some n)(oka:ra.Ok C B N pts ops ia a)(hrow:rowOk m n=true∨rowOk n m=true)(hd:bQ a.dst (bf ops b)=true)
  (d1:∀p∈ra.ws,p.1∉fpo pts (oval rb.σ.tmps) b) {τ:St}:mb N pts ops b rb.σ (ra.on a τ)↔mb N pts ops b rb.σ τ:=by
 have ht:∀t∈bf ops b,(ra.on a τ).tmps[t]? = τ.tmps[t]?:=fun t ht=>by
  unfold Rec.on dc
  exact jV fun x hx=>kW hd t ht x hx
 have hl:∀s w,aw N pts b=some (.row s w)→(ra.on a τ).loc[s]? = τ.loc[s]?:=fun s w hm=>by
  rw[jP]
  cases hrw:ra.rw with
  |none=>rfl
  |some p=>
   have h1:=oka.row p hrw
   rw[ha]at h1
   rw[hb]at hm
   cases h1;cases hm
   have:p.1≠s:=by
    intro he
    subst he
    rcases hrow with h|h<;>simp[rowOk]at h
   show(τ.loc.set p.1 p.2)[s]? = _
   rw[List.getElem?_set_ne this]
 have hh:∀r∈fpo pts (oval rb.σ.tmps) b,(ra.on a τ).heap[r]? = τ.heap[r]?:=fun r hr=>by
  rw[dY oka.kp]
  exact gj fun p hp e=>d1 p hp (e▸hr)
 constructor
 ·rintro⟨q1,q2,q3⟩
  refine⟨fun t h=>by rw[←ht t h];exact q1 t h,?_,fun r hr x hx hal=>by rw[←hh r hr];exact q3 r hr x hx hal⟩
  rw[hb]at q2 ⊢
  cases n<;>first|trivial|(rename_i s w;exact(hl s w hb).symm.trans q2)
 ·rintro⟨q1,q2,q3⟩
  refine⟨fun t h=>by rw[ht t h];exact q1 t h,?_,fun r hr x hx hal=>by rw[hh r hr];exact q3 r hr x hx hal⟩
  rw[hb]at q2 ⊢
  cases n<;>first|trivial|(rename_i s w;exact(hl s w hb).trans q2)
theorem swapR{a b:Oper}{ra rb:Rec}{ia ib:Nat}(oka:ra.Ok C B N pts ops ia a)(okb:rb.Ok C B N pts ops ib b)(hs:stat2 N pts ops a b=true)
  (d1:∀p∈ra.ws,p.1∉fpo pts (oval rb.σ.tmps) b) (d2:∀p∈rb.ws,p.1∉fpo pts (oval ra.σ.tmps) a) (d3:∀p∈ra.ws,∀q∈rb.ws,p.1≠q.1) {τ:St} (ha:ra.sees N pts ops a τ) (hb:rb.sees N pts ops b (ra.on a τ)) :
  rb.sees N pts ops b τ∧ra.sees N pts ops a (rb.on b τ)∧rb.on b (ra.on a τ)=ra.on a (rb.on b τ):=by
 unfold stat2 at hs
 split at hs
 case h_2=>cases hs
 rename_i m n hm hn
 simp only[Bool.and_eq_true]at hs
 obtain⟨⟨⟨c1,c2⟩,c3⟩,c4⟩:=hs
 have ub:=unseenR (rb:=rb) hm hn oka (.inl c1) c2 d1 (τ:=τ)
 have ua:=unseenR (rb:=ra) hn hm okb (.inr c1) c3 d2 (τ:=τ)
 refine⟨⟨ub.1 hb.1,fun k hk=>?_⟩,⟨ua.2 ha.1,fun k hk=>?_⟩,?_⟩
 ·have h1:=hb.2 k hk
  have hkb:∃p,rb.e.push=some p:=by
   cases hp:rb.e.push with
   |none=>rw[okb.kp.2 hp]at hk;cases hk
   |some p=>exact⟨p,rfl⟩
  obtain⟨p,hp⟩:=hkb
  have hmem:(k,p.1)∈rb.ws:=by simp[Rec.ws,Rec.slot,hk,hp]
  rw[dY oka.kp,cR,←ff (fun q hq s hs e=>d3 q hq s (List.mem_append_left _ hs) e),gj (fun q hq e=>d3 q hq _ hmem e)]at h1
  rw[cR];exact h1
 ·have h1:=ha.2 k hk
  have hka:∃p,ra.e.push=some p:=by
   cases hp:ra.e.push with
   |none=>rw[oka.kp.2 hp]at hk;cases hk
   |some p=>exact⟨p,rfl⟩
  obtain⟨p,hp⟩:=hka
  have hmem:(k,p.1)∈ra.ws:=by simp[Rec.ws,Rec.slot,hk,hp]
  rw[dY okb.kp,cR,ff (fun q hq s hs e=>d3 q (List.mem_append_left _ hq) s hs e),gj (fun q hq e=>d3 _ hmem q hq e.symm)]
  rw[cR]at h1;exact h1
 ·have h1:(rb.on b (ra.on a τ)).tmps=(ra.on a (rb.on b τ)).tmps:=by
   rw[iT okb.kp,iT oka.kp,iT oka.kp,iT okb.kp]
   cases hx:a.dst with
   |none=>rfl
   |some x=>
    cases hy:b.dst with
    |none=>rfl
    |some y=>
     rw[hx,hy]at c4
     have:x≠y:=by
      intro he;subst he;simp[bF]at c4
     exact set_comm _ _ _ this
  have h2:(rb.on b (ra.on a τ)).loc=(ra.on a (rb.on b τ)).loc:=by
   rw[jP,jP,jP,jP]
   cases hx:ra.rw with
   |none=>rfl
   |some p=>
    cases hy:rb.rw with
    |none=>rfl
    |some q=>
     have e1:=oka.row p hx
     have e2:=okb.row q hy
     rw[hm]at e1
     rw[hn]at e2
     cases e1;cases e2
     have:p.1≠q.1:=by
      intro he
      rw[he]at c1
      simp[rowOk]at c1
     exact set_comm _ _ _ this
  have h3:(rb.on b (ra.on a τ)).heap=(ra.on a (rb.on b τ)).heap:=by
   rw[dY okb.kp,dY oka.kp,dY oka.kp,dY okb.kp]
   exact(ff d3).symm
  generalize rb.on b (ra.on a τ)=x at *
  generalize ra.on a (rb.on b τ)=y at *
  cases x;cases y
  simp only at h1 h2 h3
  subst h1;subst h2;subst h3
  rfl
end
end Sx
end Go.Am

/-
 REGIONS THAT DRAW THEIR ORDER: the run in the text's order,as records,with room kept for the blocks.
-/
namespace Go.Am
namespace Sx
section
variable [Val] {C:Cfg} {B:Below} {N:FuncId→Option Nat} {pts:List Nat} {ops:Array Oper}
def St.padTo(σ:St)(m:Nat):St:=σ.pad (m - σ.heap.length)
def recS(N:FuncId→Option Nat)(pts:List Nat)(ops:Array Oper)(rc:Nat→Rec)(i:Nat)(τ τ':St):Prop:=∃o,ops[i]? = some o∧(rc i).sees N pts ops o τ∧τ'=(rc i).on o τ
theorem gi{D:List HObj}:∀ {ws:List (Nat×HObj)} {H:List HObj},(∀p∈ws,p.1<H.length)→cS ws (H++D)=cS ws H++D
 | [],H,_=>rfl
 |p :: ws,H,h=>by
  show cS ws ((H++D).set p.1 p.2)=cS ws (H.set p.1 p.2)++D
  rw[List.set_append_left _ _ (h p (by simp)),gi fun q hq=>by
   have:=h q (List.mem_cons_of_mem _ hq)
   simpa using this]
structure RunOk(C:Cfg)(B:Below)(N:FuncId→Option Nat)(pts:List Nat)(ops:Array Oper)(l:List Nat)(σ σ':St)(rc:Nat→Rec):Prop where
 len:σ.heap.length≤σ'.heap.length
 ok:∀i∈l,∀o,ops[i]? = some o→(rc i).Ok C B N pts ops i o
 slot:∀i∈l,∀k,(rc i).k=some k→σ.heap.length≤k∧k<σ'.heap.length
 inj:∀i∈l,∀j∈l,∀k,(rc i).k=some k→(rc j).k=some k→i=j
 keep:∀t,(∀j∈l,∀o,ops[j]? = some o→o.dst≠some t)→σ'.tmps[t]? = σ.tmps[t]?
 args:∀i∈l,∀t,(∀j∈l,i≤j→∀o,ops[j]? = some o→o.dst≠some t)→σ'.tmps[t]? = (rc i).σ.tmps[t]?
 res:∀i∈l,∀o d v,ops[i]? = some o→o.dst=some d→(∀j∈l,i<j→∀o,ops[j]? = some o→o.dst≠some d)→σ'.tmps[d]? = some v→v=(rc i).val
 run:∀m,σ'.heap.length≤m→runR (recS N pts ops rc) l (St.padTo σ m) (St.padTo σ' m)
theorem effOn_len{dst:Option Tmp}{e:HEff}{rw:Option (Nat×Option (List Value))}{σ:St}:(dc dst e rw none σ).heap.length=σ.heap.length+(match e.push with|some _=>1|none=>0):=by
 unfold dc
 rw[cQ]
 simp only[HEff.heap,HEff.put]
 cases e.push<;>cases e.set<;>simp
theorem gz{dst:Option Tmp}{e:HEff}{rw:Option (Nat×Option (List Value))}{k:Option Nat}{σ:St}:(dc dst e rw k σ).tmps=(match dst with|some d=>σ.tmps.set d (match k with|none=>e.val σ.heap.length|some k=>e.val k)|none=>σ.tmps):=by
 unfold dc
 rw[mY]
 all_goals (cases dst<;>rfl)
theorem rec_one(hN:NeuB N B){i:Nat}{o:Oper}(hi:ops[i]? = some o)(hc:okS N pts o=true){σ σ₁:St}(hs:ai C B pts ops i σ σ₁) :
  ∃r:Rec,r.σ=σ∧r.Ok C B N pts ops i o∧σ.heap.length≤σ₁.heap.length∧(∀k,r.k=some k→k=σ.heap.length∧k<σ₁.heap.length)∧
   (∀t,o.dst≠some t→σ₁.tmps[t]? = σ.tmps[t]?)∧(∀d v,o.dst=some d→σ₁.tmps[d]? = some v→v=r.val)∧
   ∀m,σ₁.heap.length≤m→r.sees N pts ops o (St.padTo σ m)∧St.padTo σ₁ m=r.on o (St.padTo σ m):=by
 obtain⟨e,rw,h1,h2,h3,h4,h5,h6⟩:=local_okS (N:=N) hN hi hc hs
 have hlen:σ₁.heap.length=σ.heap.length+(match e.push with|some _=>1|none=>0):=by rw[h1];exact effOn_len
 refine⟨⟨σ,e,rw,match e.push with|some _=>some σ.heap.length|none=>none⟩,rfl,⟨h2,fun p hp=>(h4 p hp).1,?_,fun p hp=>⟨(h5 p hp).2.1,h3 (by rw[show e.push=some p from hp];simp),(h5 p hp).1⟩,?_⟩,by omega,?_,?_,?_,?_⟩
 ·cases hp:e.push<;>simp
 ·intro τ hτ sl hsl
  unfold Rec.on
  simp only at hsl ⊢
  cases hp:e.push with
  |none=>
   rw[hp]at hsl
   exact(h6 τ hτ.1 sl).1 hp hsl
  |some p=>
   rw[hp]at hsl
   refine(h6 τ hτ.1 sl).2 p _ hp hsl (hτ.2 _ ?_)
   simp only[hp]
 ·intro k hk
  simp only at hk
  cases hp:e.push with
  |none=>rw[hp]at hk;cases hk
  |some p=>
   rw[hp]at hk hlen
   cases hk
   exact⟨rfl,by simp only at hlen;omega⟩
 ·intro t ht
  rw[h1]
  unfold dc
  exact jV fun x hx e=>ht (by rw[hx,e])
 ·intro d v hd hv
  rw[h1,gz,hd]at hv
  simp only[List.getElem?_set]at hv
  split at hv
  ·split at hv
   ·cases hv
    unfold Rec.val
    simp only[HEff.val]
    cases hp:e.push<;>rfl
   ·cases hv
  ·rename_i hne;exact absurd trivial hne
 ·intro m hm
  have hD:(St.padTo σ m).heap=σ.heap++List.replicate (m - σ.heap.length) .dead:=rfl
  have hset:∀p∈e.set.toList,p.1<σ.heap.length:=fun p hp=>by
   obtain⟨_,x,hx,_⟩:=h4 p (by simpa using hp)
   exact(List.getElem?_eq_some_iff.1 hx).1
  refine⟨⟨⟨fun t _=>rfl,?_,fun r _ x hx _=>?_⟩,fun k hk=>?_⟩,?_⟩
  ·cases aw N pts o with
   |none=>trivial
   |some mc=>cases mc<;>first|trivial|rfl
  ·rw[hD,List.getElem?_append_left (List.getElem?_eq_some_iff.1 hx).1]
   exact hx
  ·simp only at hk
   cases hp:e.push with
   |none=>rw[hp]at hk;cases hk
   |some p=>
    rw[hp]at hk hlen
    cases hk
    simp only at hlen ⊢
    rw[cR,hD,gi hset,List.getElem?_append_right (by rw[dm];exact Nat.le_refl _),dm,Nat.sub_self,List.getElem?_replicate,if_pos (by omega)]
  · -- the same state
   have e1:(St.padTo σ₁ m).tmps=((⟨σ,e,rw,match e.push with|some _=>some σ.heap.length|none=>none⟩ : Rec).on o (St.padTo σ m)).tmps:=by
    show σ₁.tmps=_
    unfold Rec.on
    rw[h1,gz,gz]
    show _=(match o.dst with|some d=>σ.tmps.set d _|none=>σ.tmps)
    cases o.dst with
    |none=>rfl
    |some d=>
     simp only[HEff.val]
     cases hp:e.push<;>rfl
   have e2:(St.padTo σ₁ m).loc=((⟨σ,e,rw,match e.push with|some _=>some σ.heap.length|none=>none⟩ : Rec).on o (St.padTo σ m)).loc:=by
    show σ₁.loc=_
    unfold Rec.on
    rw[h1]
    unfold dc
    rw[mX,mX]
    rfl
   have e3:(St.padTo σ₁ m).heap=((⟨σ,e,rw,match e.push with|some _=>some σ.heap.length|none=>none⟩ : Rec).on o (St.padTo σ m)).heap:=by
    show σ₁.heap++List.replicate (m - σ₁.heap.length) .dead=_
    unfold Rec.on
    have hh:σ₁.heap=e.heap σ.heap:=by rw[h1];unfold dc;rw[cQ]
    unfold dc
    rw[cQ,hD]
    cases hp:e.push with
    |none=>
     rw[hp]at hlen
     simp only[hp,HEff.heap,cR]at hh ⊢
     rw[gi hset,hh]
     simp only[dm]
    |some p=>
     rw[hp]at hlen
     simp only at hlen
     simp only[hp,HEff.heap,cR]at hh ⊢
     rw[gi hset,hh]
     have hn:m - σ.heap.length=(m - σ.heap.length - 1)+1:=by omega
     rw[hn,List.replicate_succ]
     rw[List.set_append_right _ _ (by rw[dm];exact Nat.le_refl _),dm,Nat.sub_self,List.set_cons_zero]
     simp only[List.append_assoc,List.length_append,dm,List.length_cons,List.length_nil,List.cons_append,List.nil_append]
     rw[show m - (σ.heap.length+(0+1))=m - σ.heap.length - 1 by omega]
   generalize hX:(⟨σ,e,rw,match e.push with|some _=>some σ.heap.length|none=>none⟩ : Rec).on o (St.padTo σ m)=X at *
   generalize St.padTo σ₁ m=Y at *
   cases X;cases Y
   simp only at e1 e2 e3
   subst e1;subst e2;subst e3
   rfl
theorem lQ{S S':Nat→St→St→Prop}:∀ {l:List Nat},(∀i∈l,∀σ σ',S i σ σ'→S' i σ σ')→∀ {σ σ':St},runR S l σ σ'→runR S' l σ σ'
 | [],_,_,_,h=>h
 |i :: l,hs,σ,σ',⟨σ₁,h1,h2⟩=>⟨σ₁,hs i (by simp) _ _ h1,lQ (fun j hj=>hs j (List.mem_cons_of_mem _ hj)) h2⟩
theorem recs_of(hN:NeuB N B):∀(l:List Nat) (σ σ':St),l.Pairwise (· < ·)→(∀i∈l,∃o,ops[i]? = some o∧okS N pts o=true)→bC C B pts ops l σ σ'→∃rc:Nat→Rec,RunOk C B N pts ops l σ σ' rc
 | [],σ,σ',_,_,h=>by
  have:σ'=σ:=h
  subst this
  exact⟨fun _=>⟨σ',⟨none,none,undef⟩,none,none⟩,Nat.le_refl _,fun _ h=>(by cases h),fun _ h=>(by cases h),fun _ h=>(by cases h),fun _ _=>rfl,fun _ h=>(by cases h),fun _ h=>(by cases h),fun _ _=>rfl⟩
 |i :: l,σ,σ',hp,hok,⟨σ₁,h1,h2⟩=>by
  obtain⟨o,hi,hc⟩:=hok i (by simp)
  obtain⟨r,rfl,r1,r2,r3,r4,r5,r6⟩:=rec_one hN hi hc h1
  rw[List.pairwise_cons]at hp
  obtain⟨rc,R⟩:=recs_of hN l σ₁ σ' hp.2 (fun j hj=>hok j (List.mem_cons_of_mem _ hj)) h2
  have hne:∀j∈l,j≠i:=fun j hj e=>by have:=hp.1 j hj;omega
  have hat:∀j∈l,(if j=i then r else rc j)=rc j:=fun j hj=>if_neg (hne j hj)
  refine⟨fun j=>if j=i then r else rc j,Nat.le_trans r2 R.len,?_,?_,?_,?_,?_,?_,?_⟩
  ·intro j hj o' ho'
   rcases List.mem_cons.1 hj with rfl|hj
   ·simp only[if_true]
    rw[hi]at ho';cases ho';exact r1
   ·simp only[hat j hj];exact R.ok j hj o' ho'
  ·intro j hj k hk
   rcases List.mem_cons.1 hj with rfl|hj
   ·simp only[if_true]at hk
    obtain⟨e1,e2⟩:=r3 k hk
    have:=R.len
    omega
   ·simp only[hat j hj]at hk
    have:=R.slot j hj k hk
    omega
  ·intro j hj j' hj' k hk hk'
   rcases List.mem_cons.1 hj with q1|q1<;>rcases List.mem_cons.1 hj' with q2|q2
   ·rw[q1,q2]
   ·simp only[q1,if_true]at hk
    simp only[hat j' q2]at hk'
    have e1:=r3 k hk
    have e2:=R.slot j' q2 k hk'
    omega
   ·simp only[q2,if_true]at hk'
    simp only[hat j q1]at hk
    have e1:=r3 k hk'
    have e2:=R.slot j q1 k hk
    omega
   ·simp only[hat j q1]at hk
    simp only[hat j' q2]at hk'
    exact R.inj j q1 j' q2 k hk hk'
  ·intro t ht
   rw[R.keep t fun j hj=>ht j (List.mem_cons_of_mem _ hj)]
   exact r4 t (ht i (by simp) o hi)
  ·intro j hj t ht
   rcases List.mem_cons.1 hj with rfl|hj
   ·simp only[if_true]
    have hall:∀j'∈l,∀o',ops[j']? = some o'→o'.dst≠some t:=fun j' hj'=>ht j' (List.mem_cons_of_mem _ hj') (Nat.le_of_lt (hp.1 j' hj'))
    rw[R.keep t hall]
    exact r4 t (ht j (by simp) (Nat.le_refl _) o hi)
   ·simp only[hat j hj]
    exact R.args j hj t fun j' hj'=>ht j' (List.mem_cons_of_mem _ hj')
  ·intro j hj o' d v ho' hd hlt hv
   rcases List.mem_cons.1 hj with rfl|hj
   ·simp only[if_true]
    rw[hi]at ho';cases ho'
    refine r5 d v hd ?_
    rw[←R.keep d fun j' hj'=>hlt j' (List.mem_cons_of_mem _ hj') (hp.1 j' hj')]
    exact hv
   ·simp only[hat j hj]
    exact R.res j hj o' d v ho' hd (fun j' hj'=>hlt j' (List.mem_cons_of_mem _ hj')) hv
  ·intro m hm
   obtain⟨s1,s2⟩:=r6 m (Nat.le_trans R.len hm)
   refine⟨St.padTo σ₁ m,⟨o,hi,?_,?_⟩,?_⟩
   ·simp only[if_true];exact s1
   ·simp only[if_true];exact s2
   ·refine lQ (fun j hj τ τ' h=>?_) (R.run m hm)
    obtain⟨o',q1,q2,q3⟩:=h
    exact⟨o',q1,by simp only[hat j hj];exact q2,by simp only[hat j hj];exact q3⟩
end
end Sx
end Go.Am

/-
 REGIONS THAT DRAW THEIR ORDER,where several operations make blocks: whatever the order,if the values tell the blocks apart.
-/
namespace Go.Am
namespace Sx
section
variable [Val] {C:Cfg} {B:Below} {N:FuncId→Option Nat} {pts:List Nat} {ops:Array Oper}
noncomputable def qI(q:Oper→Oper→Bool)(b:Oper)(m:Nat):List Oper→Nat→Bool
 | [],_=>true
 |a :: l,k=>(Nat.testBit m k||q a b)&&qI q b m l (k+1)
noncomputable def mU(q:Oper→Oper→Bool)(ms:List Nat):List Oper→List Oper→Nat→Bool
 |_,[],_=>true
 |pre,b :: l,i=>qI q b (ms.getD i 0) pre 0&&mU q ms (pre++[b]) l (i+1)
theorem oI{q:Oper→Oper→Bool}{b:Oper}{m:Nat}:∀ {l:List Oper} {k:Nat},qI q b m l k=true→∀(j:Nat) a,l[j]? = some a→m.testBit (k+j)=true∨q a b=true
 | [],k,_,j,a,h=>by simp at h
 |a :: l,k,h,j,c,hj=>by
  simp only[qI,Bool.and_eq_true,Bool.or_eq_true]at h
  cases j with
  |zero=>simp at hj;subst hj;exact h.1
  |succ j=>
   have:=oI h.2 j c (by simpa using hj)
   rwa [show k+1+j=k+(j+1)by omega]at this
theorem lI{q:Oper→Oper→Bool}{ms:List Nat}:∀ {l pre:List Oper} {i:Nat},pre.length=i→mU q ms pre l i=true→∀(j:Nat) b,l[j]? = some b→∀(k:Nat) a,k<i+j→(pre++l)[k]? = some a→(ms.getD (i+j) 0).testBit k=true∨q a b=true
 | [],pre,i,_,_,j,b,h,_,_,_,_=>by simp at h
 |b :: l,pre,i,hp,h,j,c,hj,k,a,hk,ha=>by
  simp only[mU,Bool.and_eq_true]at h
  cases j with
  |zero=>
   simp at hj
   subst hj
   rw[List.getElem?_append_left (by omega)]at ha
   have:=oI h.1 k a ha
   simpa using this
  |succ j=>
   have:=lI (pre:=pre++[b]) (i:=i+1) (by simp[hp]) h.2 j c (by simpa using hj) k a (by omega) (by simpa using ha)
   rwa [show i+1+j=i+(j+1)by omega]at this
theorem nM{b:Oper}{m i:Nat}:∀ {l:List Oper} {k:Nat} (j:Nat) a,l[j]? = some a→m.testBit (k+j)=false→conf pts a b=true→(k+j,i)∈nL pts b m i l k
 | [],k,j,a,h,_,_=>by simp at h
 |a :: l,k,j,c,hj,hb,hc=>by
  unfold nL
  cases j with
  |zero=>
   simp at hj
   subst hj
   simp only[Nat.add_zero]at hb ⊢
   rw[hb,hc]
   simp
  |succ j=>
   have:=nM (i:=i) (k:=k+1) j c (by simpa using hj) (by rwa [show k+1+j=k+(j+1)by omega]) hc
   rw[show k+1+j=k+(j+1)by omega]at this
   split
   ·exact this
   ·exact List.mem_cons_of_mem _ this
theorem nK{ms:List Nat}:∀ {l pre:List Oper} {i:Nat},pre.length=i→∀(j:Nat) b,l[j]? = some b→∀(k:Nat) a,k<i+j→(pre++l)[k]? = some a→(ms.getD (i+j) 0).testBit k=false→conf pts a b=true→(k,i+j)∈pZ pts ms pre l i
 | [],pre,i,_,j,b,h,_,_,_,_,_,_=>by simp at h
 |b :: l,pre,i,hp,j,c,hj,k,a,hk,ha,ht,hc=>by
  unfold pZ
  rw[List.mem_append]
  cases j with
  |zero=>
   simp at hj
   subst hj
   rw[List.getElem?_append_left (by omega)]at ha
   have:=nM (pts:=pts) (i:=i) (k:=0) k a ha (by simpa using ht) hc
   left
   simpa using this
  |succ j=>
   right
   have:=nK (pre:=pre++[b]) (i:=i+1) (by simp[hp]) j c (by simpa using hj) k a (by omega) (by simpa using ha) (by rwa [show i+1+j=i+(j+1)by omega]) hc
   rwa [show i+1+j=i+(j+1)by omega]at this
noncomputable def opT(pts:List Nat)(o:Oper):List Nat:=((bT pts o).1++cU pts o).filterMap fun x=>match x with
 | .tmp t=>some t
 |_=>none
noncomputable def ssaB(pts:List Nat):List Oper→List Oper→Bool
 |_,[]=>true
 |pre,b :: l=>bQ b.dst (opT pts b)&&(pre.all fun a=>bQ b.dst (opT pts a)&&bF a.dst b.dst)&&ssaB pts (pre++[b]) l
theorem pN:∀ {l pre:List Oper},ssaB pts pre l=true→∀(j:Nat) b,l[j]? = some b→∀(k:Nat) a,(pre++l)[k]? = some a→(k≤pre.length+j→bQ b.dst (opT pts a)=true)∧(k<pre.length+j→bF a.dst b.dst=true)
 | [],pre,_,j,b,h,_,_,_=>by simp at h
 |b :: l,pre,h,j,c,hj,k,a,ha=>by
  simp only[ssaB,Bool.and_eq_true,List.all_eq_true]at h
  obtain⟨⟨h1,h2⟩,h3⟩:=h
  cases j with
  |zero=>
   simp at hj
   subst hj
   refine⟨fun hk=>?_,fun hk=>?_⟩
   ·rcases Nat.lt_or_ge k pre.length with hlt|hge
    ·rw[List.getElem?_append_left hlt]at ha
     exact(h2 a (List.mem_of_getElem? ha)).1
    ·obtain rfl:k=pre.length:=by omega
     rw[List.getElem?_append_right (Nat.le_refl _),Nat.sub_self]at ha
     simp at ha
     subst ha
     exact h1
   ·rw[List.getElem?_append_left (by omega)]at ha
    exact(h2 a (List.mem_of_getElem? ha)).2
  |succ j=>
   have:=pN h3 j c (by simpa using hj) k a (by simpa using ha)
   simp only[List.length_append,List.length_cons,List.length_nil]at this
   exact⟨fun hk=>this.1 (by omega),fun hk=>this.2 (by omega)⟩
noncomputable def sepReg(N:FuncId→Option Nat)(pts:List Nat)(ops:Array Oper):Bool:=
 eF ops.toList 0&&(ops.toList.all (okS N pts)&&(ops.toList.any (bY pts)&&(ops.toList.all (fun o=>!bY pts o||o.dst.isSome)&&(ssaB pts [] ops.toList&&mU (fun a b=>stat2 N pts ops a b && !dH a b) (ancs ops.toList []) [] ops.toList 0))))
noncomputable def drOf(N:FuncId→Option Nat):Dr:=fun pts ops=>match qa pts ops with
 | []=>match oH N pts ops with
  |true=>some []
  |false=>none
 |p :: ps=>match sepReg N pts ops with
  |true=>some (p :: ps)
  |false=>none
theorem hcls0{o:Oper}(h:hCls pts o=0):(bT pts o).1=[]∧cU pts o=[]∧bY pts o=false:=by
 obtain⟨dst,op,ty,pos,after,guard⟩:=o
 cases op<;>simp only[hCls]at h<;>first|(exact⟨rfl,rfl,rfl⟩)|(exact absurd h (by decide))|skip
 case alloc t=>cases hn:bY pts ⟨dst,.alloc t,ty,pos,after,guard⟩with
  |true=>rw[hn]at h;cases h
  |false=>exact⟨rfl,rfl,rfl⟩
 case box t x=>cases hn:bY pts ⟨dst,.box t x,ty,pos,after,guard⟩with
  |true=>rw[hn]at h;cases h
  |false=>exact⟨rfl,rfl,rfl⟩
 case load t a=>
  split at h
  ·cases h
  ·rename_i hk
   refine⟨?_,rfl,rfl⟩
   simp only[bT]
 case store t a x=>
  split at h
  ·cases h
  ·rename_i hk
   refine⟨?_,?_,rfl⟩
   ·simp only[bT]
   ·simp only[cU]
 case call c=>
  cases hc:c.callee with
  |builtin b=>
   rw[hc]at h
   simp only[bT,cU,bY,hc]
   cases b<;>first|(exact⟨rfl,rfl,rfl⟩)|(exact absurd h (by simp))
  |value f=>simp only[bT,cU,bY,hc];exact⟨trivial,trivial,trivial⟩
  |invoke r m=>simp only[bT,cU,bY,hc];exact⟨trivial,trivial,trivial⟩
theorem hcls1{o:Oper}(h:hCls pts o=1):cU pts o=[]∧bY pts o=false:=by
 obtain⟨dst,op,ty,pos,after,guard⟩:=o
 cases op<;>simp only[hCls]at h<;>first|(exact⟨rfl,rfl⟩)|(exact absurd h (by decide))|skip
 case alloc t=>cases hn:bY pts ⟨dst,.alloc t,ty,pos,after,guard⟩with
  |true=>rw[hn]at h;cases h
  |false=>exact⟨rfl,rfl⟩
 case box t x=>cases hn:bY pts ⟨dst,.box t x,ty,pos,after,guard⟩with
  |true=>rw[hn]at h;cases h
  |false=>exact⟨rfl,rfl⟩
 case store t a x=>split at h<;>cases h
 case call c=>
  cases hc:c.callee with
  |builtin b=>
   rw[hc]at h
   simp only[cU,bY,hc]
   cases b<;>first|(exact⟨rfl,rfl⟩)|(exact absurd h (by simp))
  |value f=>simp only[cU,bY,hc];exact⟨trivial,trivial⟩
  |invoke r m=>simp only[cU,bY,hc];exact⟨trivial,trivial⟩
theorem mG(o:Oper):hCls pts o=0∨hCls pts o=1∨hCls pts o=2:=by
 obtain⟨dst,op,ty,pos,after,guard⟩:=o
 cases op<;>simp only[hCls]<;>first|(exact .inl trivial)|(exact .inr (.inl trivial))|(exact .inr (.inr trivial))|skip
 case alloc t=>split<;>simp
 case box t x=>split<;>simp
 case load t a=>split<;>simp
 case store t a x=>split<;>simp
 case call c=>split<;>first|(split<;>simp)|simp
end
end Sx
end Go.Am

/-
 REGIONS THAT DRAW THEIR ORDER: whatever the order.
-/
namespace Go.Am
namespace Sx
section
variable [Val] {C:Cfg} {B:Below} {N:FuncId→Option Nat} {pts:List Nat} {ops:Array Oper}
theorem fresh_adr{mk:Nat→Value}(h:Fresh mk)(k:Nat):adr (mk k)=[k]:=by
 cases h<;>simp[adr,tag]
theorem qO{S:Nat→St→St→Prop}{sl:Nat→Option Nat}(hS:∀i σ σ',S i σ σ'→cF C B pts ops sl i σ σ'):∀ {l:List Nat},l.Nodup→∀ {σ σ':St},runR S l σ σ'→fg C B pts ops sl l σ σ'
 | [],_,_,_,h=>h
 |i :: l,hn,σ,σ',⟨σ₁,h1,h2⟩=>by
  rw[List.nodup_cons]at hn
  exact⟨hn.1,σ₁,hS i _ _ h1,qO hS hn.2 h2⟩
theorem opT_mem{o:Oper}{t:Nat}(h:Operand.tmp t∈(bT pts o).1++cU pts o):t∈opT pts o:=by
 unfold opT
 exact List.mem_filterMap.2 ⟨.tmp t,h,rfl⟩
theorem any_okS [Kno](hN:NeuB N B)(hreg:sepReg N pts ops=true){σ σ':St}(h:bC C B pts ops (List.range ops.size) σ σ')(hsep:SepAt pts ops σ'.tmps (qa pts ops)):ew C B pts ops σ σ':=by
 simp only[sepReg,Bool.and_eq_true]at hreg
 obtain⟨g1,g2,g3,g4,g5,g6⟩:=hreg
 have hok:∀i∈List.range ops.size,∃o,ops[i]? = some o∧okS N pts o=true:=by
  intro i hi
  rw[List.mem_range]at hi
  exact⟨ops[i],by simp[hi],List.all_eq_true.1 g2 _ (by simp)⟩
 obtain⟨rc,R⟩:=recs_of hN (List.range ops.size) σ σ' List.pairwise_lt_range hok h
 have hsz:∀ {i:Nat} {o:Oper},ops[i]? = some o→i<ops.size:=fun hi=>(Array.getElem?_eq_some_iff.1 hi).1
 have hrg:∀ {i:Nat} {o:Oper},ops[i]? = some o→i∈List.range ops.size:=fun hi=>List.mem_range.2 (hsz hi)
 have hl:∀ {i:Nat} {o:Oper},ops[i]? = some o→ops.toList[i]? = some o:=fun hi=>by simpa using hi
 have hop:∀ {i:Nat} {o:Oper},ops[i]? = some o→∀x∈(bT pts o).1++cU pts o,oval σ'.tmps x=oval (rc i).σ.tmps x:=by
  intro i o hi x hx
  refine gQ fun t ht=>?_
  subst ht
  refine R.args i (hrg hi) t fun j hj hij o' ho' hd=>?_
  have:=(pN g5 j o' (hl ho') i o (by simpa using hi)).1 (by simpa using hij)
  exact kW this t (opT_mem hx) t hd rfl
 have hF:∀ {i:Nat} {o:Oper},ops[i]? = some o→∀r∈fpo pts (oval (rc i).σ.tmps) o,r∈fAt pts σ'.tmps o:=by
  intro i o hi r hr
  unfold fpo at hr
  unfold fAt
  obtain⟨x,hx,hr⟩:=List.mem_flatMap.1 hr
  exact List.mem_flatMap.2 ⟨x,hx,by rw[hop hi x (List.mem_append_left _ hx)];exact hr⟩
 have hW:∀ {i:Nat} {o:Oper},ops[i]? = some o→dstIn pts σ'.tmps o→∀p∈(rc i).ws,p.1∈wAt pts σ'.tmps o:=by
  intro i o hi hdi p hp
  have K:=R.ok i (hrg hi) o hi
  unfold Rec.ws at hp
  unfold wAt
  rw[List.mem_flatMap]
  rcases List.mem_append.1 hp with hp|hp
  ·have:=K.wr p (by simpa using hp)
   unfold wpo at this
   obtain⟨x,hx,hr⟩:=List.mem_flatMap.1 this
   exact⟨x,List.mem_append_left _ hx,by rw[hop hi x (List.mem_append_right _ hx)];exact hr⟩
  ·unfold Rec.slot at hp
   split at hp
   ·rename_i k q hk hq
    have hp:p=(k,q.1):=by simpa using hp
    subst hp
    obtain⟨f1,f2,f3⟩:=K.fr q hq
    have hc2:hCls pts o=2:=by
     rcases mG (pts:=pts) o with h0|h0|h0
     ·rw[(hcls0 h0).2.2]at f3;cases f3
     ·rw[(hcls1 h0).2]at f3;cases f3
     ·exact h0
    have hds:o.dst.isSome=true:=by
     have:=List.all_eq_true.1 g4 o (List.mem_of_getElem? (hl hi))
     rw[f3]at this
     simpa using this
    obtain⟨d,hd⟩:=Option.isSome_iff_exists.1 hds
    obtain⟨v,hv⟩:=hdi d hd hc2
    have hval:=R.res i (hrg hi) o d v hi hd (fun j hj hij o' ho' hd'=>by
     have:=(pN g5 j o' (hl ho') i o (by simpa using hi)).2 (by simpa using hij)
     rw[hd,hd']at this
     simp[bF]at this) hv
    refine⟨.tmp d,nq hd hc2,?_⟩
    have ho:oval σ'.tmps (.tmp d)=v:=by simp[oval,List.getD_eq_getElem?_getD,hv]
    rw[ho,hval]
    unfold Rec.val HEff.val
    rw[hk]
    simp only[hq]
    rw[fresh_adr f1]
    exact List.mem_singleton.2 rfl
   ·cases hp
 have hno:∀ {i:Nat} {o:Oper},ops[i]? = some o→hCls pts o≠2→(rc i).ws=[]:=by
  intro i o hi hc
  have K:=R.ok i (hrg hi) o hi
  have hw:cU pts o=[]∧bY pts o=false:=by
   rcases mG (pts:=pts) o with h0|h0|h0
   ·exact(hcls0 h0).2
   ·exact hcls1 h0
   ·exact absurd h0 hc
  have e1:(rc i).e.set=none:=by
   cases hs:(rc i).e.set with
   |none=>rfl
   |some p=>
    have:=K.wr p hs
    unfold wpo at this
    rw[hw.1]at this
    cases this
  have e2:(rc i).e.push=none:=by
   cases hs:(rc i).e.push with
   |none=>rfl
   |some p=>have:=(K.fr p hs).2.2;rw[hw.2]at this;cases this
  unfold Rec.ws Rec.slot
  rw[e1,e2]
  cases (rc i).k<;>rfl
 have hno2:∀ {i:Nat} {o:Oper},hCls pts o=0→fpo pts (oval (rc i).σ.tmps) o=[]:=by
  intro i o hc
  unfold fpo
  rw[(hcls0 hc).1]
  rfl
 refine .inr ⟨fun i=>if i<ops.size then(rc i).k else none,σ'.heap.length - σ.heap.length,g3,?_,?_,fun t=>?_⟩
 ·intro i k hk
  simp only at hk
  split at hk
  ·rename_i hi
   have:=R.slot i (List.mem_range.2 hi) k hk
   omega
  ·cases hk
 ·intro i j k hk hk'
  simp only at hk hk'
  split at hk
  ·rename_i hi
   split at hk'
   ·rename_i hj
    exact R.inj i (List.mem_range.2 hi) j (List.mem_range.2 hj) k hk hk'
   ·cases hk'
  ·cases hk
 have hback:∀(i:Nat) o,ops[i]? = some o→∀e∈o.after.toList,Region.binds .any e=true→e.on<i:=by
  intro i o ho e he hb
  have:=eG g1 i o (by simpa using ho) e he hb
  omega
 have hpair:∀i k:Nat,i<ops.size→k<i→Anc ops k i∨∀τ τ₁ τ':St,recS N pts ops rc k τ τ₁→recS N pts ops rc i τ₁ τ'→∃ρ,recS N pts ops rc i τ ρ∧recS N pts ops rc k ρ τ':=by
  intro i k hi hki
  have hb:ops[i]? = some ops[i]:=by simp[hi]
  have ha:ops[k]? = some (ops[k]'(by omega)):=by simp[show k<ops.size by omega]
  generalize ops[i]=b at hb
  generalize ops[k]'(by omega)=a at ha
  have hq:=lI (pre:=[]) (i:=0) rfl g6 i b (by simpa using hb) k a (by omega) (by simpa using ha)
  rw[Nat.zero_add]at hq
  cases htb:(List.getD (ancs ops.toList []) i 0).testBit k with
  |true=>exact .inl (oT ops.toList [] rfl (fun i k h=>by simp at h) i k htb)
  |false=>
   right
   rw[htb]at hq
   have hq:=hq.resolve_left (by simp)
   simp only[Bool.and_eq_true]at hq
   obtain⟨q1,q2⟩:=hq
   have d:(∀p∈(rc k).ws,p.1∉fpo pts (oval (rc i).σ.tmps) b)∧(∀p∈(rc i).ws,p.1∉fpo pts (oval (rc k).σ.tmps) a)∧(∀p∈(rc k).ws,∀q∈(rc i).ws,p.1≠q.1):=by
    cases hcf:conf pts a b with
    |true=>
     have hm:=nK (pts:=pts) (ms:=ancs ops.toList []) (l:=ops.toList) (pre:=[]) (i:=0) rfl i b (by simpa using hb) k a (by omega) (by simpa using ha) (by rw[Nat.zero_add];exact htb) hcf
     rw[Nat.zero_add]at hm
     obtain⟨a',b',r1,r2,s1,s2,s3,s4,s5⟩:=hsep (k,i) hm
     have r1:ops[k]? = some a':=r1
     have r2:ops[i]? = some b':=r2
     rw[ha]at r1;rw[hb]at r2
     cases r1;cases r2
     exact⟨fun p hp hf=>s1 _ (hW ha s4 p hp) (hF hb _ hf),fun p hp hf=>s3 _ (hW hb s5 p hp) (hF ha _ hf),fun p hp q hq e=>s2 _ (hW ha s4 p hp) (e▸hW hb s5 q hq)⟩
    |false=>
     have hcf:Nat.ble 3 (hCls pts a+hCls pts b)=false:=by
      unfold conf at hcf
      cases he:dH a b with
      |true=>rw[he]at q2;cases q2
      |false=>rw[he]at hcf;simpa using hcf
     have hlt:¬3≤hCls pts a+hCls pts b:=fun h=>by rw[Nat.ble_eq_true_of_le h]at hcf;cases hcf
     rcases mG (pts:=pts) a with e1|e1|e1<;>rcases mG (pts:=pts) b with e2|e2|e2
     ·rw[hno ha (by omega),hno hb (by omega)];exact⟨fun _ h=>(by cases h),fun _ h=>(by cases h),fun _ h=>(by cases h)⟩
     ·rw[hno ha (by omega),hno hb (by omega)];exact⟨fun _ h=>(by cases h),fun _ h=>(by cases h),fun _ h=>(by cases h)⟩
     ·rw[hno ha (by omega),hno2 e1];exact⟨fun _ h=>(by cases h),fun _ _ h=>(by cases h),fun _ h=>(by cases h)⟩
     ·rw[hno ha (by omega),hno hb (by omega)];exact⟨fun _ h=>(by cases h),fun _ h=>(by cases h),fun _ h=>(by cases h)⟩
     ·rw[hno ha (by omega),hno hb (by omega)];exact⟨fun _ h=>(by cases h),fun _ h=>(by cases h),fun _ h=>(by cases h)⟩
     ·omega
     ·rw[hno hb (by omega),hno2 e2];exact⟨fun _ _ h=>(by cases h),fun _ h=>(by cases h),fun _ _ _ h=>(by cases h)⟩
     ·omega
     ·omega
   rintro τ τ₁ τ' ⟨a1,h1,h2,rfl⟩ ⟨b1,h3,h4,rfl⟩
   rw[ha]at h1;rw[hb]at h3
   cases h1;cases h3
   obtain⟨w1,w2,w3⟩:=swapR (R.ok k (hrg ha) a ha) (R.ok i (hrg hb) b hb) q1 d.1 d.2.1 d.2.2 h2 h4
   exact⟨_,⟨b,hb,w1,rfl⟩,⟨a,ha,w2,w3⟩⟩
 have hz:unl ops.size (Array.replicate ops.size false)=List.range ops.size:=by
  unfold unl
  rw[List.filter_eq_self]
  intro i hi
  rw[List.mem_range]at hi
  rw[Array.getD_eq_getD_getElem?,Array.getElem?_replicate,if_pos hi]
  rfl
 have hrun:=R.run σ'.heap.length (Nat.le_refl _)
 have hend:St.padTo σ' σ'.heap.length=σ':=by
  unfold St.padTo St.pad
  rw[Nat.sub_self]
  simp
 rw[hend]at hrun
 obtain⟨r1,r2,_⟩:=go_okR (S:=recS N pts ops rc) hback hpair ops.size t (Array.replicate ops.size false) (by simp) (by rw[hz];simp) (fun x o hx ho=>by
  have hlt:x<ops.size:=hsz ho
  rw[Array.getD_eq_getD_getElem?,Array.getElem?_replicate,if_pos hlt]at hx
  cases hx) _ _ (by rw[hz];exact hrun)
 refine qO (fun i τ τ' hS=>?_) r2 r1
 obtain⟨o,h1,h2,rfl⟩:=hS
 exact(R.ok i (hrg h1) o h1).step τ h2 _ (by simp only[hsz h1,if_true])
theorem drOf_ok [Kno]{C:Cfg}(hN:∀f n,N f=some n→neuF N C f n=true)(hk:∀f args H r H',Kno.kh f args H r H'→N f=none∨(N f=some (2*args.length+1)∧H'=H)):DrOk C (drOf N):=by
 intro pts ops ps h n σ σ' hx hs
 unfold drOf at h
 split at h
 ·split at h
  ·rename_i hr
   exact dr_ok hN hk pts ops hr n σ σ' hx
  ·cases h
 ·rename_i p qs he
  split at h
  ·rename_i hr
   cases h
   exact any_okS (neu_ok hN hk n).1.1 hr hx (by rw[he];exact hs)
  ·cases h
end
end Sx
end Go.Am

/-
 THE FUNCTIONS OF THE PROGRAM ARE WHAT IS TOLD OF THEM,BY PROGRAM.
-/
set_option maxRecDepth 100000
namespace Go.Am
open Sx Go.Proofs
def neuT:List (Nat×Nat):=[(19,4),(49,0),(75,2),(78,4),(105,2),(107,2),(115,6),(116,2),(117,2),(118,4),(42,3),(27,3)]
def lookN(l:List (Nat×Nat))(f:Nat):Option Nat:=match l with
 | []=>none
 |p :: l=>match Nat.beq p.1 f with
  |true=>some p.2
  |false=>lookN l f
def neuN(f:FuncId):Option Nat:=lookN neuT f
theorem ol{f n:Nat}:∀ {l:List (Nat×Nat)},lookN l f=some n→(f,n)∈l
 |p :: l,h=>by
  unfold lookN at h
  split at h
  ·rename_i e
   cases h
   have:=Nat.eq_of_beq_eq_true e
   subst this
   exact List.mem_cons_self
  ·exact List.mem_cons_of_mem _ (ol h)
theorem neuT_ok:(neuT.all fun p=>neuF neuN cc p.1 p.2)=true:=by kernel_rfl
theorem neuN_ok(f n:Nat)(h:neuN f=some n):neuF neuN cc f n=true:=List.all_eq_true.1 neuT_ok (f,n) (ol h)
noncomputable def drN:Dr:=drOf neuN
noncomputable def n3:Fn1:=fn1 cc.P 3 ((ab 3).getD ⟨[],[]⟩) an3
noncomputable def n5:Fn1:=fn1 cc.P 5 ((ab 5).getD ⟨[],[]⟩) an5
noncomputable def n6:Fn1:=fn1 cc.P 6 ((ab 6).getD ⟨[],[]⟩) an6
noncomputable def n7:Fn1:=fn1 cc.P 7 ((ab 7).getD ⟨[],[]⟩) an7
noncomputable def n8:Fn1:=fn1 cc.P 8 ((ab 8).getD ⟨[],[]⟩) an8
noncomputable def n9:Fn1:=fn1 cc.P 9 ((ab 9).getD ⟨[],[]⟩) an9
noncomputable def n10:Fn1:=fn1 cc.P 10 ((ab 10).getD ⟨[],[]⟩) an10
noncomputable def n15:Fn1:=fn1 cc.P 15 ((ab 15).getD ⟨[],[]⟩) an15
noncomputable def n16:Fn1:=fn1 cc.P 16 ((ab 16).getD ⟨[],[]⟩) an16
noncomputable def n17:Fn1:=fn1 cc.P 17 ((ab 17).getD ⟨[],[]⟩) an17
noncomputable def n18:Fn1:=fn1 cc.P 18 ((ab 18).getD ⟨[],[]⟩) an18
noncomputable def n19:Fn1:=fn1 cc.P 19 ((ab 19).getD ⟨[],[]⟩) an19
noncomputable def n20:Fn1:=fn1 cc.P 20 ((ab 20).getD ⟨[],[]⟩) an20
noncomputable def n21:Fn1:=fn1 cc.P 21 ((ab 21).getD ⟨[],[]⟩) an21
noncomputable def n22:Fn1:=fn1 cc.P 22 ((ab 22).getD ⟨[],[]⟩) an22
noncomputable def n23:Fn1:=fn1 cc.P 23 ((ab 23).getD ⟨[],[]⟩) an23
noncomputable def n24:Fn1:=fn1 cc.P 24 ((ab 24).getD ⟨[],[]⟩) an24
noncomputable def n25:Fn1:=fn1 cc.P 25 ((ab 25).getD ⟨[],[]⟩) an25
noncomputable def n26:Fn1:=fn1 cc.P 26 ((ab 26).getD ⟨[],[]⟩) an26
noncomputable def n27:Fn1:=fn1 cc.P 27 ((ab 27).getD ⟨[],[]⟩) an27
noncomputable def n32:Fn1:=fn1 cc.P 32 ((ab 32).getD ⟨[],[]⟩) an32
noncomputable def n33:Fn1:=fn1 cc.P 33 ((ab 33).getD ⟨[],[]⟩) an33
noncomputable def n34:Fn1:=fn1 cc.P 34 ((ab 34).getD ⟨[],[]⟩) an34
noncomputable def n35:Fn1:=fn1 cc.P 35 ((ab 35).getD ⟨[],[]⟩) an35
noncomputable def n36:Fn1:=fn1 cc.P 36 ((ab 36).getD ⟨[],[]⟩) an36
noncomputable def n37:Fn1:=fn1 cc.P 37 ((ab 37).getD ⟨[],[]⟩) an37
noncomputable def n38:Fn1:=fn1 cc.P 38 ((ab 38).getD ⟨[],[]⟩) an38
noncomputable def n39:Fn1:=fn1 cc.P 39 ((ab 39).getD ⟨[],[]⟩) an39
noncomputable def n40:Fn1:=fn1 cc.P 40 ((ab 40).getD ⟨[],[]⟩) an40
noncomputable def n41:Fn1:=fn1 cc.P 41 ((ab 41).getD ⟨[],[]⟩) an41
noncomputable def n45:Fn1:=fn1 cc.P 45 ((ab 45).getD ⟨[],[]⟩) an45
noncomputable def n46:Fn1:=fn1 cc.P 46 ((ab 46).getD ⟨[],[]⟩) an46
noncomputable def n47:Fn1:=fn1 cc.P 47 ((ab 47).getD ⟨[],[]⟩) an47
noncomputable def n48:Fn1:=fn1 cc.P 48 ((ab 48).getD ⟨[],[]⟩) an48
noncomputable def n49:Fn1:=fn1 cc.P 49 ((ab 49).getD ⟨[],[]⟩) an49
noncomputable def n50:Fn1:=fn1 cc.P 50 ((ab 50).getD ⟨[],[]⟩) an50
noncomputable def n51:Fn1:=fn1 cc.P 51 ((ab 51).getD ⟨[],[]⟩) an51
noncomputable def n52:Fn1:=fn1 cc.P 52 ((ab 52).getD ⟨[],[]⟩) an52
noncomputable def n53:Fn1:=fn1 cc.P 53 ((ab 53).getD ⟨[],[]⟩) an53
noncomputable def n54:Fn1:=fn1 cc.P 54 ((ab 54).getD ⟨[],[]⟩) an54
noncomputable def n55:Fn1:=fn1 cc.P 55 ((ab 55).getD ⟨[],[]⟩) an55
noncomputable def n56:Fn1:=fn1 cc.P 56 ((ab 56).getD ⟨[],[]⟩) an56
noncomputable def n59:Fn1:=fn1 cc.P 59 ((ab 59).getD ⟨[],[]⟩) an59
noncomputable def n60:Fn1:=fn1 cc.P 60 ((ab 60).getD ⟨[],[]⟩) an60
noncomputable def n61:Fn1:=fn1 cc.P 61 ((ab 61).getD ⟨[],[]⟩) an61
noncomputable def n62:Fn1:=fn1 cc.P 62 ((ab 62).getD ⟨[],[]⟩) an62
noncomputable def n63:Fn1:=fn1 cc.P 63 ((ab 63).getD ⟨[],[]⟩) an63
noncomputable def n64:Fn1:=fn1 cc.P 64 ((ab 64).getD ⟨[],[]⟩) an64
noncomputable def n65:Fn1:=fn1 cc.P 65 ((ab 65).getD ⟨[],[]⟩) an65
noncomputable def n66:Fn1:=fn1 cc.P 66 ((ab 66).getD ⟨[],[]⟩) an66
noncomputable def n67:Fn1:=fn1 cc.P 67 ((ab 67).getD ⟨[],[]⟩) an67
noncomputable def n68:Fn1:=fn1 cc.P 68 ((ab 68).getD ⟨[],[]⟩) an68
noncomputable def n69:Fn1:=fn1 cc.P 69 ((ab 69).getD ⟨[],[]⟩) an69
noncomputable def n71:Fn1:=fn1 cc.P 71 ((ab 71).getD ⟨[],[]⟩) an71
noncomputable def n72:Fn1:=fn1 cc.P 72 ((ab 72).getD ⟨[],[]⟩) an72
noncomputable def n73:Fn1:=fn1 cc.P 73 ((ab 73).getD ⟨[],[]⟩) an73
noncomputable def n74:Fn1:=fn1 cc.P 74 ((ab 74).getD ⟨[],[]⟩) an74
noncomputable def n75:Fn1:=fn1 cc.P 75 ((ab 75).getD ⟨[],[]⟩) an75
noncomputable def n76:Fn1:=fn1 cc.P 76 ((ab 76).getD ⟨[],[]⟩) an76
noncomputable def n77:Fn1:=fn1 cc.P 77 ((ab 77).getD ⟨[],[]⟩) an77
noncomputable def n78:Fn1:=fn1 cc.P 78 ((ab 78).getD ⟨[],[]⟩) an78
noncomputable def n79:Fn1:=fn1 cc.P 79 ((ab 79).getD ⟨[],[]⟩) an79
noncomputable def n80:Fn1:=fn1 cc.P 80 ((ab 80).getD ⟨[],[]⟩) an80
noncomputable def n82:Fn1:=fn1 cc.P 82 ((ab 82).getD ⟨[],[]⟩) an82
noncomputable def n83:Fn1:=fn1 cc.P 83 ((ab 83).getD ⟨[],[]⟩) an83
noncomputable def n84:Fn1:=fn1 cc.P 84 ((ab 84).getD ⟨[],[]⟩) an84
noncomputable def n85:Fn1:=fn1 cc.P 85 ((ab 85).getD ⟨[],[]⟩) an85
noncomputable def n86:Fn1:=fn1 cc.P 86 ((ab 86).getD ⟨[],[]⟩) an86
noncomputable def n87:Fn1:=fn1 cc.P 87 ((ab 87).getD ⟨[],[]⟩) an87
noncomputable def n89:Fn1:=fn1 cc.P 89 ((ab 89).getD ⟨[],[]⟩) an89
noncomputable def n91:Fn1:=fn1 cc.P 91 ((ab 91).getD ⟨[],[]⟩) an91
noncomputable def n92:Fn1:=fn1 cc.P 92 ((ab 92).getD ⟨[],[]⟩) an92
noncomputable def n94:Fn1:=fn1 cc.P 94 ((ab 94).getD ⟨[],[]⟩) an94
noncomputable def n95:Fn1:=fn1 cc.P 95 ((ab 95).getD ⟨[],[]⟩) an95
noncomputable def n96:Fn1:=fn1 cc.P 96 ((ab 96).getD ⟨[],[]⟩) an96
noncomputable def n97:Fn1:=fn1 cc.P 97 ((ab 97).getD ⟨[],[]⟩) an97
noncomputable def n98:Fn1:=fn1 cc.P 98 ((ab 98).getD ⟨[],[]⟩) an98
noncomputable def n99:Fn1:=fn1 cc.P 99 ((ab 99).getD ⟨[],[]⟩) an99
noncomputable def n100:Fn1:=fn1 cc.P 100 ((ab 100).getD ⟨[],[]⟩) an100
noncomputable def n101:Fn1:=fn1 cc.P 101 ((ab 101).getD ⟨[],[]⟩) an101
noncomputable def n102:Fn1:=fn1 cc.P 102 ((ab 102).getD ⟨[],[]⟩) an102
noncomputable def n103:Fn1:=fn1 cc.P 103 ((ab 103).getD ⟨[],[]⟩) an103
noncomputable def n104:Fn1:=fn1 cc.P 104 ((ab 104).getD ⟨[],[]⟩) an104
noncomputable def n105:Fn1:=fn1 cc.P 105 ((ab 105).getD ⟨[],[]⟩) an105
noncomputable def n106:Fn1:=fn1 cc.P 106 ((ab 106).getD ⟨[],[]⟩) an106
noncomputable def n107:Fn1:=fn1 cc.P 107 ((ab 107).getD ⟨[],[]⟩) an107
noncomputable def n108:Fn1:=fn1 cc.P 108 ((ab 108).getD ⟨[],[]⟩) an108
noncomputable def n109:Fn1:=fn1 cc.P 109 ((ab 109).getD ⟨[],[]⟩) an109
noncomputable def n110:Fn1:=fn1 cc.P 110 ((ab 110).getD ⟨[],[]⟩) an110
noncomputable def n111:Fn1:=fn1 cc.P 111 ((ab 111).getD ⟨[],[]⟩) an111
noncomputable def n112:Fn1:=fn1 cc.P 112 ((ab 112).getD ⟨[],[]⟩) an112
noncomputable def n113:Fn1:=fn1 cc.P 113 ((ab 113).getD ⟨[],[]⟩) an113
noncomputable def n114:Fn1:=fn1 cc.P 114 ((ab 114).getD ⟨[],[]⟩) an114
noncomputable def n115:Fn1:=fn1 cc.P 115 ((ab 115).getD ⟨[],[]⟩) an115
noncomputable def n116:Fn1:=fn1 cc.P 116 ((ab 116).getD ⟨[],[]⟩) an116
noncomputable def n117:Fn1:=fn1 cc.P 117 ((ab 117).getD ⟨[],[]⟩) an117
noncomputable def n118:Fn1:=fn1 cc.P 118 ((ab 118).getD ⟨[],[]⟩) an118
noncomputable def n119:Fn1:=fn1 cc.P 119 ((ab 119).getD ⟨[],[]⟩) an119
noncomputable def n121:Fn1:=fn1 cc.P 121 ((ab 121).getD ⟨[],[]⟩) an121
noncomputable def n122:Fn1:=fn1 cc.P 122 ((ab 122).getD ⟨[],[]⟩) an122
noncomputable def n123:Fn1:=fn1 cc.P 123 ((ab 123).getD ⟨[],[]⟩) an123
noncomputable def n124:Fn1:=fn1 cc.P 124 ((ab 124).getD ⟨[],[]⟩) an124
noncomputable def n126:Fn1:=fn1 cc.P 126 ((ab 126).getD ⟨[],[]⟩) an126
noncomputable def n127:Fn1:=fn1 cc.P 127 ((ab 127).getD ⟨[],[]⟩) an127
noncomputable def n128:Fn1:=fn1 cc.P 128 ((ab 128).getD ⟨[],[]⟩) an128
noncomputable def n129:Fn1:=fn1 cc.P 129 ((ab 129).getD ⟨[],[]⟩) an129
noncomputable def n130:Fn1:=fn1 cc.P 130 ((ab 130).getD ⟨[],[]⟩) an130
noncomputable def n131:Fn1:=fn1 cc.P 131 ((ab 131).getD ⟨[],[]⟩) an131
noncomputable def n132:Fn1:=fn1 cc.P 132 ((ab 132).getD ⟨[],[]⟩) an132
noncomputable def n133:Fn1:=fn1 cc.P 133 ((ab 133).getD ⟨[],[]⟩) an133
noncomputable def n134:Fn1:=fn1 cc.P 134 ((ab 134).getD ⟨[],[]⟩) an134
noncomputable def n135:Fn1:=fn1 cc.P 135 ((ab 135).getD ⟨[],[]⟩) an135
noncomputable def n136:Fn1:=fn1 cc.P 136 ((ab 136).getD ⟨[],[]⟩) an136
noncomputable def n137:Fn1:=fn1 cc.P 137 ((ab 137).getD ⟨[],[]⟩) an137
theorem i3:FnIs (xc 3) ab 3 n3:=⟨⟨Tryz.f3,Tryz.func3,by kernel_rfl,by kernel_rfl,by kernel_rfl,by kernel_rfl⟩,rfl,by kernel_rfl⟩
theorem i5:FnIs (xc 5) ab 5 n5:=⟨⟨Tryz.f5,Tryz.func5,by kernel_rfl,by kernel_rfl,by kernel_rfl,by kernel_rfl⟩,rfl,by kernel_rfl⟩
theorem i6:FnIs (xc 6) ab 6 n6:=⟨⟨Tryz.f6,Tryz.func6,by kernel_rfl,by kernel_rfl,by kernel_rfl,by kernel_rfl⟩,rfl,by kernel_rfl⟩
theorem i7:FnIs (xc 7) ab 7 n7:=⟨⟨Tryz.f7,Tryz.func7,by kernel_rfl,by kernel_rfl,by kernel_rfl,by kernel_rfl⟩,rfl,by kernel_rfl⟩
theorem i8:FnIs (xc 8) ab 8 n8:=⟨⟨Tryz.f8,Tryz.func8,by kernel_rfl,by kernel_rfl,by kernel_rfl,by kernel_rfl⟩,rfl,by kernel_rfl⟩
theorem i9:FnIs (xc 9) ab 9 n9:=⟨⟨Tryz.f9,Tryz.func9,by kernel_rfl,by kernel_rfl,by kernel_rfl,by kernel_rfl⟩,rfl,by kernel_rfl⟩
theorem i10:FnIs (xc 10) ab 10 n10:=⟨⟨Tryz.f10,Tryz.func10,by kernel_rfl,by kernel_rfl,by kernel_rfl,by kernel_rfl⟩,rfl,by kernel_rfl⟩
theorem i15:FnIs (xc 15) ab 15 n15:=⟨⟨Tryz.f15,Tryz.func15,by kernel_rfl,by kernel_rfl,by kernel_rfl,by kernel_rfl⟩,rfl,by kernel_rfl⟩
theorem i16:FnIs (xc 16) ab 16 n16:=⟨⟨Tryz.f16,Tryz.func16,by kernel_rfl,by kernel_rfl,by kernel_rfl,by kernel_rfl⟩,rfl,by kernel_rfl⟩
theorem i17:FnIs (xc 17) ab 17 n17:=⟨⟨Tryz.f17,Tryz.func17,by kernel_rfl,by kernel_rfl,by kernel_rfl,by kernel_rfl⟩,rfl,by kernel_rfl⟩
theorem i18:FnIs (xc 18) ab 18 n18:=⟨⟨Tryz.f18,Tryz.func18,by kernel_rfl,by kernel_rfl,by kernel_rfl,by kernel_rfl⟩,rfl,by kernel_rfl⟩
theorem i19:FnIs (xc 19) ab 19 n19:=⟨⟨Tryz.f19,Tryz.func19,by kernel_rfl,by kernel_rfl,by kernel_rfl,by kernel_rfl⟩,rfl,by kernel_rfl⟩
theorem i20:FnIs (xc 20) ab 20 n20:=⟨⟨Tryz.f20,Tryz.func20,by kernel_rfl,by kernel_rfl,by kernel_rfl,by kernel_rfl⟩,rfl,by kernel_rfl⟩
theorem i21:FnIs (xc 21) ab 21 n21:=⟨⟨Tryz.f21,Tryz.func21,by kernel_rfl,by kernel_rfl,by kernel_rfl,by kernel_rfl⟩,rfl,by kernel_rfl⟩
theorem i22:FnIs (xc 22) ab 22 n22:=⟨⟨Tryz.f22,Tryz.func22,by kernel_rfl,by kernel_rfl,by kernel_rfl,by kernel_rfl⟩,rfl,by kernel_rfl⟩
theorem i23:FnIs (xc 23) ab 23 n23:=⟨⟨Tryz.f23,Tryz.func23,by kernel_rfl,by kernel_rfl,by kernel_rfl,by kernel_rfl⟩,rfl,by kernel_rfl⟩
theorem i24:FnIs (xc 24) ab 24 n24:=⟨⟨Tryz.f24,Tryz.func24,by kernel_rfl,by kernel_rfl,by kernel_rfl,by kernel_rfl⟩,rfl,by kernel_rfl⟩
theorem i25:FnIs (xc 25) ab 25 n25:=⟨⟨Tryz.f25,Tryz.func25,by kernel_rfl,by kernel_rfl,by kernel_rfl,by kernel_rfl⟩,rfl,by kernel_rfl⟩
theorem i26:FnIs (xc 26) ab 26 n26:=⟨⟨Tryz.f26,Tryz.func26,by kernel_rfl,by kernel_rfl,by kernel_rfl,by kernel_rfl⟩,rfl,by kernel_rfl⟩
theorem i27:FnIs (xc 27) ab 27 n27:=⟨⟨Tryz.f27,Tryz.func27,by kernel_rfl,by kernel_rfl,by kernel_rfl,by kernel_rfl⟩,rfl,by kernel_rfl⟩
theorem i32:FnIs (xc 32) ab 32 n32:=⟨⟨Tryz.f32,Tryz.func32,by kernel_rfl,by kernel_rfl,by kernel_rfl,by kernel_rfl⟩,rfl,by kernel_rfl⟩
theorem i33:FnIs (xc 33) ab 33 n33:=⟨⟨Tryz.f33,Tryz.func33,by kernel_rfl,by kernel_rfl,by kernel_rfl,by kernel_rfl⟩,rfl,by kernel_rfl⟩
theorem i34:FnIs (xc 34) ab 34 n34:=⟨⟨Tryz.f34,Tryz.func34,by kernel_rfl,by kernel_rfl,by kernel_rfl,by kernel_rfl⟩,rfl,by kernel_rfl⟩
theorem i35:FnIs (xc 35) ab 35 n35:=⟨⟨Tryz.f35,Tryz.func35,by kernel_rfl,by kernel_rfl,by kernel_rfl,by kernel_rfl⟩,rfl,by kernel_rfl⟩
theorem i36:FnIs (xc 36) ab 36 n36:=⟨⟨Tryz.f36,Tryz.func36,by kernel_rfl,by kernel_rfl,by kernel_rfl,by kernel_rfl⟩,rfl,by kernel_rfl⟩
theorem i37:FnIs (xc 37) ab 37 n37:=⟨⟨Tryz.f37,Tryz.func37,by kernel_rfl,by kernel_rfl,by kernel_rfl,by kernel_rfl⟩,rfl,by kernel_rfl⟩
theorem i38:FnIs (xc 38) ab 38 n38:=⟨⟨Tryz.f38,Tryz.func38,by kernel_rfl,by kernel_rfl,by kernel_rfl,by kernel_rfl⟩,rfl,by kernel_rfl⟩
theorem i39:FnIs (xc 39) ab 39 n39:=⟨⟨Tryz.f39,Tryz.func39,by kernel_rfl,by kernel_rfl,by kernel_rfl,by kernel_rfl⟩,rfl,by kernel_rfl⟩
theorem i40:FnIs (xc 40) ab 40 n40:=⟨⟨Tryz.f40,Tryz.func40,by kernel_rfl,by kernel_rfl,by kernel_rfl,by kernel_rfl⟩,rfl,by kernel_rfl⟩
theorem i41:FnIs (xc 41) ab 41 n41:=⟨⟨Tryz.f41,Tryz.func41,by kernel_rfl,by kernel_rfl,by kernel_rfl,by kernel_rfl⟩,rfl,by kernel_rfl⟩
theorem i45:FnIs (xc 45) ab 45 n45:=⟨⟨Tryz.f45,Tryz.func45,by kernel_rfl,by kernel_rfl,by kernel_rfl,by kernel_rfl⟩,rfl,by kernel_rfl⟩
theorem i46:FnIs (xc 46) ab 46 n46:=⟨⟨Tryz.f46,Tryz.func46,by kernel_rfl,by kernel_rfl,by kernel_rfl,by kernel_rfl⟩,rfl,by kernel_rfl⟩
theorem i47:FnIs (xc 47) ab 47 n47:=⟨⟨Tryz.f47,Tryz.func47,by kernel_rfl,by kernel_rfl,by kernel_rfl,by kernel_rfl⟩,rfl,by kernel_rfl⟩
theorem i48:FnIs (xc 48) ab 48 n48:=⟨⟨Tryz.f48,Tryz.func48,by kernel_rfl,by kernel_rfl,by kernel_rfl,by kernel_rfl⟩,rfl,by kernel_rfl⟩
theorem i49:FnIs (xc 49) ab 49 n49:=⟨⟨Tryz.f49,Tryz.func49,by kernel_rfl,by kernel_rfl,by kernel_rfl,by kernel_rfl⟩,rfl,by kernel_rfl⟩
theorem i50:FnIs (xc 50) ab 50 n50:=⟨⟨Tryz.f50,Tryz.func50,by kernel_rfl,by kernel_rfl,by kernel_rfl,by kernel_rfl⟩,rfl,by kernel_rfl⟩
theorem i51:FnIs (xc 51) ab 51 n51:=⟨⟨Tryz.f51,Tryz.func51,by kernel_rfl,by kernel_rfl,by kernel_rfl,by kernel_rfl⟩,rfl,by kernel_rfl⟩
theorem i52:FnIs (xc 52) ab 52 n52:=⟨⟨Tryz.f52,Tryz.func52,by kernel_rfl,by kernel_rfl,by kernel_rfl,by kernel_rfl⟩,rfl,by kernel_rfl⟩
theorem i53:FnIs (xc 53) ab 53 n53:=⟨⟨Tryz.f53,Tryz.func53,by kernel_rfl,by kernel_rfl,by kernel_rfl,by kernel_rfl⟩,rfl,by kernel_rfl⟩
theorem i54:FnIs (xc 54) ab 54 n54:=⟨⟨Tryz.f54,Tryz.func54,by kernel_rfl,by kernel_rfl,by kernel_rfl,by kernel_rfl⟩,rfl,by kernel_rfl⟩
theorem i55:FnIs (xc 55) ab 55 n55:=⟨⟨Tryz.f55,Tryz.func55,by kernel_rfl,by kernel_rfl,by kernel_rfl,by kernel_rfl⟩,rfl,by kernel_rfl⟩
theorem i56:FnIs (xc 56) ab 56 n56:=⟨⟨Tryz.f56,Tryz.func56,by kernel_rfl,by kernel_rfl,by kernel_rfl,by kernel_rfl⟩,rfl,by kernel_rfl⟩
theorem i59:FnIs (xc 59) ab 59 n59:=⟨⟨Tryz.f59,Tryz.func59,by kernel_rfl,by kernel_rfl,by kernel_rfl,by kernel_rfl⟩,rfl,by kernel_rfl⟩
theorem i60:FnIs (xc 60) ab 60 n60:=⟨⟨Tryz.f60,Tryz.func60,by kernel_rfl,by kernel_rfl,by kernel_rfl,by kernel_rfl⟩,rfl,by kernel_rfl⟩
theorem i61:FnIs (xc 61) ab 61 n61:=⟨⟨Tryz.f61,Tryz.func61,by kernel_rfl,by kernel_rfl,by kernel_rfl,by kernel_rfl⟩,rfl,by kernel_rfl⟩
theorem i62:FnIs (xc 62) ab 62 n62:=⟨⟨Tryz.f62,Tryz.func62,by kernel_rfl,by kernel_rfl,by kernel_rfl,by kernel_rfl⟩,rfl,by kernel_rfl⟩
theorem i63:FnIs (xc 63) ab 63 n63:=⟨⟨Tryz.f63,Tryz.func63,by kernel_rfl,by kernel_rfl,by kernel_rfl,by kernel_rfl⟩,rfl,by kernel_rfl⟩
theorem i64:FnIs (xc 64) ab 64 n64:=⟨⟨Tryz.f64,Tryz.func64,by kernel_rfl,by kernel_rfl,by kernel_rfl,by kernel_rfl⟩,rfl,by kernel_rfl⟩
theorem i65:FnIs (xc 65) ab 65 n65:=⟨⟨Tryz.f65,Tryz.func65,by kernel_rfl,by kernel_rfl,by kernel_rfl,by kernel_rfl⟩,rfl,by kernel_rfl⟩
theorem i66:FnIs (xc 66) ab 66 n66:=⟨⟨Tryz.f66,Tryz.func66,by kernel_rfl,by kernel_rfl,by kernel_rfl,by kernel_rfl⟩,rfl,by kernel_rfl⟩
theorem i67:FnIs (xc 67) ab 67 n67:=⟨⟨Tryz.f67,Tryz.func67,by kernel_rfl,by kernel_rfl,by kernel_rfl,by kernel_rfl⟩,rfl,by kernel_rfl⟩
theorem i68:FnIs (xc 68) ab 68 n68:=⟨⟨Tryz.f68,Tryz.func68,by kernel_rfl,by kernel_rfl,by kernel_rfl,by kernel_rfl⟩,rfl,by kernel_rfl⟩
theorem i69:FnIs (xc 69) ab 69 n69:=⟨⟨Tryz.f69,Tryz.func69,by kernel_rfl,by kernel_rfl,by kernel_rfl,by kernel_rfl⟩,rfl,by kernel_rfl⟩
theorem i71:FnIs (xc 71) ab 71 n71:=⟨⟨Tryz.f71,Tryz.func71,by kernel_rfl,by kernel_rfl,by kernel_rfl,by kernel_rfl⟩,rfl,by kernel_rfl⟩
theorem i72:FnIs (xc 72) ab 72 n72:=⟨⟨Tryz.f72,Tryz.func72,by kernel_rfl,by kernel_rfl,by kernel_rfl,by kernel_rfl⟩,rfl,by kernel_rfl⟩
theorem i73:FnIs (xc 73) ab 73 n73:=⟨⟨Tryz.f73,Tryz.func73,by kernel_rfl,by kernel_rfl,by kernel_rfl,by kernel_rfl⟩,rfl,by kernel_rfl⟩
theorem i74:FnIs (xc 74) ab 74 n74:=⟨⟨Tryz.f74,Tryz.func74,by kernel_rfl,by kernel_rfl,by kernel_rfl,by kernel_rfl⟩,rfl,by kernel_rfl⟩
theorem i75:FnIs (xc 75) ab 75 n75:=⟨⟨Tryz.f75,Tryz.func75,by kernel_rfl,by kernel_rfl,by kernel_rfl,by kernel_rfl⟩,rfl,by kernel_rfl⟩
theorem i76:FnIs (xc 76) ab 76 n76:=⟨⟨Tryz.f76,Tryz.func76,by kernel_rfl,by kernel_rfl,by kernel_rfl,by kernel_rfl⟩,rfl,by kernel_rfl⟩
theorem i77:FnIs (xc 77) ab 77 n77:=⟨⟨Tryz.f77,Tryz.func77,by kernel_rfl,by kernel_rfl,by kernel_rfl,by kernel_rfl⟩,rfl,by kernel_rfl⟩
theorem i78:FnIs (xc 78) ab 78 n78:=⟨⟨Tryz.f78,Tryz.func78,by kernel_rfl,by kernel_rfl,by kernel_rfl,by kernel_rfl⟩,rfl,by kernel_rfl⟩
theorem i79:FnIs (xc 79) ab 79 n79:=⟨⟨Tryz.f79,Tryz.func79,by kernel_rfl,by kernel_rfl,by kernel_rfl,by kernel_rfl⟩,rfl,by kernel_rfl⟩
theorem i80:FnIs (xc 80) ab 80 n80:=⟨⟨Tryz.f80,Tryz.func80,by kernel_rfl,by kernel_rfl,by kernel_rfl,by kernel_rfl⟩,rfl,by kernel_rfl⟩
theorem i82:FnIs (xc 82) ab 82 n82:=⟨⟨Tryz.f82,Tryz.func82,by kernel_rfl,by kernel_rfl,by kernel_rfl,by kernel_rfl⟩,rfl,by kernel_rfl⟩
theorem i83:FnIs (xc 83) ab 83 n83:=⟨⟨Tryz.f83,Tryz.func83,by kernel_rfl,by kernel_rfl,by kernel_rfl,by kernel_rfl⟩,rfl,by kernel_rfl⟩
theorem i84:FnIs (xc 84) ab 84 n84:=⟨⟨Tryz.f84,Tryz.func84,by kernel_rfl,by kernel_rfl,by kernel_rfl,by kernel_rfl⟩,rfl,by kernel_rfl⟩
theorem i85:FnIs (xc 85) ab 85 n85:=⟨⟨Tryz.f85,Tryz.func85,by kernel_rfl,by kernel_rfl,by kernel_rfl,by kernel_rfl⟩,rfl,by kernel_rfl⟩
theorem i86:FnIs (xc 86) ab 86 n86:=⟨⟨Tryz.f86,Tryz.func86,by kernel_rfl,by kernel_rfl,by kernel_rfl,by kernel_rfl⟩,rfl,by kernel_rfl⟩
theorem i87:FnIs (xc 87) ab 87 n87:=⟨⟨Tryz.f87,Tryz.func87,by kernel_rfl,by kernel_rfl,by kernel_rfl,by kernel_rfl⟩,rfl,by kernel_rfl⟩
theorem i89:FnIs (xc 89) ab 89 n89:=⟨⟨Tryz.f89,Tryz.func89,by kernel_rfl,by kernel_rfl,by kernel_rfl,by kernel_rfl⟩,rfl,by kernel_rfl⟩
theorem i91:FnIs (xc 91) ab 91 n91:=⟨⟨Tryz.f91,Tryz.func91,by kernel_rfl,by kernel_rfl,by kernel_rfl,by kernel_rfl⟩,rfl,by kernel_rfl⟩
theorem i92:FnIs (xc 92) ab 92 n92:=⟨⟨Tryz.f92,Tryz.func92,by kernel_rfl,by kernel_rfl,by kernel_rfl,by kernel_rfl⟩,rfl,by kernel_rfl⟩
theorem i94:FnIs (xc 94) ab 94 n94:=⟨⟨Tryz.f94,Tryz.func94,by kernel_rfl,by kernel_rfl,by kernel_rfl,by kernel_rfl⟩,rfl,by kernel_rfl⟩
theorem i95:FnIs (xc 95) ab 95 n95:=⟨⟨Tryz.f95,Tryz.func95,by kernel_rfl,by kernel_rfl,by kernel_rfl,by kernel_rfl⟩,rfl,by kernel_rfl⟩
theorem i96:FnIs (xc 96) ab 96 n96:=⟨⟨Tryz.f96,Tryz.func96,by kernel_rfl,by kernel_rfl,by kernel_rfl,by kernel_rfl⟩,rfl,by kernel_rfl⟩
theorem i97:FnIs (xc 97) ab 97 n97:=⟨⟨Tryz.f97,Tryz.func97,by kernel_rfl,by kernel_rfl,by kernel_rfl,by kernel_rfl⟩,rfl,by kernel_rfl⟩
theorem i98:FnIs (xc 98) ab 98 n98:=⟨⟨Tryz.f98,Tryz.func98,by kernel_rfl,by kernel_rfl,by kernel_rfl,by kernel_rfl⟩,rfl,by kernel_rfl⟩
theorem i99:FnIs (xc 99) ab 99 n99:=⟨⟨Tryz.f99,Tryz.func99,by kernel_rfl,by kernel_rfl,by kernel_rfl,by kernel_rfl⟩,rfl,by kernel_rfl⟩
theorem i100:FnIs (xc 100) ab 100 n100:=⟨⟨Tryz.f100,Tryz.func100,by kernel_rfl,by kernel_rfl,by kernel_rfl,by kernel_rfl⟩,rfl,by kernel_rfl⟩
theorem i101:FnIs (xc 101) ab 101 n101:=⟨⟨Tryz.f101,Tryz.func101,by kernel_rfl,by kernel_rfl,by kernel_rfl,by kernel_rfl⟩,rfl,by kernel_rfl⟩
theorem i102:FnIs (xc 102) ab 102 n102:=⟨⟨Tryz.f102,Tryz.func102,by kernel_rfl,by kernel_rfl,by kernel_rfl,by kernel_rfl⟩,rfl,by kernel_rfl⟩
theorem i103:FnIs (xc 103) ab 103 n103:=⟨⟨Tryz.f103,Tryz.func103,by kernel_rfl,by kernel_rfl,by kernel_rfl,by kernel_rfl⟩,rfl,by kernel_rfl⟩
theorem i104:FnIs (xc 104) ab 104 n104:=⟨⟨Tryz.f104,Tryz.func104,by kernel_rfl,by kernel_rfl,by kernel_rfl,by kernel_rfl⟩,rfl,by kernel_rfl⟩
theorem i105:FnIs (xc 105) ab 105 n105:=⟨⟨Tryz.f105,Tryz.func105,by kernel_rfl,by kernel_rfl,by kernel_rfl,by kernel_rfl⟩,rfl,by kernel_rfl⟩
theorem i106:FnIs (xc 106) ab 106 n106:=⟨⟨Tryz.f106,Tryz.func106,by kernel_rfl,by kernel_rfl,by kernel_rfl,by kernel_rfl⟩,rfl,by kernel_rfl⟩
theorem i107:FnIs (xc 107) ab 107 n107:=⟨⟨Tryz.f107,Tryz.func107,by kernel_rfl,by kernel_rfl,by kernel_rfl,by kernel_rfl⟩,rfl,by kernel_rfl⟩
theorem i108:FnIs (xc 108) ab 108 n108:=⟨⟨Tryz.f108,Tryz.func108,by kernel_rfl,by kernel_rfl,by kernel_rfl,by kernel_rfl⟩,rfl,by kernel_rfl⟩
theorem i109:FnIs (xc 109) ab 109 n109:=⟨⟨Tryz.f109,Tryz.func109,by kernel_rfl,by kernel_rfl,by kernel_rfl,by kernel_rfl⟩,rfl,by kernel_rfl⟩
theorem i110:FnIs (xc 110) ab 110 n110:=⟨⟨Tryz.f110,Tryz.func110,by kernel_rfl,by kernel_rfl,by kernel_rfl,by kernel_rfl⟩,rfl,by kernel_rfl⟩
theorem i111:FnIs (xc 111) ab 111 n111:=⟨⟨Tryz.f111,Tryz.func111,by kernel_rfl,by kernel_rfl,by kernel_rfl,by kernel_rfl⟩,rfl,by kernel_rfl⟩
theorem i112:FnIs (xc 112) ab 112 n112:=⟨⟨Tryz.f112,Tryz.func112,by kernel_rfl,by kernel_rfl,by kernel_rfl,by kernel_rfl⟩,rfl,by kernel_rfl⟩
theorem i113:FnIs (xc 113) ab 113 n113:=⟨⟨Tryz.f113,Tryz.func113,by kernel_rfl,by kernel_rfl,by kernel_rfl,by kernel_rfl⟩,rfl,by kernel_rfl⟩
theorem i114:FnIs (xc 114) ab 114 n114:=⟨⟨Tryz.f114,Tryz.func114,by kernel_rfl,by kernel_rfl,by kernel_rfl,by kernel_rfl⟩,rfl,by kernel_rfl⟩
theorem i115:FnIs (xc 115) ab 115 n115:=⟨⟨Tryz.f115,Tryz.func115,by kernel_rfl,by kernel_rfl,by kernel_rfl,by kernel_rfl⟩,rfl,by kernel_rfl⟩
theorem i116:FnIs (xc 116) ab 116 n116:=⟨⟨Tryz.f116,Tryz.func116,by kernel_rfl,by kernel_rfl,by kernel_rfl,by kernel_rfl⟩,rfl,by kernel_rfl⟩
theorem i117:FnIs (xc 117) ab 117 n117:=⟨⟨Tryz.f117,Tryz.func117,by kernel_rfl,by kernel_rfl,by kernel_rfl,by kernel_rfl⟩,rfl,by kernel_rfl⟩
theorem i118:FnIs (xc 118) ab 118 n118:=⟨⟨Tryz.f118,Tryz.func118,by kernel_rfl,by kernel_rfl,by kernel_rfl,by kernel_rfl⟩,rfl,by kernel_rfl⟩
theorem i119:FnIs (xc 119) ab 119 n119:=⟨⟨Tryz.f119,Tryz.func119,by kernel_rfl,by kernel_rfl,by kernel_rfl,by kernel_rfl⟩,rfl,by kernel_rfl⟩
theorem i121:FnIs (xc 121) ab 121 n121:=⟨⟨Tryz.f121,Tryz.func121,by kernel_rfl,by kernel_rfl,by kernel_rfl,by kernel_rfl⟩,rfl,by kernel_rfl⟩
theorem i122:FnIs (xc 122) ab 122 n122:=⟨⟨Tryz.f122,Tryz.func122,by kernel_rfl,by kernel_rfl,by kernel_rfl,by kernel_rfl⟩,rfl,by kernel_rfl⟩
theorem i123:FnIs (xc 123) ab 123 n123:=⟨⟨Tryz.f123,Tryz.func123,by kernel_rfl,by kernel_rfl,by kernel_rfl,by kernel_rfl⟩,rfl,by kernel_rfl⟩
theorem i124:FnIs (xc 124) ab 124 n124:=⟨⟨Tryz.f124,Tryz.func124,by kernel_rfl,by kernel_rfl,by kernel_rfl,by kernel_rfl⟩,rfl,by kernel_rfl⟩
theorem i126:FnIs (xc 126) ab 126 n126:=⟨⟨Tryz.f126,Tryz.func126,by kernel_rfl,by kernel_rfl,by kernel_rfl,by kernel_rfl⟩,rfl,by kernel_rfl⟩
theorem i127:FnIs (xc 127) ab 127 n127:=⟨⟨Tryz.f127,Tryz.func127,by kernel_rfl,by kernel_rfl,by kernel_rfl,by kernel_rfl⟩,rfl,by kernel_rfl⟩
theorem i128:FnIs (xc 128) ab 128 n128:=⟨⟨Tryz.f128,Tryz.func128,by kernel_rfl,by kernel_rfl,by kernel_rfl,by kernel_rfl⟩,rfl,by kernel_rfl⟩
theorem i129:FnIs (xc 129) ab 129 n129:=⟨⟨Tryz.f129,Tryz.func129,by kernel_rfl,by kernel_rfl,by kernel_rfl,by kernel_rfl⟩,rfl,by kernel_rfl⟩
theorem i130:FnIs (xc 130) ab 130 n130:=⟨⟨Tryz.f130,Tryz.func130,by kernel_rfl,by kernel_rfl,by kernel_rfl,by kernel_rfl⟩,rfl,by kernel_rfl⟩
theorem i131:FnIs (xc 131) ab 131 n131:=⟨⟨Tryz.f131,Tryz.func131,by kernel_rfl,by kernel_rfl,by kernel_rfl,by kernel_rfl⟩,rfl,by kernel_rfl⟩
theorem i132:FnIs (xc 132) ab 132 n132:=⟨⟨Tryz.f132,Tryz.func132,by kernel_rfl,by kernel_rfl,by kernel_rfl,by kernel_rfl⟩,rfl,by kernel_rfl⟩
theorem i133:FnIs (xc 133) ab 133 n133:=⟨⟨Tryz.f133,Tryz.func133,by kernel_rfl,by kernel_rfl,by kernel_rfl,by kernel_rfl⟩,rfl,by kernel_rfl⟩
theorem i134:FnIs (xc 134) ab 134 n134:=⟨⟨Tryz.f134,Tryz.func134,by kernel_rfl,by kernel_rfl,by kernel_rfl,by kernel_rfl⟩,rfl,by kernel_rfl⟩
theorem i135:FnIs (xc 135) ab 135 n135:=⟨⟨Tryz.f135,Tryz.func135,by kernel_rfl,by kernel_rfl,by kernel_rfl,by kernel_rfl⟩,rfl,by kernel_rfl⟩
theorem i136:FnIs (xc 136) ab 136 n136:=⟨⟨Tryz.f136,Tryz.func136,by kernel_rfl,by kernel_rfl,by kernel_rfl,by kernel_rfl⟩,rfl,by kernel_rfl⟩
theorem i137:FnIs (xc 137) ab 137 n137:=⟨⟨Tryz.f137,Tryz.func137,by kernel_rfl,by kernel_rfl,by kernel_rfl,by kernel_rfl⟩,rfl,by kernel_rfl⟩
end Go.Am

/-
 THE FUNCTIONS OF THE PROGRAM ARE WHAT IS TOLD OF THEM,BY PROGRAM,part 1.
-/
set_option maxRecDepth 100000
namespace Go.Am
open Sx Go.Proofs
theorem e5:@f5=fun R HT A ls h K=>aj A (xc 5) ab drN n5 ls h K:=by kernel_rfl
theorem e19:@f19=fun R HT A ls h K=>aj A (xc 19) ab drN n19 ls h K:=by kernel_rfl
theorem e24:@f24=fun R HT A ls h K=>aj A (xc 24) ab drN n24 ls h K:=by kernel_rfl
theorem e35:@f35=fun R HT A ls h K=>aj A (xc 35) ab drN n35 ls h K:=by kernel_rfl
theorem e36:@f36=fun R HT A ls h K=>aj A (xc 36) ab drN n36 ls h K:=by kernel_rfl
theorem e37:@f37=fun R HT A ls h K=>aj A (xc 37) ab drN n37 ls h K:=by kernel_rfl
theorem e39:@f39=fun R HT A ls h K=>aj A (xc 39) ab drN n39 ls h K:=by kernel_rfl
theorem e41:@f41=fun R HT A ls h K=>aj A (xc 41) ab drN n41 ls h K:=by kernel_rfl
theorem e47:@f47=fun R HT A ls h K=>aj A (xc 47) ab drN n47 ls h K:=by kernel_rfl
theorem e49:@f49=fun R HT A ls h K=>aj A (xc 49) ab drN n49 ls h K:=by kernel_rfl
theorem e63:@f63=fun R HT A ls h K=>aj A (xc 63) ab drN n63 ls h K:=by kernel_rfl
theorem e64:@f64=fun R HT A ls h K=>aj A (xc 64) ab drN n64 ls h K:=by kernel_rfl
theorem e110:@f110=fun R HT A ls h K=>aj A (xc 110) ab drN n110 ls h K:=by kernel_rfl
theorem e124:@f124=fun R HT A ls h K=>aj A (xc 124) ab drN n124 ls h K:=by kernel_rfl
theorem e126:@f126=fun R HT A ls h K=>aj A (xc 126) ab drN n126 ls h K:=by kernel_rfl
theorem e135:@f135=fun R HT A ls h K=>aj A (xc 135) ab drN n135 ls h K:=by kernel_rfl
end Go.Am

/-
 THE FUNCTIONS OF THE PROGRAM ARE WHAT IS TOLD OF THEM,BY PROGRAM,part 2.
-/
set_option maxRecDepth 100000
namespace Go.Am
open Sx Go.Proofs
theorem e21:@f21=fun R HT A ls h K=>aj A (xc 21) ab drN n21 ls h K:=by kernel_rfl
theorem e27:@f27=fun R HT A ls h K=>aj A (xc 27) ab drN n27 ls h K:=by kernel_rfl
theorem e32:@f32=fun R HT A ls h K=>aj A (xc 32) ab drN n32 ls h K:=by kernel_rfl
theorem e52:@f52=fun R HT A ls h K=>aj A (xc 52) ab drN n52 ls h K:=by kernel_rfl
theorem e61:@f61=fun R HT A ls h K=>aj A (xc 61) ab drN n61 ls h K:=by kernel_rfl
theorem e68:@f68=fun R HT A ls h K=>aj A (xc 68) ab drN n68 ls h K:=by kernel_rfl
theorem e74:@f74=fun R HT A ls h K=>aj A (xc 74) ab drN n74 ls h K:=by kernel_rfl
theorem e75:@f75=fun R HT A ls h K=>aj A (xc 75) ab drN n75 ls h K:=by kernel_rfl
theorem e83:@f83=fun R HT A ls h K=>aj A (xc 83) ab drN n83 ls h K:=by kernel_rfl
theorem e86:@f86=fun R HT A ls h K=>aj A (xc 86) ab drN n86 ls h K:=by kernel_rfl
theorem e96:@f96=fun R HT A ls h K=>aj A (xc 96) ab drN n96 ls h K:=by kernel_rfl
theorem e101:@f101=fun R HT A ls h K=>aj A (xc 101) ab drN n101 ls h K:=by kernel_rfl
theorem e102:@f102=fun R HT A ls h K=>aj A (xc 102) ab drN n102 ls h K:=by kernel_rfl
theorem e108:@f108=fun R HT A ls h K=>aj A (xc 108) ab drN n108 ls h K:=by kernel_rfl
theorem e113:@f113=fun R HT A ls h K=>aj A (xc 113) ab drN n113 ls h K:=by kernel_rfl
theorem e115:@f115=fun R HT A ls h K=>aj A (xc 115) ab drN n115 ls h K:=by kernel_rfl
theorem e119:@f119=fun R HT A ls h K=>aj A (xc 119) ab drN n119 ls h K:=by kernel_rfl
theorem e128:@f128=fun R HT A ls h K=>aj A (xc 128) ab drN n128 ls h K:=by kernel_rfl
theorem e133:@f133=fun R HT A ls h K=>aj A (xc 133) ab drN n133 ls h K:=by kernel_rfl
end Go.Am

/-
 THE FUNCTIONS OF THE PROGRAM ARE WHAT IS TOLD OF THEM,BY PROGRAM,part 3.
-/
set_option maxRecDepth 100000
namespace Go.Am
open Sx Go.Proofs
theorem e7:@f7=fun R HT A ls h K=>aj A (xc 7) ab drN n7 ls h K:=by kernel_rfl
theorem e9:@f9=fun R HT A ls h K=>aj A (xc 9) ab drN n9 ls h K:=by kernel_rfl
theorem e20:@f20=fun R HT A ls h K=>aj A (xc 20) ab drN n20 ls h K:=by kernel_rfl
theorem e34:@f34=fun R HT A ls h K=>aj A (xc 34) ab drN n34 ls h K:=by kernel_rfl
theorem e38:@f38=fun R HT A ls h K=>aj A (xc 38) ab drN n38 ls h K:=by kernel_rfl
theorem e45:@f45=fun R HT A ls h K=>aj A (xc 45) ab drN n45 ls h K:=by kernel_rfl
theorem e67:@f67=fun R HT A ls h K=>aj A (xc 67) ab drN n67 ls h K:=by kernel_rfl
theorem e71:@f71=fun R HT A ls h K=>aj A (xc 71) ab drN n71 ls h K:=by kernel_rfl
theorem e72:@f72=fun R HT A ls h K=>aj A (xc 72) ab drN n72 ls h K:=by kernel_rfl
theorem e73:@f73=fun R HT A ls h K=>aj A (xc 73) ab drN n73 ls h K:=by kernel_rfl
theorem e77:@f77=fun R HT A ls h K=>aj A (xc 77) ab drN n77 ls h K:=by kernel_rfl
theorem e78:@f78=fun R HT A ls h K=>aj A (xc 78) ab drN n78 ls h K:=by kernel_rfl
theorem e79:@f79=fun R HT A ls h K=>aj A (xc 79) ab drN n79 ls h K:=by kernel_rfl
theorem e98:@f98=fun R HT A ls h K=>aj A (xc 98) ab drN n98 ls h K:=by kernel_rfl
theorem e104:@f104=fun R HT A ls h K=>aj A (xc 104) ab drN n104 ls h K:=by kernel_rfl
theorem e116:@f116=fun R HT A ls h K=>aj A (xc 116) ab drN n116 ls h K:=by kernel_rfl
theorem e122:@f122=fun R HT A ls h K=>aj A (xc 122) ab drN n122 ls h K:=by kernel_rfl
theorem e127:@f127=fun R HT A ls h K=>aj A (xc 127) ab drN n127 ls h K:=by kernel_rfl
theorem e129:@f129=fun R HT A ls h K=>aj A (xc 129) ab drN n129 ls h K:=by kernel_rfl
end Go.Am

/-
 THE FUNCTIONS OF THE PROGRAM ARE WHAT IS TOLD OF THEM,BY PROGRAM,part 4.
-/
set_option maxRecDepth 100000
namespace Go.Am
open Sx Go.Proofs
theorem e10:@f10=fun R HT A ls h K=>aj A (xc 10) ab drN n10 ls h K:=by kernel_rfl
theorem e18:@f18=fun R HT A ls h K=>aj A (xc 18) ab drN n18 ls h K:=by kernel_rfl
theorem e26:@f26=fun R HT A ls h K=>aj A (xc 26) ab drN n26 ls h K:=by kernel_rfl
theorem e33:@f33=fun R HT A ls h K=>aj A (xc 33) ab drN n33 ls h K:=by kernel_rfl
theorem e40:@f40=fun R HT A ls h K=>aj A (xc 40) ab drN n40 ls h K:=by kernel_rfl
theorem e50:@f50=fun R HT A ls h K=>aj A (xc 50) ab drN n50 ls h K:=by kernel_rfl
theorem e56:@f56=fun R HT A ls h K=>aj A (xc 56) ab drN n56 ls h K:=by kernel_rfl
theorem e59:@f59=fun R HT A ls h K=>aj A (xc 59) ab drN n59 ls h K:=by kernel_rfl
theorem e66:@f66=fun R HT A ls h K=>aj A (xc 66) ab drN n66 ls h K:=by kernel_rfl
theorem e76:@f76=fun R HT A ls h K=>aj A (xc 76) ab drN n76 ls h K:=by kernel_rfl
theorem e84:@f84=fun R HT A ls h K=>aj A (xc 84) ab drN n84 ls h K:=by kernel_rfl
theorem e89:@f89=fun R HT A ls h K=>aj A (xc 89) ab drN n89 ls h K:=by kernel_rfl
theorem e91:@f91=fun R HT A ls h K=>aj A (xc 91) ab drN n91 ls h K:=by kernel_rfl
theorem e95:@f95=fun R HT A ls h K=>aj A (xc 95) ab drN n95 ls h K:=by kernel_rfl
theorem e107:@f107=fun R HT A ls h K=>aj A (xc 107) ab drN n107 ls h K:=by kernel_rfl
theorem e109:@f109=fun R HT A ls h K=>aj A (xc 109) ab drN n109 ls h K:=by kernel_rfl
theorem e111:@f111=fun R HT A ls h K=>aj A (xc 111) ab drN n111 ls h K:=by kernel_rfl
theorem e121:@f121=fun R HT A ls h K=>aj A (xc 121) ab drN n121 ls h K:=by kernel_rfl
theorem e123:@f123=fun R HT A ls h K=>aj A (xc 123) ab drN n123 ls h K:=by kernel_rfl
theorem e130:@f130=fun R HT A ls h K=>aj A (xc 130) ab drN n130 ls h K:=by kernel_rfl
theorem e132:@f132=fun R HT A ls h K=>aj A (xc 132) ab drN n132 ls h K:=by kernel_rfl
end Go.Am

/-
 THE FUNCTIONS OF THE PROGRAM ARE WHAT IS TOLD OF THEM,BY PROGRAM,part 5.
-/
set_option maxRecDepth 100000
namespace Go.Am
open Sx Go.Proofs
theorem e6:@f6=fun R HT A ls h K=>aj A (xc 6) ab drN n6 ls h K:=by kernel_rfl
theorem e8:@f8=fun R HT A ls h K=>aj A (xc 8) ab drN n8 ls h K:=by kernel_rfl
theorem e16:@f16=fun R HT A ls h K=>aj A (xc 16) ab drN n16 ls h K:=by kernel_rfl
theorem e60:@f60=fun R HT A ls h K=>aj A (xc 60) ab drN n60 ls h K:=by kernel_rfl
theorem e65:@f65=fun R HT A ls h K=>aj A (xc 65) ab drN n65 ls h K:=by kernel_rfl
theorem e87:@f87=fun R HT A ls h K=>aj A (xc 87) ab drN n87 ls h K:=by kernel_rfl
theorem e92:@f92=fun R HT A ls h K=>aj A (xc 92) ab drN n92 ls h K:=by kernel_rfl
theorem e94:@f94=fun R HT A ls h K=>aj A (xc 94) ab drN n94 ls h K:=by kernel_rfl
theorem e97:@f97=fun R HT A ls h K=>aj A (xc 97) ab drN n97 ls h K:=by kernel_rfl
theorem e100:@f100=fun R HT A ls h K=>aj A (xc 100) ab drN n100 ls h K:=by kernel_rfl
theorem e103:@f103=fun R HT A ls h K=>aj A (xc 103) ab drN n103 ls h K:=by kernel_rfl
theorem e105:@f105=fun R HT A ls h K=>aj A (xc 105) ab drN n105 ls h K:=by kernel_rfl
theorem e106:@f106=fun R HT A ls h K=>aj A (xc 106) ab drN n106 ls h K:=by kernel_rfl
theorem e114:@f114=fun R HT A ls h K=>aj A (xc 114) ab drN n114 ls h K:=by kernel_rfl
theorem e117:@f117=fun R HT A ls h K=>aj A (xc 117) ab drN n117 ls h K:=by kernel_rfl
theorem e118:@f118=fun R HT A ls h K=>aj A (xc 118) ab drN n118 ls h K:=by kernel_rfl
theorem e136:@f136=fun R HT A ls h K=>aj A (xc 136) ab drN n136 ls h K:=by kernel_rfl
theorem e137:@f137=fun R HT A ls h K=>aj A (xc 137) ab drN n137 ls h K:=by kernel_rfl
end Go.Am

/-
 THE FUNCTIONS OF THE PROGRAM ARE WHAT IS TOLD OF THEM,BY PROGRAM,part 6.
-/
set_option maxRecDepth 100000
namespace Go.Am
open Sx Go.Proofs
theorem e3:@f3=fun R HT A ls h K=>aj A (xc 3) ab drN n3 ls h K:=by kernel_rfl
theorem e15:@f15=fun R HT A ls h K=>aj A (xc 15) ab drN n15 ls h K:=by kernel_rfl
theorem e17:@f17=fun R HT A ls h K=>aj A (xc 17) ab drN n17 ls h K:=by kernel_rfl
theorem e22:@f22=fun R HT A ls h K=>aj A (xc 22) ab drN n22 ls h K:=by kernel_rfl
theorem e23:@f23=fun R HT A ls h K=>aj A (xc 23) ab drN n23 ls h K:=by kernel_rfl
theorem e25:@f25=fun R HT A ls h K=>aj A (xc 25) ab drN n25 ls h K:=by kernel_rfl
theorem e46:@f46=fun R HT A ls h K=>aj A (xc 46) ab drN n46 ls h K:=by kernel_rfl
theorem e48:@f48=fun R HT A ls h K=>aj A (xc 48) ab drN n48 ls h K:=by kernel_rfl
theorem e51:@f51=fun R HT A ls h K=>aj A (xc 51) ab drN n51 ls h K:=by kernel_rfl
theorem e53:@f53=fun R HT A ls h K=>aj A (xc 53) ab drN n53 ls h K:=by kernel_rfl
theorem e54:@f54=fun R HT A ls h K=>aj A (xc 54) ab drN n54 ls h K:=by kernel_rfl
theorem e55:@f55=fun R HT A ls h K=>aj A (xc 55) ab drN n55 ls h K:=by kernel_rfl
theorem e62:@f62=fun R HT A ls h K=>aj A (xc 62) ab drN n62 ls h K:=by kernel_rfl
theorem e69:@f69=fun R HT A ls h K=>aj A (xc 69) ab drN n69 ls h K:=by kernel_rfl
theorem e80:@f80=fun R HT A ls h K=>aj A (xc 80) ab drN n80 ls h K:=by kernel_rfl
theorem e82:@f82=fun R HT A ls h K=>aj A (xc 82) ab drN n82 ls h K:=by kernel_rfl
theorem e85:@f85=fun R HT A ls h K=>aj A (xc 85) ab drN n85 ls h K:=by kernel_rfl
theorem e99:@f99=fun R HT A ls h K=>aj A (xc 99) ab drN n99 ls h K:=by kernel_rfl
theorem e112:@f112=fun R HT A ls h K=>aj A (xc 112) ab drN n112 ls h K:=by kernel_rfl
theorem e131:@f131=fun R HT A ls h K=>aj A (xc 131) ab drN n131 ls h K:=by kernel_rfl
theorem e134:@f134=fun R HT A ls h K=>aj A (xc 134) ab drN n134 ls h K:=by kernel_rfl
end Go.Am

/-
 THE FUNCTIONS OF THE PROGRAM ARE WHAT IS TOLD OF THEM,BY PROGRAM.
-/
set_option maxRecDepth 100000
namespace Go.Am
end Go.Am

/-
 WHAT THE PACKAGE-LEVEL VARIABLES HOLD,read off the row's list;a call as the row sees it.
-/
namespace Go.Am
namespace Sx
noncomputable def unL(P:Program)(un:TypeId→DataW Unit→Option (List Value)):List (Nat×TypeId)→List (DataW Unit)→Nat→Option (List Value)
 | [],[],_=>some []
 |(o,t) :: l,d :: ds,off=>match Nat.beq o off,un t d with
  |true,some v=>match Nat.beq v.length (P.cellsOf t),unL P un l ds (off+v.length)with
   |true,some vs=>some (v++vs)
   |_,_=>none
  |_,_=>none
 |_,_,_=>none
noncomputable def unD(P:Program):Nat→TypeId→DataW Unit→Option (List Value)
 |0,_,_=>none
 |fu+1,t,d=>match P.underlying t,d with
  |some .bool,.lit (.bool b)=>some [.bool b]
  |some (.int k),.lit (.int _ n)=>some [.int k n]
  |some (.struct fs),.agg ds=>match unL P (unD P fu) (fs.toList.map fun f=>(f.offset,f.type)) ds 0 with
   |some vs=>if vs.length=P.cellsOf t then some vs else none
   |none=>none
  |some (.array n e),.agg ds=>match unL P (unD P fu) ((List.range n).map fun i=>(i*P.cellsOf e,e)) ds 0 with
   |some vs=>if vs.length=P.cellsOf t then some vs else none
   |none=>none
  |_,_=>none
section
variable {P:Program} {w:World} {base:Nat} {spare:Nat→Bool} {held:Bool} {enc:TypeId×Value→Unit}
theorem seg_ok{un:TypeId→DataW Unit→Option (List Value)}{fuel:Nat}(hun:∀t d vs,un t d=some vs→∀cs p,DataW.trod enc P w base spare held fuel t cs=some (d,p)→cs=vs){α:Type}(o:α→Nat)(ty:α→TypeId)(cs:List Value) :
  ∀(l:List α) (xs:List (DataW Unit×List MemPlace)) (off:Nat) (vs:List Value),l.mapM (fun a=>DataW.trod enc P w base spare held fuel (ty a) ((cs.drop (o a)).take (P.cellsOf (ty a))))=some xs→
   unL P un (l.map fun a=>(o a,ty a)) (xs.map (·.1)) off=some vs→(cs.drop off).take vs.length=vs
 | [],xs,off,vs,h1,h2=>by
  simp only[List.mapM_nil,Option.pure_def,Option.some.injEq]at h1
  subst h1
  simp only[List.map_nil,unL,Option.some.injEq]at h2
  subst h2
  simp
 |a :: l,xs,off,vs,h1,h2=>by
  rw[List.mapM_cons]at h1
  obtain⟨x,h3,h1⟩:=Option.bind_eq_some_iff.1 h1
  obtain⟨ys,h4,h1⟩:=Option.bind_eq_some_iff.1 h1
  cases h1
  simp only[List.map_cons,unL]at h2
  split at h2
  ·rename_i v e1 e2
   split at h2
   ·rename_i ws e3 e4
    cases h2
    have e1:=Nat.eq_of_beq_eq_true e1
    have e3:=Nat.eq_of_beq_eq_true e3
    have hv:=hun _ _ _ e2 _ _ h3
    have ih:=seg_ok hun o ty cs l ys _ _ h4 e4
    rw[e1,←e3]at hv
    rw[List.length_append,List.take_add,hv,List.drop_drop]
    rw[ih]
   ·cases h2
  ·cases h2
theorem unD_ok:∀(fu:Nat) (t:TypeId) (d:DataW Unit) (vs:List Value),unD P fu t d=some vs→∀(fuel:Nat) (cs:List Value) (p:List MemPlace),DataW.trod enc P w base spare held fuel t cs=some (d,p)→cs=vs
 |0,_,_,_,h=>by cases h
 |fu+1,t,d,vs,h=>by
  intro fuel cs p hp
  cases fuel with
  |zero=>simp[DataW.trod]at hp
  |succ fuel=>
   have hun:∀t d vs,unD P fu t d=some vs→∀cs p,DataW.trod enc P w base spare held fuel t cs=some (d,p)→cs=vs:=fun t d vs h cs p=>unD_ok fu t d vs h fuel cs p
   simp only[unD]at h
   split at h
   ·rename_i b e
    cases h
    simp only[DataW.trod,e]at hp
    split at hp<;>simp_all
   ·rename_i k k' n e
    cases h
    simp only[DataW.trod,e]at hp
    split at hp<;>first|cases hp|skip
    all_goals first
     |(split at hp<;>first|(rename_i hh;simp at hp;obtain⟨⟨rfl,rfl⟩,_⟩:=hp;rw[hh.1];done)|(cases hp;done))
     |simp_all
   ·rename_i fs ds e
    split at h
    ·rename_i ws e2
     split at h
     ·rename_i e3
      cases h
      simp only[DataW.trod,e]at hp
      split at hp
      ·rename_i e4
       obtain⟨xs,h5,h6⟩:=Option.map_eq_some_iff.1 hp
       simp only[Prod.mk.injEq,DataW.agg.injEq]at h6
       rw[←h6.1]at e2
       have:=seg_ok hun (fun f:Field=>f.offset) (fun f:Field=>f.type) cs _ xs 0 _ h5 e2
       rw[List.drop_zero,List.take_of_length_le (by omega)]at this
       exact this
      ·cases hp
     ·cases h
    ·cases h
   ·rename_i n el ds e
    split at h
    ·rename_i ws e2
     split at h
     ·rename_i e3
      cases h
      simp only[DataW.trod,e]at hp
      split at hp
      ·rename_i e4
       obtain⟨xs,h5,h6⟩:=Option.map_eq_some_iff.1 hp
       simp only[Prod.mk.injEq,DataW.agg.injEq]at h6
       rw[←h6.1]at e2
       have:=seg_ok hun (fun i=>i*P.cellsOf el) (fun _=>el) cs _ xs 0 _ h5 e2
       rw[List.drop_zero,List.take_of_length_le (by omega)]at this
       exact this
      ·cases hp
     ·cases h
    ·cases h
   ·cases h
end
section
variable [Val]
theorem jy [Glo]{W:World}{g:Nat}{vs:List Value}(h0:Nat.blt g gB=true)(h1:vs.all aL=true)(h2:vs.all flat=true)(h:∃c e fr,W.heap[g]? = some (.cells c e fr)∧c.toList=vs) :
  gBlk g<W.heap.size∧vs.all aL=true∧∃c e fr,W.heap[gBlk g]? = some (.cells c e fr)∧aV (fun _=>none) vs c (gOff g):=by
 obtain⟨c,e,fr,h3,h4⟩:=h
 rw[pm h0,pn h0]
 refine⟨(Array.getElem?_eq_some_iff.1 h3).1,h1,c,e,fr,h3,.of_list ?_⟩
 rw[h4]
 exact⟨rfl,fun i x y hx hy=>by rw[hx]at hy;cases hy;exact .of_flat (List.all_eq_true.1 h2 x (List.mem_of_getElem? hx))⟩
theorem oX{C:Cfg}{f:FuncId}{args:List Value}{r:Value}{H':List HObj}(h:cd C f args [] r H'){args':Array Value}{W:World}(ha:args.all flat=true)(hargs:args'.toList=args)(hr:flat r=true)
  [Glo] (hG:∀g vs,C.G g=some vs→gBlk g<W.heap.size∧vs.all aL=true∧∃c e fr,W.heap[gBlk g]? = some (.cells c e fr)∧aV (fun _=>none) vs c (gOff g)) :
  Calls C.P f args' W fun e W'=>e = .returned r∧W'.os=W.os∧W'.output=W.output∧W'.tape=W.tape∧∀b,b<W.heap.size→W'.heap[b]? = W.heap[b]?:=by
 have hW0:WR C W.heap.size (fun _=>none) [] W:=by
  refine⟨fun id o h=>by simp at h,fun i j oi oj pi pj h=>by simp at h,fun i o p h=>by simp at h,fun i o p h=>by simp at h,fun _ _=>rfl,fun g vs hg=>?_⟩
  exact hG g vs hg
 have hV:VRs noL (fun _=>none) args args'.toList:=by
  rw[hargs]
  exact⟨rfl,fun i x y hx hy=>by rw[hx]at hy;cases hy;exact .of_flat (List.all_eq_true.1 ha x (List.mem_of_getElem? hx))⟩
 intro cs
 obtain⟨v,mu',w',a1,a2,a3,_,a5⟩:=h _ W.heap.size (fun _=>none) W args' (Nat.le_refl _) hV hW0 cs
 rw[bK hr a1]at a5
 obtain⟨fr,b1,b2,b3⟩:=a5
 exact⟨.returned r,w',fr,⟨rfl,a3.os,a3.output,a3.tape,fun b hb=>a3.keep b hb no_own⟩,b1,b2,b3⟩
end
end Sx
end Go.Am

/-
 FROM A CALL TO THE ROW: arguments without addresses.
-/
namespace Go.Am
namespace Sx
open Go.ChangeShapes Go.WideShapes Go.ChangeAt Go.WideMaps Go.WideElems Go.RowKit
theorem kept_of{W W':World}(h1:W'.os=W.os)(h2:W'.output=W.output)(h3:∀b,b<W.heap.size→W'.heap[b]? = W.heap[b]?)(may:MemPlace→Prop):W.keptBut W' may:=by
 refine⟨h1,h2,fun i hi=>?_⟩
 rw[h3 i hi]
 exact(World.keptBut_refl W may).2.2 i hi
theorem post_flat{H:Type}{enc:TypeId×Value→H}{P:Program}{f:Func}{s:ChangeSpec}{apart fresh handsOn again:Bool}{W W':World}{args:Array Value}{v:Value}{ds gs:List (DataW H)}
  (hW:DataW.Whole enc P f.params.toList s.vars apart W args.toList ds gs [])
  (hres:∀(b:Nat) (sp:Nat→Bool) (hd:Bool),DataW.TrodAll enc P W' b sp hd f.resultTypes.toList (v.resultList f.resultTypes.size) (s.fn H (ds++gs)).results [])
  (hargs:∀sp:Nat→Bool,DataW.TrodAll enc P W' 0 sp true f.params.toList args.toList (s.fn H (ds++gs)).args [])
  (hvars:∀sp:Nat→Bool,DataW.TrodVars enc P W' sp s.vars (s.fn H (ds++gs)).vars [])
  (h1:W'.os=W.os) (h2:W'.output=W.output) (h3:∀b,b<W.heap.size→W'.heap[b]? = W.heap[b]?)
  (hok:∀(j:Nat) (t:TypeId) (r:Value),f.resultTypes[j]? = some t→(v.resultList f.resultTypes.size)[j]? = some r→Value.okWide P W' .any 0 t r) :
  s.post enc P f apart fresh handsOn again W args v W':=by
 refine⟨ds,gs,[],[],[],[],hW,hres _ _ _,hargs _,hvars _,kept_of h1 h2 h3 _,fun _=>?_⟩
 refine⟨hok,_,_,[],⟨[],[],trodAll_append (hargs _) (hres _ _ _),hvars _,rfl,?_,?_⟩,?_⟩
 ·intro b off hp;cases hp
 ·intro _;exact List.nodup_nil
 ·intro p hp;cases hp
theorem gJ{P:Program}{w:World}{laid:List (String×DataW Unit)}{ps:List MemPlace}(h:DataW.LaidVars P w laid ps):∀n d,(n,d)∈laid→∀g t fu vs,P.globalNamed n=some g→(P.globals[g]?).map (·.type)=some t→unD P fu t d=some vs→
  ∃c e fr,w.heap[g]? = some (.cells c e fr)∧c.toList=vs:=by
 induction laid generalizing ps with
 |nil=>intro n d h;cases h
 |cons x l ih=>
  obtain⟨n0,d0⟩:=x
  obtain⟨g0,t0,cs,fuel,p,q,a1,a2,a3,a4,a5,a6⟩:=h
  intro n d hm g t fu vs b1 b2 b3
  rcases List.mem_cons.1 hm with e|hm
  ·cases e
   rw[a1]at b1;cases b1
   rw[a2]at b2;cases b2
   have hc:=unD_ok fu _ _ vs b3 _ _ _ a4
   unfold World.var? at a3
   rw[a1]at a3
   simp only[Option.bind_some]at a3
   split at a3
   ·rename_i c ty fr e
    cases a3
    exact⟨_,_,_,e,hc⟩
   ·cases a3
  ·exact ih a5 n d hm g t fu vs b1 b2 b3
section
variable [Val] [Kno]
theorem ans_yes{t:Bool}(h:ans t=yes):t=true:=by cases t;cases h;rfl
end
end Sx
end Go.Am

/-
 THE ALGEBRA OF PROPOSITIONS: what must hold,that code does as it is told to do.
-/
namespace Go.Am
namespace Sx
section
variable [Val] [Kno]
theorem SL.plain_scalar{l:SL}{k:LK}(h:l.is k=true)(hk:k.plain=true):scalar l.val=true:=by
 cases l<;>cases k<;>first|(cases hk;done)|(cases h;done)|rfl
theorem hJ:∀ {cs:List SL} {ks:List LK},aB cs ks=true→ks.all LK.plain=true→(cs.map SL.val).all scalar=true
 | [],[],_,_=>rfl
 |c :: cs,k :: ks,h,hk=>by
  simp only[aB,Bool.and_eq_true]at h
  simp only[List.all_cons,Bool.and_eq_true]at hk
  simp only[List.map_cons,List.all_cons,Bool.and_eq_true]
  exact⟨SL.plain_scalar h.1 hk.1,hJ h.2 hk.2⟩
 | [],_ :: _,h,_=>by cases h
 |_ :: _,[],h,_=>by cases h
theorem S0.plain_flat1{x:S0}{k:SK}(h:x.is k=true)(hk:k.plain=true):dJ x.val=true:=by
 cases x with
 |leaf l=>
  cases k with
  |leaf k=>
   have:=SL.plain_scalar h hk
   show dJ l.val=true
   cases hv:l.val<;>rw[hv]at this<;>first|exact this|cases this
  |agg _=>cases h
 |agg cs=>
  cases k with
  |leaf k=>cases h
  |agg ks=>exact hJ h hk
theorem fU{v:Value}(h:dJ v=true):flat v=true:=by
 cases v<;>first|exact h|cases h
theorem dO:∀ {xs:List S0} {sks:List SK},bn xs sks=true→sks.all SK.plain=true→(af xs).all dJ=true
 | [],[],_,_=>rfl
 |x :: xs,k :: ks,h,hk=>by
  simp only[bn,Bool.and_eq_true]at h
  simp only[List.all_cons,Bool.and_eq_true]at hk
  simp only[af,List.map_cons,List.all_cons,Bool.and_eq_true]
  exact⟨S0.plain_flat1 h.1 hk.1,dO h.2 hk.2⟩
 | [],_ :: _,h,_=>by cases h
 |_ :: _,[],h,_=>by cases h
theorem kO{xs:List S0}{sks:List SK}(h:bn xs sks=true)(hk:sks.all SK.plain=true):(af xs).all flat=true:=by
 have:=dO h hk
 rw[List.all_eq_true]at this ⊢
 exact fun v hv=>fU (this v hv)
theorem lH{vs:List Value}(h:vs.all dJ=true):flat (dt vs)=true:=by
 match vs,h with
 | [],_=>rfl
 | [v],h=>
  simp only[List.all_cons,List.all_nil,Bool.and_true]at h
  exact fU h
 |a :: b :: l,h=>
  show flat (.tuple (a :: b :: l).toArray)=true
  simp only[flat,Bool.and_eq_true]
  exact⟨by simp,h⟩
end
@[reducible] def KnoC (C:Cfg) (N:FuncId→Option Nat) [Val]:Kno:=⟨fun f args r=>∀H,cd C f args H r H,fun f args H r H'=>(N f=none∨(N f=some (2*args.length+1)∧H'=H))∧cd C f args H r H'⟩
section
variable [Val]
def Ct(C:Cfg)(N:FuncId→Option Nat)(Sg:FuncId→Option Sig)(g:FuncId)(ls rs:List Lf):Prop:=let _:Kno:=KnoC C N;∀H,cj C Sg g ls H rs H
theorem eU{C:Cfg}{N:FuncId→Option Nat}(hm:C.P.follows .mixedOrders=true){f:FuncId}{args:List Value}{H:List HObj}{r:Value}{H':List HObj}(h:let _:Kno:=KnoC C N;gm C f args H r H'):cd C f args H r H':=
 @uCall_ok _ _ (KnoC C N) hm (fun _ _ _ h=>h) (fun _ _ _ _ _ h=>h.2) _ _ _ _ _ h
theorem ct_of{C:Cfg}{N:FuncId→Option Nat}{Sg:FuncId→Option Sig}(hm:C.P.follows .mixedOrders=true)(hG:∀g vs,C.G g=some vs→vs.all gfl=true){g:FuncId}{sg:Sig}(hs:Sg g=some sg)(hp:sg.plain=true){ls rs:List Lf}{H':List HObj}
  (h:let _:Kno:=KnoC C N;cj C Sg g ls [] rs H'):Ct C N Sg g ls rs:=by
 let _:Kno:=KnoC C N
 obtain⟨sg',xs,ys,c1,c2,c3,c4⟩:=h
 rw[hs]at c1
 cases c1
 simp only[Sig.plain,Bool.and_eq_true]at hp
 have ha:=kO c2.1 hp.1
 have hr:=lH (dO c3.1 hp.2)
 intro H
 exact⟨sg,xs,ys,hs,c2,c3,⟨0,.inl ⟨fun H=>frame_ok hG (eU hm c4) ha hr H,rfl⟩⟩⟩
end
section
variable [Val] [Kno]
end
end Sx
end Go.Am

/-
 CALLS THAT ONLY READ: slices under other names of their blocks;what a run over these blocks alone answers.
-/
namespace Go.Am
namespace Sx
section
variable [Val]
noncomputable def renV(σ:Nat→Nat)(v:Value):Value:=match v with
 | .slice (some a) len cx=>.slice (some ⟨σ a.block,a.off,a.spot⟩) len cx
 |v=>v
noncomputable def iC(σ:Nat→Nat):SL→SL
 | .v x=>.v (renV σ x)
 |s=>s
noncomputable def renS(σ:Nat→Nat):S0→S0
 | .leaf l=>.leaf (iC σ l)
 | .agg cs=>.agg (cs.map (iC σ))
noncomputable def renL(σ:Nat→Nat):Lf→Lf
 | .v x=>.v (renV σ x)
 |l=>l
def OkV(n:Nat)(v:Value):Prop:=(flat v=true∧∀σ,renV σ v=v)∨∃j off len cx e,j<n∧v = .slice (some ⟨j,off,tag e⟩) len cx
def OkL(n:Nat):Lf→Prop
 | .v x=>OkV n x
 |_=>True
theorem vr_ren [Glo]{n:Nat}{σ:Nat→Nat}{mu mu0:HMap}(hmu:∀j,j<n→mu0 j=mu (σ j)){v c:Value}(hv:OkV n v)(h:VR noL mu (renV σ v) c):VR noL mu0 v c:=by
 rcases hv with⟨h1,h2⟩|⟨j,off,len,cx,e,hj,rfl⟩
 ·rw[h2]at h
  rw[bK h1 h]
  exact .of_flat h1
 ·have h:VR noL mu (.slice (some ⟨σ j,off,tag e⟩) len cx) c:=h
  generalize ht:tag e=t at h ⊢
  cases h with
  |hslice q1 q2 q3 q4=>exact .hslice ((hmu j hj).trans q1) q2 q3 q4
  |hslice0 q1=>exact .hslice0 q1
  |gslice _=>simp[tag]at ht
  |gslice0=>simp[tag]at ht
  |scalar q=>simp[scalar]at q
theorem oQ{σ:Nat→Nat}(l:SL)(k:LK):(iC σ l).is k=l.is k:=by cases l<;>cases k<;>rfl
theorem nA{σ:Nat→Nat}:∀(cs:List SL) (ks:List LK),aB (cs.map (iC σ)) ks=aB cs ks
 | [],[]=>rfl
 | [],_ :: _=>rfl
 |_ :: _,[]=>rfl
 |c :: cs,k :: ks=>by simp only[List.map_cons,aB,oQ,nA cs ks]
theorem is_ren{σ:Nat→Nat}(x:S0)(k:SK):(renS σ x).is k=x.is k:=by
 cases x<;>cases k<;>first|rfl|exact oQ _ _|exact nA _ _
theorem fL{σ:Nat→Nat}:∀(xs:List S0) (ks:List SK),bn (xs.map (renS σ)) ks=bn xs ks
 | [],[]=>rfl
 | [],_ :: _=>rfl
 |_ :: _,[]=>rfl
 |x :: xs,k :: ks=>by simp only[List.map_cons,bn,is_ren,fL xs ks]
theorem lf_ren{σ:Nat→Nat}(l:SL):(iC σ l).lf=renL σ l.lf:=by cases l<;>rfl
theorem jf{σ:Nat→Nat}(x:S0):(renS σ x).cells=x.cells.map (iC σ):=by cases x<;>rfl
theorem fX{σ:Nat→Nat}:∀(xs:List S0),bv (xs.map (renS σ))=(bv xs).map (renL σ)
 | []=>rfl
 |x :: xs=>by
  simp only[List.map_cons,bv,List.map_append,fX xs,jf,List.map_map]
  congr 1
  exact List.map_congr_left fun l _=>lf_ren l
theorem nX{σ:Nat→Nat}(x:Value):bM (renV σ x)=bM x:=by
 unfold renV
 split
 ·simp[bM,noLoc,aX,cr,bH,aT,aD]
 ·rfl
theorem qk{σ:Nat→Nat}{l:SL}(h:l.good):(iC σ l).good:=by
 cases l with
 |v x=>
  show bM (renV σ x)=true
  have h:bM x=true:=h
  unfold renV
  split
  ·simpa[bM,noLoc,aX,cr,bH,aT,aD]using h
  ·exact h
 |_=>exact h
theorem vr_sl [Glo]{n:Nat}{σ:Nat→Nat}{mu mu0:HMap}(hmu:∀j,j<n→mu0 j=mu (σ j)){l:SL}{c:Value}(hl:OkL n l.lf)(h:VR noL mu (iC σ l).val c):VR noL mu0 l.val c:=by
 cases l with
 |v x=>exact vr_ren hmu hl h
 |i k m=>
  have hf:flat (Value.int k m)=true:=rfl
  have h:VR noL mu (.int k m) c:=h
  rw[bK hf h];exact .of_flat hf
 |b t=>
  have hf:flat (Value.bool t)=true:=rfl
  have h:VR noL mu (.bool t) c:=h
  rw[bK hf h];exact .of_flat hf
 |l t=>
  have hf:flat (Value.bool t)=true:=rfl
  have h:VR noL mu (.bool t) c:=h
  rw[bK hf h];exact .of_flat hf
theorem vr_s0 [Glo]{n:Nat}{σ:Nat→Nat}{mu mu0:HMap}(hmu:∀j,j<n→mu0 j=mu (σ j)){x:S0}{c:Value}(hx:∀l∈x.cells,OkL n l.lf)(h:VR noL mu (renS σ x).val c):VR noL mu0 x.val c:=by
 cases x with
 |leaf l=>exact vr_sl hmu (hx l (by simp[S0.cells])) h
 |agg cs=>
  have h:VR noL mu (.agg ⟨(cs.map (iC σ)).map SL.val⟩) c:=h
  generalize ha:(⟨(cs.map (iC σ)).map SL.val⟩ : Array Value)=a at h
  cases h with
  |scalar q=>simp[scalar]at q
  |agg hs h=>
   subst ha
   refine .agg (by simpa using hs) fun i x y hx' hy=>?_
   have hi:(cs.map SL.val)[i]? = some x:=by simpa using hx'
   rw[List.getElem?_map]at hi
   cases e:cs[i]? with
   |none=>rw[e]at hi;cases hi
   |some l=>
    rw[e]at hi
    cases hi
    exact vr_sl hmu (hx l (List.mem_of_getElem? e)) (h i _ y (by simp[e]) hy)
theorem vrs_ren [Glo]{n:Nat}{σ:Nat→Nat}{mu mu0:HMap}(hmu:∀j,j<n→mu0 j=mu (σ j)){xs:List S0}{cs:List Value}(hx:∀x∈xs,∀l∈x.cells,OkL n l.lf)(h:VRs noL mu (af (xs.map (renS σ))) cs):VRs noL mu0 (af xs) cs:=by
 refine⟨by simpa[af]using h.1,fun i x y hi hy=>?_⟩
 unfold af at hi
 rw[List.getElem?_map]at hi
 cases e:xs[i]? with
 |none=>rw[e]at hi;cases hi
 |some s=>
  rw[e]at hi
  cases hi
  exact vr_s0 hmu (hx s (List.mem_of_getElem? e)) (h.2 i _ y (by simp[af,e]) hy)
theorem jE{xs:List S0}{x:S0}{l:SL}(hx:x∈xs)(hl:l∈x.cells):l.lf∈bv xs:=by
 induction xs with
 |nil=>cases hx
 |cons y ys ih=>
  show l.lf∈y.cells.map SL.lf++bv ys
  rcases List.mem_cons.1 hx with rfl|hx
  ·exact List.mem_append_left _ (List.mem_map_of_mem hl)
  ·exact List.mem_append_right _ (ih hx)
theorem oW{C:Cfg}{N:FuncId→Option Nat}{Sg:FuncId→Option Sig}(hm:C.P.follows .mixedOrders=true)(hG:∀g vs,C.G g=some vs→vs.all gfl=true){g:FuncId}{sg:Sig}(hs:Sg g=some sg)(hp:sg.rs.all SK.plain=true)(hn:N g=none){ls0 rs:List Lf}{H0 H' H:List HObj}(σ:Nat→Nat)
  (h:let _:Kno:=KnoC C N;cj C Sg g ls0 H0 rs H')
  (h0:∀(j:Nat) (o:HObj),H0[j]? = some o→∃vs e rw,o = .cells vs e false∧vs.all flat=true∧H[σ j]? = some (.cells vs e rw))
  (hl:∀l∈ls0,OkL H0.length l):let _:Kno:=KnoC C N;cj C Sg g (ls0.map (renL σ)) H rs H:=by
 let _:Kno:=KnoC C N
 obtain⟨sg',xs,ys,c1,c2,c3,c4⟩:=h
 rw[hs]at c1
 cases c1
 have hr:=lH (dO c3.1 hp)
 have hx:∀x∈xs,∀l∈x.cells,OkL H0.length l.lf:=fun x hx l hl'=>hl _ (by rw[←c2.2.1];exact jE hx hl')
 refine⟨sg,xs.map (renS σ),ys,hs,⟨by rw[fL];exact c2.1,by rw[fX,c2.2.1],fun x hx'=>?_⟩,c3,⟨0,?_⟩⟩
 ·obtain⟨y,hy,rfl⟩:=List.mem_map.1 hx'
  intro l hl'
  rw[jf]at hl'
  obtain⟨l',hl'',rfl⟩:=List.mem_map.1 hl'
  exact qk (c2.2.2 y hy l' hl'')
 ·exact .inr ⟨.inl hn,frame_ro hG σ (eU hm c4) hr h0 fun mu mu0 cs hmu h=>vrs_ren hmu hx h⟩
end
end Sx
end Go.Am

/-
 RUNS IN THE DIRECT STYLE: what the texts by program use,and what makes a table of runs true.
-/
set_option maxRecDepth 100000
namespace Go.Am
open Sx
abbrev FB:=List Lf→HTr→(List Lf→HTr→RT)→RT
noncomputable def nf:FB:=fun _ _ _=>none
noncomputable def tell(rs:List Lf)(_:HTr):RT:=mW rs fun rs=>some rs
noncomputable def memo(g:FB):FB:=fun ls h K=>mW ls fun ls=>@Option.rec _ (fun _=>RT) none (fun rs=>K rs h) (g ls .empty tell)
noncomputable def fB{R:Type}(b:Bool)(k:Bool→R):R:=Bool.rec (k false) (k true) b
noncomputable def flatI(v:Value):Bool:=match v with
 | .int _ _=>true
 | .bool _=>true
 |_=>false
noncomputable def allR(c:Tr Value)(n:Nat):Bool:=@Nat.rec (fun _=>Bool) true (fun i ih=>@Bool.rec (fun _=>Bool) false ih (flatI ((aQ i).get nilV c))) n
noncomputable def ext(h:HTr)(d:RT)(ls:List Lf):HTr→(List Lf→HTr→RT)→RT:=
 @List.rec Lf (fun _=>HTr→(List Lf→HTr→RT)→RT) (fun h0 k=>k [] h0) (fun x _ ih h0 k=>match x with
  | .i n=>fI n fun n=>ih h0 fun l h1=>k (.i n :: l) h1
  | .b t=>fB t fun t=>ih h0 fun l h1=>k (.b t :: l) h1
  | .v v=>match v with
   | .slice (some a) len cx=>match h.at a.block with
    |some (.t n e _ c)=>match tagB a.spot e,allR c n with
     |true,true=>dE h0 (.t n e false c) fun h1=>fN a.off fun o=>fN len fun len=>fN cx fun cx=>ih h1 fun l h2=>k (.v (.slice (some ⟨h0.n,o,tag e⟩) len cx) :: l) h2
     |_,_=>d
    |_=>d
   |v=>match flat v with
    |true=>ih h0 fun l h1=>k (.v v :: l) h1
    |false=>d) ls
noncomputable def iB(g:FB):FB:=fun ls h K=>ext h (g ls h K) ls .empty fun ls0 h0=>@Option.rec _ (fun _=>RT) (g ls h K) (fun rs=>K rs h) (g ls0 h0 tell)
theorem c2{A B Z:Sort _}{f g:A→B→Z}(h:f=g)(x0:A)(x1:B):f x0 x1=g x0 x1:=by rw[h]
theorem c3{A B C Z:Sort _}{f g:A→B→C→Z}(h:f=g)(x0:A)(x1:B)(x2:C):f x0 x1 x2=g x0 x1 x2:=by rw[h]
theorem c4{A B C D Z:Sort _}{f g:A→B→C→D→Z}(h:f=g)(x0:A)(x1:B)(x2:C)(x3:D):f x0 x1 x2 x3=g x0 x1 x2 x3:=by rw[h]
theorem c5{A B C D E Z:Sort _}{f g:A→B→C→D→E→Z}(h:f=g)(x0:A)(x1:B)(x2:C)(x3:D)(x4:E):f x0 x1 x2 x3 x4=g x0 x1 x2 x3 x4:=by rw[h]
theorem c6{A B C D E F Z:Sort _}{f g:A→B→C→D→E→F→Z}(h:f=g)(x0:A)(x1:B)(x2:C)(x3:D)(x4:E)(x5:F):f x0 x1 x2 x3 x4 x5=g x0 x1 x2 x3 x4 x5:=by rw[h]
theorem c7{A B C D E F G Z:Sort _}{f g:A→B→C→D→E→F→G→Z}(h:f=g)(x0:A)(x1:B)(x2:C)(x3:D)(x4:E)(x5:F)(x6:G):f x0 x1 x2 x3 x4 x5 x6=g x0 x1 x2 x3 x4 x5 x6:=by rw[h]
theorem c8{A B C D E F G H Z:Sort _}{f g:A→B→C→D→E→F→G→H→Z}(h:f=g)(x0:A)(x1:B)(x2:C)(x3:D)(x4:E)(x5:F)(x6:G)(x7:H):f x0 x1 x2 x3 x4 x5 x6 x7=g x0 x1 x2 x3 x4 x5 x6 x7:=by rw[h]
theorem c9{A B C D E F G H I Z:Sort _}{f g:A→B→C→D→E→F→G→H→I→Z}(h:f=g)(x0:A)(x1:B)(x2:C)(x3:D)(x4:E)(x5:F)(x6:G)(x7:H)(x8:I):f x0 x1 x2 x3 x4 x5 x6 x7 x8=g x0 x1 x2 x3 x4 x5 x6 x7 x8:=by rw[h]
noncomputable abbrev r0(X:RT)(ls:List Lf):RT:=@List.rec Lf (fun _=>RT) X (fun _ _ _=>none) ls
noncomputable def lookF(l:List (Nat×FB))(g:Nat)(d:FB):FB:=@List.rec _ (fun _=>FB) d (fun p _ ih=>@Bool.rec (fun _=>FB) ih p.2 (Nat.beq p.1 g)) l
noncomputable def tblF(l:List (Nat×FB))(c:aa):aa:=fun ck=>match ck with
 | .f g=>lookF l g (c (.f g))
 | .y κ vs i=>c (.y κ vs i)
section
variable {Sg:FuncId→Option Sig} {T:Nat→Site} {call:aa}
end
section
variable [Val] [Kno]
noncomputable def eqLs(a:List Lf):List Lf→Bool:=@List.rec _ (fun _=>List Lf→Bool) (fun b=>@List.rec _ (fun _=>Bool) true (fun _ _ _=>false) b) (fun x _ ih b=>@List.rec _ (fun _=>Bool) false (fun y m _=>@Bool.rec (fun _=>Bool) false (ih m) (eqLf x y)) b) a
theorem kX{x y:Lf}(h:eqLf x y=true):x=y:=by
 cases x<;>cases y<;>first|(cases h;done)|skip
 ·have h:eqZK _ _=true:=h
  rw[mz,beq_iff_eq]at h;rw[h]
 ·rename_i a b;cases a<;>cases b<;>first|rfl|cases h
theorem eW:∀ {a b:List Lf},eqLs a b=true→a=b
 | [],[],_=>rfl
 |x :: a,y :: b,h=>by
  have h:@Bool.rec (fun _=>Bool) false (eqLs a b) (eqLf x y)=true:=h
  cases e:eqLf x y with
  |true=>rw[e]at h;rw[kX e,eW h]
  |false=>rw[e]at h;cases h
 | [],_ :: _,h=>by cases h
 |_ :: _,[],h=>by cases h
abbrev KN1:=Nat×List Lf×List Lf
noncomputable def ry(l:List KN1)(f:Nat)(ls:List Lf):Option (List Lf):=@List.rec _ (fun _=>Option (List Lf)) none (fun p _ ih=>@Bool.rec (fun _=>Option (List Lf)) ih (@Bool.rec (fun _=>Option (List Lf)) ih (some p.2.2) (eqLs p.2.1 ls)) (Nat.beq p.1 f)) l
theorem jF{f:Nat}{ls rs:List Lf}:∀ {l:List KN1},ry l f ls=some rs→(f,ls,rs)∈l
 | [],h=>by cases h
 |p :: l,h=>by
  have h:@Bool.rec (fun _=>Option (List Lf)) (ry l f ls) (@Bool.rec (fun _=>Option (List Lf)) (ry l f ls) (some p.2.2) (eqLs p.2.1 ls)) (Nat.beq p.1 f)=some rs:=h
  cases e:Nat.beq p.1 f with
  |false=>rw[e]at h;exact List.mem_cons_of_mem _ (jF h)
  |true=>
   rw[e]at h
   have e:=Nat.eq_of_beq_eq_true e
   cases e2:eqLs p.2.1 ls with
   |false=>rw[e2]at h;exact List.mem_cons_of_mem _ (jF h)
   |true=>
    rw[e2]at h
    cases h
    rw[←e,←eW e2]
    exact List.mem_cons_self
noncomputable def runKn(l:List KN1)(c:aa):aa:=fun ck=>match ck with
 | .f f=>fun ls h K=>@Option.rec _ (fun _=>RT) (c (.f f) ls h K) (fun rs=>K rs h) (ry l f ls)
 | .y κ vs i=>c (.y κ vs i)
def kB(C:Cfg)(Sg:FuncId→Option Sig)(T:Nat→Site)(k:Nat)(g:FB):Prop:=∀ls h K w,dG ls→g ls h K=some w→∃rs h',cj C Sg k ls (absH T (toL h)) rs (absH T (toL h'))∧K rs h'=some w
def AllK(C:Cfg)(Sg:FuncId→Option Sig)(l:List KN1):Prop:=∀p∈l,∀H,cj C Sg p.1 p.2.1 H p.2.2 H
theorem AllK.nil{C:Cfg}{Sg:FuncId→Option Sig}:AllK C Sg []:=fun _ h=>by cases h
theorem AllK.cons{C:Cfg}{Sg:FuncId→Option Sig}{f:Nat}{ls rs:List Lf}{l:List KN1}(h:∀H,cj C Sg f ls H rs H)(hl:AllK C Sg l):AllK C Sg ((f,ls,rs) :: l):=by
 intro p hp
 rcases List.mem_cons.1 hp with rfl|hp
 ·exact h
 ·exact hl p hp
theorem AllK.app{C:Cfg}{Sg:FuncId→Option Sig}{l m:List KN1}(h:AllK C Sg l)(hm:AllK C Sg m):AllK C Sg (l++m):=by
 intro p hp
 rcases List.mem_append.1 hp with hp|hp
 ·exact h p hp
 ·exact hm p hp
theorem runKn_ok{C:Cfg}{Sg:FuncId→Option Sig}{T:Nat→Site}{c:aa}(hc:CallBOk C Sg T c){l:List KN1}(hl:AllK C Sg l):CallBOk C Sg T (runKn l c):=by
 refine⟨fun f ls h K w hls hk=>?_,fun κ vs i ls h K w st pd xs e hy hk=>hc.y κ vs i ls h K w st pd xs e hy hk⟩
 have hk:@Option.rec _ (fun _=>RT) (c (.f f) ls h K) (fun rs=>K rs h) (ry l f ls)=some w:=hk
 cases e:ry l f ls with
 |none=>rw[e]at hk;exact hc.f f ls h K w hls hk
 |some rs=>rw[e]at hk;exact⟨rs,h,hl _ (jF e) _,hk⟩
theorem qq{C:Cfg}{Sg:FuncId→Option Sig}{T:Nat→Site}{g:Nat}{d:FB}(hd:kB C Sg T g d):∀ {l:List (Nat×FB)},(∀p∈l,kB C Sg T p.1 p.2)→kB C Sg T g (lookF l g d)
 | [],_=>hd
 |p :: l,h=>by
  have e:lookF (p :: l) g d = @Bool.rec (fun _=>FB) (lookF l g d) p.2 (Nat.beq p.1 g):=rfl
  rw[e]
  cases hb:Nat.beq p.1 g with
  |true=>
   have:=Nat.eq_of_beq_eq_true hb
   subst this
   exact h p List.mem_cons_self
  |false=>exact qq hd (fun q hq=>h q (List.mem_cons_of_mem _ hq))
theorem ae{C:Cfg}{Sg:FuncId→Option Sig}{T:Nat→Site}{c:aa}(hc:CallBOk C Sg T c){l:List (Nat×FB)}(h:∀p∈l,kB C Sg T p.1 p.2):CallBOk C Sg T (tblF l c):=
 ⟨fun g ls hh K w hls hk=>qq (fun ls h K w=>hc.f g ls h K w) h ls hh K w hls hk,fun κ vs l ls h K w st pd xs e hy hk=>hc.y κ vs l ls h K w st pd xs e hy hk⟩
def YOk(C:Cfg)(Sg:FuncId→Option Sig)(T:Nat→Site)(κ:Nat)(g:List Value→Nat→FB):Prop:=∀vs l ls h K w st pd xs,h.at l=some (.lp κ st pd vs)→Told ((T κ).params.map (·.2)) ls xs→g vs l ls h K=some w→
  ∃b h',gn C l (af xs) (absH T (toL h)) (.bool b) (absH T (toL h'))∧K [.b b] h'=some w
noncomputable def lookY(l:List (Nat×(List Value→Nat→FB)))(κ:Nat)(d:List Value→Nat→FB):List Value→Nat→FB:=@List.rec _ (fun _=>List Value→Nat→FB) d (fun p _ ih=>@Bool.rec (fun _=>List Value→Nat→FB) ih p.2 (Nat.beq p.1 κ)) l
theorem qr{C:Cfg}{Sg:FuncId→Option Sig}{T:Nat→Site}{g:Nat}{d:List Value→Nat→FB}(hd:YOk C Sg T g d):∀ {l:List (Nat×(List Value→Nat→FB))},(∀p∈l,YOk C Sg T p.1 p.2)→YOk C Sg T g (lookY l g d)
 | [],_=>hd
 |p :: l,h=>by
  have e:lookY (p :: l) g d = @Bool.rec (fun _=>List Value→Nat→FB) (lookY l g d) p.2 (Nat.beq p.1 g):=rfl
  rw[e]
  cases hb:Nat.beq p.1 g with
  |true=>
   have:=Nat.eq_of_beq_eq_true hb
   subst this
   exact h p List.mem_cons_self
  |false=>exact qr hd (fun q hq=>h q (List.mem_cons_of_mem _ hq))
theorem ku:tell=fun rs _=>some rs:=by
 funext rs h
 exact cX rs _
theorem memo_ok{C:Cfg}{Sg:FuncId→Option Sig}{T:Nat→Site}(hpl:∀f sg ls rs H',Sg f=some sg→sg.plain=true→cj C Sg f ls [] rs H'→∀H,cj C Sg f ls H rs H)
  {k:Nat} {g:FB} {sg:Sig} (hg:kB C Sg T k g) (hs:Sg k=some sg) (hp:sg.plain=true):kB C Sg T k (memo g):=by
 intro ls h K w hls hk
 unfold memo at hk
 rw[cX,ku]at hk
 cases e:g ls .empty (fun rs _=>some rs)with
 |none=>rw[e]at hk;cases hk
 |some rs=>
  rw[e]at hk
  obtain⟨rs',h',a1,a2⟩:=hg ls .empty _ rs hls e
  cases a2
  exact⟨rs,h,hpl k sg ls rs _ hs hp a1 _,hk⟩
theorem fB_eq{R:Type}(b:Bool)(k:Bool→R):fB b k=k b:=by cases b<;>rfl
theorem flatI_ok{v:Value}(h:flatI v=true):flat v=true:=by
 cases v<;>first|rfl|cases h
theorem allR_ok{c:Tr Value}:∀ {n:Nat},allR c n=true→(aW c n).all flat=true:=by
 intro n h
 have main:∀n,allR c n=true→∀i,i<n→flatI ((aQ i).get nilV c)=true:=by
  intro n
  induction n with
  |zero=>intro _ i hi;cases hi
  |succ n ih=>
   intro h i hi
   have h:@Bool.rec (fun _=>Bool) false (allR c n) (flatI ((aQ n).get nilV c))=true:=h
   cases e:flatI ((aQ n).get nilV c)with
   |false=>rw[e]at h;cases h
   |true=>
    rw[e]at h
    rcases Nat.lt_or_ge i n with h1|h1
    ·exact ih h i h1
    ·obtain rfl:i=n:=by omega
     exact e
 rw[List.all_eq_true]
 intro v hv
 obtain⟨i,hi,rfl⟩:=List.mem_map.1 hv
 exact flatI_ok (main n h i (List.mem_range.1 hi))
def Blk(T:Nat→Site)(h h0:HTr)(σ:Nat→Nat):Prop:=∀(j:Nat) (o:HObj),(absH T (toL h0))[j]? = some o→∃vs e rw,o = .cells vs e false∧vs.all flat=true∧(absH T (toL h))[σ j]? = some (.cells vs e rw)
theorem hZ{T:Nat→Site}{h:HTr}{d:RT}{w:List Lf}:∀(ls:List Lf) (h0:HTr) (k:List Lf→HTr→RT) (σ:Nat→Nat),Blk T h h0 σ→ext h d ls h0 k=some w→
  d=some w∨∃ls0 h1 σ',k ls0 h1=some w∧h0.n≤h1.n∧(∀j,j<h0.n→σ' j=σ j)∧Blk T h h1 σ'∧ls0.map (renL σ')=ls∧∀l∈ls0,OkL h1.n l
 | [],h0,k,σ,hb,hk=>.inr ⟨[],h0,σ,hk,Nat.le_refl _,fun _ _=>rfl,hb,rfl,fun _ h=>by cases h⟩
 | .i n :: ls,h0,k,σ,hb,hk=>by
  have hk:(fI n fun n=>ext h d ls h0 fun l h1=>k (.i n :: l) h1)=some w:=hk
  rw[fS]at hk
  rcases hZ ls h0 _ σ hb hk with h1|⟨l,h1,σ',a1,a2,a3,a4,a5,a6⟩
  ·exact .inl h1
  ·refine .inr ⟨.i n :: l,h1,σ',a1,a2,a3,a4,by rw[List.map_cons,a5];rfl,fun x hx=>?_⟩
   rcases List.mem_cons.1 hx with rfl|hx
   ·trivial
   ·exact a6 x hx
 | .b t :: ls,h0,k,σ,hb,hk=>by
  have hk:(fB t fun t=>ext h d ls h0 fun l h1=>k (.b t :: l) h1)=some w:=hk
  rw[fB_eq]at hk
  rcases hZ ls h0 _ σ hb hk with h1|⟨l,h1,σ',a1,a2,a3,a4,a5,a6⟩
  ·exact .inl h1
  ·refine .inr ⟨.b t :: l,h1,σ',a1,a2,a3,a4,by rw[List.map_cons,a5];rfl,fun x hx=>?_⟩
   rcases List.mem_cons.1 hx with rfl|hx
   ·trivial
   ·exact a6 x hx
 | .v v :: ls,h0,k,σ,hb,hk=>by
  have hk:(match (motive:=Value→RT) v with
   | .slice (some a) len cx=>match h.at a.block with
    |some (.t n e _ c)=>match tagB a.spot e,allR c n with
     |true,true=>dE h0 (.t n e false c) fun h1=>fN a.off fun o=>fN len fun len=>fN cx fun cx=>ext h d ls h1 fun l h2=>k (.v (.slice (some ⟨h0.n,o,tag e⟩) len cx) :: l) h2
     |_,_=>d
    |_=>d
   |v=>match flat v with
    |true=>ext h d ls h0 fun l h1=>k (.v v :: l) h1
    |false=>d)=some w:=hk
  split at hk
  ·rename_i a len cx _
   split at hk
   ·rename_i n e rw' c hat
    split at hk
    ·rename_i q1 q2
     have q1:=nm.1 q1
     rw[cG,en,en,en]at hk
     have hb1:Blk T h (h0.push (.t n e false c)) (fun j=>if j=h0.n then a.block else σ j):=by
      intro j o hj
      rw[cH,fJ]at hj
      by_cases h1:j<h0.n
      ·rw[List.getElem?_append_left (by rw[bL,bh];exact h1)]at hj
       simp only[if_neg (Nat.ne_of_lt h1)]
       exact hb j o hj
      ·rw[List.getElem?_append_right (by rw[bL,bh];omega),bL,bh]at hj
       by_cases h2:j=h0.n
       ·subst h2
        rw[Nat.sub_self]at hj
        cases hj
        refine⟨aW c n,e,rw',rfl,allR_ok q2,?_⟩
        simp only[if_true]
        have:=gG (T:=T) hat
        rw[mF]at this
        exact this
       ·rw[List.getElem?_eq_none (by simp;omega)]at hj;cases hj
     rcases hZ ls _ _ _ hb1 hk with h1|⟨l,h1,σ',a1,a2,a3,a4,a5,a6⟩
     ·exact .inl h1
     ·have hn:(h0.push (.t n e false c)).n=h0.n+1:=rfl
      rw[hn]at a2 a3
      refine .inr ⟨_,h1,σ',a1,by omega,fun j hj=>?_,a4,?_,fun x hx=>?_⟩
      ·rw[a3 j (by omega)];simp only[if_neg (Nat.ne_of_lt hj)]
      ·have hs:σ' h0.n=a.block:=by rw[a3 h0.n (by omega)];simp
       rw[List.map_cons,a5]
       show Lf.v (.slice (some ⟨σ' h0.n,a.off,tag e⟩) len cx) :: ls=_
       rw[hs,←q1]
      ·rcases List.mem_cons.1 hx with rfl|hx
       ·exact .inr ⟨h0.n,a.off,len,cx,e,by omega,rfl⟩
       ·exact a6 x hx
    ·exact .inl hk
   ·exact .inl hk
  ·rename_i hne
   split at hk
   ·rename_i hf
    have hr:∀σ,renV σ v=v:=by
     intro σ
     unfold renV
     split
     ·rename_i a len cx _;exact absurd rfl (hne a len cx)
     ·rfl
    rcases hZ ls h0 _ σ hb hk with h1|⟨l,h1,σ',a1,a2,a3,a4,a5,a6⟩
    ·exact .inl h1
    ·refine .inr ⟨.v v :: l,h1,σ',a1,a2,a3,a4,by rw[List.map_cons,a5];show Lf.v (renV σ' v) :: ls=_;rw[hr],fun x hx=>?_⟩
     rcases List.mem_cons.1 hx with rfl|hx
     ·exact .inl ⟨hf,hr⟩
     ·exact a6 x hx
   ·exact .inl hk
theorem memoR_ok{C:Cfg}{Sg:FuncId→Option Sig}{T:Nat→Site}{k:Nat}{g:FB}
  (hro:∀(ls0 rs:List Lf) (H0 H' H:List HObj) (σ:Nat→Nat),cj C Sg k ls0 H0 rs H'→(∀(j:Nat) (o:HObj),H0[j]? = some o→∃vs e rw,o = .cells vs e false∧vs.all flat=true∧H[σ j]? = some (.cells vs e rw))→(∀l∈ls0,OkL H0.length l)→cj C Sg k (ls0.map (renL σ)) H rs H)
  (hg:kB C Sg T k g):kB C Sg T k (iB g):=by
 intro ls h K w hls hk
 unfold iB at hk
 rcases hZ (T:=T) ls .empty _ id (fun j o hj=>by cases hj) hk with h1|⟨ls0,h1,σ,a1,_,_,a4,a5,a6⟩
 ·exact hg ls h K w hls h1
 ·cases e:g ls0 h1 tell with
  |none=>rw[e]at a1;exact hg ls h K w hls a1
  |some rs=>
   rw[e]at a1
   rw[ku]at e
   have hgood:dG ls0:=by
    intro l hl
    cases l with
    |v x=>
     have h2:=hls (.v (renV σ x)) (by rw[←a5];exact List.mem_map_of_mem (f:=renL σ) hl)
     have h2:bM (renV σ x)=true:=h2
     rw[nX]at h2
     exact h2
    |_=>trivial
   obtain⟨rs',h',b1,b2⟩:=hg ls0 h1 _ rs hgood e
   cases b2
   have:=hro ls0 rs _ _ (absH T (toL h)) σ b1 a4 (fun l hl=>by rw[bL,bh];exact a6 l hl)
   rw[a5]at this
   exact⟨rs,h,this,a1⟩
end
end Go.Am

/-
 THE FUNCTIONS IN THE DIRECT STYLE OF RUNS,BY PROGRAM;THE TABLE OF RUNS.
-/
set_option maxRecDepth 100000
namespace Go.Am
open Sx Go.Proofs
instance val0 : Val := ⟨fun _ => 0⟩
noncomputable instance kno0:Kno:=KnoC cc neuN
theorem mixed:cc.P.follows .mixedOrders=true:=by kernel_rfl
theorem jx(g:Nat)(vs:List Value)(h:cc.G g=some vs):vs.all gfl=true:=by
 unfold cc at h
 simp only at h
 split at h<;>first|(cases h;done)|(obtain rfl:=Option.some.inj h;kernel_rfl)|(unfold glx at h;split at h<;>first|(cases h;done)|(obtain rfl:=Option.some.inj h;kernel_rfl))
theorem drN_ok:DrOk cc drN:=drOf_ok neuN_ok (fun _ _ _ _ _ (h:_∧_)=>h.1)
abbrev Ent(k:Nat)(g:FB):Prop:=kB cc ab ac k g
abbrev Cok(c:aa):Prop:=CallBOk cc ab ac c
theorem qE(f:FuncId)(sg:Sig)(ls rs:List Lf)(H':List HObj)(hs:ab f=some sg)(hp:sg.plain=true)(hc:cj cc ab f ls [] rs H'):∀H,cj cc ab f ls H rs H:=ct_of mixed jx hs hp hc
theorem ent_of{k:Nat}{g:aa→FB}{f:Alg RT HTr→FB}{ct:aa→aa}{fn:Fn1}(h0:g=fun c=>f (BA ab ac (ct c)))(h2:f=fun A ls h K=>aj A (xc k) ab drN fn ls h K)(h3:FnIs (xc k) ab k fn){c:aa}(hc:Cok (ct c)):Ent k (g c):=by
 intro ls h K w hls hk
 rw[h0,h2]at hk
 obtain⟨rs,h',a1,_,a3⟩:=execF_ok (BA_ok (w:=w) hc) drN_ok h3 hls hk
 exact⟨rs,h',a1,a3⟩
theorem al{k:Nat}{g:aa→FB}{f:Alg RT HTr→FB}{ct:aa→aa}{fn:Fn1}(h2:∀c ls h K,f (BA ab ac (ct c)) ls h K=g c ls h K)(h3:f=fun A ls h K=>aj A (xc k) ab drN fn ls h K)(h4:FnIs (xc k) ab k fn){c:aa}(hc:Cok (ct c)):Ent k (g c):=
 ent_of (g:=g) (ct:=ct) (funext fun c=>funext fun ls=>funext fun h=>funext fun K=>(h2 c ls h K).symm) h3 h4 hc
theorem aN:∀p∈([]:List (Nat×FB)),Ent p.1 p.2:=fun _ h=>by cases h
theorem aC{k:Nat}{g:FB}{l:List (Nat×FB)}(h:Ent k g)(t:∀p∈l,Ent p.1 p.2):∀p∈(k,g) :: l,Ent p.1 p.2:=fun p hp=>by
 rcases List.mem_cons.1 hp with rfl|hp
 ·exact h
 ·exact t p hp
theorem fQ{k:Nat}{g:FB}{sg:Sig}(h:Ent k g)(h4:ab k=some sg)(h5:sg.rs.all SK.plain=true)(h6:neuN k=none):Ent k (iB g):=memoR_ok (fun ls0 rs H0 H' H σ hc hb hl=>oW mixed jx h4 h5 h6 σ hc hb hl) h
theorem ax{k:Nat}{g:FB}{sg:Sig}(h:Ent k g)(h4:ab k=some sg)(h5:sg.plain=true):Ent k (memo g):=memo_ok qE h h4 h5
end Go.Am

/-
 RIBBONS.TEXT: the text of a walk that is valid: a letter for each step.
-/
namespace Go.Proofs
open Go.Shelf Go.RowKit
def Tryz.lays169_ren:Go.Shelf.Ren:=⟨fun|169=>58|n=>n,fun|70=>106|9=>9|0=>0|72=>108|37=>43|127=>130|3=>3|5=>5|n=>n,fun|n=>n⟩
theorem Tryz.lays169:Go.Proofs.Lays.n169 Tryz.prog Tryz.lays169_ren:={
 mixed:=by kernel_rfl
 f169:=Tryz.func58.trans (congrArg some (by kernel_rfl))
 t0:=Tryz.underlying0
 a0:=Tryz.isAgg0
 z0:=Tryz.sizeOf0
 v0:=Tryz.zeroValue0
 t3:=Tryz.underlying3
 a3:=Tryz.isAgg3
 z3:=Tryz.sizeOf3
 v3:=Tryz.zeroValue3
 t9:=Tryz.underlying9
 a9:=Tryz.isAgg9
 z9:=Tryz.sizeOf9
 v9:=Tryz.zeroValue9
 t37:=Tryz.underlying43
 a37:=Tryz.isAgg43
 z37:=Tryz.sizeOf43
 v37:=Tryz.zeroValue43
 t70:=Tryz.underlying106
 a70:=Tryz.isAgg106
 z70:=Tryz.sizeOf106
 v70:=Tryz.zeroValue106
 t72:=Tryz.underlying108
 a72:=Tryz.isAgg108
 z72:=Tryz.sizeOf108
 v72:=Tryz.zeroValue108
 t127:=Tryz.underlying130
 a127:=Tryz.isAgg130
 z127:=Tryz.sizeOf130
 v127:=Tryz.zeroValue130 }
theorem Tryz.Builder_Extra_169:Builder.Extra Tryz.prog Tryz.lays169_ren:={
 sizeBuilder:=by kernel_rfl
 liesBuilder:=by kernel_rfl
 t5:=Tryz.underlying5
 a5:=Tryz.isAgg5
 z5:=Tryz.sizeOf5
 v5:=Tryz.zeroValue5
 infoByte:=by kernel_rfl
 cellsByte:=by kernel_rfl
 sizeByte:=by kernel_rfl
 neB5:=by decide }
theorem Tryz.Builder_String_any(B b:Nat)(l:List UInt8)(w:World)(h:Lib.IsBuilder 108 5 B b (Lib.byteCells l) w)(hBw:B≤w.heap.size) :
  Calls Tryz.prog 58 #[.pointer (some ⟨b,0,none⟩)] w fun e w'=>e = .returned (.string ⟨l.toArray⟩)∧Below B w w':=Any.Builder_String_any Tryz.lays169 Tryz.Builder_Extra_169 B b l w h hBw
theorem Tx.size:∃j,Tryz.prog.info? 108=some j∧j.size=2:=Option.map_eq_some_iff.1 (show(Tryz.prog.info? 108).map (·.size)=some 2 by kernel_rfl)
theorem Tx.lies:liesAt Tryz.prog Tryz.prog.depth 108 (2 / Tryz.prog.cellsOf 108) 0 108 1=true:=by kernel_rfl
set_option maxHeartbeats 1000000 in
set_option maxRecDepth 100000 in
theorem Tx.copy_used(b:Nat)(w:World)(h0:w.cell? ⟨b,0,none⟩=some (.pointer (some ⟨b,0,none⟩))) :
  Calls Tryz.prog 70 #[.pointer (some ⟨b,0,none⟩)] w fun e w'=>e = .returned (.tuple #[])∧w'=w:=by
 obtain⟨j,hj,_⟩:=Tx.size
 go_enter Tryz.func70,Tryz.ntmps70
 go_wp2
 rw[Lib.run_neq_ptr_same w _ Tryz.underlying106 hj]
 go_wp2
 go_end0
 exact⟨rfl,rfl⟩
set_option maxHeartbeats 1000000 in
set_option maxRecDepth 100000 in
theorem Tx.copy_fresh(b:Nat)(w:World)(h0:w.cell? ⟨b,0,none⟩=some (.pointer none))(hsh:w.shape? b=some (108,2))(hfz:w.frozen? ⟨b,0,none⟩=false) :
  Calls Tryz.prog 70 #[.pointer (some ⟨b,0,none⟩)] w fun e w'=>e = .returned (.tuple #[])∧w'=w.setCell ⟨b,0,none⟩ (.pointer (some ⟨b,0,none⟩)):=by
 obtain⟨j,hj,hjs⟩:=Tx.size
 go_enter Tryz.func70,Tryz.ntmps70
 go_wp2
 rw[Lib.run_to_unsafe w ⟨b,0,none⟩ Tryz.underlying106 Tryz.underlying155 hj (by rw[hjs];decide) hsh (Nat.zero_lt_succ 1)]
 simp only[Result.andThen]
 rw[Oper.upon_value]
 go_wp2
 rw[run_callFunc_extern Tryz.func90 (by kernel_rfl) (by kernel_rfl) (by kernel_rfl) (e:=Extern.AbiNoEscape.same) (by kernel_rfl)]
 rw[Lib.run_noEscape]
 simp only[Result.andThen]
 rw[Oper.upon_value]
 go_wp2
 rw[Lib.run_from_unsafe w ⟨b,0,none⟩ Tryz.underlying155 Tryz.underlying106 hj hsh Tx.lies]
 simp only[Result.andThen]
 rw[Oper.upon_value]
 go_wp2
 go_end0
 exact⟨rfl,rfl⟩
theorem Tx.copy(B b:Nat)(bs:List Value)(w:World)(h:Lib.IsBuilder 108 5 B b bs w) :
  Calls Tryz.prog 70 #[.pointer (some ⟨b,0,none⟩)] w fun e w'=>e = .returned (.tuple #[])∧(Lib.BuilderAt 108 5 B b (.pointer (some ⟨b,0,none⟩)) bs w'∧Below B w w'):=by
 rcases h with h|h
 ·refine(Tx.copy_fresh b w h.cell0 h.shape h.frozen0).mono ?_
  rintro e w' ⟨rfl,rfl⟩
  exact⟨rfl,h.used _,(Below.refl B w).setCell (p:=⟨b,0,none⟩) h.1 _⟩
 ·refine(Tx.copy_used b w h.cell0).mono ?_
  rintro e w' ⟨rfl,rfl⟩
  exact⟨rfl,h,Below.refl B _⟩
set_option maxHeartbeats 2000000 in
set_option maxRecDepth 100000 in
theorem Tx.write(B b:Nat)(bs:List Value)(c:Int)(w:World)(h:Lib.IsBuilder 108 5 B b bs w)(hlen:bs.length+1≤140737488355328)(hBw:B≤w.heap.size) :
  Calls Tryz.prog 57 #[.pointer (some ⟨b,0,none⟩),.int .u8 c] w fun e w'=>e = .returned .nilIface∧(Lib.BuilderAt 108 5 B b (.pointer (some ⟨b,0,none⟩)) (bs++[.int .u8 c]) w'∧Below B w w'):=by
 obtain⟨i0,hi,hz0,hz1,hz2⟩:=info_parts Tryz.Builder_Extra_169.infoByte
 have e240:∀args w,(callFunc 70 args).run Tryz.prog w = .ok (.enter 70 args) w:=enters_of Tryz.func70 (by kernel_rfl) rfl
 go_enter Tryz.func57,Tryz.ntmps57
 go_wp2_with (go_at_fn 70;refine(Tx.copy B b bs _ h).mono ?_)
 rintro e w1 ⟨rfl,h1,hb1⟩
 obtain⟨hB,v,hbk,hown,hne⟩:=h1
 have c0:w1.cell? ⟨b,0,none⟩=some (.pointer (some ⟨b,0,none⟩)):=by rw[Lib.cell_of_heap hbk];rfl
 have c1:w1.cell? ⟨b,1,none⟩=some v:=by rw[Lib.cell_of_heap hbk];rfl
 go_wp2_with (at_builtin;refine wpList_append_own _ rfl _ _ 43 rfl B 5 i0 (.int .u8 0) 1 1 Tryz.underlying43 hi hz0 hz1 hz2 rfl (by decide) _ _ _ rfl (hown.alloc _) ⟨w1.heap.size,0,none⟩ 1 1 [.int .u8 c] rfl rfl ?c1 ?c2 ?c3 ?c4 ?c5 ?_)
 case c1=>
  intro j u hj
  match j,hj with
  |0,hj=>simp at hj;subst hj;simp[Addr.add]
 case c2=>intro u hu;simp at hu;subst hu;rfl
 case c3=>unfold maxLen;omega
 case c4=>omega
 case c5=>have:=hb1.size;simp;omega
 intro v' w2 hown' hgrow _
 have hlt:b<w1.heap.size:=by
  rcases Nat.lt_or_ge b w1.heap.size with h'|h'
  ·exact h'
  ·simp[Array.getElem?_eq_none h']at hbk
 have hb2:w2.heap[b]? = some (.cells #[.pointer (some ⟨b,0,none⟩),v] 108 (0,0)):=by
  rw[hgrow.block b (by simp;omega) (fun e=>hne e.symm),Lib.alloc_old w1 _ b hlt]
  exact hbk
 have d0:w2.cell? ⟨b,0,none⟩=some (.pointer (some ⟨b,0,none⟩)):=by rw[Lib.cell_of_heap hb2];rfl
 have d1:w2.cell? ⟨b,1,none⟩=some v:=by rw[Lib.cell_of_heap hb2];rfl
 have f1:w2.frozen? ⟨b,1,none⟩=false:=Lib.frozen_of_heap hb2 1
 obtain⟨g,cap,rfl⟩ : ∃g cap,v' = .slice (some ⟨g,0,none⟩) (bs.length+1) cap:=by
  rcases hown'.2 with⟨_,h0⟩|⟨g,cap,cur,hv,_⟩
  ·omega
  ·exact⟨g,cap,hv⟩
 go_wp2
 go_ret
 refine⟨rfl,?_,?_⟩
 ·exact Lib.BuilderAt.put (T:=108) (e:=5) hB hb2 (bs':=bs++[.int .u8 c]) (by simpa using hown') (by decide)
 ·exact((hb1.alloc (by have:=hb1.size;omega) _).grown hgrow (by have:=hb1.size;simp;omega) (fun k hk=>(hown.lt k hk).1)).setCell (p:=⟨b,1,none⟩) hB _
end Go.Proofs

/-
 RIBBONS.TEXT: the text of a walk that is valid,as a call of the program.
-/
namespace Go.Proofs
open Go.Shelf Go.RowKit
def Tx.letter(z:Nat):UInt8:=match z with
 |1=>102
 |2=>98
 |3=>108
 |_=>114
set_option maxHeartbeats 4000000 in
set_option maxRecDepth 1000000 in
theorem Tx.text(ao:Option Addr)(n cap:Nat)(zs:List Nat)(hz:zs.length=n)(hn:n≤1048576)(hb:∀z∈zs,1≤z∧z≤4)(w:World)(R:World→Prop)
  (hc:Calls Tryz.prog 21 #[.slice ao n cap] w fun e w1=>e = .returned (.int .i64 0)∧R w1)
  (hR:∀w1,R w1→∀(i z:Nat),zs[i]? = some z→∃b o,ao=some ⟨b,o,none⟩∧b<w1.heap.size∧w1.cell? ⟨b,o+i,none⟩=some (.int .u8 (z:Int))) :
  Calls Tryz.prog 42 #[.slice ao n cap] w fun e w'=>e = .returned (.string ⟨(zs.map Tx.letter).toArray⟩)∧∃w1,R w1∧Below w1.heap.size w1 w':=by
 go_enter Tryz.func42,Tryz.ntmps42
 go_wp2_with (go_at_call 21;refine hc.mono ?_)
 rintro e w1 ⟨rfl,hr⟩
 have cp:=hR w1 hr
 go_wp2
 go_loopw [11] (fun i wr=>∃k:Nat,k≤n∧i = .int .i64 k∧Lib.IsBuilder 108 5 w1.heap.size w1.heap.size (Lib.byteCells ((zs.take k).map Tx.letter)) wr∧Below w1.heap.size w1 wr) (fun i _=>n - (intOf i).toNat)
 case atStart=>
  exact⟨0,Nat.zero_le _,rfl,by simpa[Lib.byteCells]using Lib.fresh_isBuilder 108 5 w1,(Below.refl _ w1).alloc (Nat.le_refl _) _⟩
 case round=>
  obtain⟨k,hk,rfl,hI,hbw⟩:=hrel
  have hsz2:w1.heap.size≤wr.heap.size:=hbw.size
  by_cases hlt:k<n
  ·obtain⟨z,hzk⟩ : ∃z,zs[k]? = some z:=⟨zs[k]'(by omega),List.getElem?_eq_getElem _⟩
   obtain⟨b,o,rfl,hbs,hcell⟩:=cp k z hzk
   have hcr:wr.cell? ⟨b,o+k,none⟩=some (.int .u8 (z:Int)):=by rw[hbw.cell hbs];exact hcell
   have hz4:=hb z (List.mem_of_getElem? hzk)
   have htk:(zs.take (k+1)).map Tx.letter=(zs.take k).map Tx.letter++[Tx.letter z]:=by
    rw[List.take_add_one,hzk];simp
   have hlen:(Lib.byteCells ((zs.take k).map Tx.letter)).length+1≤140737488355328:=by
    rw[Lib.byteCells_length,List.length_map,List.length_take];omega
   have hz5:z=1∨z=2∨z=3∨z=4:=by omega
   rcases hz5 with rfl|rfl|rfl|rfl
   all_goals
    go_wp2_with (go_at_call 57;refine(Tx.write w1.heap.size w1.heap.size _ _ _ hI hlen hsz2).mono ?_)
    rintro e W1 ⟨rfl,h1,b1⟩
    go_wp2
    go_roundw
    case rel=>
     refine⟨k+1,by omega,by simp,?_,hbw.trans b1⟩
     rw[htk,Lib.byteCells_append]
     exact Or.inr h1
    case measure=>
     simp[intOf];omega
  ·have hkn:k=n:=by omega
   subst hkn
   go_wp2_with (go_at_call 58;refine(Tryz.Builder_String_any w1.heap.size w1.heap.size _ _ hI hsz2).mono ?_)
   rintro e W1 ⟨rfl,b1⟩
   go_wp2
   go_ret
   rw[List.take_of_length_le (by simp;omega)]
   exact⟨rfl,w1,hr,hbw.trans b1⟩
end Go.Proofs

/-
 RIBBONS.TEXT,as a call of the own machine,and its entry in the table of runs.
-/
set_option maxRecDepth 100000
namespace Go.Am
open Sx Go.Proofs
theorem ja [Val] [Glo]{C:Cfg}{f:FuncId}{args:List Value}{H:List HObj}{r:Value}{H':List HObj}(h:cd C f args H r H'){base:Nat}{mu:HMap}{w:World}{args':Array Value}
  (hb:base≤w.heap.size) (hv:VRs noL mu args args'.toList) (hW:WR C base mu H w) :
  Calls C.P f args' w fun e w'=>∃v mu',e = .returned v∧VR noL mu' r v∧WR C base mu' H' w'∧Evo H mu w H' mu' w':=by
 intro cs
 obtain⟨v,mu',w',a1,a2,a3,_,fr,b1,b2,b3⟩:=h _ base mu w args' hb hv hW cs
 exact⟨.returned v,w',fr,⟨v,mu',rfl,a1,a2,a3⟩,b1,b2,b3⟩
theorem wr_below [Val] [Glo]{C:Cfg}{base:Nat}{mu:HMap}{H:List HObj}{w w':World}(h:WR C base mu H w)(hb:Go.RowKit.Below w.heap.size w w'):WR C base mu H w'∧Evo H mu w H mu w':=by
 refine⟨⟨fun id o h1 h2=>?_,h.inj,h.own,h.ro,h.dom,fun g vs hg=>?_⟩,⟨Nat.le_refl _,fun _ _=>rfl,hb.size,fun b hb' _=>hb.block b hb',fun b h=>.inr h,hb.os,hb.tape,hb.output⟩⟩
 ·obtain⟨p,h3,h4⟩:=h.obj id o h1 h2
  exact⟨p,h3,by rw[hb.block _ (gN h2 h4)];exact h4⟩
 ·obtain⟨h1,h2,c,e,fr,h3,h4⟩:=h.glob g vs hg
  exact⟨h1,h2,c,e,fr,by rw[hb.block _ (Array.getElem?_eq_some_iff.1 h3).1];exact h3,h4⟩
noncomputable def nk:List Value→Option (List Nat)
 | []=>some []
 | .int .u8 (.ofNat n) :: l=>match Nat.ble 1 n&&Nat.ble n 4,nk l with
  |true,some r=>some (n :: r)
  |_,_=>none
 |_ :: _=>none
theorem lX:∀ {l:List Value} {zs:List Nat},nk l=some zs→l=zs.map (fun(z:Nat)=>Value.int .u8 z)∧∀z∈zs,1≤z∧z≤4
 | [],zs,h=>by
  cases h
  exact⟨rfl,fun _ h=>by cases h⟩
 |v :: l,zs,h=>by
  unfold nk at h
  split at h
  ·rename_i e;cases e
  ·rename_i n l' e
   cases e
   split at h
   ·rename_i r h1 h2
    cases h
    obtain⟨q1,q2⟩:=lX h2
    simp only[Bool.and_eq_true]at h1
    refine⟨by rw[List.map_cons,←q1];rfl,fun z hz=>?_⟩
    rcases List.mem_cons.1 hz with rfl|hz
    ·exact⟨Nat.le_of_ble_eq_true h1.1,Nat.le_of_ble_eq_true h1.2⟩
    ·exact q2 z hz
   ·cases h
  ·cases h
noncomputable def txG(x:Value)(g:bk):Option (List Value):=match lenS x,slG cc 1 g x with
 |some _,some p=>(match Nat.ble p.2 1048576,nk p.1 with
  |true,some zs=>some [.string ⟨(zs.map Tx.letter).toArray⟩]
  |_,_=>none)
 |_,_=>none
theorem pQ{x s:Value}{H:List HObj}(hcall:cd cc 21 [x] H (.int .i64 0) H)(ht:txG x (fun i=>H[i]?)=some [s]):cd cc 42 [x] H s H:=by
 unfold txG at ht
 split at ht
 case h_2=>cases ht
 rename_i ln p hln hp
 split at ht
 case h_2=>cases ht
 rename_i zs hle hzs
 simp only[Option.some.injEq,List.cons.injEq,and_true]at ht
 subst ht
 obtain⟨hcs,hz4⟩:=lX hzs
 have hle:=Nat.le_of_ble_eq_true hle
 intro glo base mu w args' hb hargs hW cs
 obtain⟨v',vs,hav,hv,hvs⟩ : ∃v' vs,args'.toList=v' :: vs∧VR noL mu x v'∧vs=[]:=by
  obtain⟨v',vs,h1,h2,h3⟩:=hargs.uncons
  exact⟨v',vs,h1,h2,by have:=h3.1;simpa using this.symm⟩
 subst hvs
 have hargs':args' = #[v']:=Array.toList_inj.1 hav
 subst hargs'
 obtain⟨ao,cap,rfl,hlen,hrd⟩ : ∃ao cap,v' = .slice ao zs.length cap∧p.2=zs.length∧∀(mu':HMap) (w1:World),(∀id,id<H.length→mu' id=mu id)→WR cc base mu' H w1→∀(i z:Nat),zs[i]? = some z→
   ∃b o,ao=some ⟨b,o,none⟩∧b<w1.heap.size∧w1.cell? ⟨b,o+i,none⟩=some (.int .u8 (z:Int)):=by
  unfold slG at hp
  split at hp
  ·cases hp
   have hz0:zs=[]:=by
    cases zs with
    |nil=>rfl
    |cons z l=>simp at hcs
   subst hz0
   cases hv with
   |scalar _=>exact⟨none,0,rfl,rfl,fun _ _ _ _ i z h=>by simp at h⟩
  ·rename_i a len cx
   split at hp
   ·rename_i hsp
    cases hG:cc.G a.block with
    |none=>rw[hG]at hp;cases hp
    |some gs=>
     rw[hG,Option.bind_some]at hp
     obtain⟨xs,hcut,rfl⟩:=Option.map_eq_some_iff.1 hp
     have hcs:xs=zs.map (fun(z:Nat)=>Value.int .u8 z):=hcs
     have hl:xs.length=len:=by
      have:=hcut
      unfold Am.cut at this
      split at this
      ·cases this;simp;omega
      ·cases this
     have hzl:zs.length=len:=by rw[←hl,hcs];simp
     have cp:∀(mu':HMap) (w1:World),WR cc base mu' H w1→∀(i z:Nat),zs[i]? = some z→gBlk a.block<w1.heap.size∧w1.cell? ⟨gBlk a.block,gOff a.block+a.off+i,none⟩=some (.int .u8 (z:Int)):=by
      intro mu' w1 hW1 i z hz
      obtain⟨g1,g2,c,e,fr,g3,g4⟩:=hW1.glob _ _ hG
      obtain⟨ys,y1,y2,y3⟩:=g4.cut hcut
      have hx:xs[i]? = some (.int .u8 (z:Int)):=by rw[hcs,List.getElem?_map,hz];rfl
      obtain⟨y,hy1,hy2⟩:=y2.get hx
      have:=aO (a:=.int .u8 (z:Int)) rfl hy2
      subst this
      refine⟨(Array.getElem?_eq_some_iff.1 g3).1,?_⟩
      have:=y3 i _ hy1
      simp[World.cell?,g3,this]
     cases hv with
     |scalar h=>simp[Am.scalar]at h
     |hslice h hr hl hx=>simp[tag]at hsp
     |hslice0 hx=>simp[tag]at hsp
     |gslice hl' hx=>
      rename_i g off cap
      exact⟨_,cap,by rw[hzl],hzl.symm,fun mu' w1 _ hW1 i z hz=>⟨_,_,rfl,cp mu' w1 hW1 i z hz⟩⟩
     |gslice0 hx=>
      refine⟨_,0,by rw[hzl],hzl.symm,fun mu' w1 _ hW1 i z hz=>?_⟩
      have:i<zs.length:=(List.getElem?_eq_some_iff.1 hz).1
      omega
   ·split at hp
    ·rename_i hsp
     split at hp
     ·rename_i vs e rw0 hid
      split at hp
      ·rename_i he
       obtain⟨xs,hcut,rfl⟩:=Option.map_eq_some_iff.1 hp
       have hcs:xs=zs.map (fun(z:Nat)=>Value.int .u8 z):=hcs
       have hl:xs.length=len:=by
        have:=hcut
        unfold Am.cut at this
        split at this
        ·cases this;simp;omega
        ·cases this
       have hzl:zs.length=len:=by rw[←hl,hcs];simp
       cases hv with
       |scalar h=>simp[Am.scalar]at h
       | @hslice id off _ cap _ p hmm hr0 hl' hx=>
        refine⟨_,cap,by rw[hzl],hzl.symm,fun mu' w1 hmu hW1 i z hz=>?_⟩
        have hidlt:id<H.length:=by
         rcases Nat.lt_or_ge id H.length with h|h
         ·exact h
         ·have hid:H[id]? = some (.cells vs e rw0):=hid
          rw[List.getElem?_eq_none h]at hid;cases hid
        have hp':mu' id=some p:=by rw[hmu id hidlt];exact hmm
        obtain⟨q,hq,hr⟩:=hW1.obj id _ hid rfl
        obtain rfl:q=p:=by rw[hp']at hq;exact(Option.some.inj hq).symm
        obtain⟨o1,o2,o3,c,e',fr,o4,o5,o6,o7⟩:=hr
        have hcr:aV mu' vs c q.o:=o7
        obtain⟨ys,y1,y2,y3⟩:=hcr.cut hcut
        have hx:xs[i]? = some (.int .u8 (z:Int)):=by rw[hcs,List.getElem?_map,hz];rfl
        obtain⟨y,hy1,hy2⟩:=y2.get hx
        have:=aO (a:=.int .u8 (z:Int)) rfl hy2
        subst this
        refine⟨q.b,q.o+off,rfl,(Array.getElem?_eq_some_iff.1 o4).1,?_⟩
        have:=y3 i _ hy1
        simp[World.cell?,o4,this]
       |hslice0 hx=>
        refine⟨_,0,by rw[hzl],hzl.symm,fun mu' w1 _ hW1 i z hz=>?_⟩
        have:i<zs.length:=(List.getElem?_eq_some_iff.1 hz).1
        omega
       |gslice hl hx=>simp[tag]at hsp
       |gslice0 hx=>simp[tag]at hsp
      ·cases hp
     ·cases hp
    ·cases hp
  ·cases hln
  ·cases hp
 have h21:=ja hcall hb hargs hW
 have key:=Tx.text ao zs.length cap zs rfl (by omega) hz4 w (fun w1=>∃v mu',VR noL mu' (.int .i64 0) v∧WR cc base mu' H w1∧Evo H mu w H mu' w1)
  (h21.mono fun e w1 ⟨v,mu',h1,h2,h3,h4⟩=>⟨by rw[h1,aO (a:=.int .i64 0) rfl h2],v,mu',h2,h3,h4⟩)
  (fun w1 ⟨v,mu',_,h3,h4⟩ i z hz=>hrd mu' w1 h4.same h3 i z hz)
 obtain⟨e,w',fr,⟨rfl,w1,⟨_,mu',_,h3,h4⟩,hbel⟩,b1,b2,b3⟩:=key cs
 obtain⟨k1,k2⟩:=wr_below h3 hbel
 exact⟨.string ⟨(zs.map Tx.letter).toArray⟩,mu',w',.scalar rfl,k1,h4.trans k2,by kernel_rfl,fr,b1,b2,b3⟩
noncomputable def memoS(g:FB):FB:=fun ls h K=>ext h none ls .empty fun ls0 h0=>@Option.rec _ (fun _=>RT) none (fun rs=>K rs h) (g ls0 h0 tell)
theorem memoS_ok{C:Cfg}{Sg:FuncId→Option Sig}{T:Nat→Site}{k:Nat}{g:FB} [Val] [Kno]
  (hro:∀(ls0 rs:List Lf) (H0 H' H:List HObj) (σ:Nat→Nat),cj C Sg k ls0 H0 rs H'→(∀(j:Nat) (o:HObj),H0[j]? = some o→∃vs e rw,o = .cells vs e false∧vs.all flat=true∧H[σ j]? = some (.cells vs e rw))→(∀l∈ls0,OkL H0.length l)→cj C Sg k (ls0.map (renL σ)) H rs H)
  (hg:kB C Sg T k g) {ls:List Lf} {h:HTr} {K:List Lf→HTr→RT} {w:List Lf} (hls:dG ls) (hk:memoS g ls h K=some w):∃rs,cj C Sg k ls (absH T (toL h)) rs (absH T (toL h))∧K rs h=some w:=by
 unfold memoS at hk
 rcases hZ (T:=T) ls .empty _ id (fun j o hj=>by cases hj) hk with h1|⟨ls0,h1,σ,a1,_,_,a4,a5,a6⟩
 ·cases h1
 ·cases e:g ls0 h1 tell with
  |none=>rw[e]at a1;cases a1
  |some rs=>
   rw[e]at a1
   rw[ku]at e
   have hgood:dG ls0:=by
    intro l hl
    cases l with
    |v x=>
     have h2:=hls (.v (renV σ x)) (by rw[←a5];exact List.mem_map_of_mem (f:=renL σ) hl)
     have h2:bM (renV σ x)=true:=h2
     rw[nX]at h2
     exact h2
    |_=>trivial
   obtain⟨rs',h',b1,b2⟩:=hg ls0 h1 _ rs hgood e
   cases b2
   have:=hro ls0 rs _ _ (absH T (toL h)) σ b1 a4 (fun l hl=>by rw[bL,bh];exact a6 l hl)
   rw[a5]at this
   exact⟨rs,this,a1⟩
noncomputable def oneV(cs:List Value)(k:Value→RT):RT:=match cs with
 | [v]=>k v
 |_=>none
theorem oneV_ok{cs:List Value}{k:Value→RT}{w:List Lf}(h:oneV cs k=some w):∃v,cs=[v]∧k v=some w:=by
 unfold oneV at h
 split at h
 ·exact⟨_,rfl,h⟩
 ·cases h
theorem txG_str{x s:Value}{g:bk}(h:txG x g=some [s]):∃b,s = .string b:=by
 unfold txG at h
 split at h
 ·split at h
  ·simp only[Option.some.injEq,List.cons.injEq,and_true]at h
   exact⟨_,h.symm⟩
  ·cases h
 ·cases h
noncomputable def w42(c:aa):FB:=fun ls h K=>memoS (c (.f 21)) ls h fun rs h=>match rs with
 | [.i n]=>(match eqZ n 0,ls with
  |true,[.v x]=>peekB ac (.fn (txG x)) h fun cs=>oneV cs fun s=>K [.v s] h
  |_,_=>none)
 |_=>none
theorem eqZ_zero{n:Int}(h:eqZ n 0=true):n=0:=by
 cases n with
 |ofNat a=>exact congrArg Int.ofNat (Nat.eq_of_beq_eq_true h)
 |negSucc a=>cases h
theorem ok42{c:aa}(hc:Cok c):Ent 42 (w42 c):=by
 intro ls h K w hls hk
 obtain⟨rs,h1,h2⟩:=memoS_ok (k:=21) (fun ls0 rs H0 H' H σ hc hb hl=>oW mixed jx (g:=21) (sg:=⟨[lv],[li]⟩) rfl (by kernel_rfl) (by kernel_rfl) σ hc hb hl) (fun ls h K w h1 h2=>hc.f 21 ls h K w h1 h2) hls hk
 split at h2
 case h_2=>cases h2
 rename_i n
 split at h2
 case h_2=>cases h2
 rename_i x he
 have hn:=eqZ_zero he
 subst hn
 obtain⟨cs,h3,h4⟩:=(BA_ok (w:=w) hc).peek (.fn (txG x)) h _ h2
 obtain⟨s',rfl,h4⟩:=oneV_ok h4
 have h3:txG x (fun i=>(absH ac (toL h))[i]?)=some [s']:=h3
 obtain⟨s,rfl⟩:=txG_str h3
 refine⟨[.v (.string s)],h,?_,h4⟩
 obtain⟨sg,xs,ys,c1,c2,c3,c4⟩:=h1
 have c1':ab 21=some ⟨[lv],[li]⟩:=rfl
 rw[c1']at c1
 cases c1
 have hgx:bM x=true:=hls (.v x) (by simp)
 have hx:af xs=[x]:=(bS (b:=[.leaf (.v x)]) c2.1 rfl c2.2.1).1
 have hy:af ys=[.int .i64 0]:=(bS (b:=[.leaf (.i .i64 0)]) c3.1 rfl c3.2.1).1
 rw[hx,hy]at c4
 have hck:=eU mixed c4
 have ht:=pQ hck h3
 exact⟨⟨[lv],[lv]⟩,[.leaf (.v x)],[.leaf (.v (.string s))],rfl,⟨rfl,rfl,fun y hy=>by
   simp only[List.mem_singleton]at hy
   subst hy
   exact ak hgx⟩,⟨rfl,rfl,fun y hy=>by
   simp only[List.mem_singleton]at hy
   subst hy
   exact ak rfl⟩,⟨0,.inr ⟨.inr ⟨by kernel_rfl,rfl⟩,ht⟩⟩⟩
end Go.Am


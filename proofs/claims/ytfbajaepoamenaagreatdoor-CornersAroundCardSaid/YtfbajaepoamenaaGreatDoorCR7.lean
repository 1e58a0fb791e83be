/-
  PART 7 OF THE PROOF: Ph1 Ph2 Pq Hx1 Hx2 Sx15 E0 St3 Gp H1 E22 E20 (no conditions).
-/
import Derived.Test.YtfbajaepoamenaaGreatDoorCR6
set_option linter.unusedSectionVars false
set_option linter.unusedSimpArgs false
set_option linter.unusedVariables false
set_option linter.constructorNameAsVariable false
set_option linter.defProp false
/-
 THE ALGEBRA OF PROPOSITIONS OVER THE HEAPS OF RUNS;what a run shows holds in it.
-/
namespace Go.Am
namespace Sx
section
variable [Val] [Kno]
def peekH(T:Nat→Site)(f:Pk)(h:HL)(K:List Value→Prop):Prop:=∃cs,f.run (getH T h)=some cs∧K cs
def heapH(T:Nat→Site)(f:Hp)(h:HL)(K:List Value→HL→Prop):Prop:=∃acts cs,f.run (getH T h) h.length=some (acts,cs)∧K cs (gf h acts)
def callH(C:Cfg)(Sg:FuncId→Option Sig)(T:Nat→Site)(g:FuncId)(ls:List Lf)(h:HL)(K:List Lf→HL→Prop):Prop:=∃rs h',dg C Sg g ls (absH T h) rs (absH T h')∧K rs h'
def callvH(C:Cfg)(T:Nat→Site)(v:Value)(args:List Value)(hs:List SK)(h:HL)(K:List Lf→HL→Prop):Prop:=∃rs h',CallV C v args hs (absH T h) rs (absH T h')∧K rs h'
noncomputable def itH(F:(List Lf→HL→Prop)→List Lf→HL→Prop)(n:Nat):List Lf→HL→Prop:=
 match n with
 |0=>fun _ _=>False
 |n+1=>F (itH F n)
def loopH(F:(List Lf→HL→Prop)→List Lf→HL→Prop)(ls:List Lf)(h:HL):Prop:=∃n,itH F n ls h
def rfunH(C:Cfg)(T:Nat→Site)(κ:Nat)(v:Value)(vals:List Value)(h:HL)(K:Option Code→HL→Prop):Prop:=
 ∃g first cap r H1 lp h2,v = .func (.func g) first cap∧
  fS C g (first.toList++[.func (.yield (absH T h).length) #[] #[]]++cap.toList) (absH T h++[.loop (lpOf (T κ) κ vals)]) r H1∧
  dw H1 (absH T h).length=some lp∧lp.state≠.busy∧absH T h2=H1.set (absH T h).length (.loop { lp with state:=.exhausted })∧K lp.pending h2
def lp1H(T:Nat→Site)(l:Nat)(h:HL)(K:HL→Prop):Prop:=∃lp h',dw (absH T h) l=some lp∧lp.state = .ready∧absH T h'=(absH T h).set l (.loop { lp with state:=.busy })∧K h'
def lp2H(T:Nat→Site)(l:Nat)(j:Option Code)(h:HL)(K:HL→Prop):Prop:=∃lp h',dw (absH T h) l=some lp∧absH T h'=(absH T h).set l (.loop { lp with state:=if j.isNone then .ready else .done,pending:=j })∧K h'
noncomputable def PH(C:Cfg)(Sg:FuncId→Option Sig)(T:Nat→Site):Alg Prop HL where
 fail:=False
 cond:=condP
 ari:=ariP
 shf:=fun op k a k' b K=>∃n,ShRun op k a k' b n∧K n
 cmp:=cmpP
 eqs:=fun l K=>K (cD l)
 conv:=fun k a K=>K (k.wrap a)
 sel:=fun t a b K=>K (if t then a else b)
 opt:=optP
 chk:=fun v K=>cN v=true∧K
 unI:=unIP
 unB:=unBP
 unV:=unVP
 un0:=un0P
 ucI:=ucIP
 ucB:=ucBP
 ucV:=ucVP
 uc0:=uc0P
 peek:=peekH T
 heap:=heapH T
 new:=fun o h K=>K h.length (h++[.o o])
 call:=callH C Sg T
 callv:=callvH C T
 join:=fun b m=>m b
 loop:=loopH
 rfun:=rfunH C T
 pend:=pendP
 lp1:=lp1H T
 lp2:=lp2H T
theorem PH_ok(C:Cfg)(Sg:FuncId→Option Sig)(T:Nat→Site):AlgOk (PH C Sg T) C Sg T id (absH T) where
 fail:=(ew C Sg T).fail
 cond:=(ew C Sg T).cond
 ari:=(ew C Sg T).ari
 shf:=(ew C Sg T).shf
 cmp:=(ew C Sg T).cmp
 eqs:=(ew C Sg T).eqs
 conv:=(ew C Sg T).conv
 sel:=(ew C Sg T).sel
 opt:=(ew C Sg T).opt
 chk:=(ew C Sg T).chk
 unI:=(ew C Sg T).unI
 unB:=(ew C Sg T).unB
 unV:=(ew C Sg T).unV
 un0:=(ew C Sg T).un0
 ucI:=(ew C Sg T).ucI
 ucB:=(ew C Sg T).ucB
 ucV:=(ew C Sg T).ucV
 uc0:=(ew C Sg T).uc0
 peek:=by
  intro f h K hk
  obtain⟨cs,h1,h2⟩:=hk
  exact⟨cs,by rw[←ip];exact h1,h2⟩
 heap:=by
  intro f h K hk
  obtain⟨acts,cs,h1,h2⟩:=hk
  exact⟨acts,cs,_,by rw[←ip,gB];exact h1,ie T acts h,h2⟩
 new:=fun o h K hk=>⟨_,gC T h _,by rw[gB];exact hk⟩
 call:=fun g ls h K hk=>hk
 callv:=fun v args hs h K hk=>hk
 join:=fun b m h=>h
 loop:=by
  intro F ls h hk
  obtain⟨n,hk⟩:=hk
  exact⟨itH F,fun ls h=>(id:False→False),fun n ls h=>rfl,n,hk⟩
 rfun:=fun κ v vals h K hk=>hk
 pend:=(ew C Sg T).pend
 lp1:=fun l h K hk=>hk
 lp2:=fun l j h K hk=>hk
section
variable {C:Cfg} {Sg:FuncId→Option Sig} {T:Nat→Site} {call:aa} (hc:CallBOk C Sg T call)
abbrev KLe(K:List Lf→HTr→RT)(K':List Lf→HL→Prop):Prop:=∀ls h,K ls h=yes→K' ls (toL h)
include hc
theorem fY{b:Bool}{x y:RT}{x' y':Prop}(hx:x=yes→x')(hy:y=yes→y')(h:(BA Sg T call).cond b x y=yes):(PH C Sg T).cond b x' y':=by
 rcases(jh hc).cond b x y h with⟨rfl,h⟩|⟨rfl,h⟩
 ·exact⟨fun _=>hx h,fun e=>(by cases e)⟩
 ·exact⟨fun e=>(by cases e),fun _=>hy h⟩
theorem s_ari{op:BinOp}{k:IntKind}{a b:Int}{K:Int→RT}{K':Int→Prop}(hk:∀n,K n=yes→K' n)(h:(BA Sg T call).ari op k a b K=yes):(PH C Sg T).ari op k a b K':=by
 replace h:ariB op k a b K=yes:=h
 show ariP op k a b K'
 cases op<;>simp only[ariB,reduceCtorEq]at h<;>simp only[ariP]
 ·rw[addK_eq,eG]at h;exact hk _ h
 ·rw[subK_eq,eG]at h;exact hk _ h
 ·rw[mulK_eq,eG]at h;exact hk _ h
 ·cases hb:isZ b with
  |true=>rw[hb]at h;cases h
  |false=>rw[hb]at h;simp only[quoK_eq,eG]at h;exact⟨gR hb,hk _ h⟩
 ·cases hb:isZ b with
  |true=>rw[hb]at h;cases h
  |false=>rw[hb]at h;simp only[remK_eq]at h;exact⟨gR hb,hk _ h⟩
 ·split at h
  ·rename_i hb
   have hb:=mK.1 hb
   subst hb
   rw[il]at h
   exact .inl ⟨rfl,hk _ h⟩
  ·rename_i hb
   split at h
   ·rw[il]at h
    exact .inr ⟨eqI_false.1 hb,_,kM _ _,hk _ (fitsK h)⟩
   ·cases h
theorem nz{op:BinOp}{a b:Int}{K:Bool→RT}{K':Bool→Prop}(hk:∀n,K n=yes→K' n)(h:(BA Sg T call).cmp op a b K=yes):(PH C Sg T).cmp op a b K':=by
 obtain⟨t,h1,h2⟩:=cmpB_ok h
 show cmpP op a b K'
 cases op<;>simp only[jM,Option.some.injEq]at h1<;>first|(cases h1;done)|(simp only[cmpP];rw[h1];exact hk _ h2)
theorem s_opt{α:Type}{o:Option α}{K:α→RT}{K':α→Prop}(hk:∀n,K n=yes→K' n)(h:(BA Sg T call).opt o K=yes):(PH C Sg T).opt o K':=by
 obtain⟨x,h1,h2⟩:=(jh hc).opt o K h
 exact⟨x,h1,hk _ h2⟩
theorem nA{l:List Lf}{K:Int→List Lf→RT}{K':Int→List Lf→Prop}(hk:∀n r,K n r=yes→K' n r)(h:(BA Sg T call).unI l K=yes):(PH C Sg T).unI l K':=by
 obtain⟨n,r,rfl,h2⟩:=(jh hc).unI l K h
 exact hk _ _ h2
theorem s_unB{l:List Lf}{K:Bool→List Lf→RT}{K':Bool→List Lf→Prop}(hk:∀n r,K n r=yes→K' n r)(h:(BA Sg T call).unB l K=yes):(PH C Sg T).unB l K':=by
 obtain⟨n,r,rfl,h2⟩:=(jh hc).unB l K h
 exact hk _ _ h2
theorem s_unV{l:List Lf}{K:Value→List Lf→RT}{K':Value→List Lf→Prop}(hk:∀n r,K n r=yes→K' n r)(h:(BA Sg T call).unV l K=yes):(PH C Sg T).unV l K':=by
 obtain⟨n,r,rfl,h2⟩:=(jh hc).unV l K h
 exact hk _ _ h2
theorem kP{l:List Lf}{K:RT}{K':Prop}(hk:K=yes→K')(h:(BA Sg T call).un0 l K=yes):(PH C Sg T).un0 l K':=by
 obtain⟨rfl,h2⟩:=(jh hc).un0 l K h
 exact hk h2
theorem s_ucI{k:IntKind}{l:List Value}{K:Int→List Value→RT}{K':Int→List Value→Prop}(hk:∀n r,K n r=yes→K' n r)(h:(BA Sg T call).ucI k l K=yes):(PH C Sg T).ucI k l K':=by
 obtain⟨n,r,rfl,h2⟩:=(jh hc).ucI k l K h
 exact⟨rfl,hk _ _ h2⟩
theorem s_uc0{l:List Value}{K:RT}{K':Prop}(hk:K=yes→K')(h:(BA Sg T call).uc0 l K=yes):(PH C Sg T).uc0 l K':=by
 obtain⟨rfl,h2⟩:=(jh hc).uc0 l K h
 exact hk h2
theorem s_peek{f:Pk}{h:HTr}{K:List Value→RT}{K':List Value→Prop}(hk:∀n,K n=yes→K' n)(e:(BA Sg T call).peek f h K=yes):(PH C Sg T).peek f (toL h) K':=by
 obtain⟨cs,h1,h2⟩:=(jh hc).peek f h K e
 exact⟨cs,by rw[ip];exact h1,hk _ h2⟩
theorem mi{g:FuncId}{l:List Lf}{h:HTr}{K:List Lf→HTr→RT}{K':List Lf→HL→Prop}(hk:∀l h,K l h=yes→K' l (toL h))(e:(BA Sg T call).call g l h K=yes):(PH C Sg T).call g l (toL h) K':=by
 obtain⟨rs,h',h1,h2⟩:=mD hc e
 exact⟨rs,toL h',h1,hk _ _ h2⟩
theorem s_join{b:List Lf→HTr→RT}{b':List Lf→HL→Prop}{m:(List Lf→HTr→RT)→RT}{m':(List Lf→HL→Prop)→Prop}(hb:KLe b b')(hm:∀j j',KLe j j'→m j=yes→m' j')(e:(BA Sg T call).join b m=yes):(PH C Sg T).join b' m':=hm _ _ hb e
theorem s_loop{F:(List Lf→HTr→RT)→List Lf→HTr→RT}{F':(List Lf→HL→Prop)→List Lf→HL→Prop}{l:List Lf}{h:HTr}(hF:∀s s',KLe s s'→∀l h,F s l h=yes→F' s' l (toL h))(e:(BA Sg T call).loop F l h=yes):(PH C Sg T).loop F' l (toL h):=by
 obtain⟨it,i0,i1,n,hn⟩:=(jh hc).loop F l h e
 refine⟨n,?_⟩
 have:∀n l h,it n l h=yes→itH F' n l (toL h):=by
  intro n
  induction n with
  |zero=>intro l h hn;exact absurd hn (i0 l h)
  |succ n ih=>
   intro l h hn
   rw[i1]at hn
   exact hF _ _ (fun l h=>ih l h) l h hn
 exact this n l h hn
inductive SL2:List (Nat×RT)→List (Nat×Prop)→Prop
 |nil:SL2 [] []
 |cons {id:Nat} {x:RT} {x':Prop} {l:List (Nat×RT)} {l':List (Nat×Prop)} (hx:x=yes→x') (hl:SL2 l l'):SL2 ((id,x) :: l) ((id,x') :: l')
omit hc in
end
end
end Sx
end Go.Am

/-
 THE ALGEBRA OF PROPOSITIONS,its rules as equations: a step each.
-/
namespace Go.Am
namespace Sx
class Bx (α:Sort _) where
 v:α
noncomputable def hid{α:Sort _} [b:Bx α]:α:=b.v
section
variable [Val] [Kno] {C:Cfg} {Sg:FuncId→Option Sig} {T:Nat→Site}
theorem b_unI{n:Int}{r:List Lf}{K:Int→List Lf→Prop}:(PH C Sg T).unI (.i n :: r) K=K n r:=rfl
theorem b_unB{n:Bool}{r:List Lf}{K:Bool→List Lf→Prop}:(PH C Sg T).unB (.b n :: r) K=K n r:=rfl
theorem b_unV{n:Value}{r:List Lf}{K:Value→List Lf→Prop}:(PH C Sg T).unV (.v n :: r) K=K n r:=rfl
theorem b_un0{K:Prop}:(PH C Sg T).un0 [] K=K:=rfl
theorem b_ucI{k:IntKind}{n:Int}{r:List Value}{K:Int→List Value→Prop}:(PH C Sg T).ucI k (.int k n :: r) K=K n r:=by
 show(k=k∧K n r)=K n r
 simp
theorem b_ucB{n:Bool}{r:List Value}{K:Bool→List Value→Prop}:(PH C Sg T).ucB (.bool n :: r) K=K n r:=rfl
theorem b_ucV{n:Value}{r:List Value}{K:Value→List Value→Prop}:(PH C Sg T).ucV (n :: r) K=K n r:=rfl
theorem b_uc0{K:Prop}:(PH C Sg T).uc0 [] K=K:=rfl
theorem b_cond_t{X Y:Prop}:(PH C Sg T).cond true X Y=X:=by
 show((true=true→X)∧(true=false→Y))=X
 simp
theorem b_cond_f{X Y:Prop}:(PH C Sg T).cond false X Y=Y:=by
 show((false=true→X)∧(false=false→Y))=Y
 simp
theorem b_lss_t{a b:Int}{K:Bool→Prop}(h:a<b):(PH C Sg T).cmp .lss a b K=K true:=by
 show K (decide (a<b))=_;rw[decide_eq_true h]
theorem b_lss_f{a b:Int}{K:Bool→Prop}(h:b≤a):(PH C Sg T).cmp .lss a b K=K false:=by
 show K (decide (a<b))=_;rw[decide_eq_false (by omega)]
theorem b_leq_t{a b:Int}{K:Bool→Prop}(h:a≤b):(PH C Sg T).cmp .leq a b K=K true:=by
 show K (decide (a≤b))=_;rw[decide_eq_true h]
theorem b_leq_f{a b:Int}{K:Bool→Prop}(h:b<a):(PH C Sg T).cmp .leq a b K=K false:=by
 show K (decide (a≤b))=_;rw[decide_eq_false (by omega)]
theorem b_gtr_t{a b:Int}{K:Bool→Prop}(h:b<a):(PH C Sg T).cmp .gtr a b K=K true:=by
 show K (decide (a > b))=_;rw[decide_eq_true h]
theorem b_gtr_f{a b:Int}{K:Bool→Prop}(h:a≤b):(PH C Sg T).cmp .gtr a b K=K false:=by
 show K (decide (a > b))=_;rw[decide_eq_false (by omega)]
theorem b_geq_t{a b:Int}{K:Bool→Prop}(h:b≤a):(PH C Sg T).cmp .geq a b K=K true:=by
 show K (decide (a ≥ b))=_;rw[decide_eq_true h]
theorem b_geq_f{a b:Int}{K:Bool→Prop}(h:a<b):(PH C Sg T).cmp .geq a b K=K false:=by
 show K (decide (a ≥ b))=_;rw[decide_eq_false (by omega)]
theorem b_eql_t{a b:Int}{K:Bool→Prop}(h:a=b):(PH C Sg T).cmp .eql a b K=K true:=by
 show K (a==b)=_;rw[beq_iff_eq.2 h]
theorem b_eql_f{a b:Int}{K:Bool→Prop}(h:a≠b):(PH C Sg T).cmp .eql a b K=K false:=by
 show K (a==b)=_;rw[beq_false_of_ne h]
theorem b_neq_t{a b:Int}{K:Bool→Prop}(h:a≠b):(PH C Sg T).cmp .neq a b K=K true:=by
 show K (a != b)=_;rw[bne_iff_ne.2 h]
theorem b_neq_f{a b:Int}{K:Bool→Prop}(h:a=b):(PH C Sg T).cmp .neq a b K=K false:=by
 show K (a != b)=_;subst h;simp
theorem b_add{a b:Int}{K:Int→Prop}(h1:-9223372036854775808≤a+b)(h2:a+b≤9223372036854775807):(PH C Sg T).ari .add .i64 a b K=K (a+b):=by
 show K (IntKind.wrap .i64 (a+b))=_;rw[cv h1 h2]
theorem b_sub{a b:Int}{K:Int→Prop}(h1:-9223372036854775808≤a - b)(h2:a - b≤9223372036854775807):(PH C Sg T).ari .sub .i64 a b K=K (a - b):=by
 show K (IntKind.wrap .i64 (a - b))=_;rw[cv h1 h2]
theorem b_mul{a b:Int}{K:Int→Prop}(h1:-9223372036854775808≤a*b)(h2:a*b≤9223372036854775807):(PH C Sg T).ari .mul .i64 a b K=K (a*b):=by
 show K (IntKind.wrap .i64 (a*b))=_;rw[cv h1 h2]
theorem b_add8{a b:Int}{K:Int→Prop}(h1:0≤a+b)(h2:a+b≤255):(PH C Sg T).ari .add .u8 a b K=K (a+b):=by
 show K (IntKind.wrap .u8 (a+b))=_;rw[nL h1 h2]
theorem b_sub8{a b:Int}{K:Int→Prop}(h1:0≤a - b)(h2:a - b≤255):(PH C Sg T).ari .sub .u8 a b K=K (a - b):=by
 show K (IntKind.wrap .u8 (a - b))=_;rw[nL h1 h2]
theorem b_mul8{a b:Int}{K:Int→Prop}(h1:0≤a*b)(h2:a*b≤255):(PH C Sg T).ari .mul .u8 a b K=K (a*b):=by
 show K (IntKind.wrap .u8 (a*b))=_;rw[nL h1 h2]
theorem tdiv_nn{a b:Int}(h:0≤a):a.tdiv b=a / b:=Int.tdiv_eq_ediv_of_nonneg h
theorem b_quo_nn{a b:Int}{K:Int→Prop}(h:0≤a)(hb:0<b)(h2:a≤9223372036854775807):(PH C Sg T).ari .quo .i64 a b K=K (a / b):=by
 show(b≠0∧K (IntKind.wrap .i64 (a.tdiv b)))=_
 have h3:a / b≤a:=Int.ediv_le_self b h
 have h4:0≤a / b:=Int.ediv_nonneg h (by omega)
 rw[tdiv_nn h,cv (by omega) (by omega)]
 simp;intro _ h;omega
theorem b_quo_dv{a b:Int}{K:Int→Prop}(h:a%b=0)(hb:0<b)(h1:-9223372036854775808≤a)(h2:a≤9223372036854775807):(PH C Sg T).ari .quo .i64 a b K=K (a / b):=by
 show(b≠0∧K (IntKind.wrap .i64 (a.tdiv b)))=_
 obtain⟨q,rfl⟩:=Int.dvd_of_emod_eq_zero h
 rw[Int.mul_tdiv_cancel_left q (by omega),Int.mul_ediv_cancel_left q (by omega)]
 have hq:-9223372036854775808≤q∧q≤9223372036854775807:=by
  rcases Int.le_total 0 q with hs|hs
  ·have:=Int.mul_le_mul_of_nonneg_right (show(1:Int)≤b by omega) hs
   omega
  ·have:=Int.mul_le_mul_of_nonneg_right (show(1:Int)≤b by omega) (show 0≤-q by omega)
   rw[Int.mul_neg b q]at this
   omega
 rw[cv hq.1 hq.2]
 simp;intro _ h;omega
theorem b_rem_nn{k:IntKind}{a b:Int}{K:Int→Prop}(h:0≤a)(hb:0<b):(PH C Sg T).ari .rem k a b K=K (a%b):=by
 show(b≠0∧K (a.tmod b))=_
 rw[Int.tmod_eq_emod_of_nonneg h]
 simp;intro _ h;omega
theorem b_rem_np{k:IntKind}{a b:Int}{K:Int→Prop}(h:a≤0)(hb:0<b):(PH C Sg T).ari .rem k a b K=K (-((-a)%b)):=by
 show(b≠0∧K (a.tmod b))=_
 have:a.tmod b = -((-a)%b):=by
  have h1:=Int.neg_tmod a b
  rw[Int.tmod_eq_emod_of_nonneg (a:=-a) (by omega)]at h1
  omega
 rw[this]
 simp;intro _ h;omega
theorem b_and1{a:Int}{K:Int→Prop}:(PH C Sg T).ari .and .i64 a 1 K=K (a%2):=by
 show(((1:Int)=1∧K (a%2))∨((1:Int)≠1∧∃n,pf .and .i64 a 1 n∧K n))=K (a%2)
 simp
theorem b_conv{a:Int}{K:Int→Prop}(h1:-9223372036854775808≤a)(h2:a≤9223372036854775807):(PH C Sg T).conv .i64 a K=K a:=by
 show K (IntKind.wrap .i64 a)=_;rw[cv h1 h2]
theorem b_conv8{a:Int}{K:Int→Prop}(h1:0≤a)(h2:a≤255):(PH C Sg T).conv .u8 a K=K a:=by
 show K (IntKind.wrap .u8 a)=_;rw[nL h1 h2]
theorem b_sel_t{a b:Int}{K:Int→Prop}:(PH C Sg T).sel true a b K=K a:=rfl
theorem b_sel_f{a b:Int}{K:Int→Prop}:(PH C Sg T).sel false a b K=K b:=rfl
theorem b_opt{α:Type}{x:α}{K:α→Prop}:(PH C Sg T).opt (some x) K=K x:=by
 show(∃y,some x=some y∧K y)=K x
 simp
theorem b_inB{n:Nat}{i:Int}{K:Unit→Prop}(h1:0≤i)(h2:i<(n:Int)):(PH C Sg T).opt (inB n i) K=K ():=by
 rw[show inB n i=some ()from(inB_eq n i).trans (if_pos ⟨h1,h2⟩),b_opt]
theorem b_join{b:List Lf→HL→Prop}{m:(List Lf→HL→Prop)→Prop}:(PH C Sg T).join b m=m b:=rfl
theorem b_eqs0{K:Bool→Prop}:(PH C Sg T).eqs [] K=K true:=rfl
theorem b_eqs_t{a b:Int}{l:List (Lf×Lf)}{K:Bool→Prop}(h:a=b):(PH C Sg T).eqs ((.i a,.i b) :: l) K=(PH C Sg T).eqs l K:=by
 show K (cD _)=K (cD l)
 subst h
 simp[cD,gK]
theorem b_eqs_f{a b:Int}{l:List (Lf×Lf)}{K:Bool→Prop}(h:a≠b):(PH C Sg T).eqs ((.i a,.i b) :: l) K=K false:=by
 show K (cD _)=K false
 have:(a==b)=false:=beq_false_of_ne h
 simp[cD,gK,this]
theorem qE{F:(List Lf→HL→Prop)→List Lf→HL→Prop}{ls:List Lf}{h:HL}(n:Nat)(hn:itH F n ls h):(PH C Sg T).loop F ls h:=⟨n,hn⟩
theorem b_it{F:(List Lf→HL→Prop)→List Lf→HL→Prop}{n:Nat}{ls:List Lf}{h:HL}:itH F (n+1) ls h=F (itH F n) ls h:=rfl
theorem oK{g:FuncId}{ls rs:List Lf}{h:HL}{K:List Lf→HL→Prop}(hc:∀H,dg C Sg g ls H rs H)(hk:K rs h):(PH C Sg T).call g ls h (@hid _ ⟨K⟩):=⟨rs,h,hc _,hk⟩
theorem b_eqsb_t{a b:Bool}{l:List (Lf×Lf)}{K:Bool→Prop}(h:a=b):(PH C Sg T).eqs ((.b a,.b b) :: l) K=(PH C Sg T).eqs l K:=by
 show K (cD _)=K (cD l)
 subst h
 simp[cD,gK]
theorem b_eqsb_tf{l:List (Lf×Lf)}{K:Bool→Prop}:(PH C Sg T).eqs ((.b true,.b false) :: l) K=K false:=rfl
theorem b_eqsb_ft{l:List (Lf×Lf)}{K:Bool→Prop}:(PH C Sg T).eqs ((.b false,.b true) :: l) K=K false:=rfl
theorem b_mul_1{b:Int}{K:Int→Prop}(h1:-9223372036854775808≤b)(h2:b≤9223372036854775807):(PH C Sg T).ari .mul .i64 1 b K=K b:=by
 show K (IntKind.wrap .i64 (1*b))=_;rw[Int.one_mul,cv h1 h2]
theorem b_mul_0{b:Int}{K:Int→Prop}:(PH C Sg T).ari .mul .i64 0 b K=K 0:=by
 show K (IntKind.wrap .i64 (0*b))=_;rw[Int.zero_mul];rfl
theorem b_mul_m{b:Int}{K:Int→Prop}(h1:-9223372036854775808≤-b)(h2:-b≤9223372036854775807):(PH C Sg T).ari .mul .i64 (-1) b K=K (-b):=by
 show K (IntKind.wrap .i64 (-1*b))=_
 have:(-1*b:Int) = -b:=by omega
 rw[this,cv h1 h2]
theorem b_mul_r1{b:Int}{K:Int→Prop}(h1:-9223372036854775808≤b)(h2:b≤9223372036854775807):(PH C Sg T).ari .mul .i64 b 1 K=K b:=by
 show K (IntKind.wrap .i64 (b*1))=_;rw[Int.mul_one,cv h1 h2]
theorem b_mul_r0{b:Int}{K:Int→Prop}:(PH C Sg T).ari .mul .i64 b 0 K=K 0:=by
 show K (IntKind.wrap .i64 (b*0))=_;rw[Int.mul_zero];rfl
theorem b_mul_rm{b:Int}{K:Int→Prop}(h1:-9223372036854775808≤-b)(h2:-b≤9223372036854775807):(PH C Sg T).ari .mul .i64 b (-1) K=K (-b):=by
 show K (IntKind.wrap .i64 (b * -1))=_
 have:(b * -1:Int) = -b:=by omega
 rw[this,cv h1 h2]
theorem b_add_0{b:Int}{K:Int→Prop}(h1:-9223372036854775808≤b)(h2:b≤9223372036854775807):(PH C Sg T).ari .add .i64 0 b K=K b:=by
 show K (IntKind.wrap .i64 (0+b))=_;rw[Int.zero_add,cv h1 h2]
theorem b_add_r0{b:Int}{K:Int→Prop}(h1:-9223372036854775808≤b)(h2:b≤9223372036854775807):(PH C Sg T).ari .add .i64 b 0 K=K b:=by
 show K (IntKind.wrap .i64 (b+0))=_;rw[Int.add_zero,cv h1 h2]
theorem b_add_11{K:Int→Prop}:(PH C Sg T).ari .add .i64 1 1 K=K 2:=by
 show K (IntKind.wrap .i64 (1+1))=_;rfl
theorem b_quo_1{a:Int}{K:Int→Prop}(h1:-9223372036854775808≤a)(h2:a≤9223372036854775807):(PH C Sg T).ari .quo .i64 a 1 K=K a:=by
 show((1:Int)≠0∧K (IntKind.wrap .i64 (a.tdiv 1)))=_
 rw[Int.tdiv_one,cv h1 h2];simp
theorem eH{α:Type}{o:Option α}{x:α}{K:α→Prop}(h:o=some x)(hk:K x):(PH C Sg T).opt o (@hid _ ⟨K⟩):=⟨x,h,hk⟩
theorem p_unI{n:Int}{r:List Lf}{K:Int→List Lf→Prop}:(PH C Sg T).unI (.i n :: r) (@hid _ ⟨K⟩)=K n r:=b_unI
theorem p_unB{n:Bool}{r:List Lf}{K:Bool→List Lf→Prop}:(PH C Sg T).unB (.b n :: r) (@hid _ ⟨K⟩)=K n r:=b_unB
theorem p_unV{n:Value}{r:List Lf}{K:Value→List Lf→Prop}:(PH C Sg T).unV (.v n :: r) (@hid _ ⟨K⟩)=K n r:=b_unV
theorem p_un0{K:Prop}:(PH C Sg T).un0 [] (@hid _ ⟨K⟩)=K:=b_un0
theorem p_ucI{k:IntKind}{n:Int}{r:List Value}{K:Int→List Value→Prop}:(PH C Sg T).ucI k (.int k n :: r) (@hid _ ⟨K⟩)=K n r:=b_ucI
theorem p_ucB{n:Bool}{r:List Value}{K:Bool→List Value→Prop}:(PH C Sg T).ucB (.bool n :: r) (@hid _ ⟨K⟩)=K n r:=b_ucB
theorem p_ucV{n:Value}{r:List Value}{K:Value→List Value→Prop}:(PH C Sg T).ucV (n :: r) (@hid _ ⟨K⟩)=K n r:=b_ucV
theorem p_uc0{K:Prop}:(PH C Sg T).uc0 [] (@hid _ ⟨K⟩)=K:=b_uc0
theorem p_cond_t{X Y:Prop}:(PH C Sg T).cond true (@hid _ ⟨X⟩) Y=X:=b_cond_t
theorem p_cond_f{X Y:Prop}:(PH C Sg T).cond false X (@hid _ ⟨Y⟩)=Y:=b_cond_f
theorem p_lss_t{a b:Int}{K:Bool→Prop}(h:a<b):(PH C Sg T).cmp .lss a b (@hid _ ⟨K⟩)=K true:=b_lss_t h
theorem p_lss_f{a b:Int}{K:Bool→Prop}(h:b≤a):(PH C Sg T).cmp .lss a b (@hid _ ⟨K⟩)=K false:=b_lss_f h
theorem p_leq_t{a b:Int}{K:Bool→Prop}(h:a≤b):(PH C Sg T).cmp .leq a b (@hid _ ⟨K⟩)=K true:=b_leq_t h
theorem p_leq_f{a b:Int}{K:Bool→Prop}(h:b<a):(PH C Sg T).cmp .leq a b (@hid _ ⟨K⟩)=K false:=b_leq_f h
theorem p_gtr_t{a b:Int}{K:Bool→Prop}(h:b<a):(PH C Sg T).cmp .gtr a b (@hid _ ⟨K⟩)=K true:=b_gtr_t h
theorem p_gtr_f{a b:Int}{K:Bool→Prop}(h:a≤b):(PH C Sg T).cmp .gtr a b (@hid _ ⟨K⟩)=K false:=b_gtr_f h
theorem p_geq_t{a b:Int}{K:Bool→Prop}(h:b≤a):(PH C Sg T).cmp .geq a b (@hid _ ⟨K⟩)=K true:=b_geq_t h
theorem p_geq_f{a b:Int}{K:Bool→Prop}(h:a<b):(PH C Sg T).cmp .geq a b (@hid _ ⟨K⟩)=K false:=b_geq_f h
theorem p_eql_t{a b:Int}{K:Bool→Prop}(h:a=b):(PH C Sg T).cmp .eql a b (@hid _ ⟨K⟩)=K true:=b_eql_t h
theorem p_eql_f{a b:Int}{K:Bool→Prop}(h:a≠b):(PH C Sg T).cmp .eql a b (@hid _ ⟨K⟩)=K false:=b_eql_f h
theorem p_neq_t{a b:Int}{K:Bool→Prop}(h:a≠b):(PH C Sg T).cmp .neq a b (@hid _ ⟨K⟩)=K true:=b_neq_t h
theorem p_neq_f{a b:Int}{K:Bool→Prop}(h:a=b):(PH C Sg T).cmp .neq a b (@hid _ ⟨K⟩)=K false:=b_neq_f h
theorem p_add{a b:Int}{K:Int→Prop}(h1:-9223372036854775808≤a+b)(h2:a+b≤9223372036854775807):(PH C Sg T).ari .add .i64 a b (@hid _ ⟨K⟩)=K (a+b):=b_add h1 h2
theorem p_sub{a b:Int}{K:Int→Prop}(h1:-9223372036854775808≤a - b)(h2:a - b≤9223372036854775807):(PH C Sg T).ari .sub .i64 a b (@hid _ ⟨K⟩)=K (a - b):=b_sub h1 h2
theorem p_mul{a b:Int}{K:Int→Prop}(h1:-9223372036854775808≤a*b)(h2:a*b≤9223372036854775807):(PH C Sg T).ari .mul .i64 a b (@hid _ ⟨K⟩)=K (a*b):=b_mul h1 h2
theorem p_add8{a b:Int}{K:Int→Prop}(h1:0≤a+b)(h2:a+b≤255):(PH C Sg T).ari .add .u8 a b (@hid _ ⟨K⟩)=K (a+b):=b_add8 h1 h2
theorem p_sub8{a b:Int}{K:Int→Prop}(h1:0≤a - b)(h2:a - b≤255):(PH C Sg T).ari .sub .u8 a b (@hid _ ⟨K⟩)=K (a - b):=b_sub8 h1 h2
theorem p_mul8{a b:Int}{K:Int→Prop}(h1:0≤a*b)(h2:a*b≤255):(PH C Sg T).ari .mul .u8 a b (@hid _ ⟨K⟩)=K (a*b):=b_mul8 h1 h2
theorem p_quo_nn{a b:Int}{K:Int→Prop}(h:0≤a)(hb:0<b)(h2:a≤9223372036854775807):(PH C Sg T).ari .quo .i64 a b (@hid _ ⟨K⟩)=K (a / b):=b_quo_nn h hb h2
theorem p_quo_dv{a b:Int}{K:Int→Prop}(h:a%b=0)(hb:0<b)(h1:-9223372036854775808≤a)(h2:a≤9223372036854775807):(PH C Sg T).ari .quo .i64 a b (@hid _ ⟨K⟩)=K (a / b):=b_quo_dv h hb h1 h2
theorem p_rem_nn{k:IntKind}{a b:Int}{K:Int→Prop}(h:0≤a)(hb:0<b):(PH C Sg T).ari .rem k a b (@hid _ ⟨K⟩)=K (a%b):=b_rem_nn h hb
theorem p_rem_np{k:IntKind}{a b:Int}{K:Int→Prop}(h:a≤0)(hb:0<b):(PH C Sg T).ari .rem k a b (@hid _ ⟨K⟩)=K (-((-a)%b)):=b_rem_np h hb
theorem p_and1{a:Int}{K:Int→Prop}:(PH C Sg T).ari .and .i64 a 1 (@hid _ ⟨K⟩)=K (a%2):=b_and1
theorem p_conv{a:Int}{K:Int→Prop}(h1:-9223372036854775808≤a)(h2:a≤9223372036854775807):(PH C Sg T).conv .i64 a (@hid _ ⟨K⟩)=K a:=b_conv h1 h2
theorem p_conv8{a:Int}{K:Int→Prop}(h1:0≤a)(h2:a≤255):(PH C Sg T).conv .u8 a (@hid _ ⟨K⟩)=K a:=b_conv8 h1 h2
theorem p_sel_t{a b:Int}{K:Int→Prop}:(PH C Sg T).sel true a b (@hid _ ⟨K⟩)=K a:=b_sel_t
theorem p_sel_f{a b:Int}{K:Int→Prop}:(PH C Sg T).sel false a b (@hid _ ⟨K⟩)=K b:=b_sel_f
theorem p_opt{α:Type}{x:α}{K:α→Prop}:(PH C Sg T).opt (some x) (@hid _ ⟨K⟩)=K x:=b_opt
theorem p_inB{n:Nat}{i:Int}{K:Unit→Prop}(h1:0≤i)(h2:i<(n:Int)):(PH C Sg T).opt (inB n i) (@hid _ ⟨K⟩)=K ():=b_inB h1 h2
theorem p_join{b:List Lf→HL→Prop}{m:(List Lf→HL→Prop)→Prop}:(PH C Sg T).join (@hid _ ⟨b⟩) (@hid _ ⟨m⟩)=m (@hid _ ⟨b⟩):=b_join
theorem p_eqs0{K:Bool→Prop}:(PH C Sg T).eqs [] (@hid _ ⟨K⟩)=K true:=b_eqs0
theorem p_eqs_t{a b:Int}{l:List (Lf×Lf)}{K:Bool→Prop}(h:a=b):(PH C Sg T).eqs ((.i a,.i b) :: l) (@hid _ ⟨K⟩)=(PH C Sg T).eqs l (@hid _ ⟨K⟩):=b_eqs_t h
theorem p_eqs_f{a b:Int}{l:List (Lf×Lf)}{K:Bool→Prop}(h:a≠b):(PH C Sg T).eqs ((.i a,.i b) :: l) (@hid _ ⟨K⟩)=K false:=b_eqs_f h
theorem p_it{F:(List Lf→HL→Prop)→List Lf→HL→Prop}{n:Nat}{ls:List Lf}{h:HL}:itH (@hid _ ⟨F⟩) (n+1) ls h=F (itH (@hid _ ⟨F⟩) n) ls h:=b_it
theorem p_eqsb_t{a b:Bool}{l:List (Lf×Lf)}{K:Bool→Prop}(h:a=b):(PH C Sg T).eqs ((.b a,.b b) :: l) (@hid _ ⟨K⟩)=(PH C Sg T).eqs l (@hid _ ⟨K⟩):=b_eqsb_t h
theorem p_eqsb_tf{l:List (Lf×Lf)}{K:Bool→Prop}:(PH C Sg T).eqs ((.b true,.b false) :: l) (@hid _ ⟨K⟩)=K false:=b_eqsb_tf
theorem p_eqsb_ft{l:List (Lf×Lf)}{K:Bool→Prop}:(PH C Sg T).eqs ((.b false,.b true) :: l) (@hid _ ⟨K⟩)=K false:=b_eqsb_ft
theorem p_mul_1{b:Int}{K:Int→Prop}(h1:-9223372036854775808≤b)(h2:b≤9223372036854775807):(PH C Sg T).ari .mul .i64 1 b (@hid _ ⟨K⟩)=K b:=b_mul_1 h1 h2
theorem p_mul_0{b:Int}{K:Int→Prop}:(PH C Sg T).ari .mul .i64 0 b (@hid _ ⟨K⟩)=K 0:=b_mul_0
theorem p_mul_m{b:Int}{K:Int→Prop}(h1:-9223372036854775808≤-b)(h2:-b≤9223372036854775807):(PH C Sg T).ari .mul .i64 (-1) b (@hid _ ⟨K⟩)=K (-b):=b_mul_m h1 h2
theorem p_mul_r1{b:Int}{K:Int→Prop}(h1:-9223372036854775808≤b)(h2:b≤9223372036854775807):(PH C Sg T).ari .mul .i64 b 1 (@hid _ ⟨K⟩)=K b:=b_mul_r1 h1 h2
theorem p_mul_r0{b:Int}{K:Int→Prop}:(PH C Sg T).ari .mul .i64 b 0 (@hid _ ⟨K⟩)=K 0:=b_mul_r0
theorem p_mul_rm{b:Int}{K:Int→Prop}(h1:-9223372036854775808≤-b)(h2:-b≤9223372036854775807):(PH C Sg T).ari .mul .i64 b (-1) (@hid _ ⟨K⟩)=K (-b):=b_mul_rm h1 h2
theorem p_add_0{b:Int}{K:Int→Prop}(h1:-9223372036854775808≤b)(h2:b≤9223372036854775807):(PH C Sg T).ari .add .i64 0 b (@hid _ ⟨K⟩)=K b:=b_add_0 h1 h2
theorem p_add_r0{b:Int}{K:Int→Prop}(h1:-9223372036854775808≤b)(h2:b≤9223372036854775807):(PH C Sg T).ari .add .i64 b 0 (@hid _ ⟨K⟩)=K b:=b_add_r0 h1 h2
theorem p_add_11{K:Int→Prop}:(PH C Sg T).ari .add .i64 1 1 (@hid _ ⟨K⟩)=K 2:=b_add_11
theorem p_quo_1{a:Int}{K:Int→Prop}(h1:-9223372036854775808≤a)(h2:a≤9223372036854775807):(PH C Sg T).ari .quo .i64 a 1 (@hid _ ⟨K⟩)=K a:=b_quo_1 h1 h2
theorem p_hid2{f:List Lf→HL→Prop}{a:List Lf}{b:HL}:@hid _ ⟨f⟩ a b=f a b:=rfl
theorem p_eqs2_f{a b c d:Int}{K:Bool→Prop}(h:¬(a=c∧b=d)):(PH C Sg T).eqs [(.i a,.i c),(.i b,.i d)] (@hid _ ⟨K⟩)=K false:=by
 show K (cD _)=K false
 have:cD [(.i a,.i c),(.i b,.i d)]=false:=by
  rw[Bool.eq_false_iff]
  simpa[cD,gK]using h
 rw[this]
theorem p_eqs3_f{a b c d e f:Int}{K:Bool→Prop}(h:¬(a=d∧b=e∧c=f)):(PH C Sg T).eqs [(.i a,.i d),(.i b,.i e),(.i c,.i f)] (@hid _ ⟨K⟩)=K false:=by
 show K (cD _)=K false
 have:cD [(.i a,.i d),(.i b,.i e),(.i c,.i f)]=false:=by
  rw[Bool.eq_false_iff]
  simpa[cD,gK]using h
 rw[this]
theorem p_new{o:HObj}{h:HL}{K:Nat→HL→Prop}:(PH C Sg T).new o h (@hid _ ⟨K⟩)=K h.length (h++[.o o]):=rfl
noncomputable def pxs(C:Cfg)(Sg:FuncId→Option Sig)(T:Nat→Site):=And.intro @p_hid2 (And.intro (@p_new _ _ C Sg T) (And.intro (@p_unI _ _ C Sg T) (And.intro (@p_unB _ _ C Sg T) (And.intro (@p_unV _ _ C Sg T) (And.intro (@p_un0 _ _ C Sg T) (And.intro (@p_ucI _ _ C Sg T) (And.intro (@p_ucB _ _ C Sg T) (And.intro (@p_ucV _ _ C Sg T) (And.intro (@p_uc0 _ _ C Sg T) (And.intro (@p_cond_t _ _ C Sg T) (And.intro (@p_cond_f _ _ C Sg T) (And.intro (@p_opt _ _ C Sg T) (And.intro (@p_inB _ _ C Sg T) (And.intro (@p_join _ _ C Sg T) (And.intro (@p_sel_t _ _ C Sg T) (And.intro (@p_sel_f _ _ C Sg T) ((@p_it))))))))))))))))))
noncomputable def pxc(C:Cfg)(Sg:FuncId→Option Sig)(T:Nat→Site):=And.intro (@p_lss_t _ _ C Sg T) (And.intro (@p_lss_f _ _ C Sg T) (And.intro (@p_leq_t _ _ C Sg T) (And.intro (@p_leq_f _ _ C Sg T) (And.intro (@p_gtr_t _ _ C Sg T) (And.intro (@p_gtr_f _ _ C Sg T) (And.intro (@p_geq_t _ _ C Sg T) (And.intro (@p_geq_f _ _ C Sg T) (And.intro (@p_eql_t _ _ C Sg T) (And.intro (@p_eql_f _ _ C Sg T) (And.intro (@p_neq_t _ _ C Sg T) (And.intro (@p_neq_f _ _ C Sg T) (And.intro (@p_eqs0 _ _ C Sg T) (And.intro (@p_eqs_t _ _ C Sg T) (And.intro (@p_eqs_f _ _ C Sg T) (And.intro (@p_eqs2_f _ _ C Sg T) (And.intro (@p_eqs3_f _ _ C Sg T) (And.intro (@p_eqsb_t _ _ C Sg T) (And.intro (@p_eqsb_tf _ _ C Sg T) ((@p_eqsb_ft _ _ C Sg T))))))))))))))))))))
noncomputable def pxa(C:Cfg)(Sg:FuncId→Option Sig)(T:Nat→Site):=And.intro (@p_mul_1 _ _ C Sg T) (And.intro (@p_mul_0 _ _ C Sg T) (And.intro (@p_mul_m _ _ C Sg T) (And.intro (@p_mul_r1 _ _ C Sg T) (And.intro (@p_mul_r0 _ _ C Sg T) (And.intro (@p_mul_rm _ _ C Sg T) (And.intro (@p_add_0 _ _ C Sg T) (And.intro (@p_add_r0 _ _ C Sg T) (And.intro (@p_add_11 _ _ C Sg T) (And.intro (@p_quo_1 _ _ C Sg T) (And.intro (@p_add _ _ C Sg T) (And.intro (@p_sub _ _ C Sg T) (And.intro (@p_mul _ _ C Sg T) (And.intro (@p_add8 _ _ C Sg T) (And.intro (@p_sub8 _ _ C Sg T) (And.intro (@p_mul8 _ _ C Sg T) (And.intro (@p_quo_nn _ _ C Sg T) (And.intro (@p_quo_dv _ _ C Sg T) (And.intro (@p_rem_nn _ _ C Sg T) (And.intro (@p_rem_np _ _ C Sg T) (And.intro (@p_and1 _ _ C Sg T) (And.intro (@p_conv _ _ C Sg T) ((@p_conv8 _ _ C Sg T)))))))))))))))))))))))
end
end Sx
end Go.Am

/-
 THE SEAT'S CALLS: what is known of them,and how it is shown (over the heaps of runs).
-/
set_option maxRecDepth 100000
namespace Go.Am
open Sx Go.Proofs
theorem gl_cell(g:Nat)(vs:List Value)(h:cc.G g=some vs):vs.all aY=true:=by
 unfold cc at h
 simp only at h
 split at h<;>first|(cases h;done)|(obtain rfl:=Option.some.inj h;kernel_rfl)
noncomputable abbrev P1:Alg Prop HL:=PH cc ab ac
abbrev Cc(g:FuncId)(ls rs:List Lf):Prop:=∀H,dg cc ab g ls H rs H
theorem fn_ok{f:FuncId}{fn:Fn1}(hi:FnIs (xc f) ab f fn){ls:List Lf}{H:HL}{K:List Lf→HL→Prop}(hls:cU ls=true)
  (h:aE P1 (xc f) ab drN fn ls H K):∃rs H',dg cc ab f ls (absH ac H) rs (absH ac H')∧K rs H':=by
 obtain⟨rs,h',a1,_,a3⟩:=qn (X:=xc f) (holds:=id) (abs:=absH ac) (PH_ok cc ab ac) drN_ok hi (fp hls) h
 exact⟨rs,h',a1,a3⟩
def qxs:=pxs cc ab ac
def qxc:=pxc cc ab ac
def qxa:=pxa cc ab ac
end Go.Am

/-
 SLICES IN THE HEAP: what lies behind them,how they are read and lengthened.
-/
set_option maxRecDepth 100000
namespace Go.Am
namespace Sx
theorem jt{vs:List Value}{off n:Nat}{cs:List Value}:cut vs off n=some cs↔off+n≤vs.length∧(vs.drop off).take n=cs:=by
 unfold cut
 split
 ·rename_i h;simp[h]
 ·rename_i h;simp[h]
theorem cut_len{vs:List Value}{off n:Nat}{cs:List Value}(h:cut vs off n=some cs):cs.length=n:=by
 obtain⟨h1,rfl⟩:=jt.1 h
 rw[List.length_take,List.length_drop];omega
theorem cut_cut{vs:List Value}{off n:Nat}{cs:List Value}(h:cut vs off n=some cs){o k:Nat}(hk:o+k≤n):cut vs (off+o) k=some ((cs.drop o).take k):=by
 obtain⟨h1,rfl⟩:=jt.1 h
 refine jt.2 ⟨by omega,?_⟩
 rw[List.drop_take,List.drop_drop,List.take_take,Nat.min_eq_left (by omega)]
theorem jR{vs:List Value}{n:Nat}(h:vs.length=n):cut vs 0 n=some vs:=jt.2 ⟨by omega,by rw[List.drop_zero,List.take_of_length_le (by omega)]⟩
def Pre(h0 h:HL):Prop:=∃G,h=h0++G
theorem Pre.refl(h:HL):Pre h h:=⟨[],by simp⟩
theorem Pre.trans{a b c:HL}(h:Pre a b)(k:Pre b c):Pre a c:=by
 obtain⟨G,rfl⟩:=h
 obtain⟨G',rfl⟩:=k
 exact⟨G++G',by simp⟩
theorem Pre.app{a b:HL}(h:Pre a b)(G:HL):Pre a (b++G):=h.trans ⟨G,rfl⟩
theorem Pre.len{a b:HL}(h:Pre a b):a.length≤b.length:=by obtain⟨G,rfl⟩:=h;simp
theorem Pre.get{a b:HL}(h:Pre a b){i:Nat}{o:HO}(hi:a[i]? = some o):b[i]? = some o:=by
 obtain⟨G,rfl⟩:=h
 have:i<a.length:=by
  rcases Nat.lt_or_ge i a.length with h|h
  ·exact h
  ·rw[List.getElem?_eq_none h]at hi;cases hi
 rw[List.getElem?_append_left this];exact hi
theorem Pre.set{a b:HL}(h:Pre a b){i:Nat}(hi:a.length≤i)(o:HO):Pre a (b.set i o):=by
 obtain⟨G,rfl⟩:=h
 rw[List.set_append_right _ _ hi]
 exact⟨_,rfl⟩
def Ptr(h:HL)(p:Value)(cs:List Value):Prop:=∃id o vs e rw,p = .pointer (some ⟨id,o,none⟩)∧h[id]? = some (.o (.cells vs e rw))∧cut vs o cs.length=some cs
def SlC(h:HL)(v:Value)(e n:Nat)(cs:List Value):Prop:=
 cs.length=n*e∧((v = .slice none 0 0∧n=0)∨∃id off cx vs rw,v = .slice (some ⟨id,off,tag e⟩) n cx∧h[id]? = some (.o (.cells vs e rw))∧cut vs off (n*e)=some cs)
def LsH{α:Type}(h:HL)(v:Value)(e:Nat)(enc:α→List Value)(l:List α):Prop:=(∀a∈l,(enc a).length=e)∧SlC h v e l.length (l.flatMap enc)
def Mk(n0:Nat)(h:HL)(v:Value)(e n:Nat)(cs:List Value):Prop:=
 cs.length=n*e∧((v = .slice none 0 0∧n=0)∨∃id,n0≤id∧v = .slice (some ⟨id,0,tag e⟩) n 0∧h[id]? = some (.o (.cells cs e true)))
def MkL{α:Type}(n0:Nat)(h:HL)(v:Value)(e:Nat)(enc:α→List Value)(l:List α):Prop:=(∀a∈l,(enc a).length=e)∧Mk n0 h v e l.length (l.flatMap enc)
noncomputable def blk:Value→Option Nat
 | .slice (some a) _ _=>some a.block
 |_=>none
theorem Ptr.keep{h h':HL}{p:Value}{cs:List Value}(hp:Ptr h p cs)(hk:∀(j:Nat) o,h[j]? = some o→h'[j]? = some o):Ptr h' p cs:=by
 obtain⟨id,o,vs,e,rw',h1,h2,h3⟩:=hp
 exact⟨id,o,vs,e,rw',h1,hk _ _ h2,h3⟩
theorem SlC.keep{h h':HL}{v:Value}{e n:Nat}{cs:List Value}(hs:SlC h v e n cs)(hk:∀(j:Nat) o,h[j]? = some o→blk v=some j→h'[j]? = some o):SlC h' v e n cs:=by
 obtain⟨h0,h1|⟨id,off,cx,vs,rw',rfl,h2,h3⟩⟩:=hs
 ·exact⟨h0,.inl h1⟩
 ·exact⟨h0,.inr ⟨id,off,cx,vs,rw',rfl,hk _ _ h2 rfl,h3⟩⟩
theorem SlC.pre{h h':HL}{v:Value}{e n:Nat}{cs:List Value}(hs:SlC h v e n cs)(hp:Pre h h'):SlC h' v e n cs:=hs.keep fun _ _ h _=>hp.get h
theorem LsH.keep{α:Type}{h h':HL}{v:Value}{e:Nat}{enc:α→List Value}{l:List α}(hs:LsH h v e enc l)(hk:∀(j:Nat) o,h[j]? = some o→blk v=some j→h'[j]? = some o):LsH h' v e enc l:=⟨hs.1,hs.2.keep hk⟩
theorem LsH.pre{α:Type}{h h':HL}{v:Value}{e:Nat}{enc:α→List Value}{l:List α}(hs:LsH h v e enc l)(hp:Pre h h'):LsH h' v e enc l:=⟨hs.1,hs.2.pre hp⟩
theorem SlC.len{h:HL}{v:Value}{e n:Nat}{cs:List Value}(hs:SlC h v e n cs):lenS v=some (.ofNat n):=by
 obtain⟨_,⟨rfl,rfl⟩|⟨id,off,cx,vs,rw',rfl,_⟩⟩:=hs<;>rfl
theorem LsH.len{α:Type}{h:HL}{v:Value}{e:Nat}{enc:α→List Value}{l:List α}(hs:LsH h v e enc l):lenS v=some (.ofNat l.length):=hs.2.len
theorem Mk.sl{n0:Nat}{h:HL}{v:Value}{e n:Nat}{cs:List Value}(hs:Mk n0 h v e n cs):SlC h v e n cs:=by
 obtain⟨h0,h1|⟨id,_,rfl,h2⟩⟩:=hs
 ·exact⟨h0,.inl h1⟩
 ·exact⟨h0,.inr ⟨id,0,0,cs,true,rfl,h2,jR h0⟩⟩
theorem MkL.ls{α:Type}{n0:Nat}{h:HL}{v:Value}{e:Nat}{enc:α→List Value}{l:List α}(hs:MkL n0 h v e enc l):LsH h v e enc l:=⟨hs.1,hs.2.sl⟩
theorem Mk.nil(n0:Nat)(h:HL)(e:Nat):Mk n0 h (.slice none 0 0) e 0 []:=⟨by simp,.inl ⟨rfl,rfl⟩⟩
theorem MkL.nil{α:Type}(n0:Nat)(h:HL)(e:Nat)(enc:α→List Value):MkL n0 h (.slice none 0 0) e enc []:=⟨by simp,Mk.nil n0 h e⟩
theorem LsH.nil{α:Type}(h:HL)(e:Nat)(enc:α→List Value):LsH h (.slice none 0 0) e enc []:=(MkL.nil 0 h e enc).ls
theorem Mk.keep{n0:Nat}{h h':HL}{v:Value}{e n:Nat}{cs:List Value}(hs:Mk n0 h v e n cs)(hk:∀(j:Nat) o,h[j]? = some o→blk v=some j→h'[j]? = some o):Mk n0 h' v e n cs:=by
 obtain⟨h0,h1|⟨id,h1,rfl,h2⟩⟩:=hs
 ·exact⟨h0,.inl h1⟩
 ·exact⟨h0,.inr ⟨id,h1,rfl,hk _ _ h2 rfl⟩⟩
theorem Mk.pre{n0:Nat}{h h':HL}{v:Value}{e n:Nat}{cs:List Value}(hs:Mk n0 h v e n cs)(hp:Pre h h'):Mk n0 h' v e n cs:=hs.keep fun _ _ h _=>hp.get h
theorem MkL.keep{α:Type}{n0:Nat}{h h':HL}{v:Value}{e:Nat}{enc:α→List Value}{l:List α}(hs:MkL n0 h v e enc l)(hk:∀(j:Nat) o,h[j]? = some o→blk v=some j→h'[j]? = some o):MkL n0 h' v e enc l:=⟨hs.1,hs.2.keep hk⟩
theorem MkL.pre{α:Type}{n0:Nat}{h h':HL}{v:Value}{e:Nat}{enc:α→List Value}{l:List α}(hs:MkL n0 h v e enc l)(hp:Pre h h'):MkL n0 h' v e enc l:=⟨hs.1,hs.2.pre hp⟩
theorem lF{α:Type}{e:Nat}{enc:α→List Value}:∀ {l:List α},(∀a∈l,(enc a).length=e)→∀ {i:Nat} {a:α},l[i]? = some a→((l.flatMap enc).drop (i*e)).take e=enc a
 |b :: l,h,0,a,hi=>by
  simp only[List.getElem?_cons_zero,Option.some.injEq]at hi
  subst hi
  have:=h b List.mem_cons_self
  rw[Nat.zero_mul,List.drop_zero,List.flatMap_cons,List.take_append_of_le_length (by omega),List.take_of_length_le (by omega)]
 |b :: l,h,i+1,a,hi=>by
  simp only[List.getElem?_cons_succ]at hi
  have hb:=h b List.mem_cons_self
  have:=lF (fun b hb=>h b (List.mem_cons_of_mem _ hb)) hi
  rw[List.flatMap_cons,Nat.add_mul,Nat.one_mul,←this]
  have e1:i*e+e=(enc b).length+i*e:=by omega
  rw[e1,List.drop_append,List.drop_of_length_le (by omega),List.nil_append,Nat.add_sub_cancel_left]
 | [],_,_,_,hi=>by simp at hi
theorem SlC.at{h:HL}{v:Value}{e n:Nat}{cs:List Value}(hs:SlC h v e n cs){i:Nat}(hi:i<n):∃p,idS e v (.ofNat i)=some p∧Ptr h p ((cs.drop (i*e)).take e):=by
 obtain⟨h0,⟨rfl,rfl⟩|⟨id,off,cx,vs,rw',rfl,h2,h3⟩⟩:=hs
 ·omega
 ·have hle:i*e+e≤n*e:=by
   have:=Nat.mul_le_mul_right e (show i+1≤n by omega)
   rw[Nat.add_mul,Nat.one_mul]at this;exact this
  refine⟨.pointer (some ⟨id,off+i*e,none⟩),?_,id,off+i*e,vs,e,rw',rfl,h2,?_⟩
  ·rw[idS_eq]
   have hh:0≤Int.ofNat i∧Int.ofNat i<(n:Int):=⟨Int.natCast_nonneg i,by show(i:Int)<n;omega⟩
   simp only[if_pos hh]
   have:¬(tag e=some 1):=by simp[tag]
   simp only[if_neg this]
   rfl
  ·have hc:=cut_cut h3 hle
   have hl:=cut_len hc
   rw[hl];exact hc
theorem LsH.at{α:Type}{h:HL}{v:Value}{e:Nat}{enc:α→List Value}{l:List α}(hs:LsH h v e enc l){i:Nat}{a:α}(hi:l[i]? = some a):∃p,idS e v (.ofNat i)=some p∧Ptr h p (enc a):=by
 have hlt:i<l.length:=by
  rcases Nat.lt_or_ge i l.length with h|h
  ·exact h
  ·rw[List.getElem?_eq_none h]at hi;cases hi
 obtain⟨p,h1,h2⟩:=hs.2.at hlt
 rw[lF hs.1 hi]at h2
 exact⟨p,h1,h2⟩
theorem Ptr.fd{h:HL}{p:Value}{cs:List Value}(hp:Ptr h p cs)(o k:Nat)(hk:o+k≤cs.length):∃p',fdP o p=some p'∧Ptr h p' ((cs.drop o).take k):=by
 obtain⟨id,o',vs,e,rw',rfl,h2,h3⟩:=hp
 refine⟨_,rfl,id,o'+o,vs,e,rw',rfl,h2,?_⟩
 have hc:=cut_cut h3 hk
 rw[cut_len hc];exact hc
section
variable [Val] [Kno]
theorem qr{T:Nat→Site}{h:HL}{i:Nat}{o:HObj}(hi:h[i]? = some (.o o)):getH T h i=some o:=by
 unfold getH;rw[hi];rfl
theorem Ptr.ld{T:Nat→Site}{h:HL}{p:Value}{cs:List Value}(hp:Ptr h p cs){n:Nat}(hn:cs.length=n):(Pk.ld n p).run (getH T h)=some cs:=by
 obtain⟨id,o,vs,e,rw',rfl,h2,h3⟩:=hp
 subst hn
 show(match (none:Option Nat)with|none=>(fc (getH T h) id).bind fun vs=>cut vs o cs.length|some _=>none)=_
 unfold fc
 rw[qr h2]
 exact h3
theorem Ptr.lg{C:Cfg}{T:Nat→Site}{h:HL}{p:Value}{cs:List Value}(hp:Ptr h p cs){n:Nat}(hn:cs.length=n):(Pk.lg C n p).run (getH T h)=some cs:=by
 obtain⟨id,o,vs,e,rw',rfl,h2,h3⟩:=hp
 subst hn
 show(fc (getH T h) id).bind (fun vs=>cut vs o cs.length)=_
 unfold fc
 rw[qr h2]
 exact h3
variable {C:Cfg} {Sg:FuncId→Option Sig} {T:Nat→Site}
end
end Sx
end Go.Am

/-
 RULES FOR LOOPS AND SLICES.
-/
set_option maxRecDepth 100000
namespace Go.Am
namespace Sx
theorem Ptr.good{h:HL}{p:Value}{cs:List Value}(hp:Ptr h p cs):cN p=true:=by
 obtain⟨id,o,vs,e,rw',rfl,_⟩:=hp
 simp[cN,noLoc,bv,cV,co,br,aT]
theorem SlC.good{h:HL}{v:Value}{e n:Nat}{cs:List Value}(hs:SlC h v e n cs):cN v=true:=by
 obtain⟨_,⟨rfl,_⟩|⟨id,off,cx,vs,rw',rfl,_⟩⟩:=hs
 ·rfl
 ·simp[cN,noLoc,bv,cV,co,br,aT,tag]
theorem LsH.good{α:Type}{h:HL}{v:Value}{e:Nat}{enc:α→List Value}{l:List α}(hs:LsH h v e enc l):cN v=true:=hs.2.good
section
variable [Val] [Kno] {C:Cfg} {Sg:FuncId→Option Sig} {T:Nat→Site}
end
end Sx
end Go.Am

/-
 CALLS THAT MAKE BLOCKS: what a run over some blocks alone answers and makes,holds whatever else there is: the new blocks come behind.
-/
namespace Go.Am
namespace Sx
section
variable [Val]
end
end Sx
end Go.Am

/-
 WHAT RUNS OVER AN EMPTY HEAP TELL: answers,and lists that are made.
-/
set_option maxRecDepth 100000
namespace Go.Am
open Sx Go.Proofs
end Go.Am

/-
 PARTS OF FUNCTIONS,BY PROGRAM: what a run of them shows,holds.
-/
set_option maxRecDepth 100000
namespace Go.Am
open Sx Go.Proofs
section
variable {R HT:Type} (A:Alg R HT)
noncomputable def ft3a(l12:List Lf)(h13:HT)(E:Int→Int→Value→HT→R)(K:List Lf→HT→R):R:=A.unI l12 (fun n14 l15=>A.unI l15 (fun n16 l17=>A.un0 l17 ( A.call 5 [(.i n14),(.i n16)] h13 (fun l18 h19=>A.unV l18 (fun x20 l21=>A.unI l21 (fun n22 l23=>A.un0 l23 ( A.cmp .neq n22 (.ofNat 0) (fun t24=>A.cond t24 ( K [(.b false)] h19) ( A.opt (lenS x20) (fun x25=>A.cmp .eql x25 (.ofNat 0) (fun t26=>A.cond t26 ( K [(.b false)] h19) ( E n14 n16 x20 h19))))))))))))
noncomputable def ft3c(n14:Int)(n16:Int)(x20:Value)(n29:Int)(h19:HT)(K:List Lf→HT→R):R:=A.opt (idS 2 x20 n29) (fun x30=>A.peek (.lg cc 2 x30) h19 (fun l31=>A.ucI .i64 l31 (fun n32 l33=>A.ucI .i64 l33 (fun n34 l35=>A.uc0 l35 ( A.call 6 [(.i n14),(.i n16),(.i n32),(.i n34)] h19 (fun l36 h37=>A.unV l36 (fun x38 l39=>A.unI l39 (fun n40 l41=>A.un0 l41 ( A.ari .rem .i64 n32 (.ofNat 2) (fun n42=>A.cmp .eql n42 (.ofNat 1) (fun t43=>A.join (fun l44 h45=>A.unI l44 (fun n46 l47=>A.un0 l47 ( A.cmp .neq n40 (.ofNat 0) (fun t48=>A.cond t48 ( K [(.b false)] h45) ( A.opt (lenS x38) (fun x49=>A.cmp .neq x49 n46 (fun t50=>A.cond t50 ( K [(.b false)] h45) ( A.call 8 [(.i n14),(.i n16),(.i n32),(.i n34)] h45 (fun l51 h52=>A.unV l51 (fun x53 l54=>A.un0 l54 ( A.call 7 [(.v x38),(.v x53)] h52 (fun l55 h56=>A.unI l55 (fun n57 l58=>A.un0 l58 ( A.cmp .eql n57 (.ofNat 0) (fun t59=>A.cond t59 ( K [(.b false)] h56) ( A.loop (fun s60 l61 h62=>A.unI l61 (fun n63 l64=>A.un0 l64 ( A.cmp .lss n63 n46 (fun t65=>A.cond t65 ( A.loop (fun s66 l67 h68=>A.unB l67 (fun t69 l70=>A.unI l70 (fun n71 l72=>A.un0 l72 ( A.cmp .lss n71 (.ofNat 3) (fun t73=>A.cond t73 ( A.join (fun l74 h75=>A.unB l74 (fun t76 l77=>A.un0 l77 ( A.ari .add .i64 n71 (.ofNat 1) (fun n78=>s66 [(.b t76),(.i n78)] h75)))) (fun j79=>A.cond t69 ( j79 [(.b true)] h68) ( A.opt (idS 1 x38 n63) (fun x80=>A.peek (.lg cc 1 x80) h68 (fun l81=>A.ucI .i64 l81 (fun n82 l83=>A.uc0 l83 ( A.call 9 [(.i n14),(.i n16),(.i n82),(.i n71)] h68 (fun l84 h85=>A.unI l84 (fun n86 l87=>A.un0 l87 ( A.ari .add .i64 n63 (.ofNat 1) (fun n88=>A.ari .rem .i64 n88 n46 (fun n89=>A.opt (idS 1 x38 n89) (fun x90=>A.peek (.lg cc 1 x90) h85 (fun l91=>A.ucI .i64 l91 (fun n92 l93=>A.uc0 l93 ( A.cmp .eql n86 n92 (fun t94=>j79 [(.b t94)] h85))))))))))))))))) ( A.cond (!t69) ( K [(.b false)] h68) ( A.ari .add .i64 n63 (.ofNat 1) (fun n95=>s60 [(.i n95)] h68)))))))) [(.b false),(.i (.ofNat 0))] h62) ( A.call 10 [] h62 (fun l96 h97=>A.unB l96 (fun t98 l99=>A.un0 l99 ( K [(.b t98)] h97)))))))) [(.i (.ofNat 0))] h56)))))))))))))))) (fun j100=>A.cond t43 ( j100 [(.i (.ofNat 4))] h37) ( j100 [(.i (.ofNat 8))] h37)))))))))))))
end
def pt3a(A:Alg Prop HL)(l12:List Lf)(h13:HL)(E:Int→Int→Value→HL→Prop)(K:List Lf→HL→Prop):Prop:=A.unI l12 (@hid _ ⟨fun n14 l15=>A.unI l15 (@hid _ ⟨fun n16 l17=>A.un0 l17 (@hid _ ⟨A.call 5 [(.i n14),(.i n16)] h13 (@hid _ ⟨fun l18 h19=>A.unV l18 (@hid _ ⟨fun x20 l21=>A.unI l21 (@hid _ ⟨fun n22 l23=>A.un0 l23 (@hid _ ⟨A.cmp .neq n22 0 (@hid _ ⟨fun t24=>A.cond t24 (@hid _ ⟨K [(.b false)] h19⟩) (@hid _ ⟨A.opt (lenS x20) (@hid _ ⟨fun x25=>A.cmp .eql x25 0 (@hid _ ⟨fun t26=>A.cond t26 (@hid _ ⟨K [(.b false)] h19⟩) (@hid _ ⟨E n14 n16 x20 h19⟩)⟩)⟩)⟩)⟩)⟩)⟩)⟩)⟩)⟩)⟩)⟩)
theorem gt3a:(fun A:Alg Prop HL=>pt3a A)=fun A=>ft3a A:=by kernel_rfl
theorem st3a{call:aa}(hc:CallBOk cc ab ac call)(l12:List Lf)(h13:HTr){E:Int→Int→Value→HTr→RT}{E':Int→Int→Value→HL→Prop}(hE:∀n14 n16 x20 h19,E n14 n16 x20 h19=yes→E' n14 n16 x20 (toL h19)){K:List Lf→HTr→RT}{K':List Lf→HL→Prop}(hK:KLe K K') :
  ft3a (BA ab ac call) l12 h13 E K=yes→pt3a P1 l12 (toL h13) E' K':=by
 have e:pt3a P1 l12 (toL h13) E' K'=ft3a P1 l12 (toL h13) E' K':=congrFun (congrFun (congrFun (congrFun (congrFun gt3a P1) l12) (toL h13)) E') K'
 rw[e]
 exact nA hc (fun n14 l15=>nA hc (fun n16 l17=>kP hc (mi hc (fun l18 h19=>s_unV hc (fun x20 l21=>nA hc (fun n22 l23=>kP hc (nz hc (fun t24=>fY hc (hK _ _) (s_opt hc (fun x25=>nz hc (fun t26=>fY hc (hK _ _) (hE _ _ _ _))))))))))))
def pt3b(A:Alg Prop HL)(n10:Int)(n14:Int)(n16:Int)(x20:Value)(h19:HL)(K:List Lf→HL→Prop):Prop:=A.conv .i64 n10 (@hid _ ⟨fun n27=>A.opt (lenS x20) (@hid _ ⟨fun x28=>A.ari .rem .i64 n27 x28 (@hid _ ⟨fun n29=>A.opt (idS 2 x20 n29) (@hid _ ⟨fun x30=>A.peek (.lg cc 2 x30) h19 (@hid _ ⟨fun l31=>A.ucI .i64 l31 (@hid _ ⟨fun n32 l33=>A.ucI .i64 l33 (@hid _ ⟨fun n34 l35=>A.uc0 l35 (@hid _ ⟨A.call 6 [(.i n14),(.i n16),(.i n32),(.i n34)] h19 (@hid _ ⟨fun l36 h37=>A.unV l36 (@hid _ ⟨fun x38 l39=>A.unI l39 (@hid _ ⟨fun n40 l41=>A.un0 l41 (@hid _ ⟨A.ari .rem .i64 n32 2 (@hid _ ⟨fun n42=>A.cmp .eql n42 1 (@hid _ ⟨fun t43=>A.join (@hid _ ⟨fun l44 h45=>A.unI l44 (@hid _ ⟨fun n46 l47=>A.un0 l47 (@hid _ ⟨A.cmp .neq n40 0 (@hid _ ⟨fun t48=>A.cond t48 (@hid _ ⟨K [(.b false)] h45⟩) (@hid _ ⟨A.opt (lenS x38) (@hid _ ⟨fun x49=>A.cmp .neq x49 n46 (@hid _ ⟨fun t50=>A.cond t50 (@hid _ ⟨K [(.b false)] h45⟩) (@hid _ ⟨A.call 8 [(.i n14),(.i n16),(.i n32),(.i n34)] h45 (@hid _ ⟨fun l51 h52=>A.unV l51 (@hid _ ⟨fun x53 l54=>A.un0 l54 (@hid _ ⟨A.call 7 [(.v x38),(.v x53)] h52 (@hid _ ⟨fun l55 h56=>A.unI l55 (@hid _ ⟨fun n57 l58=>A.un0 l58 (@hid _ ⟨A.cmp .eql n57 0 (@hid _ ⟨fun t59=>A.cond t59 (@hid _ ⟨K [(.b false)] h56⟩) (@hid _ ⟨A.loop (@hid _ ⟨fun s60 l61 h62=>A.unI l61 (@hid _ ⟨fun n63 l64=>A.un0 l64 (@hid _ ⟨A.cmp .lss n63 n46 (@hid _ ⟨fun t65=>A.cond t65 (@hid _ ⟨A.loop (@hid _ ⟨fun s66 l67 h68=>A.unB l67 (@hid _ ⟨fun t69 l70=>A.unI l70 (@hid _ ⟨fun n71 l72=>A.un0 l72 (@hid _ ⟨A.cmp .lss n71 3 (@hid _ ⟨fun t73=>A.cond t73 (@hid _ ⟨A.join (@hid _ ⟨fun l74 h75=>A.unB l74 (@hid _ ⟨fun t76 l77=>A.un0 l77 (@hid _ ⟨A.ari .add .i64 n71 1 (@hid _ ⟨fun n78=>s66 [(.b t76),(.i n78)] h75⟩)⟩)⟩)⟩) (@hid _ ⟨fun j79=>A.cond t69 (@hid _ ⟨j79 [(.b true)] h68⟩) (@hid _ ⟨A.opt (idS 1 x38 n63) (@hid _ ⟨fun x80=>A.peek (.lg cc 1 x80) h68 (@hid _ ⟨fun l81=>A.ucI .i64 l81 (@hid _ ⟨fun n82 l83=>A.uc0 l83 (@hid _ ⟨A.call 9 [(.i n14),(.i n16),(.i n82),(.i n71)] h68 (@hid _ ⟨fun l84 h85=>A.unI l84 (@hid _ ⟨fun n86 l87=>A.un0 l87 (@hid _ ⟨A.ari .add .i64 n63 1 (@hid _ ⟨fun n88=>A.ari .rem .i64 n88 n46 (@hid _ ⟨fun n89=>A.opt (idS 1 x38 n89) (@hid _ ⟨fun x90=>A.peek (.lg cc 1 x90) h85 (@hid _ ⟨fun l91=>A.ucI .i64 l91 (@hid _ ⟨fun n92 l93=>A.uc0 l93 (@hid _ ⟨A.cmp .eql n86 n92 (@hid _ ⟨fun t94=>j79 [(.b t94)] h85⟩)⟩)⟩)⟩)⟩)⟩)⟩)⟩)⟩)⟩)⟩)⟩)⟩)⟩)⟩)⟩)⟩) (@hid _ ⟨A.cond (!t69) (@hid _ ⟨K [(.b false)] h68⟩) (@hid _ ⟨A.ari .add .i64 n63 1 (@hid _ ⟨fun n95=>s60 [(.i n95)] h68⟩)⟩)⟩)⟩)⟩)⟩)⟩)⟩) [(.b false),(.i 0)] h62⟩) (@hid _ ⟨A.call 10 [] h62 (@hid _ ⟨fun l96 h97=>A.unB l96 (@hid _ ⟨fun t98 l99=>A.un0 l99 (@hid _ ⟨K [(.b t98)] h97⟩)⟩)⟩)⟩)⟩)⟩)⟩)⟩) [(.i 0)] h56⟩)⟩)⟩)⟩)⟩)⟩)⟩)⟩)⟩)⟩)⟩)⟩)⟩)⟩)⟩)⟩) (@hid _ ⟨fun j100=>A.cond t43 (@hid _ ⟨j100 [(.i 4)] h37⟩) (@hid _ ⟨j100 [(.i 8)] h37⟩)⟩)⟩)⟩)⟩)⟩)⟩)⟩)⟩)⟩)⟩)⟩)⟩)⟩)⟩)⟩)
def pt3c(A:Alg Prop HL)(n14:Int)(n16:Int)(x20:Value)(n29:Int)(h19:HL)(K:List Lf→HL→Prop):Prop:=A.opt (idS 2 x20 n29) (@hid _ ⟨fun x30=>A.peek (.lg cc 2 x30) h19 (@hid _ ⟨fun l31=>A.ucI .i64 l31 (@hid _ ⟨fun n32 l33=>A.ucI .i64 l33 (@hid _ ⟨fun n34 l35=>A.uc0 l35 (@hid _ ⟨A.call 6 [(.i n14),(.i n16),(.i n32),(.i n34)] h19 (@hid _ ⟨fun l36 h37=>A.unV l36 (@hid _ ⟨fun x38 l39=>A.unI l39 (@hid _ ⟨fun n40 l41=>A.un0 l41 (@hid _ ⟨A.ari .rem .i64 n32 2 (@hid _ ⟨fun n42=>A.cmp .eql n42 1 (@hid _ ⟨fun t43=>A.join (@hid _ ⟨fun l44 h45=>A.unI l44 (@hid _ ⟨fun n46 l47=>A.un0 l47 (@hid _ ⟨A.cmp .neq n40 0 (@hid _ ⟨fun t48=>A.cond t48 (@hid _ ⟨K [(.b false)] h45⟩) (@hid _ ⟨A.opt (lenS x38) (@hid _ ⟨fun x49=>A.cmp .neq x49 n46 (@hid _ ⟨fun t50=>A.cond t50 (@hid _ ⟨K [(.b false)] h45⟩) (@hid _ ⟨A.call 8 [(.i n14),(.i n16),(.i n32),(.i n34)] h45 (@hid _ ⟨fun l51 h52=>A.unV l51 (@hid _ ⟨fun x53 l54=>A.un0 l54 (@hid _ ⟨A.call 7 [(.v x38),(.v x53)] h52 (@hid _ ⟨fun l55 h56=>A.unI l55 (@hid _ ⟨fun n57 l58=>A.un0 l58 (@hid _ ⟨A.cmp .eql n57 0 (@hid _ ⟨fun t59=>A.cond t59 (@hid _ ⟨K [(.b false)] h56⟩) (@hid _ ⟨A.loop (@hid _ ⟨fun s60 l61 h62=>A.unI l61 (@hid _ ⟨fun n63 l64=>A.un0 l64 (@hid _ ⟨A.cmp .lss n63 n46 (@hid _ ⟨fun t65=>A.cond t65 (@hid _ ⟨A.loop (@hid _ ⟨fun s66 l67 h68=>A.unB l67 (@hid _ ⟨fun t69 l70=>A.unI l70 (@hid _ ⟨fun n71 l72=>A.un0 l72 (@hid _ ⟨A.cmp .lss n71 3 (@hid _ ⟨fun t73=>A.cond t73 (@hid _ ⟨A.join (@hid _ ⟨fun l74 h75=>A.unB l74 (@hid _ ⟨fun t76 l77=>A.un0 l77 (@hid _ ⟨A.ari .add .i64 n71 1 (@hid _ ⟨fun n78=>s66 [(.b t76),(.i n78)] h75⟩)⟩)⟩)⟩) (@hid _ ⟨fun j79=>A.cond t69 (@hid _ ⟨j79 [(.b true)] h68⟩) (@hid _ ⟨A.opt (idS 1 x38 n63) (@hid _ ⟨fun x80=>A.peek (.lg cc 1 x80) h68 (@hid _ ⟨fun l81=>A.ucI .i64 l81 (@hid _ ⟨fun n82 l83=>A.uc0 l83 (@hid _ ⟨A.call 9 [(.i n14),(.i n16),(.i n82),(.i n71)] h68 (@hid _ ⟨fun l84 h85=>A.unI l84 (@hid _ ⟨fun n86 l87=>A.un0 l87 (@hid _ ⟨A.ari .add .i64 n63 1 (@hid _ ⟨fun n88=>A.ari .rem .i64 n88 n46 (@hid _ ⟨fun n89=>A.opt (idS 1 x38 n89) (@hid _ ⟨fun x90=>A.peek (.lg cc 1 x90) h85 (@hid _ ⟨fun l91=>A.ucI .i64 l91 (@hid _ ⟨fun n92 l93=>A.uc0 l93 (@hid _ ⟨A.cmp .eql n86 n92 (@hid _ ⟨fun t94=>j79 [(.b t94)] h85⟩)⟩)⟩)⟩)⟩)⟩)⟩)⟩)⟩)⟩)⟩)⟩)⟩)⟩)⟩)⟩)⟩) (@hid _ ⟨A.cond (!t69) (@hid _ ⟨K [(.b false)] h68⟩) (@hid _ ⟨A.ari .add .i64 n63 1 (@hid _ ⟨fun n95=>s60 [(.i n95)] h68⟩)⟩)⟩)⟩)⟩)⟩)⟩)⟩) [(.b false),(.i 0)] h62⟩) (@hid _ ⟨A.call 10 [] h62 (@hid _ ⟨fun l96 h97=>A.unB l96 (@hid _ ⟨fun t98 l99=>A.un0 l99 (@hid _ ⟨K [(.b t98)] h97⟩)⟩)⟩)⟩)⟩)⟩)⟩)⟩) [(.i 0)] h56⟩)⟩)⟩)⟩)⟩)⟩)⟩)⟩)⟩)⟩)⟩)⟩)⟩)⟩)⟩)⟩) (@hid _ ⟨fun j100=>A.cond t43 (@hid _ ⟨j100 [(.i 4)] h37⟩) (@hid _ ⟨j100 [(.i 8)] h37⟩)⟩)⟩)⟩)⟩)⟩)⟩)⟩)⟩)⟩)⟩)⟩)⟩)
theorem gt3c:(fun A:Alg Prop HL=>pt3c A)=fun A=>ft3c A:=by kernel_rfl
theorem st3c{call:aa}(hc:CallBOk cc ab ac call)(n14:Int)(n16:Int)(x20:Value)(n29:Int)(h19:HTr){K:List Lf→HTr→RT}{K':List Lf→HL→Prop}(hK:KLe K K') :
  ft3c (BA ab ac call) n14 n16 x20 n29 h19 K=yes→pt3c P1 n14 n16 x20 n29 (toL h19) K':=by
 have e:pt3c P1 n14 n16 x20 n29 (toL h19) K'=ft3c P1 n14 n16 x20 n29 (toL h19) K':=congrFun (congrFun (congrFun (congrFun (congrFun (congrFun (congrFun gt3c P1) n14) n16) x20) n29) (toL h19)) K'
 rw[e]
 exact s_opt hc (fun x30=>s_peek hc (fun l31=>s_ucI hc (fun n32 l33=>s_ucI hc (fun n34 l35=>s_uc0 hc (mi hc (fun l36 h37=>s_unV hc (fun x38 l39=>nA hc (fun n40 l41=>kP hc (s_ari hc (fun n42=>nz hc (fun t43=>s_join hc (fun l44 h45=>nA hc (fun n46 l47=>kP hc (nz hc (fun t48=>fY hc (hK _ _) (s_opt hc (fun x49=>nz hc (fun t50=>fY hc (hK _ _) (mi hc (fun l51 h52=>s_unV hc (fun x53 l54=>kP hc (mi hc (fun l55 h56=>nA hc (fun n57 l58=>kP hc (nz hc (fun t59=>fY hc (hK _ _) (s_loop hc (fun s60 s60p h_s60 l61 h62=>nA hc (fun n63 l64=>kP hc (nz hc (fun t65=>fY hc (s_loop hc (fun s66 s66p h_s66 l67 h68=>s_unB hc (fun t69 l70=>nA hc (fun n71 l72=>kP hc (nz hc (fun t73=>fY hc (s_join hc (fun l74 h75=>s_unB hc (fun t76 l77=>kP hc (s_ari hc (fun n78=>h_s66 _ _)))) (fun j79 j79p h_j79=>fY hc (h_j79 _ _) (s_opt hc (fun x80=>s_peek hc (fun l81=>s_ucI hc (fun n82 l83=>s_uc0 hc (mi hc (fun l84 h85=>nA hc (fun n86 l87=>kP hc (s_ari hc (fun n88=>s_ari hc (fun n89=>s_opt hc (fun x90=>s_peek hc (fun l91=>s_ucI hc (fun n92 l93=>s_uc0 hc (nz hc (fun t94=>h_j79 _ _))))))))))))))))) (fY hc (hK _ _) (s_ari hc (fun n95=>h_s60 _ _))))))))) (mi hc (fun l96 h97=>s_unB hc (fun t98 l99=>kP hc (hK _ _)))))))))))))))))))))))) (fun j100 j100p h_j100=>fY hc (h_j100 _ _) (h_j100 _ _)))))))))))))
end Go.Am

/-
 THE FUNCTIONS OVER THE ALGEBRA OF PROPOSITIONS,BY PROGRAM.
-/
set_option maxRecDepth 100000
namespace Go.Am
open Sx Go.Proofs
/-- crimp/crimplaw09.CornersAround -/
def p3(A:Alg Prop (HL))(ls:List Lf)(h:HL)(K:List Lf→HL→Prop):Prop:=A.unI ls (@hid _ ⟨fun n6 a8=>A.unI a8 (@hid _ ⟨fun n8 a9=>A.unI a9 (@hid _ ⟨fun n10 b0=>A.un0 b0 (@hid _ ⟨A.call 4 [(.i n6),(.i n8)] h (@hid _ ⟨fun b1 b2=>A.unI b1 (@hid _ ⟨fun n14 c0=>A.unI c0 (@hid _ ⟨fun n16 c1=>A.un0 c1 (@hid _ ⟨A.call 5 [(.i n14),(.i n16)] b2 (@hid _ ⟨fun d0 O=>A.unV d0 (@hid _ ⟨fun V d1=>A.unI d1 (@hid _ ⟨fun n22 d2=>A.un0 d2 (@hid _ ⟨A.cmp .neq n22 0 (@hid _ ⟨fun d3=>A.cond d3 (@hid _ ⟨K [(.b false)] O⟩) (@hid _ ⟨A.opt (lenS V) (@hid _ ⟨fun d4=>A.cmp .eql d4 0 (@hid _ ⟨fun d5=>A.cond d5 (@hid _ ⟨K [(.b false)] O⟩) (@hid _ ⟨A.conv .i64 n10 (@hid _ ⟨fun n27=>A.opt (lenS V) (@hid _ ⟨fun d6=>A.ari .rem .i64 n27 d6 (@hid _ ⟨fun n29=>A.opt (idS 2 V n29) (@hid _ ⟨fun d7=>A.peek (.lg cc 2 d7) O (@hid _ ⟨fun d8=>A.ucI .i64 d8 (@hid _ ⟨fun n32 d9=>A.ucI .i64 d9 (@hid _ ⟨fun n34 e0=>A.uc0 e0 (@hid _ ⟨A.call 6 [(.i n14),(.i n16),(.i n32),(.i n34)] O (@hid _ ⟨fun e1 a1=>A.unV e1 (@hid _ ⟨fun U e2=>A.unI e2 (@hid _ ⟨fun n40 f0=>A.un0 f0 (@hid _ ⟨A.ari .rem .i64 n32 2 (@hid _ ⟨fun n42=>A.cmp .eql n42 1 (@hid _ ⟨fun f1=>A.join (@hid _ ⟨fun f2 a0=>A.unI f2 (@hid _ ⟨fun n46 gl=>A.un0 gl (@hid _ ⟨A.cmp .neq n40 0 (@hid _ ⟨fun g0=>A.cond g0 (@hid _ ⟨K [(.b false)] a0⟩) (@hid _ ⟨A.opt (lenS U) (@hid _ ⟨fun g1=>A.cmp .neq g1 n46 (@hid _ ⟨fun g2=>A.cond g2 (@hid _ ⟨K [(.b false)] a0⟩) (@hid _ ⟨A.call 8 [(.i n14),(.i n16),(.i n32),(.i n34)] a0 (@hid _ ⟨fun g5 g6=>A.unV g5 (@hid _ ⟨fun g7 g8=>A.un0 g8 (@hid _ ⟨A.call 7 [(.v U),(.v g7)] g6 (@hid _ ⟨fun g9 a2=>A.unI g9 (@hid _ ⟨fun n57 h0=>A.un0 h0 (@hid _ ⟨A.cmp .eql n57 0 (@hid _ ⟨fun h1=>A.cond h1 (@hid _ ⟨K [(.b false)] a2⟩) (@hid _ ⟨A.loop (@hid _ ⟨fun h2 h5 a3=>A.unI h5 (@hid _ ⟨fun n63 h6=>A.un0 h6 (@hid _ ⟨A.cmp .lss n63 n46 (@hid _ ⟨fun h7=>A.cond h7 (@hid _ ⟨A.loop (@hid _ ⟨fun h8 h9 J=>A.unB h9 (@hid _ ⟨fun a4 i0=>A.unI i0 (@hid _ ⟨fun n71 i1=>A.un0 i1 (@hid _ ⟨A.cmp .lss n71 3 (@hid _ ⟨fun i2=>A.cond i2 (@hid _ ⟨A.join (@hid _ ⟨fun j0 j1=>A.unB j0 (@hid _ ⟨fun j2 j3=>A.un0 j3 (@hid _ ⟨A.ari .add .i64 n71 1 (@hid _ ⟨fun j4=>h8 [(.b j2),(.i j4)] j1⟩)⟩)⟩)⟩) (@hid _ ⟨fun a5=>A.cond a4 (@hid _ ⟨a5 [(.b true)] J⟩) (@hid _ ⟨A.opt (idS 1 U n63) (@hid _ ⟨fun j5=>A.peek (.lg cc 1 j5) J (@hid _ ⟨fun j6=>A.ucI .i64 j6 (@hid _ ⟨fun j7 j8=>A.uc0 j8 (@hid _ ⟨A.call 9 [(.i n14),(.i n16),(.i j7),(.i n71)] J (@hid _ ⟨fun j9 a6=>A.unI j9 (@hid _ ⟨fun n86 k0=>A.un0 k0 (@hid _ ⟨A.ari .add .i64 n63 1 (@hid _ ⟨fun n88=>A.ari .rem .i64 n88 n46 (@hid _ ⟨fun n89=>A.opt (idS 1 U n89) (@hid _ ⟨fun k1=>A.peek (.lg cc 1 k1) a6 (@hid _ ⟨fun k2=>A.ucI .i64 k2 (@hid _ ⟨fun k3 k4=>A.uc0 k4 (@hid _ ⟨A.cmp .eql n86 k3 (@hid _ ⟨fun k5=>a5 [(.b k5)] a6⟩)⟩)⟩)⟩)⟩)⟩)⟩)⟩)⟩)⟩)⟩)⟩)⟩)⟩)⟩)⟩)⟩) (@hid _ ⟨A.cond (!a4) (@hid _ ⟨K [(.b false)] J⟩) (@hid _ ⟨A.ari .add .i64 n63 1 (@hid _ ⟨fun k6=>h2 [(.i k6)] J⟩)⟩)⟩)⟩)⟩)⟩)⟩)⟩) [(.b false),(.i 0)] a3⟩) (@hid _ ⟨A.call 10 [] a3 (@hid _ ⟨fun k7 k8=>A.unB k7 (@hid _ ⟨fun k9 l0=>A.un0 l0 (@hid _ ⟨K [(.b k9)] k8⟩)⟩)⟩)⟩)⟩)⟩)⟩)⟩) [(.i 0)] a2⟩)⟩)⟩)⟩)⟩)⟩)⟩)⟩)⟩)⟩)⟩)⟩)⟩)⟩)⟩)⟩) (@hid _ ⟨fun a7=>A.cond f1 (@hid _ ⟨a7 [(.i 4)] a1⟩) (@hid _ ⟨a7 [(.i 8)] a1⟩)⟩)⟩)⟩)⟩)⟩)⟩)⟩)⟩)⟩)⟩)⟩)⟩)⟩)⟩)⟩)⟩)⟩)⟩)⟩)⟩)⟩)⟩)⟩)⟩)⟩)⟩)⟩)⟩)⟩)⟩)⟩)⟩)
theorem g3:(fun A:Alg Prop (HL)=>p3 A)=fun A=>f3 A:=by kernel_rfl
theorem h3(ls:List Lf)(H:HL)(K:List Lf→HL→Prop):p3 P1 ls H K=aE P1 (xc 3) ab drN n3 ls H K:=
 congrFun (congrFun (congrFun ((congrFun g3 P1).trans (congrFun (congrFun (congrFun e3 Prop) (HL)) P1)) ls) H) K
theorem u3{ls:List Lf}{H:HL}{K:List Lf→HL→Prop}(hls:cU ls=true)(h:p3 P1 ls H K):∃rs H',dg cc ab 3 ls (absH ac H) rs (absH ac H')∧K rs H':=
 fn_ok i3 hls (h3 ls H K▸h)
theorem q3{ls rs:List Lf}(hls:cU ls=true)(h:p3 P1 ls [] fun rs' _=>rs'=rs):Cc 3 ls rs:=by
 obtain⟨_,_,h1,rfl⟩:=u3 hls h
 exact ct_of rK iq (sg:=⟨[.agg [.i .u8,.i .u8],.leaf (.i .u8)],[lb]⟩) rfl (by kernel_rfl) h1
/-- (crimp/crimplaw05.W).Of -/
def p4(A:Alg Prop (HL))(ls:List Lf)(h:HL)(K:List Lf→HL→Prop):Prop:=A.unI ls (@hid _ ⟨fun n6 J=>A.unI J (@hid _ ⟨fun n8 O=>A.un0 O (@hid _ ⟨A.ari .rem .u8 n6 5 (@hid _ ⟨fun n10=>A.conv .i64 n10 (@hid _ ⟨fun n11=>A.ari .add .i64 1 n11 (@hid _ ⟨fun n12=>A.ari .rem .u8 n8 5 (@hid _ ⟨fun n13=>A.conv .i64 n13 (@hid _ ⟨fun n14=>A.ari .add .i64 1 n14 (@hid _ ⟨fun n15=>K [(.i n12),(.i n15)] h⟩)⟩)⟩)⟩)⟩)⟩)⟩)⟩)⟩)
theorem g4:(fun A:Alg Prop (HL)=>p4 A)=fun A=>f4 A:=by kernel_rfl
theorem h4(ls:List Lf)(H:HL)(K:List Lf→HL→Prop):p4 P1 ls H K=aE P1 (xc 4) ab drN n4 ls H K:=
 congrFun (congrFun (congrFun ((congrFun g4 P1).trans (congrFun (congrFun (congrFun e4 Prop) (HL)) P1)) ls) H) K
theorem u4{ls:List Lf}{H:HL}{K:List Lf→HL→Prop}(hls:cU ls=true)(h:p4 P1 ls H K):∃rs H',dg cc ab 4 ls (absH ac H) rs (absH ac H')∧K rs H':=
 fn_ok i4 hls (h4 ls H K▸h)
theorem q4{ls rs:List Lf}(hls:cU ls=true)(h:p4 P1 ls [] fun rs' _=>rs'=rs):Cc 4 ls rs:=by
 obtain⟨_,_,h1,rfl⟩:=u4 hls h
 exact ct_of rK iq (sg:=⟨[.agg [.i .u8,.i .u8]],[.agg [.i .i64,.i .i64]]⟩) rfl (by kernel_rfl) h1
/-- crimp/crimpref09.has -/
def p16(A:Alg Prop (HL))(ls:List Lf)(h:HL)(K:List Lf→HL→Prop):Prop:=A.unI ls (@hid _ ⟨fun n6 a0=>A.unI a0 (@hid _ ⟨fun n8 a1=>A.unI a1 (@hid _ ⟨fun n10 a2=>A.unI a2 (@hid _ ⟨fun n12 a3=>A.unI a3 (@hid _ ⟨fun n14 a4=>A.un0 a4 (@hid _ ⟨A.call 33 [(.i n6),(.i n8),(.i n10)] h (@hid _ ⟨fun a5 a6=>A.unI a5 (@hid _ ⟨fun n18 a7=>A.unI a7 (@hid _ ⟨fun n20 a8=>A.unI a8 (@hid _ ⟨fun n22 a9=>A.unI a9 (@hid _ ⟨fun n24 b0=>A.unI b0 (@hid _ ⟨fun n26 b1=>A.unI b1 (@hid _ ⟨fun n28 b2=>A.un0 b2 (@hid _ ⟨A.loop (@hid _ ⟨fun c0 c1 J=>A.unI c1 (@hid _ ⟨fun n33 d0=>A.unI d0 (@hid _ ⟨fun n35 d1=>A.unI d1 (@hid _ ⟨fun n37 d2=>A.un0 d2 (@hid _ ⟨A.cmp .lss n37 3 (@hid _ ⟨fun d3=>A.cond d3 (@hid _ ⟨A.opt (inB 3 n37) (@hid _ ⟨fun g7=>A.opt (bC [(.i n18),(.i n20),(.i n22),(.i n24),(.i n26),(.i n28)] 0 [(n37,2)] 2) (@hid _ ⟨fun d4=>A.unI d4 (@hid _ ⟨fun n42 d5=>A.unI d5 (@hid _ ⟨fun n44 d6=>A.un0 d6 (@hid _ ⟨A.ari .add .i64 n37 1 (@hid _ ⟨fun n46=>A.ari .rem .i64 n46 3 (@hid _ ⟨fun n47=>A.opt (inB 3 n47) (@hid _ ⟨fun g8=>A.opt (bC [(.i n18),(.i n20),(.i n22),(.i n24),(.i n26),(.i n28)] 0 [(n47,2)] 2) (@hid _ ⟨fun d7=>A.unI d7 (@hid _ ⟨fun n50 d8=>A.unI d8 (@hid _ ⟨fun n52 d9=>A.un0 d9 (@hid _ ⟨A.ari .mul .i64 12 n50 (@hid _ ⟨fun n54=>A.ari .mul .i64 12 n42 (@hid _ ⟨fun n55=>A.ari .sub .i64 n54 n55 (@hid _ ⟨fun n56=>A.ari .mul .i64 12 n44 (@hid _ ⟨fun n57=>A.ari .sub .i64 n14 n57 (@hid _ ⟨fun n58=>A.ari .mul .i64 n56 n58 (@hid _ ⟨fun n59=>A.ari .mul .i64 12 n52 (@hid _ ⟨fun n60=>A.ari .mul .i64 12 n44 (@hid _ ⟨fun n61=>A.ari .sub .i64 n60 n61 (@hid _ ⟨fun n62=>A.ari .mul .i64 12 n42 (@hid _ ⟨fun n63=>A.ari .sub .i64 n12 n63 (@hid _ ⟨fun n64=>A.ari .mul .i64 n62 n64 (@hid _ ⟨fun n65=>A.ari .sub .i64 n59 n65 (@hid _ ⟨fun n66=>A.cmp .gtr n66 0 (@hid _ ⟨fun e0=>A.join (@hid _ ⟨fun e1 O=>A.unI e1 (@hid _ ⟨fun n70 e2=>A.un0 e2 (@hid _ ⟨A.cmp .lss n66 0 (@hid _ ⟨fun f0=>A.join (@hid _ ⟨fun f1 f2=>A.unI f1 (@hid _ ⟨fun n75 gl=>A.un0 gl (@hid _ ⟨A.ari .add .i64 n37 1 (@hid _ ⟨fun g0=>c0 [(.i n70),(.i n75),(.i g0)] f2⟩)⟩)⟩)⟩) (@hid _ ⟨fun U=>A.cond f0 (@hid _ ⟨A.ari .add .i64 n35 1 (@hid _ ⟨fun g1=>U [(.i g1)] O⟩)⟩) (@hid _ ⟨U [(.i n35)] O⟩)⟩)⟩)⟩)⟩)⟩) (@hid _ ⟨fun V=>A.cond e0 (@hid _ ⟨A.ari .add .i64 n33 1 (@hid _ ⟨fun g2=>V [(.i g2)] J⟩)⟩) (@hid _ ⟨V [(.i n33)] J⟩)⟩)⟩)⟩)⟩)⟩)⟩)⟩)⟩)⟩)⟩)⟩)⟩)⟩)⟩)⟩)⟩)⟩)⟩)⟩)⟩)⟩)⟩)⟩)⟩)⟩)⟩)⟩)⟩) (@hid _ ⟨A.cmp .eql n33 3 (@hid _ ⟨fun g5=>A.cond g5 (@hid _ ⟨K [(.i 1)] J⟩) (@hid _ ⟨A.cmp .eql n35 3 (@hid _ ⟨fun g6=>A.cond g6 (@hid _ ⟨K [(.i 1)] J⟩) (@hid _ ⟨K [(.i 0)] J⟩)⟩)⟩)⟩)⟩)⟩)⟩)⟩)⟩)⟩)⟩) [(.i 0),(.i 0),(.i 0)] a6⟩)⟩)⟩)⟩)⟩)⟩)⟩)⟩)⟩)⟩)⟩)⟩)⟩)⟩)
theorem g16:(fun A:Alg Prop (HL)=>p16 A)=fun A=>f16 A:=by kernel_rfl
theorem h16(ls:List Lf)(H:HL)(K:List Lf→HL→Prop):p16 P1 ls H K=aE P1 (xc 16) ab drN n16 ls H K:=
 congrFun (congrFun (congrFun ((congrFun g16 P1).trans (congrFun (congrFun (congrFun e16 Prop) (HL)) P1)) ls) H) K
theorem u16{ls:List Lf}{H:HL}{K:List Lf→HL→Prop}(hls:cU ls=true)(h:p16 P1 ls H K):∃rs H',dg cc ab 16 ls (absH ac H) rs (absH ac H')∧K rs H':=
 fn_ok i16 hls (h16 ls H K▸h)
theorem q16{ls rs:List Lf}(hls:cU ls=true)(h:p16 P1 ls [] fun rs' _=>rs'=rs):Cc 16 ls rs:=by
 obtain⟨_,_,h1,rfl⟩:=u16 hls h
 exact ct_of rK iq (sg:=⟨[.agg [.i .i64,.i .i64,.i .u8],li,li],[li]⟩) rfl (by kernel_rfl) h1
/-- crimp/crimpref03.Corners -/
def p33(A:Alg Prop (HL))(ls:List Lf)(h:HL)(K:List Lf→HL→Prop):Prop:=A.unI ls (@hid _ ⟨fun n6 O=>A.unI O (@hid _ ⟨fun n8 U=>A.unI U (@hid _ ⟨fun n10 V=>A.un0 V (@hid _ ⟨A.ari .mul .i64 2 n6 (@hid _ ⟨fun n12=>A.ari .mul .i64 2 n8 (@hid _ ⟨fun n13=>A.ari .add .i64 n12 2 (@hid _ ⟨fun n14=>A.ari .add .i64 n12 2 (@hid _ ⟨fun n15=>A.ari .add .i64 n13 2 (@hid _ ⟨fun n16=>A.ari .add .i64 n13 2 (@hid _ ⟨fun n17=>A.conv .i64 n10 (@hid _ ⟨fun n18=>A.conv .i64 n10 (@hid _ ⟨fun n19=>A.ari .add .i64 n19 1 (@hid _ ⟨fun n20=>A.ari .rem .i64 n20 4 (@hid _ ⟨fun n21=>A.ari .rem .i64 n18 2 (@hid _ ⟨fun n22=>A.cmp .eql n22 1 (@hid _ ⟨fun a0=>A.join (@hid _ ⟨fun a1 a2=>A.unI a1 (@hid _ ⟨fun n26 a3=>A.unI a3 (@hid _ ⟨fun n28 a4=>A.un0 a4 (@hid _ ⟨A.ari .add .i64 n12 1 (@hid _ ⟨fun n30=>A.ari .add .i64 n13 1 (@hid _ ⟨fun n31=>A.opt (inB 4 n26) (@hid _ ⟨fun b1=>A.opt (bC [(.i n12),(.i n13),(.i n14),(.i n13),(.i n15),(.i n16),(.i n12),(.i n17)] 0 [(n26,2)] 2) (@hid _ ⟨fun a5=>A.unI a5 (@hid _ ⟨fun n34 a6=>A.unI a6 (@hid _ ⟨fun n36 a7=>A.un0 a7 (@hid _ ⟨A.opt (inB 4 n28) (@hid _ ⟨fun b2=>A.opt (bC [(.i n12),(.i n13),(.i n14),(.i n13),(.i n15),(.i n16),(.i n12),(.i n17)] 0 [(n28,2)] 2) (@hid _ ⟨fun a8=>A.unI a8 (@hid _ ⟨fun n40 a9=>A.unI a9 (@hid _ ⟨fun n42 b0=>A.un0 b0 (@hid _ ⟨K [(.i n30),(.i n31),(.i n34),(.i n36),(.i n40),(.i n42)] a2⟩)⟩)⟩)⟩)⟩)⟩)⟩)⟩)⟩)⟩)⟩)⟩)⟩)⟩)⟩)⟩) (@hid _ ⟨fun J=>A.cond a0 (@hid _ ⟨J [(.i n21),(.i n18)] h⟩) (@hid _ ⟨J [(.i n18),(.i n21)] h⟩)⟩)⟩)⟩)⟩)⟩)⟩)⟩)⟩)⟩)⟩)⟩)⟩)⟩)⟩)⟩)⟩)⟩)
theorem g33:(fun A:Alg Prop (HL)=>p33 A)=fun A=>f33 A:=by kernel_rfl
theorem h33(ls:List Lf)(H:HL)(K:List Lf→HL→Prop):p33 P1 ls H K=aE P1 (xc 33) ab drN n33 ls H K:=
 congrFun (congrFun (congrFun ((congrFun g33 P1).trans (congrFun (congrFun (congrFun e33 Prop) (HL)) P1)) ls) H) K
theorem u33{ls:List Lf}{H:HL}{K:List Lf→HL→Prop}(hls:cU ls=true)(h:p33 P1 ls H K):∃rs H',dg cc ab 33 ls (absH ac H) rs (absH ac H')∧K rs H':=
 fn_ok i33 hls (h33 ls H K▸h)
theorem q33{ls rs:List Lf}(hls:cU ls=true)(h:p33 P1 ls [] fun rs' _=>rs'=rs):Cc 33 ls rs:=by
 obtain⟨_,_,h1,rfl⟩:=u33 hls h
 exact ct_of rK iq (sg:=⟨[.agg [.i .i64,.i .i64,.i .u8]],[.agg [.i .i64,.i .i64,.i .i64,.i .i64,.i .i64,.i .i64]]⟩) rfl (by kernel_rfl) h1
end Go.Am

/-
 CONTRACTS,BY PROGRAM: where a point lies strictly within a cell.
-/
set_option maxRecDepth 100000
set_option maxHeartbeats 4000000
namespace Go.Am
open Sx Go.Proofs
theorem dt{a b c:Int}{k:IntKind}{H:Int→Prop}(h:a=c):P1.ari .mul k a b (@hid _ ⟨H⟩)=P1.ari .mul k c b (@hid _ ⟨H⟩):=by rw[h]
theorem hcorn0{x y:Int}(h:-100≤x∧x≤100∧-100≤y∧y≤100):Cc 33 [.i x,.i y,.i 0] [.i (2*x+1),.i (2*y+1),.i (2*x),.i (2*y),.i (2*x+2),.i (2*y)]:=by
 refine q33 rfl ?_;unfold p33
 simp (disch:=omega) only[↓qxs,↓qxc,↓qxa]
 repeat (first|simp (disch:=omega) only[↓qxs,↓qxc,↓qxa]|(refine eH rfl ?_))
 (try simp only[List.cons.injEq,Lf.i.injEq,and_true,true_and]);(try omega)
theorem hcorn1{x y:Int}(h:-100≤x∧x≤100∧-100≤y∧y≤100):Cc 33 [.i x,.i y,.i 1] [.i (2*x+1),.i (2*y+1),.i (2*x+2),.i (2*y+2),.i (2*x+2),.i (2*y)]:=by
 refine q33 rfl ?_;unfold p33
 simp (disch:=omega) only[↓qxs,↓qxc,↓qxa]
 repeat (first|simp (disch:=omega) only[↓qxs,↓qxc,↓qxa]|(refine eH rfl ?_))
 (try simp only[List.cons.injEq,Lf.i.injEq,and_true,true_and]);(try omega)
theorem hcorn2{x y:Int}(h:-100≤x∧x≤100∧-100≤y∧y≤100):Cc 33 [.i x,.i y,.i 2] [.i (2*x+1),.i (2*y+1),.i (2*x+2),.i (2*y+2),.i (2*x),.i (2*y+2)]:=by
 refine q33 rfl ?_;unfold p33
 simp (disch:=omega) only[↓qxs,↓qxc,↓qxa]
 repeat (first|simp (disch:=omega) only[↓qxs,↓qxc,↓qxa]|(refine eH rfl ?_))
 (try simp only[List.cons.injEq,Lf.i.injEq,and_true,true_and]);(try omega)
theorem hcorn3{x y:Int}(h:-100≤x∧x≤100∧-100≤y∧y≤100):Cc 33 [.i x,.i y,.i 3] [.i (2*x+1),.i (2*y+1),.i (2*x),.i (2*y),.i (2*x),.i (2*y+2)]:=by
 refine q33 rfl ?_;unfold p33
 simp (disch:=omega) only[↓qxs,↓qxc,↓qxa]
 repeat (first|simp (disch:=omega) only[↓qxs,↓qxc,↓qxa]|(refine eH rfl ?_))
 (try simp only[List.cons.injEq,Lf.i.injEq,and_true,true_and]);(try omega)
theorem has0{x y u v:Int}(h:-100≤x∧x≤100∧-100≤y∧y≤100∧-10000≤u∧u≤10000∧-10000≤v∧v≤10000):Cc 16 [.i x,.i y,.i 0,.i u,.i v] [.i (if (0<(-12)*(v - 12*(2*y+1)) - (-12)*(u - 12*(2*x+1))∧0<24*(v - 12*(2*y)) - 0*(u - 12*(2*x))∧0<(-12)*(v - 12*(2*y)) - 12*(u - 12*(2*x+2)))∨((-12)*(v - 12*(2*y+1)) - (-12)*(u - 12*(2*x+1))<0∧24*(v - 12*(2*y)) - 0*(u - 12*(2*x))<0∧(-12)*(v - 12*(2*y)) - 12*(u - 12*(2*x+2))<0)then 1 else 0)]:=by
 rcases Int.lt_trichotomy ((-12)*(v - 12*(2*y+1)) - (-12)*(u - 12*(2*x+1))) 0 with a|a|a<;>rcases Int.lt_trichotomy (24*(v - 12*(2*y)) - 0*(u - 12*(2*x))) 0 with b|b|b<;>rcases Int.lt_trichotomy ((-12)*(v - 12*(2*y)) - 12*(u - 12*(2*x+2))) 0 with c|c|c
 all_goals (try (exfalso;omega))
 all_goals
  refine q16 rfl ?_
  unfold p16
  simp (disch:=omega) only[↓qxs,↓qxc,↓qxa]
  refine oK (hcorn0 (by omega)) ?_
  repeat (first|simp (disch:=omega) only[↓qxs,↓qxc,↓qxa]|(refine eH (by simp only[bC,putL,offX,inB,Int.reduceToNat,Int.reduceAdd,Int.reduceMul,Int.reduceMod,Int.reduceSub,Int.reduceNeg,Int.reduceDiv,Nat.reduceAdd,Nat.reduceMul,Nat.reduceLeDiff,List.length_cons,List.length_nil,↓reduceIte,List.drop_succ_cons,List.drop_zero,List.take_succ_cons,List.take_zero,List.cons_append,List.nil_append,Nat.zero_add,Int.toNat_zero,Nat.zero_mul,Nat.add_zero,Int.zero_add];exact rfl) ?_)|(refine qE 5 ?_)|(rw[dt (c:=-12) (by omega)])|(rw[dt (c:=0) (by omega)])|(rw[dt (c:=12) (by omega)])|(rw[dt (c:=24) (by omega)]))
  first|rw[if_pos (by omega)]|rw[if_neg (by omega)]
theorem has1{x y u v:Int}(h:-100≤x∧x≤100∧-100≤y∧y≤100∧-10000≤u∧u≤10000∧-10000≤v∧v≤10000):Cc 16 [.i x,.i y,.i 1,.i u,.i v] [.i (if (0<12*(v - 12*(2*y+1)) - 12*(u - 12*(2*x+1))∧0<0*(v - 12*(2*y+2)) - (-24)*(u - 12*(2*x+2))∧0<(-12)*(v - 12*(2*y)) - 12*(u - 12*(2*x+2)))∨(12*(v - 12*(2*y+1)) - 12*(u - 12*(2*x+1))<0∧0*(v - 12*(2*y+2)) - (-24)*(u - 12*(2*x+2))<0∧(-12)*(v - 12*(2*y)) - 12*(u - 12*(2*x+2))<0)then 1 else 0)]:=by
 rcases Int.lt_trichotomy (12*(v - 12*(2*y+1)) - 12*(u - 12*(2*x+1))) 0 with a|a|a<;>rcases Int.lt_trichotomy (0*(v - 12*(2*y+2)) - (-24)*(u - 12*(2*x+2))) 0 with b|b|b<;>rcases Int.lt_trichotomy ((-12)*(v - 12*(2*y)) - 12*(u - 12*(2*x+2))) 0 with c|c|c
 all_goals (try (exfalso;omega))
 all_goals
  refine q16 rfl ?_
  unfold p16
  simp (disch:=omega) only[↓qxs,↓qxc,↓qxa]
  refine oK (hcorn1 (by omega)) ?_
  repeat (first|simp (disch:=omega) only[↓qxs,↓qxc,↓qxa]|(refine eH (by simp only[bC,putL,offX,inB,Int.reduceToNat,Int.reduceAdd,Int.reduceMul,Int.reduceMod,Int.reduceSub,Int.reduceNeg,Int.reduceDiv,Nat.reduceAdd,Nat.reduceMul,Nat.reduceLeDiff,List.length_cons,List.length_nil,↓reduceIte,List.drop_succ_cons,List.drop_zero,List.take_succ_cons,List.take_zero,List.cons_append,List.nil_append,Nat.zero_add,Int.toNat_zero,Nat.zero_mul,Nat.add_zero,Int.zero_add];exact rfl) ?_)|(refine qE 5 ?_)|(rw[dt (c:=-24) (by omega)])|(rw[dt (c:=-12) (by omega)])|(rw[dt (c:=0) (by omega)])|(rw[dt (c:=12) (by omega)]))
  first|rw[if_pos (by omega)]|rw[if_neg (by omega)]
theorem has2{x y u v:Int}(h:-100≤x∧x≤100∧-100≤y∧y≤100∧-10000≤u∧u≤10000∧-10000≤v∧v≤10000):Cc 16 [.i x,.i y,.i 2,.i u,.i v] [.i (if (0<12*(v - 12*(2*y+1)) - 12*(u - 12*(2*x+1))∧0<(-24)*(v - 12*(2*y+2)) - 0*(u - 12*(2*x+2))∧0<12*(v - 12*(2*y+2)) - (-12)*(u - 12*(2*x)))∨(12*(v - 12*(2*y+1)) - 12*(u - 12*(2*x+1))<0∧(-24)*(v - 12*(2*y+2)) - 0*(u - 12*(2*x+2))<0∧12*(v - 12*(2*y+2)) - (-12)*(u - 12*(2*x))<0)then 1 else 0)]:=by
 rcases Int.lt_trichotomy (12*(v - 12*(2*y+1)) - 12*(u - 12*(2*x+1))) 0 with a|a|a<;>rcases Int.lt_trichotomy ((-24)*(v - 12*(2*y+2)) - 0*(u - 12*(2*x+2))) 0 with b|b|b<;>rcases Int.lt_trichotomy (12*(v - 12*(2*y+2)) - (-12)*(u - 12*(2*x))) 0 with c|c|c
 all_goals (try (exfalso;omega))
 all_goals
  refine q16 rfl ?_
  unfold p16
  simp (disch:=omega) only[↓qxs,↓qxc,↓qxa]
  refine oK (hcorn2 (by omega)) ?_
  repeat (first|simp (disch:=omega) only[↓qxs,↓qxc,↓qxa]|(refine eH (by simp only[bC,putL,offX,inB,Int.reduceToNat,Int.reduceAdd,Int.reduceMul,Int.reduceMod,Int.reduceSub,Int.reduceNeg,Int.reduceDiv,Nat.reduceAdd,Nat.reduceMul,Nat.reduceLeDiff,List.length_cons,List.length_nil,↓reduceIte,List.drop_succ_cons,List.drop_zero,List.take_succ_cons,List.take_zero,List.cons_append,List.nil_append,Nat.zero_add,Int.toNat_zero,Nat.zero_mul,Nat.add_zero,Int.zero_add];exact rfl) ?_)|(refine qE 5 ?_)|(rw[dt (c:=-24) (by omega)])|(rw[dt (c:=-12) (by omega)])|(rw[dt (c:=0) (by omega)])|(rw[dt (c:=12) (by omega)]))
  first|rw[if_pos (by omega)]|rw[if_neg (by omega)]
theorem has3{x y u v:Int}(h:-100≤x∧x≤100∧-100≤y∧y≤100∧-10000≤u∧u≤10000∧-10000≤v∧v≤10000):Cc 16 [.i x,.i y,.i 3,.i u,.i v] [.i (if (0<(-12)*(v - 12*(2*y+1)) - (-12)*(u - 12*(2*x+1))∧0<0*(v - 12*(2*y)) - 24*(u - 12*(2*x))∧0<12*(v - 12*(2*y+2)) - (-12)*(u - 12*(2*x)))∨((-12)*(v - 12*(2*y+1)) - (-12)*(u - 12*(2*x+1))<0∧0*(v - 12*(2*y)) - 24*(u - 12*(2*x))<0∧12*(v - 12*(2*y+2)) - (-12)*(u - 12*(2*x))<0)then 1 else 0)]:=by
 rcases Int.lt_trichotomy ((-12)*(v - 12*(2*y+1)) - (-12)*(u - 12*(2*x+1))) 0 with a|a|a<;>rcases Int.lt_trichotomy (0*(v - 12*(2*y)) - 24*(u - 12*(2*x))) 0 with b|b|b<;>rcases Int.lt_trichotomy (12*(v - 12*(2*y+2)) - (-12)*(u - 12*(2*x))) 0 with c|c|c
 all_goals (try (exfalso;omega))
 all_goals
  refine q16 rfl ?_
  unfold p16
  simp (disch:=omega) only[↓qxs,↓qxc,↓qxa]
  refine oK (hcorn3 (by omega)) ?_
  repeat (first|simp (disch:=omega) only[↓qxs,↓qxc,↓qxa]|(refine eH (by simp only[bC,putL,offX,inB,Int.reduceToNat,Int.reduceAdd,Int.reduceMul,Int.reduceMod,Int.reduceSub,Int.reduceNeg,Int.reduceDiv,Nat.reduceAdd,Nat.reduceMul,Nat.reduceLeDiff,List.length_cons,List.length_nil,↓reduceIte,List.drop_succ_cons,List.drop_zero,List.take_succ_cons,List.take_zero,List.cons_append,List.nil_append,Nat.zero_add,Int.toNat_zero,Nat.zero_mul,Nat.add_zero,Int.zero_add];exact rfl) ?_)|(refine qE 5 ?_)|(rw[dt (c:=-12) (by omega)])|(rw[dt (c:=0) (by omega)])|(rw[dt (c:=12) (by omega)])|(rw[dt (c:=24) (by omega)]))
  first|rw[if_pos (by omega)]|rw[if_neg (by omega)]
end Go.Am

/-
 Runs in which the test of a cell is answered by what is known of it.
-/
set_option maxRecDepth 100000
namespace Go.Am
open Sx Go.Proofs
noncomputable def hasB(x y q u v:Nat):Bool:=match q with
 |0=>Nat.blt (24*y) v&&(Nat.blt (v+24*x) (u+24*y)&&Nat.blt (u+v) (24+24*x+24*y))
 |1=>Nat.blt (v+24*x) (u+24*y)&&(Nat.blt (24+24*x+24*y) (u+v)&&Nat.blt u (24*x+24))
 |2=>Nat.blt (u+24*y) (v+24*x)&&(Nat.blt (24+24*x+24*y) (u+v)&&Nat.blt v (24*y+24))
 |_=>Nat.blt (24*x) u&&(Nat.blt (u+24*y) (v+24*x)&&Nat.blt (u+v) (24+24*x+24*y))
noncomputable def zB(b:Bool):Int:=match b with
 |true=>.ofNat 1
 |false=>.ofNat 0
noncomputable def hasZ(x y q u v:Nat):Int:=zB (hasB x y q u v)
theorem ifZ{P:Prop} [Decidable P]{b:Bool}(h:b=true↔P):(if P then(1:Int)else 0)=zB b:=by
 cases b with
 |true=>rw[if_pos (h.1 rfl)];rfl
 |false=>rw[if_neg (fun hp=>by cases h.2 hp)];rfl
theorem hasB_ok{x y q u v:Nat}(h:x≤100∧y≤100∧q≤3∧u≤10000∧v≤10000):Cc 16 [.i (.ofNat x),.i (.ofNat y),.i (.ofNat q),.i (.ofNat u),.i (.ofNat v)] [.i (hasZ x y q u v)]:=by
 obtain⟨h1,h2,h3,h4,h5⟩:=h
 have hb:-100≤(x:Int)∧(x:Int)≤100∧-100≤(y:Int)∧(y:Int)≤100∧-10000≤(u:Int)∧(u:Int)≤10000∧-10000≤(v:Int)∧(v:Int)≤10000:=by omega
 obtain rfl|rfl|rfl|rfl:q=0∨q=1∨q=2∨q=3:=by omega
 ·have:=has0 hb
  rw[ifZ (b:=hasB x y 0 u v) (by simp only[hasB,Bool.and_eq_true,Nat.blt_eq];omega)]at this
  exact this
 ·have:=has1 hb
  rw[ifZ (b:=hasB x y 1 u v) (by simp only[hasB,Bool.and_eq_true,Nat.blt_eq];omega)]at this
  exact this
 ·have:=has2 hb
  rw[ifZ (b:=hasB x y 2 u v) (by simp only[hasB,Bool.and_eq_true,Nat.blt_eq];omega)]at this
  exact this
 ·have:=has3 hb
  rw[ifZ (b:=hasB x y 3 u v) (by simp only[hasB,Bool.and_eq_true,Nat.blt_eq];omega)]at this
  exact this
noncomputable def hasG(ls:List Lf)(d:RT)(k:Int→RT):RT:=match ls with
 | [.i (.ofNat x),.i (.ofNat y),.i (.ofNat q),.i (.ofNat u),.i (.ofNat v)]=>match Nat.ble x 100&&(Nat.ble y 100&&(Nat.ble q 3&&(Nat.ble u 10000&&Nat.ble v 10000)))with
  |true=>k (hasZ x y q u v)
  |false=>d
 |_=>d
theorem hasG_ok{ls:List Lf}{d:RT}{k:Int→RT}{w:List Lf}(h:hasG ls d k=some w):d=some w∨∃n:Int,Cc 16 ls [.i n]∧k n=some w:=by
 unfold hasG at h
 split at h
 ·rename_i x y q u v
  split at h
  ·rename_i hb
   simp only[Bool.and_eq_true,Nat.ble_eq]at hb
   exact .inr ⟨_,hasB_ok hb,h⟩
  ·exact .inl h
 ·exact .inl h
noncomputable def hasI(c:aa):aa:=fun ck=>match ck with
 | .f f=>fun ls h K=>@Bool.rec (fun _=>RT) (c (.f f) ls h K) (hasG ls (c (.f f) ls h K) (fun n=>K [.i n] h)) (Nat.beq f 16)
 | .y κ vs i=>c (.y κ vs i)
theorem hasI_ok{c:aa}(hc:Cok c):Cok (hasI c):=by
 refine⟨fun f ls h K w hls hk=>?_,fun κ vs i ls h K w st pd xs e hy hk=>hc.y κ vs i ls h K w st pd xs e hy hk⟩
 have hk:@Bool.rec (fun _=>RT) (c (.f f) ls h K) (hasG ls (c (.f f) ls h K) (fun n=>K [.i n] h)) (Nat.beq f 16)=some w:=hk
 cases hf:Nat.beq f 16 with
 |false=>rw[hf]at hk;exact hc.f f ls h K w hls hk
 |true=>
  rw[hf]at hk
  have hf:=Nat.eq_of_beq_eq_true hf
  subst hf
  rcases hasG_ok hk with h1|⟨n,h1,h2⟩
  ·exact hc.f _ ls h K w hls h1
  ·exact⟨_,h,h1 _,h2⟩
noncomputable def runG(n:Nat):aa:=Nat.rec (motive:=fun _=>aa) (fun _ _ _ _=>none) (fun _ c=>hasI (stepF c)) n
theorem pS:∀n,Cok (runG n)
 |0=>⟨fun _ _ _ _ _ _ h=>by(cases h),fun _ _ _ _ _ _ _ _ _ _ _ _ h=>by(cases h)⟩
 |n+1=>hasI_ok (stepF_ok (pS n))
end Go.Am

/-
 CornersAround: what is run.
-/
set_option maxRecDepth 100000
set_option maxHeartbeats 4000000
namespace Go.Am
open Sx Go.Proofs
noncomputable def isY(x:RT):Bool:=match x with
 |some []=>true
 |_=>false
theorem isY_ok{x:RT}(h:isY x=true):x=yes:=by
 match x,h with
 |some [],_=>rfl
abbrev KT3:List Lf→HL→Prop:=fun rs _=>rs=[.b true]
theorem isT_le3:KLe isT KT3:=by
 intro ls h hk
 match ls,hk with
 | [.b true],_=>rfl
 | [.b false],hk=>cases (show(none:RT)=yes from hk)
noncomputable def okr3(w v L lo n:Nat):Bool:=isY (ft3a (BA ab ac (runG 60)) [.i (.ofNat w),.i (.ofNat v)] .empty (fun a b x h=>ans (eqZK a (.ofNat w)&&(eqZK b (.ofNat v)&&(match lenS x with
 |some l=>eqZK l (.ofNat L)&&(List.range' lo n).all (fun j=>isY (ft3c (BA ab ac (runG 60)) a b x (.ofNat j) h isT))
 |none=>false)))) isT)
noncomputable def gu(l:List (Nat×Nat×Nat×Nat×Nat)):Bool:=l.all fun p=>okr3 p.1 p.2.1 p.2.2.1 p.2.2.2.1 p.2.2.2.2
end Go.Am


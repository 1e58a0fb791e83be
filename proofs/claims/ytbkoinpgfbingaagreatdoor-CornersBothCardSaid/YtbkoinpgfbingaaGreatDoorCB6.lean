/-
  PART 6 OF THE PROOF: Ph2 Ph3 Pq Gp Hx1 Hx2 E1 Sx15 E0 E2 E3 Hx3 E4 E14 E15 Hx4 E16 E17 E18 E19 E20 E21 E22 E23 E24 (no conditions).
-/
import Derived.Test.YtbkoinpgfbingaaGreatDoorCB5
set_option linter.unusedSectionVars false
set_option linter.unusedSimpArgs false
set_option linter.unusedVariables false
set_option linter.constructorNameAsVariable false
set_option linter.defProp false
/-
 THE ALGEBRA OF PROPOSITIONS,its rules as equations: a step each.
-/
namespace Go.Am
namespace Sx
class Bx (α:Sort _) where
 v:α
noncomputable def hid{α:Sort _} [b:Bx α]:α:=b.v
section
variable [Val] [Kno] {C:Cfg} {Sg:FuncId→Option Sig} {T:Nat→Site}
theorem b_unI{n:Int}{r:List Lf}{K:Int→List Lf→Prop}:(PH C Sg T).unI (.i n :: r) K=K n r:=rfl
theorem b_unB{n:Bool}{r:List Lf}{K:Bool→List Lf→Prop}:(PH C Sg T).unB (.b n :: r) K=K n r:=rfl
theorem b_unV{n:Value}{r:List Lf}{K:Value→List Lf→Prop}:(PH C Sg T).unV (.v n :: r) K=K n r:=rfl
theorem b_un0{K:Prop}:(PH C Sg T).un0 [] K=K:=rfl
theorem b_ucI{k:IntKind}{n:Int}{r:List Value}{K:Int→List Value→Prop}:(PH C Sg T).ucI k (.int k n :: r) K=K n r:=by
 show(k=k∧K n r)=K n r
 simp
theorem b_ucB{n:Bool}{r:List Value}{K:Bool→List Value→Prop}:(PH C Sg T).ucB (.bool n :: r) K=K n r:=rfl
theorem b_ucV{n:Value}{r:List Value}{K:Value→List Value→Prop}:(PH C Sg T).ucV (n :: r) K=K n r:=rfl
theorem b_uc0{K:Prop}:(PH C Sg T).uc0 [] K=K:=rfl
theorem b_cond_t{X Y:Prop}:(PH C Sg T).cond true X Y=X:=by
 show((true=true→X)∧(true=false→Y))=X
 simp
theorem b_cond_f{X Y:Prop}:(PH C Sg T).cond false X Y=Y:=by
 show((false=true→X)∧(false=false→Y))=Y
 simp
theorem b_lss_t{a b:Int}{K:Bool→Prop}(h:a<b):(PH C Sg T).cmp .lss a b K=K true:=by
 show K (decide (a<b))=_;rw[decide_eq_true h]
theorem b_lss_f{a b:Int}{K:Bool→Prop}(h:b≤a):(PH C Sg T).cmp .lss a b K=K false:=by
 show K (decide (a<b))=_;rw[decide_eq_false (by omega)]
theorem b_leq_t{a b:Int}{K:Bool→Prop}(h:a≤b):(PH C Sg T).cmp .leq a b K=K true:=by
 show K (decide (a≤b))=_;rw[decide_eq_true h]
theorem b_leq_f{a b:Int}{K:Bool→Prop}(h:b<a):(PH C Sg T).cmp .leq a b K=K false:=by
 show K (decide (a≤b))=_;rw[decide_eq_false (by omega)]
theorem b_gtr_t{a b:Int}{K:Bool→Prop}(h:b<a):(PH C Sg T).cmp .gtr a b K=K true:=by
 show K (decide (a > b))=_;rw[decide_eq_true h]
theorem b_gtr_f{a b:Int}{K:Bool→Prop}(h:a≤b):(PH C Sg T).cmp .gtr a b K=K false:=by
 show K (decide (a > b))=_;rw[decide_eq_false (by omega)]
theorem b_geq_t{a b:Int}{K:Bool→Prop}(h:b≤a):(PH C Sg T).cmp .geq a b K=K true:=by
 show K (decide (a ≥ b))=_;rw[decide_eq_true h]
theorem b_geq_f{a b:Int}{K:Bool→Prop}(h:a<b):(PH C Sg T).cmp .geq a b K=K false:=by
 show K (decide (a ≥ b))=_;rw[decide_eq_false (by omega)]
theorem b_eql_t{a b:Int}{K:Bool→Prop}(h:a=b):(PH C Sg T).cmp .eql a b K=K true:=by
 show K (a==b)=_;rw[beq_iff_eq.2 h]
theorem b_eql_f{a b:Int}{K:Bool→Prop}(h:a≠b):(PH C Sg T).cmp .eql a b K=K false:=by
 show K (a==b)=_;rw[beq_false_of_ne h]
theorem b_neq_t{a b:Int}{K:Bool→Prop}(h:a≠b):(PH C Sg T).cmp .neq a b K=K true:=by
 show K (a != b)=_;rw[bne_iff_ne.2 h]
theorem b_neq_f{a b:Int}{K:Bool→Prop}(h:a=b):(PH C Sg T).cmp .neq a b K=K false:=by
 show K (a != b)=_;subst h;simp
theorem b_add{a b:Int}{K:Int→Prop}(h1:-9223372036854775808≤a+b)(h2:a+b≤9223372036854775807):(PH C Sg T).ari .add .i64 a b K=K (a+b):=by
 show K (IntKind.wrap .i64 (a+b))=_;rw[ce h1 h2]
theorem b_sub{a b:Int}{K:Int→Prop}(h1:-9223372036854775808≤a - b)(h2:a - b≤9223372036854775807):(PH C Sg T).ari .sub .i64 a b K=K (a - b):=by
 show K (IntKind.wrap .i64 (a - b))=_;rw[ce h1 h2]
theorem b_mul{a b:Int}{K:Int→Prop}(h1:-9223372036854775808≤a*b)(h2:a*b≤9223372036854775807):(PH C Sg T).ari .mul .i64 a b K=K (a*b):=by
 show K (IntKind.wrap .i64 (a*b))=_;rw[ce h1 h2]
theorem b_add8{a b:Int}{K:Int→Prop}(h1:0≤a+b)(h2:a+b≤255):(PH C Sg T).ari .add .u8 a b K=K (a+b):=by
 show K (IntKind.wrap .u8 (a+b))=_;rw[ph h1 h2]
theorem b_sub8{a b:Int}{K:Int→Prop}(h1:0≤a - b)(h2:a - b≤255):(PH C Sg T).ari .sub .u8 a b K=K (a - b):=by
 show K (IntKind.wrap .u8 (a - b))=_;rw[ph h1 h2]
theorem b_mul8{a b:Int}{K:Int→Prop}(h1:0≤a*b)(h2:a*b≤255):(PH C Sg T).ari .mul .u8 a b K=K (a*b):=by
 show K (IntKind.wrap .u8 (a*b))=_;rw[ph h1 h2]
theorem tdiv_nn{a b:Int}(h:0≤a):a.tdiv b=a / b:=Int.tdiv_eq_ediv_of_nonneg h
theorem b_quo_nn{a b:Int}{K:Int→Prop}(h:0≤a)(hb:0<b)(h2:a≤9223372036854775807):(PH C Sg T).ari .quo .i64 a b K=K (a / b):=by
 show(b≠0∧K (IntKind.wrap .i64 (a.tdiv b)))=_
 have h3:a / b≤a:=Int.ediv_le_self b h
 have h4:0≤a / b:=Int.ediv_nonneg h (by omega)
 rw[tdiv_nn h,ce (by omega) (by omega)]
 simp;intro _ h;omega
theorem b_quo_dv{a b:Int}{K:Int→Prop}(h:a%b=0)(hb:0<b)(h1:-9223372036854775808≤a)(h2:a≤9223372036854775807):(PH C Sg T).ari .quo .i64 a b K=K (a / b):=by
 show(b≠0∧K (IntKind.wrap .i64 (a.tdiv b)))=_
 obtain⟨q,rfl⟩:=Int.dvd_of_emod_eq_zero h
 rw[Int.mul_tdiv_cancel_left q (by omega),Int.mul_ediv_cancel_left q (by omega)]
 have hq:-9223372036854775808≤q∧q≤9223372036854775807:=by
  rcases Int.le_total 0 q with hs|hs
  ·have:=Int.mul_le_mul_of_nonneg_right (show(1:Int)≤b by omega) hs
   omega
  ·have:=Int.mul_le_mul_of_nonneg_right (show(1:Int)≤b by omega) (show 0≤-q by omega)
   rw[Int.mul_neg b q]at this
   omega
 rw[ce hq.1 hq.2]
 simp;intro _ h;omega
theorem b_rem_nn{k:IntKind}{a b:Int}{K:Int→Prop}(h:0≤a)(hb:0<b):(PH C Sg T).ari .rem k a b K=K (a%b):=by
 show(b≠0∧K (a.tmod b))=_
 rw[Int.tmod_eq_emod_of_nonneg h]
 simp;intro _ h;omega
theorem b_rem_np{k:IntKind}{a b:Int}{K:Int→Prop}(h:a≤0)(hb:0<b):(PH C Sg T).ari .rem k a b K=K (-((-a)%b)):=by
 show(b≠0∧K (a.tmod b))=_
 have:a.tmod b = -((-a)%b):=by
  have h1:=Int.neg_tmod a b
  rw[Int.tmod_eq_emod_of_nonneg (a:=-a) (by omega)]at h1
  omega
 rw[this]
 simp;intro _ h;omega
theorem b_and1{a:Int}{K:Int→Prop}:(PH C Sg T).ari .and .i64 a 1 K=K (a%2):=by
 show(((1:Int)=1∧K (a%2))∨((1:Int)≠1∧∃n,nF .and .i64 a 1 n∧K n))=K (a%2)
 simp
theorem b_conv{a:Int}{K:Int→Prop}(h1:-9223372036854775808≤a)(h2:a≤9223372036854775807):(PH C Sg T).conv .i64 a K=K a:=by
 show K (IntKind.wrap .i64 a)=_;rw[ce h1 h2]
theorem b_conv8{a:Int}{K:Int→Prop}(h1:0≤a)(h2:a≤255):(PH C Sg T).conv .u8 a K=K a:=by
 show K (IntKind.wrap .u8 a)=_;rw[ph h1 h2]
theorem b_sel_t{a b:Int}{K:Int→Prop}:(PH C Sg T).sel true a b K=K a:=rfl
theorem b_sel_f{a b:Int}{K:Int→Prop}:(PH C Sg T).sel false a b K=K b:=rfl
theorem b_opt{α:Type}{x:α}{K:α→Prop}:(PH C Sg T).opt (some x) K=K x:=by
 show(∃y,some x=some y∧K y)=K x
 simp
theorem b_inB{n:Nat}{i:Int}{K:Unit→Prop}(h1:0≤i)(h2:i<(n:Int)):(PH C Sg T).opt (inB n i) K=K ():=by
 rw[show inB n i=some ()from(inB_eq n i).trans (if_pos ⟨h1,h2⟩),b_opt]
theorem b_join{b:List Lf→HL→Prop}{m:(List Lf→HL→Prop)→Prop}:(PH C Sg T).join b m=m b:=rfl
theorem b_eqs0{K:Bool→Prop}:(PH C Sg T).eqs [] K=K true:=rfl
theorem b_eqs_t{a b:Int}{l:List (Lf×Lf)}{K:Bool→Prop}(h:a=b):(PH C Sg T).eqs ((.i a,.i b) :: l) K=(PH C Sg T).eqs l K:=by
 show K (bZ _)=K (bZ l)
 subst h
 simp[bZ,fW]
theorem b_eqs_f{a b:Int}{l:List (Lf×Lf)}{K:Bool→Prop}(h:a≠b):(PH C Sg T).eqs ((.i a,.i b) :: l) K=K false:=by
 show K (bZ _)=K false
 have:(a==b)=false:=beq_false_of_ne h
 simp[bZ,fW,this]
theorem b_it{F:(List Lf→HL→Prop)→List Lf→HL→Prop}{n:Nat}{ls:List Lf}{h:HL}:itH F (n+1) ls h=F (itH F n) ls h:=rfl
theorem aT{g:FuncId}{ls rs:List Lf}{h:HL}{K:List Lf→HL→Prop}(hc:∀H,au C Sg g ls H rs H)(hk:K rs h):(PH C Sg T).call g ls h (@hid _ ⟨K⟩):=⟨rs,h,hc _,hk⟩
theorem b_eqsb_t{a b:Bool}{l:List (Lf×Lf)}{K:Bool→Prop}(h:a=b):(PH C Sg T).eqs ((.b a,.b b) :: l) K=(PH C Sg T).eqs l K:=by
 show K (bZ _)=K (bZ l)
 subst h
 simp[bZ,fW]
theorem b_eqsb_tf{l:List (Lf×Lf)}{K:Bool→Prop}:(PH C Sg T).eqs ((.b true,.b false) :: l) K=K false:=rfl
theorem b_eqsb_ft{l:List (Lf×Lf)}{K:Bool→Prop}:(PH C Sg T).eqs ((.b false,.b true) :: l) K=K false:=rfl
theorem b_mul_1{b:Int}{K:Int→Prop}(h1:-9223372036854775808≤b)(h2:b≤9223372036854775807):(PH C Sg T).ari .mul .i64 1 b K=K b:=by
 show K (IntKind.wrap .i64 (1*b))=_;rw[Int.one_mul,ce h1 h2]
theorem b_mul_0{b:Int}{K:Int→Prop}:(PH C Sg T).ari .mul .i64 0 b K=K 0:=by
 show K (IntKind.wrap .i64 (0*b))=_;rw[Int.zero_mul];rfl
theorem b_mul_m{b:Int}{K:Int→Prop}(h1:-9223372036854775808≤-b)(h2:-b≤9223372036854775807):(PH C Sg T).ari .mul .i64 (-1) b K=K (-b):=by
 show K (IntKind.wrap .i64 (-1*b))=_
 have:(-1*b:Int) = -b:=by omega
 rw[this,ce h1 h2]
theorem b_mul_r1{b:Int}{K:Int→Prop}(h1:-9223372036854775808≤b)(h2:b≤9223372036854775807):(PH C Sg T).ari .mul .i64 b 1 K=K b:=by
 show K (IntKind.wrap .i64 (b*1))=_;rw[Int.mul_one,ce h1 h2]
theorem b_mul_r0{b:Int}{K:Int→Prop}:(PH C Sg T).ari .mul .i64 b 0 K=K 0:=by
 show K (IntKind.wrap .i64 (b*0))=_;rw[Int.mul_zero];rfl
theorem b_mul_rm{b:Int}{K:Int→Prop}(h1:-9223372036854775808≤-b)(h2:-b≤9223372036854775807):(PH C Sg T).ari .mul .i64 b (-1) K=K (-b):=by
 show K (IntKind.wrap .i64 (b * -1))=_
 have:(b * -1:Int) = -b:=by omega
 rw[this,ce h1 h2]
theorem b_add_0{b:Int}{K:Int→Prop}(h1:-9223372036854775808≤b)(h2:b≤9223372036854775807):(PH C Sg T).ari .add .i64 0 b K=K b:=by
 show K (IntKind.wrap .i64 (0+b))=_;rw[Int.zero_add,ce h1 h2]
theorem b_add_r0{b:Int}{K:Int→Prop}(h1:-9223372036854775808≤b)(h2:b≤9223372036854775807):(PH C Sg T).ari .add .i64 b 0 K=K b:=by
 show K (IntKind.wrap .i64 (b+0))=_;rw[Int.add_zero,ce h1 h2]
theorem b_add_11{K:Int→Prop}:(PH C Sg T).ari .add .i64 1 1 K=K 2:=by
 show K (IntKind.wrap .i64 (1+1))=_;rfl
theorem b_quo_1{a:Int}{K:Int→Prop}(h1:-9223372036854775808≤a)(h2:a≤9223372036854775807):(PH C Sg T).ari .quo .i64 a 1 K=K a:=by
 show((1:Int)≠0∧K (IntKind.wrap .i64 (a.tdiv 1)))=_
 rw[Int.tdiv_one,ce h1 h2];simp
theorem aW{α:Type}{o:Option α}{x:α}{K:α→Prop}(h:o=some x)(hk:K x):(PH C Sg T).opt o (@hid _ ⟨K⟩):=⟨x,h,hk⟩
theorem p_unI{n:Int}{r:List Lf}{K:Int→List Lf→Prop}:(PH C Sg T).unI (.i n :: r) (@hid _ ⟨K⟩)=K n r:=b_unI
theorem p_unB{n:Bool}{r:List Lf}{K:Bool→List Lf→Prop}:(PH C Sg T).unB (.b n :: r) (@hid _ ⟨K⟩)=K n r:=b_unB
theorem p_unV{n:Value}{r:List Lf}{K:Value→List Lf→Prop}:(PH C Sg T).unV (.v n :: r) (@hid _ ⟨K⟩)=K n r:=b_unV
theorem p_un0{K:Prop}:(PH C Sg T).un0 [] (@hid _ ⟨K⟩)=K:=b_un0
theorem p_ucI{k:IntKind}{n:Int}{r:List Value}{K:Int→List Value→Prop}:(PH C Sg T).ucI k (.int k n :: r) (@hid _ ⟨K⟩)=K n r:=b_ucI
theorem p_ucB{n:Bool}{r:List Value}{K:Bool→List Value→Prop}:(PH C Sg T).ucB (.bool n :: r) (@hid _ ⟨K⟩)=K n r:=b_ucB
theorem p_ucV{n:Value}{r:List Value}{K:Value→List Value→Prop}:(PH C Sg T).ucV (n :: r) (@hid _ ⟨K⟩)=K n r:=b_ucV
theorem p_uc0{K:Prop}:(PH C Sg T).uc0 [] (@hid _ ⟨K⟩)=K:=b_uc0
theorem p_cond_t{X Y:Prop}:(PH C Sg T).cond true (@hid _ ⟨X⟩) Y=X:=b_cond_t
theorem p_cond_f{X Y:Prop}:(PH C Sg T).cond false X (@hid _ ⟨Y⟩)=Y:=b_cond_f
theorem p_lss_t{a b:Int}{K:Bool→Prop}(h:a<b):(PH C Sg T).cmp .lss a b (@hid _ ⟨K⟩)=K true:=b_lss_t h
theorem p_lss_f{a b:Int}{K:Bool→Prop}(h:b≤a):(PH C Sg T).cmp .lss a b (@hid _ ⟨K⟩)=K false:=b_lss_f h
theorem p_leq_t{a b:Int}{K:Bool→Prop}(h:a≤b):(PH C Sg T).cmp .leq a b (@hid _ ⟨K⟩)=K true:=b_leq_t h
theorem p_leq_f{a b:Int}{K:Bool→Prop}(h:b<a):(PH C Sg T).cmp .leq a b (@hid _ ⟨K⟩)=K false:=b_leq_f h
theorem p_gtr_t{a b:Int}{K:Bool→Prop}(h:b<a):(PH C Sg T).cmp .gtr a b (@hid _ ⟨K⟩)=K true:=b_gtr_t h
theorem p_gtr_f{a b:Int}{K:Bool→Prop}(h:a≤b):(PH C Sg T).cmp .gtr a b (@hid _ ⟨K⟩)=K false:=b_gtr_f h
theorem p_geq_t{a b:Int}{K:Bool→Prop}(h:b≤a):(PH C Sg T).cmp .geq a b (@hid _ ⟨K⟩)=K true:=b_geq_t h
theorem p_geq_f{a b:Int}{K:Bool→Prop}(h:a<b):(PH C Sg T).cmp .geq a b (@hid _ ⟨K⟩)=K false:=b_geq_f h
theorem p_eql_t{a b:Int}{K:Bool→Prop}(h:a=b):(PH C Sg T).cmp .eql a b (@hid _ ⟨K⟩)=K true:=b_eql_t h
theorem p_eql_f{a b:Int}{K:Bool→Prop}(h:a≠b):(PH C Sg T).cmp .eql a b (@hid _ ⟨K⟩)=K false:=b_eql_f h
theorem p_neq_t{a b:Int}{K:Bool→Prop}(h:a≠b):(PH C Sg T).cmp .neq a b (@hid _ ⟨K⟩)=K true:=b_neq_t h
theorem p_neq_f{a b:Int}{K:Bool→Prop}(h:a=b):(PH C Sg T).cmp .neq a b (@hid _ ⟨K⟩)=K false:=b_neq_f h
theorem p_add{a b:Int}{K:Int→Prop}(h1:-9223372036854775808≤a+b)(h2:a+b≤9223372036854775807):(PH C Sg T).ari .add .i64 a b (@hid _ ⟨K⟩)=K (a+b):=b_add h1 h2
theorem p_sub{a b:Int}{K:Int→Prop}(h1:-9223372036854775808≤a - b)(h2:a - b≤9223372036854775807):(PH C Sg T).ari .sub .i64 a b (@hid _ ⟨K⟩)=K (a - b):=b_sub h1 h2
theorem p_mul{a b:Int}{K:Int→Prop}(h1:-9223372036854775808≤a*b)(h2:a*b≤9223372036854775807):(PH C Sg T).ari .mul .i64 a b (@hid _ ⟨K⟩)=K (a*b):=b_mul h1 h2
theorem p_add8{a b:Int}{K:Int→Prop}(h1:0≤a+b)(h2:a+b≤255):(PH C Sg T).ari .add .u8 a b (@hid _ ⟨K⟩)=K (a+b):=b_add8 h1 h2
theorem p_sub8{a b:Int}{K:Int→Prop}(h1:0≤a - b)(h2:a - b≤255):(PH C Sg T).ari .sub .u8 a b (@hid _ ⟨K⟩)=K (a - b):=b_sub8 h1 h2
theorem p_mul8{a b:Int}{K:Int→Prop}(h1:0≤a*b)(h2:a*b≤255):(PH C Sg T).ari .mul .u8 a b (@hid _ ⟨K⟩)=K (a*b):=b_mul8 h1 h2
theorem p_quo_nn{a b:Int}{K:Int→Prop}(h:0≤a)(hb:0<b)(h2:a≤9223372036854775807):(PH C Sg T).ari .quo .i64 a b (@hid _ ⟨K⟩)=K (a / b):=b_quo_nn h hb h2
theorem p_quo_dv{a b:Int}{K:Int→Prop}(h:a%b=0)(hb:0<b)(h1:-9223372036854775808≤a)(h2:a≤9223372036854775807):(PH C Sg T).ari .quo .i64 a b (@hid _ ⟨K⟩)=K (a / b):=b_quo_dv h hb h1 h2
theorem p_rem_nn{k:IntKind}{a b:Int}{K:Int→Prop}(h:0≤a)(hb:0<b):(PH C Sg T).ari .rem k a b (@hid _ ⟨K⟩)=K (a%b):=b_rem_nn h hb
theorem p_rem_np{k:IntKind}{a b:Int}{K:Int→Prop}(h:a≤0)(hb:0<b):(PH C Sg T).ari .rem k a b (@hid _ ⟨K⟩)=K (-((-a)%b)):=b_rem_np h hb
theorem p_and1{a:Int}{K:Int→Prop}:(PH C Sg T).ari .and .i64 a 1 (@hid _ ⟨K⟩)=K (a%2):=b_and1
theorem p_conv{a:Int}{K:Int→Prop}(h1:-9223372036854775808≤a)(h2:a≤9223372036854775807):(PH C Sg T).conv .i64 a (@hid _ ⟨K⟩)=K a:=b_conv h1 h2
theorem p_conv8{a:Int}{K:Int→Prop}(h1:0≤a)(h2:a≤255):(PH C Sg T).conv .u8 a (@hid _ ⟨K⟩)=K a:=b_conv8 h1 h2
theorem p_sel_t{a b:Int}{K:Int→Prop}:(PH C Sg T).sel true a b (@hid _ ⟨K⟩)=K a:=b_sel_t
theorem p_sel_f{a b:Int}{K:Int→Prop}:(PH C Sg T).sel false a b (@hid _ ⟨K⟩)=K b:=b_sel_f
theorem p_opt{α:Type}{x:α}{K:α→Prop}:(PH C Sg T).opt (some x) (@hid _ ⟨K⟩)=K x:=b_opt
theorem p_inB{n:Nat}{i:Int}{K:Unit→Prop}(h1:0≤i)(h2:i<(n:Int)):(PH C Sg T).opt (inB n i) (@hid _ ⟨K⟩)=K ():=b_inB h1 h2
theorem p_join{b:List Lf→HL→Prop}{m:(List Lf→HL→Prop)→Prop}:(PH C Sg T).join (@hid _ ⟨b⟩) (@hid _ ⟨m⟩)=m (@hid _ ⟨b⟩):=b_join
theorem p_eqs0{K:Bool→Prop}:(PH C Sg T).eqs [] (@hid _ ⟨K⟩)=K true:=b_eqs0
theorem p_eqs_t{a b:Int}{l:List (Lf×Lf)}{K:Bool→Prop}(h:a=b):(PH C Sg T).eqs ((.i a,.i b) :: l) (@hid _ ⟨K⟩)=(PH C Sg T).eqs l (@hid _ ⟨K⟩):=b_eqs_t h
theorem p_eqs_f{a b:Int}{l:List (Lf×Lf)}{K:Bool→Prop}(h:a≠b):(PH C Sg T).eqs ((.i a,.i b) :: l) (@hid _ ⟨K⟩)=K false:=b_eqs_f h
theorem p_it{F:(List Lf→HL→Prop)→List Lf→HL→Prop}{n:Nat}{ls:List Lf}{h:HL}:itH (@hid _ ⟨F⟩) (n+1) ls h=F (itH (@hid _ ⟨F⟩) n) ls h:=b_it
theorem p_eqsb_t{a b:Bool}{l:List (Lf×Lf)}{K:Bool→Prop}(h:a=b):(PH C Sg T).eqs ((.b a,.b b) :: l) (@hid _ ⟨K⟩)=(PH C Sg T).eqs l (@hid _ ⟨K⟩):=b_eqsb_t h
theorem p_eqsb_tf{l:List (Lf×Lf)}{K:Bool→Prop}:(PH C Sg T).eqs ((.b true,.b false) :: l) (@hid _ ⟨K⟩)=K false:=b_eqsb_tf
theorem p_eqsb_ft{l:List (Lf×Lf)}{K:Bool→Prop}:(PH C Sg T).eqs ((.b false,.b true) :: l) (@hid _ ⟨K⟩)=K false:=b_eqsb_ft
theorem p_mul_1{b:Int}{K:Int→Prop}(h1:-9223372036854775808≤b)(h2:b≤9223372036854775807):(PH C Sg T).ari .mul .i64 1 b (@hid _ ⟨K⟩)=K b:=b_mul_1 h1 h2
theorem p_mul_0{b:Int}{K:Int→Prop}:(PH C Sg T).ari .mul .i64 0 b (@hid _ ⟨K⟩)=K 0:=b_mul_0
theorem p_mul_m{b:Int}{K:Int→Prop}(h1:-9223372036854775808≤-b)(h2:-b≤9223372036854775807):(PH C Sg T).ari .mul .i64 (-1) b (@hid _ ⟨K⟩)=K (-b):=b_mul_m h1 h2
theorem p_mul_r1{b:Int}{K:Int→Prop}(h1:-9223372036854775808≤b)(h2:b≤9223372036854775807):(PH C Sg T).ari .mul .i64 b 1 (@hid _ ⟨K⟩)=K b:=b_mul_r1 h1 h2
theorem p_mul_r0{b:Int}{K:Int→Prop}:(PH C Sg T).ari .mul .i64 b 0 (@hid _ ⟨K⟩)=K 0:=b_mul_r0
theorem p_mul_rm{b:Int}{K:Int→Prop}(h1:-9223372036854775808≤-b)(h2:-b≤9223372036854775807):(PH C Sg T).ari .mul .i64 b (-1) (@hid _ ⟨K⟩)=K (-b):=b_mul_rm h1 h2
theorem p_add_0{b:Int}{K:Int→Prop}(h1:-9223372036854775808≤b)(h2:b≤9223372036854775807):(PH C Sg T).ari .add .i64 0 b (@hid _ ⟨K⟩)=K b:=b_add_0 h1 h2
theorem p_add_r0{b:Int}{K:Int→Prop}(h1:-9223372036854775808≤b)(h2:b≤9223372036854775807):(PH C Sg T).ari .add .i64 b 0 (@hid _ ⟨K⟩)=K b:=b_add_r0 h1 h2
theorem p_add_11{K:Int→Prop}:(PH C Sg T).ari .add .i64 1 1 (@hid _ ⟨K⟩)=K 2:=b_add_11
theorem p_quo_1{a:Int}{K:Int→Prop}(h1:-9223372036854775808≤a)(h2:a≤9223372036854775807):(PH C Sg T).ari .quo .i64 a 1 (@hid _ ⟨K⟩)=K a:=b_quo_1 h1 h2
theorem p_hid2{f:List Lf→HL→Prop}{a:List Lf}{b:HL}:@hid _ ⟨f⟩ a b=f a b:=rfl
theorem p_eqs2_f{a b c d:Int}{K:Bool→Prop}(h:¬(a=c∧b=d)):(PH C Sg T).eqs [(.i a,.i c),(.i b,.i d)] (@hid _ ⟨K⟩)=K false:=by
 show K (bZ _)=K false
 have:bZ [(.i a,.i c),(.i b,.i d)]=false:=by
  rw[Bool.eq_false_iff]
  simpa[bZ,fW]using h
 rw[this]
theorem p_eqs3_f{a b c d e f:Int}{K:Bool→Prop}(h:¬(a=d∧b=e∧c=f)):(PH C Sg T).eqs [(.i a,.i d),(.i b,.i e),(.i c,.i f)] (@hid _ ⟨K⟩)=K false:=by
 show K (bZ _)=K false
 have:bZ [(.i a,.i d),(.i b,.i e),(.i c,.i f)]=false:=by
  rw[Bool.eq_false_iff]
  simpa[bZ,fW]using h
 rw[this]
theorem aY{g:FuncId}{ls rs:List Lf}{h h':HL}{K:List Lf→HL→Prop}(hc:au C Sg g ls (absH T h) rs (absH T h'))(hk:K rs h'):(PH C Sg T).call g ls h (@hid _ ⟨K⟩):=⟨rs,h',hc,hk⟩
theorem jL{g:FuncId}{sg:Sig}{ls rs:List Lf}{H H':List HObj}(hc:au C Sg g ls H rs H')(hs:Sg g=some sg)(xs:List S0)(h1:br xs sg.ps=true)(h2:bv xs=ls) :
  tM C (.func (.func g) #[] #[]) (ah xs) sg.rs H rs H':=by
 obtain⟨sg',xs',ys,c1,c2,c3,c4⟩:=hc
 rw[hs]at c1
 cases c1
 obtain⟨w1,_⟩:=cm c2.1 h1 (c2.2.1.trans h2.symm)
 rw[w1]at c4
 exact⟨ys,c3,.inl ⟨g,#[],#[],rfl,by simpa using c4⟩⟩
theorem oE{v:Value}{args:List Value}{hs:List SK}{rs:List Lf}{h h':HL}{K:List Lf→HL→Prop}(hc:tM C v args hs (absH T h) rs (absH T h'))(hk:K rs h'):(PH C Sg T).callv v args hs h (@hid _ ⟨K⟩):=⟨rs,h',hc,hk⟩
theorem p_new{o:HObj}{h:HL}{K:Nat→HL→Prop}:(PH C Sg T).new o h (@hid _ ⟨K⟩)=K h.length (h++[.o o]):=rfl
theorem cC{v:Value}{K:Prop}(h:bj v=true)(hk:K):(PH C Sg T).chk v (@hid _ ⟨K⟩):=⟨h,hk⟩
theorem jX{f:Hp}{h:HL}{K:List Value→HL→Prop}{acts:List Act1}{cs:List Value}(e:f.run (getH T h) h.length=some (acts,cs))(hk:K cs (bX h acts)):(PH C Sg T).heap f h (@hid _ ⟨K⟩):=⟨acts,cs,e,hk⟩
theorem jY{f:Pk}{h:HL}{K:List Value→Prop}{cs:List Value}(e:f.run (getH T h)=some cs)(hk:K cs):(PH C Sg T).peek f h (@hid _ ⟨K⟩):=⟨cs,e,hk⟩
noncomputable def pxs(C:Cfg)(Sg:FuncId→Option Sig)(T:Nat→Site):=And.intro @p_hid2 (And.intro (@p_new _ _ C Sg T) (And.intro (@p_unI _ _ C Sg T) (And.intro (@p_unB _ _ C Sg T) (And.intro (@p_unV _ _ C Sg T) (And.intro (@p_un0 _ _ C Sg T) (And.intro (@p_ucI _ _ C Sg T) (And.intro (@p_ucB _ _ C Sg T) (And.intro (@p_ucV _ _ C Sg T) (And.intro (@p_uc0 _ _ C Sg T) (And.intro (@p_cond_t _ _ C Sg T) (And.intro (@p_cond_f _ _ C Sg T) (And.intro (@p_opt _ _ C Sg T) (And.intro (@p_inB _ _ C Sg T) (And.intro (@p_join _ _ C Sg T) (And.intro (@p_sel_t _ _ C Sg T) (And.intro (@p_sel_f _ _ C Sg T) ((@p_it))))))))))))))))))
noncomputable def pxc(C:Cfg)(Sg:FuncId→Option Sig)(T:Nat→Site):=And.intro (@p_lss_t _ _ C Sg T) (And.intro (@p_lss_f _ _ C Sg T) (And.intro (@p_leq_t _ _ C Sg T) (And.intro (@p_leq_f _ _ C Sg T) (And.intro (@p_gtr_t _ _ C Sg T) (And.intro (@p_gtr_f _ _ C Sg T) (And.intro (@p_geq_t _ _ C Sg T) (And.intro (@p_geq_f _ _ C Sg T) (And.intro (@p_eql_t _ _ C Sg T) (And.intro (@p_eql_f _ _ C Sg T) (And.intro (@p_neq_t _ _ C Sg T) (And.intro (@p_neq_f _ _ C Sg T) (And.intro (@p_eqs0 _ _ C Sg T) (And.intro (@p_eqs_t _ _ C Sg T) (And.intro (@p_eqs_f _ _ C Sg T) (And.intro (@p_eqs2_f _ _ C Sg T) (And.intro (@p_eqs3_f _ _ C Sg T) (And.intro (@p_eqsb_t _ _ C Sg T) (And.intro (@p_eqsb_tf _ _ C Sg T) ((@p_eqsb_ft _ _ C Sg T))))))))))))))))))))
noncomputable def pxa(C:Cfg)(Sg:FuncId→Option Sig)(T:Nat→Site):=And.intro (@p_mul_1 _ _ C Sg T) (And.intro (@p_mul_0 _ _ C Sg T) (And.intro (@p_mul_m _ _ C Sg T) (And.intro (@p_mul_r1 _ _ C Sg T) (And.intro (@p_mul_r0 _ _ C Sg T) (And.intro (@p_mul_rm _ _ C Sg T) (And.intro (@p_add_0 _ _ C Sg T) (And.intro (@p_add_r0 _ _ C Sg T) (And.intro (@p_add_11 _ _ C Sg T) (And.intro (@p_quo_1 _ _ C Sg T) (And.intro (@p_add _ _ C Sg T) (And.intro (@p_sub _ _ C Sg T) (And.intro (@p_mul _ _ C Sg T) (And.intro (@p_add8 _ _ C Sg T) (And.intro (@p_sub8 _ _ C Sg T) (And.intro (@p_mul8 _ _ C Sg T) (And.intro (@p_quo_nn _ _ C Sg T) (And.intro (@p_quo_dv _ _ C Sg T) (And.intro (@p_rem_nn _ _ C Sg T) (And.intro (@p_rem_np _ _ C Sg T) (And.intro (@p_and1 _ _ C Sg T) (And.intro (@p_conv _ _ C Sg T) ((@p_conv8 _ _ C Sg T)))))))))))))))))))))))
end
end Sx
end Go.Am

/-
 LOOPS OVER ITERATORS IN THE ALGEBRA OF PROPOSITIONS: the call of the iterator;a round.
-/
namespace Go.Am
namespace Sx
section
variable [Val] [Kno]
variable {C:Cfg} {Sg:FuncId→Option Sig} {T:Nat→Site}
theorem sH{h:HL}{l κ:Nat}{st:LoopState}{pd:Option Code}{vs:List Value}(e:h[l]? = some (.lp κ st pd vs)):dh (absH T h) l=some { lpOf (T κ) κ vs with state:=st,pending:=pd }:=by
 unfold dh absH
 rw[List.getElem?_map,e]
 rfl
theorem absH_app1(h:HL)(o:HO):absH T (h++[o])=absH T h++[absO T o]:=by simp[absH]
theorem p_rfun{g:FuncId}{first cap:Array Value}{κ:Nat}{vals:List Value}{h h1:HL}{ls rs:List Lf}{K:Option Code→HL→Prop}{κ':Nat}{st:LoopState}{pd:Option Code}{vs:List Value}{sg:Sig}{xs:List S0}
  (hc:au C Sg g ls (absH T (h++[.lp κ .ready none vals])) rs (absH T h1)) (hs:Sg g=some sg) (h2:br xs sg.ps=true) (h3:bv xs=ls) (h4:ah xs=first.toList++[.func (.yield h.length) #[] #[]]++cap.toList)
  (hl:h1[h.length]? = some (.lp κ' st pd vs)) (hst:st≠.busy) (hk:K pd (h1.set h.length (.lp κ' .exhausted pd vs))):(PH C Sg T).rfun κ (.func (.func g) first cap) vals h (@hid _ ⟨K⟩):=by
 obtain⟨sg',xs',ys,c1,c2,c3,c4⟩:=hc
 rw[hs]at c1
 cases c1
 have hlen:(absH T h).length=h.length:=dn T h
 obtain⟨w1,_⟩:=cm c2.1 h2 (c2.2.1.trans h3.symm)
 rw[w1,h4,absH_app1]at c4
 refine⟨g,first,cap,dP (ah ys),absH T h1,{ lpOf (T κ') κ' vs with state:=st,pending:=pd },h1.set h.length (.lp κ' .exhausted pd vs),rfl,?_,?_,hst,?_,hk⟩
 ·rw[hlen];exact c4
 ·rw[hlen];exact sH hl
 ·rw[hlen]
  simp[absH,absO,List.map_set]
theorem pq{h:HL}{l:Nat}{o:HO}:absH T (h.set l o)=(absH T h).set l (absO T o):=by
 unfold absH
 rw[List.map_set]
theorem p_lp1{l κ:Nat}{pd:Option Code}{vs:List Value}{h:HL}{K:HL→Prop}(hl:h[l]? = some (.lp κ .ready pd vs))(hk:K (h.set l (.lp κ .busy pd vs))):(PH C Sg T).lp1 l h (@hid _ ⟨K⟩):=
 ⟨{ lpOf (T κ) κ vs with state:=.ready,pending:=pd },h.set l (.lp κ .busy pd vs),sH hl,rfl,pq,hk⟩
theorem p_lp2{l κ:Nat}{st:LoopState}{pd:Option Code}{vs:List Value}{h:HL}{K:HL→Prop}(hl:h[l]? = some (.lp κ st pd vs))(hk:K (h.set l (.lp κ .ready none vs))):(PH C Sg T).lp2 l none h (@hid _ ⟨K⟩):=
 ⟨{ lpOf (T κ) κ vs with state:=st,pending:=pd },h.set l (.lp κ .ready none vs),sH hl,pq,hk⟩
theorem p_callY{l:Nat}{ys:List S0}{b:Bool}{h h':HL}{K:List Lf→HL→Prop}(hu:ey C l (ah ys) (absH T h) (.bool b) (absH T h'))(hk:K [.b b] h'):(PH C Sg T).callv (.func (.yield l) #[] #[]) (ah ys) [.leaf .b] h (@hid _ ⟨K⟩):=
 ⟨[.b b],h',⟨[.leaf (.b b)],⟨rfl,rfl,fun x hx=>by
  simp only[List.mem_singleton]at hx
  subst hx
  intro y hy
  simp only[S0.cells,List.mem_singleton]at hy
  subst hy;trivial⟩,.inr ⟨l,rfl,hu⟩⟩,hk⟩
end
end Sx
end Go.Am

/-
 THE SEAT'S CALLS: what is known of them,and how it is shown (over the heaps of runs).
-/
set_option maxRecDepth 100000
namespace Go.Am
open Sx Go.Proofs
theorem gl_cell(g:Nat)(vs:List Value)(h:cc.G g=some vs):vs.all aI=true:=by
 unfold cc at h
 simp only at h
 split at h<;>first|(cases h;done)|(obtain rfl:=Option.some.inj h;kernel_rfl)
noncomputable abbrev P1:Alg Prop HL:=PH cc ac aa
abbrev Cc(g:FuncId)(ls rs:List Lf):Prop:=∀H,au cc ac g ls H rs H
theorem eW{f:FuncId}{fn:Fn1}(hi:FnIs (xc f) ac f fn){ls:List Lf}{H:HL}{K:List Lf→HL→Prop}(hls:aQ ls=true)
  (h:aj P1 (xc f) ac drN fn ls H K):∃rs H',au cc ac f ls (absH aa H) rs (absH aa H')∧K rs H':=by
 obtain⟨rs,h',a1,_,a3⟩:=oc (X:=xc f) (holds:=id) (abs:=absH aa) (PH_ok cc ac aa) pP hi (df hls) h
 exact⟨rs,h',a1,a3⟩
theorem de{f:FuncId}{fn:Fn1}(hi:FnIs (xc f) ac f fn){ls:List Lf}{H:HL}{K:List Lf→HL→Prop}(hls:bg ls)
  (h:aj P1 (xc f) ac drN fn ls H K):∃rs H',au cc ac f ls (absH aa H) rs (absH aa H')∧K rs H':=by
 obtain⟨rs,h',a1,_,a3⟩:=oc (X:=xc f) (holds:=id) (abs:=absH aa) (PH_ok cc ac aa) pP hi hls h
 exact⟨rs,h',a1,a3⟩
theorem gls0:bg []:=fun _ h=>by cases h
theorem glsI{n:Int}{ls:List Lf}(h:bg ls):bg (.i n :: ls):=fun l hl=>by
 rcases List.mem_cons.1 hl with rfl|hl
 ·trivial
 ·exact h l hl
theorem glsV{x:Value}{ls:List Lf}(hx:bj x=true)(h:bg ls):bg (.v x :: ls):=fun l hl=>by
 rcases List.mem_cons.1 hl with rfl|hl
 ·exact hx
 ·exact h l hl
def qxs:=pxs cc ac aa
def qxc:=pxc cc ac aa
def qxa:=pxa cc ac aa
end Go.Am

/-
 THE FUNCTIONS OVER THE ALGEBRA OF PROPOSITIONS,BY PROGRAM.
-/
set_option maxRecDepth 100000
namespace Go.Am
open Sx Go.Proofs
/-- crimp/crimplaw09.CornersBoth -/
def p4(A:Alg Prop (HL))(ls:List Lf)(h:HL)(K:List Lf→HL→Prop):Prop:=A.unI ls (@hid _ ⟨fun n6 b4=>A.unI b4 (@hid _ ⟨fun n8 b5=>A.unV b5 (@hid _ ⟨fun b6 b7=>A.un0 b7 (@hid _ ⟨A.call 5 [(.i n6),(.i n8),(.v b6)] h (@hid _ ⟨fun b8 b9=>A.unI b8 (@hid _ ⟨fun n14 c0=>A.unI c0 (@hid _ ⟨fun n16 c1=>A.unV c1 (@hid _ ⟨fun x18 d0=>A.un0 d0 (@hid _ ⟨A.call 6 [(.i n14),(.i n16)] b9 (@hid _ ⟨fun d1 h21=>A.unV d1 (@hid _ ⟨fun x22 d2=>A.unI d2 (@hid _ ⟨fun n24 d3=>A.un0 d3 (@hid _ ⟨A.cmp .neq n24 0 (@hid _ ⟨fun d4=>A.cond d4 (@hid _ ⟨K [(.b false)] h21⟩) (@hid _ ⟨A.loop (@hid _ ⟨fun d5 d6 a3=>A.unI d6 (@hid _ ⟨fun n30 d7=>A.unI d7 (@hid _ ⟨fun n32 d8=>A.un0 d8 (@hid _ ⟨A.opt (lenS x22) (@hid _ ⟨fun x34=>A.cmp .lss n32 x34 (@hid _ ⟨fun d9=>A.cond d9 (@hid _ ⟨A.opt (idS 2 x22 n32) (@hid _ ⟨fun e0=>A.peek (.lg cc 2 e0) a3 (@hid _ ⟨fun e1=>A.ucI .i64 e1 (@hid _ ⟨fun n38 e2=>A.ucI .i64 e2 (@hid _ ⟨fun n40 e3=>A.uc0 e3 (@hid _ ⟨A.call 8 [(.i n14),(.i n16),(.v x18),(.i n38),(.i n40)] a3 (@hid _ ⟨fun f0 a5=>A.unI f0 (@hid _ ⟨fun n44 f1=>A.unI f1 (@hid _ ⟨fun n46 f2=>A.un0 f2 (@hid _ ⟨A.cmp .neq n46 0 (@hid _ ⟨fun f3=>A.cond f3 (@hid _ ⟨K [(.b false)] a5⟩) (@hid _ ⟨A.ari .add .i64 n30 n44 (@hid _ ⟨fun n49=>A.ari .add .i64 n32 1 (@hid _ ⟨fun n50=>d5 [(.i n49),(.i n50)] a5⟩)⟩)⟩)⟩)⟩)⟩)⟩)⟩)⟩)⟩)⟩)⟩)⟩)⟩) (@hid _ ⟨A.loop (@hid _ ⟨fun g0 g1 U=>A.unI g1 (@hid _ ⟨fun n54 g2=>A.unI g2 (@hid _ ⟨fun n56 g3=>A.un0 g3 (@hid _ ⟨A.opt (lenS x18) (@hid _ ⟨fun g6=>A.cmp .lss n56 g6 (@hid _ ⟨fun g9=>A.cond g9 (@hid _ ⟨A.opt (idS 3 x18 n56) (@hid _ ⟨fun x60=>A.peek (.lg cc 3 x60) U (@hid _ ⟨fun h0=>A.ucI .i64 h0 (@hid _ ⟨fun n62 h1=>A.ucI .u8 h1 (@hid _ ⟨fun n64 h2=>A.ucI .u8 h2 (@hid _ ⟨fun n66 h3=>A.uc0 h3 (@hid _ ⟨A.call 13 [(.i n14),(.i n16),(.i n62),(.i n64)] U (@hid _ ⟨fun h6 h9=>A.unI h6 (@hid _ ⟨fun V i0=>A.unI i0 (@hid _ ⟨fun a0 i1=>A.unI i1 (@hid _ ⟨fun a1 i2=>A.unI i2 (@hid _ ⟨fun a2 i3=>A.un0 i3 (@hid _ ⟨A.loop (@hid _ ⟨fun j0 j1 a6=>A.unI j1 (@hid _ ⟨fun n81 j2=>A.unI j2 (@hid _ ⟨fun n83 j3=>A.un0 j3 (@hid _ ⟨A.cmp .lss n83 2 (@hid _ ⟨fun j4=>A.cond j4 (@hid _ ⟨A.join (@hid _ ⟨fun j5 h87=>A.unI j5 (@hid _ ⟨fun n88 j6=>A.un0 j6 (@hid _ ⟨A.ari .add .i64 n83 1 (@hid _ ⟨fun n90=>j0 [(.i n88),(.i n90)] h87⟩)⟩)⟩)⟩) (@hid _ ⟨fun a7=>A.opt (inB 2 n83) (@hid _ ⟨fun q6=>A.opt (cP [(.i V),(.i a0),(.i a1),(.i a2)] 0 [(n83,2)] 2) (@hid _ ⟨fun j7=>A.unI j7 (@hid _ ⟨fun j8 j9=>A.unI j9 (@hid _ ⟨fun n96 k0=>A.un0 k0 (@hid _ ⟨A.call 14 [(.i n14),(.i n16),(.i j8),(.i n96)] a6 (@hid _ ⟨fun k1 a8=>A.unI k1 (@hid _ ⟨fun n100 k2=>A.un0 k2 (@hid _ ⟨A.cmp .eql n100 0 (@hid _ ⟨fun k3=>A.cond k3 (@hid _ ⟨a7 [(.i n81)] a8⟩) (@hid _ ⟨A.ari .add .i64 n81 1 (@hid _ ⟨fun k4=>A.opt (inB 2 n83) (@hid _ ⟨fun q7=>A.opt (cP [(.i V),(.i a0),(.i a1),(.i a2)] 0 [(n83,2)] 2) (@hid _ ⟨fun k5=>A.unI k5 (@hid _ ⟨fun k6 k7=>A.unI k7 (@hid _ ⟨fun n108 k8=>A.un0 k8 (@hid _ ⟨A.call 7 [(.i n14),(.i n16),(.v x18),(.i k6),(.i n108)] a8 (@hid _ ⟨fun k9 l0=>A.unV k9 (@hid _ ⟨fun a9 l1=>A.unI l1 (@hid _ ⟨fun n114 l2=>A.un0 l2 (@hid _ ⟨A.loop (@hid _ ⟨fun l3 l4 O=>A.unB l4 (@hid _ ⟨fun b0 l5=>A.unI l5 (@hid _ ⟨fun a4 l6=>A.un0 l6 (@hid _ ⟨A.opt (lenS a9) (@hid _ ⟨fun l7=>A.cmp .lss a4 l7 (@hid _ ⟨fun l8=>A.cond l8 (@hid _ ⟨A.join (@hid _ ⟨fun l9 m0=>A.unB l9 (@hid _ ⟨fun m1 m2=>A.un0 m2 (@hid _ ⟨A.ari .add .i64 a4 1 (@hid _ ⟨fun m3=>l3 [(.b m1),(.i m3)] m0⟩)⟩)⟩)⟩) (@hid _ ⟨fun b1=>A.cond b0 (@hid _ ⟨b1 [(.b true)] O⟩) (@hid _ ⟨A.opt (idS 2 a9 a4) (@hid _ ⟨fun m4=>A.peek (.lg cc 2 m4) O (@hid _ ⟨fun m5=>A.ucI .i64 m5 (@hid _ ⟨fun m6 m7=>A.ucI .u8 m7 (@hid _ ⟨fun m8 m9=>A.uc0 m9 (@hid _ ⟨A.opt (inB 2 n83) (@hid _ ⟨fun q8=>A.opt (cP [(.i V),(.i a0),(.i a1),(.i a2)] 0 [(n83,2)] 2) (@hid _ ⟨fun n0=>A.unI n0 (@hid _ ⟨fun n1 n2=>A.unI n2 (@hid _ ⟨fun n3 o0=>A.un0 o0 (@hid _ ⟨A.ari .sub .i64 1 n83 (@hid _ ⟨fun b2=>A.opt (inB 2 b2) (@hid _ ⟨fun q9=>A.opt (cP [(.i V),(.i a0),(.i a1),(.i a2)] 0 [(b2,2)] 2) (@hid _ ⟨fun o1=>A.unI o1 (@hid _ ⟨fun o2 o3=>A.unI o3 (@hid _ ⟨fun o4 o5=>A.un0 o5 (@hid _ ⟨A.call 15 [(.i n1),(.i n3),(.i o2),(.i o4)] O (@hid _ ⟨fun o6 o7=>A.unI o6 (@hid _ ⟨fun o8 o9=>A.un0 o9 (@hid _ ⟨A.eqs [((.i m6),(.i o8)),((.i m8),(.i n66))] (@hid _ ⟨fun p0=>b1 [(.b p0)] o7⟩)⟩)⟩)⟩)⟩)⟩)⟩)⟩)⟩)⟩)⟩)⟩)⟩)⟩)⟩)⟩)⟩)⟩)⟩)⟩)⟩)⟩)⟩) (@hid _ ⟨A.cmp .neq n114 0 (@hid _ ⟨fun p1=>A.cond p1 (@hid _ ⟨K [(.b false)] O⟩) (@hid _ ⟨A.cond (!b0) (@hid _ ⟨K [(.b false)] O⟩) (@hid _ ⟨a7 [(.i k4)] O⟩)⟩)⟩)⟩)⟩)⟩)⟩)⟩)⟩)⟩) [(.b false),(.i 0)] l0⟩)⟩)⟩)⟩)⟩)⟩)⟩)⟩)⟩)⟩)⟩)⟩)⟩)⟩)⟩)⟩)⟩)⟩)⟩)⟩)⟩)⟩) (@hid _ ⟨A.ari .add .i64 n56 1 (@hid _ ⟨fun p2=>g0 [(.i n81),(.i p2)] a6⟩)⟩)⟩)⟩)⟩)⟩)⟩) [(.i n54),(.i 0)] h9⟩)⟩)⟩)⟩)⟩)⟩)⟩)⟩)⟩)⟩)⟩)⟩)⟩) (@hid _ ⟨A.join (@hid _ ⟨fun p3 p6=>A.unB p3 (@hid _ ⟨fun p9 q0=>A.un0 q0 (@hid _ ⟨K [(.b p9)] p6⟩)⟩)⟩) (@hid _ ⟨fun b3=>A.cmp .eql n30 n54 (@hid _ ⟨fun q1=>A.cond q1 (@hid _ ⟨A.call 12 [] U (@hid _ ⟨fun q2 q3=>A.unB q2 (@hid _ ⟨fun q4 q5=>A.un0 q5 (@hid _ ⟨b3 [(.b q4)] q3⟩)⟩)⟩)⟩) (@hid _ ⟨b3 [(.b false)] U⟩)⟩)⟩)⟩)⟩)⟩)⟩)⟩)⟩)⟩) [(.i 0),(.i 0)] a3⟩)⟩)⟩)⟩)⟩)⟩)⟩) [(.i 0),(.i 0)] h21⟩)⟩)⟩)⟩)⟩)⟩)⟩)⟩)⟩)⟩)⟩)⟩)⟩)⟩)⟩)
theorem g4:(fun A:Alg Prop (HL)=>p4 A)=fun A=>f4 A:=by kernel_rfl
theorem h4(ls:List Lf)(H:HL)(K:List Lf→HL→Prop):p4 P1 ls H K=aj P1 (xc 4) ac drN n4 ls H K:=
 congrFun (congrFun (congrFun ((congrFun g4 P1).trans (congrFun (congrFun (congrFun e4 Prop) (HL)) P1)) ls) H) K
theorem u4{ls:List Lf}{H:HL}{K:List Lf→HL→Prop}(hls:aQ ls=true)(h:p4 P1 ls H K):∃rs H',au cc ac 4 ls (absH aa H) rs (absH aa H')∧K rs H':=
 eW i4 hls (h4 ls H K▸h)
theorem x4{ls:List Lf}{H:HL}{K:List Lf→HL→Prop}(hls:bg ls)(h:p4 P1 ls H K):∃rs H',au cc ac 4 ls (absH aa H) rs (absH aa H')∧K rs H':=
 de i4 hls (h4 ls H K▸h)
/-- (crimp/crimplaw06.P).Of -/
def p5(A:Alg Prop (HL))(ls:List Lf)(h:HL)(K:List Lf→HL→Prop):Prop:=A.unI ls (@hid _ ⟨fun n6 a0=>A.unI a0 (@hid _ ⟨fun n8 a1=>A.unV a1 (@hid _ ⟨fun U a2=>A.un0 a2 (@hid _ ⟨A.ari .rem .u8 n6 4 (@hid _ ⟨fun n12=>A.conv .i64 n12 (@hid _ ⟨fun n13=>A.ari .add .i64 1 n13 (@hid _ ⟨fun n14=>A.ari .rem .u8 n8 4 (@hid _ ⟨fun n15=>A.conv .i64 n15 (@hid _ ⟨fun n16=>A.ari .add .i64 1 n16 (@hid _ ⟨fun n17=>A.ari .mul .i64 6 n14 (@hid _ ⟨fun n18=>A.ari .mul .i64 n18 n17 (@hid _ ⟨fun n19=>A.opt (mkOk n19 n19) (@hid _ ⟨fun d0=>A.new (.cells (aX [(.int .u8 0)] (Int.toNat n19)) 1 true) h (@hid _ ⟨fun O h22=>A.join (@hid _ ⟨fun a3 h24=>A.un0 a3 (@hid _ ⟨A.call 16 [(.i n14),(.i n17),(.v (.slice (some ⟨O,0,(some 11)⟩) (Int.toNat n19) ((Int.toNat n19)+1)))] h24 (@hid _ ⟨fun a4 a5=>A.unI a4 (@hid _ ⟨fun n27 a6=>A.unI a6 (@hid _ ⟨fun n29 a7=>A.unV a7 (@hid _ ⟨fun a8 a9=>A.un0 a9 (@hid _ ⟨K [(.i n27),(.i n29),(.v a8)] a5⟩)⟩)⟩)⟩)⟩)⟩)⟩) (@hid _ ⟨fun V=>A.loop (@hid _ ⟨fun b0 b1 h36=>A.unI b1 (@hid _ ⟨fun n37 b2=>A.un0 b2 (@hid _ ⟨A.opt (lenS (.slice (some ⟨O,0,(some 11)⟩) (Int.toNat n19) ((Int.toNat n19)+1))) (@hid _ ⟨fun b3=>A.cmp .lss n37 b3 (@hid _ ⟨fun b4=>A.cond b4 (@hid _ ⟨A.opt (lenS U) (@hid _ ⟨fun b5=>A.cmp .lss n37 b5 (@hid _ ⟨fun b6=>A.cond b6 (@hid _ ⟨A.opt (idS 1 U n37) (@hid _ ⟨fun b7=>A.peek (.lg cc 1 b7) h36 (@hid _ ⟨fun b8=>A.ucI .u8 b8 (@hid _ ⟨fun n45 b9=>A.uc0 b9 (@hid _ ⟨A.ari .rem .u8 n45 4 (@hid _ ⟨fun n47=>A.opt (idS 1 (.slice (some ⟨O,0,(some 11)⟩) (Int.toNat n19) ((Int.toNat n19)+1)) n37) (@hid _ ⟨fun c0=>A.heap (.st c0 [(.int .u8 n47)]) h36 (@hid _ ⟨fun d1 c1=>A.ari .add .i64 n37 1 (@hid _ ⟨fun n51=>b0 [(.i n51)] c1⟩)⟩)⟩)⟩)⟩)⟩)⟩)⟩)⟩) (@hid _ ⟨V [] h36⟩)⟩)⟩)⟩) (@hid _ ⟨V [] h36⟩)⟩)⟩)⟩)⟩)⟩) [(.i 0)] h22⟩)⟩)⟩)⟩)⟩)⟩)⟩)⟩)⟩)⟩)⟩)⟩)⟩)⟩)⟩)
theorem g5:(fun A:Alg Prop (HL)=>p5 A)=fun A=>f5 A:=by kernel_rfl
theorem h5(ls:List Lf)(H:HL)(K:List Lf→HL→Prop):p5 P1 ls H K=aj P1 (xc 5) ac drN n5 ls H K:=
 congrFun (congrFun (congrFun ((congrFun g5 P1).trans (congrFun (congrFun (congrFun e5 Prop) (HL)) P1)) ls) H) K
theorem x5{ls:List Lf}{H:HL}{K:List Lf→HL→Prop}(hls:bg ls)(h:p5 P1 ls H K):∃rs H',au cc ac 5 ls (absH aa H) rs (absH aa H')∧K rs H':=
 de i5 hls (h5 ls H K▸h)
/-- crimp/corners.Creases -/
def p7(A:Alg Prop (HL))(ls:List Lf)(h:HL)(K:List Lf→HL→Prop):Prop:=A.unI ls (@hid _ ⟨fun n6 a9=>A.unI a9 (@hid _ ⟨fun n8 b0=>A.unV b0 (@hid _ ⟨fun b1 b2=>A.unI b2 (@hid _ ⟨fun n12 b3=>A.unI b3 (@hid _ ⟨fun n14 b4=>A.un0 b4 (@hid _ ⟨A.new (.cells [(.int .i64 n6),(.int .i64 n8),b1] 3 true) h (@hid _ ⟨fun O a1=>A.peek (.lg cc 3 (.pointer (some ⟨O,0,none⟩))) a1 (@hid _ ⟨fun b5=>A.ucI .i64 b5 (@hid _ ⟨fun n19 b6=>A.ucI .i64 b6 (@hid _ ⟨fun n21 b7=>A.ucV b7 (@hid _ ⟨fun a2 b8=>A.chk a2 (@hid _ ⟨A.uc0 b8 (@hid _ ⟨A.call 18 [(.i n19),(.i n21),(.v a2)] a1 (@hid _ ⟨fun b9 U=>A.unI b9 (@hid _ ⟨fun n27 c0=>A.un0 c0 (@hid _ ⟨A.cmp .neq n27 0 (@hid _ ⟨fun c1=>A.cond c1 (@hid _ ⟨K [(.v (.slice none 0 0)),(.i n27)] U⟩) (@hid _ ⟨A.opt (fdP 0 (.pointer (some ⟨O,0,none⟩))) (@hid _ ⟨fun a3=>A.chk a3 (@hid _ ⟨A.peek (.lg cc 2 a3) U (@hid _ ⟨fun d0=>A.ucI .i64 d0 (@hid _ ⟨fun n32 d1=>A.ucI .i64 d1 (@hid _ ⟨fun n34 d2=>A.uc0 d2 (@hid _ ⟨A.call 19 [(.i n32),(.i n34),(.i n12),(.i n14)] U (@hid _ ⟨fun d3 h37=>A.unI d3 (@hid _ ⟨fun n38 d4=>A.un0 d4 (@hid _ ⟨A.cmp .neq n38 0 (@hid _ ⟨fun d5=>A.cond d5 (@hid _ ⟨K [(.v (.slice none 0 0)),(.i n38)] h37⟩) (@hid _ ⟨A.new (.cells [(.slice none 0 0)] 1 true) h37 (@hid _ ⟨fun V a4=>A.opt (fdP 0 (.pointer (some ⟨O,0,none⟩))) (@hid _ ⟨fun a5=>A.chk a5 (@hid _ ⟨A.peek (.lg cc 2 a5) a4 (@hid _ ⟨fun d6=>A.ucI .i64 d6 (@hid _ ⟨fun n45 d7=>A.ucI .i64 d7 (@hid _ ⟨fun n47 d8=>A.uc0 d8 (@hid _ ⟨A.call 20 [(.i n45),(.i n47),(.i n12),(.i n14)] a4 (@hid _ ⟨fun d9 e0=>A.unV d9 (@hid _ ⟨fun e1 e2=>A.un0 e2 (@hid _ ⟨A.rfun 112 e1 [(.pointer (some ⟨O,0,none⟩)),(.pointer (some ⟨V,0,none⟩))] e0 (@hid _ ⟨fun e3 a0=>A.pend e3 (@hid _ ⟨A.peek (.lg cc 1 (.pointer (some ⟨V,0,none⟩))) a0 (@hid _ ⟨fun f0=>A.ucV f0 (@hid _ ⟨fun a6 f1=>A.chk a6 (@hid _ ⟨A.uc0 f1 (@hid _ ⟨A.call 22 [(.v a6),(.v (.func (.func 23) ⟨[]⟩ ⟨[]⟩))] a0 (@hid _ ⟨fun f2 a7=>A.un0 f2 (@hid _ ⟨A.peek (.lg cc 1 (.pointer (some ⟨V,0,none⟩))) a7 (@hid _ ⟨fun f3=>A.ucV f3 (@hid _ ⟨fun a8 g0=>A.chk a8 (@hid _ ⟨A.uc0 g0 (@hid _ ⟨A.call 24 [(.v a8)] a7 (@hid _ ⟨fun g1 g2=>A.unV g1 (@hid _ ⟨fun g3 g6=>A.un0 g6 (@hid _ ⟨K [(.v g3),(.i 0)] g2⟩)⟩)⟩)⟩)⟩)⟩)⟩)⟩)⟩)⟩)⟩)⟩)⟩)⟩) (@hid _ ⟨K [(.v (.slice none 0 0)),(.i 0)] a0⟩) []⟩)⟩)⟩)⟩)⟩)⟩)⟩)⟩)⟩)⟩)⟩)⟩)⟩)⟩)⟩)⟩)⟩)⟩)⟩)⟩)⟩)⟩)⟩)⟩)⟩)⟩)⟩)⟩)⟩)⟩)⟩)⟩)⟩)⟩)⟩)⟩)⟩)⟩)⟩)⟩)
theorem g7:(fun A:Alg Prop (HL)=>p7 A)=fun A=>f7 A:=by kernel_rfl
theorem h7(ls:List Lf)(H:HL)(K:List Lf→HL→Prop):p7 P1 ls H K=aj P1 (xc 7) ac drN n7 ls H K:=
 congrFun (congrFun (congrFun ((congrFun g7 P1).trans (congrFun (congrFun (congrFun e7 Prop) (HL)) P1)) ls) H) K
theorem x7{ls:List Lf}{H:HL}{K:List Lf→HL→Prop}(hls:bg ls)(h:p7 P1 ls H K):∃rs H',au cc ac 7 ls (absH aa H) rs (absH aa H')∧K rs H':=
 de i7 hls (h7 ls H K▸h)
/-- crimp/corners.Degree -/
def p8(A:Alg Prop (HL))(ls:List Lf)(h:HL)(K:List Lf→HL→Prop):Prop:=A.unI ls (@hid _ ⟨fun n6 O=>A.unI O (@hid _ ⟨fun n8 U=>A.unV U (@hid _ ⟨fun V a0=>A.unI a0 (@hid _ ⟨fun n12 a1=>A.unI a1 (@hid _ ⟨fun n14 a2=>A.un0 a2 (@hid _ ⟨A.call 7 [(.i n6),(.i n8),(.v V),(.i n12),(.i n14)] h (@hid _ ⟨fun a3 a4=>A.unV a3 (@hid _ ⟨fun x18 a5=>A.unI a5 (@hid _ ⟨fun n20 a6=>A.un0 a6 (@hid _ ⟨A.opt (lenS x18) (@hid _ ⟨fun x22=>K [(.i x22),(.i n20)] a4⟩)⟩)⟩)⟩)⟩)⟩)⟩)⟩)⟩)⟩)⟩)
theorem g8:(fun A:Alg Prop (HL)=>p8 A)=fun A=>f8 A:=by kernel_rfl
theorem h8(ls:List Lf)(H:HL)(K:List Lf→HL→Prop):p8 P1 ls H K=aj P1 (xc 8) ac drN n8 ls H K:=
 congrFun (congrFun (congrFun ((congrFun g8 P1).trans (congrFun (congrFun (congrFun e8 Prop) (HL)) P1)) ls) H) K
theorem u8{ls:List Lf}{H:HL}{K:List Lf→HL→Prop}(hls:aQ ls=true)(h:p8 P1 ls H K):∃rs H',au cc ac 8 ls (absH aa H) rs (absH aa H')∧K rs H':=
 eW i8 hls (h8 ls H K▸h)
theorem x8{ls:List Lf}{H:HL}{K:List Lf→HL→Prop}(hls:bg ls)(h:p8 P1 ls H K):∃rs H',au cc ac 8 ls (absH aa H) rs (absH aa H')∧K rs H':=
 de i8 hls (h8 ls H K▸h)
/-- crimp/crimpref06.With -/
def p16(A:Alg Prop (HL))(ls:List Lf)(h:HL)(K:List Lf→HL→Prop):Prop:=A.unI ls (@hid _ ⟨fun n6 a5=>A.unI a5 (@hid _ ⟨fun n8 a6=>A.unV a6 (@hid _ ⟨fun U a7=>A.un0 a7 (@hid _ ⟨A.call 31 [(.i n6),(.i n8)] h (@hid _ ⟨fun a8 a9=>A.unV a8 (@hid _ ⟨fun V b0=>A.un0 b0 (@hid _ ⟨A.join (@hid _ ⟨fun b1 b2=>A.unI b1 (@hid _ ⟨fun n18 b3=>A.unI b3 (@hid _ ⟨fun n20 b4=>A.unV b4 (@hid _ ⟨fun x22 b5=>A.un0 b5 (@hid _ ⟨K [(.i n18),(.i n20),(.v x22)] b2⟩)⟩)⟩)⟩)⟩) (@hid _ ⟨fun a0=>A.loop (@hid _ ⟨fun b6 b7 O=>A.unI b7 (@hid _ ⟨fun n28 b8=>A.unI b8 (@hid _ ⟨fun n30 b9=>A.unI b9 (@hid _ ⟨fun n32 c0=>A.unV c0 (@hid _ ⟨fun x34 c1=>A.un0 c1 (@hid _ ⟨A.opt (lenS V) (@hid _ ⟨fun d0=>A.cmp .lss n28 d0 (@hid _ ⟨fun d1=>A.cond d1 (@hid _ ⟨A.opt (lenS U) (@hid _ ⟨fun d2=>A.cmp .lss n28 d2 (@hid _ ⟨fun d3=>A.cond d3 (@hid _ ⟨A.opt (idS 1 U n28) (@hid _ ⟨fun x40=>A.peek (.lg cc 1 x40) O (@hid _ ⟨fun d4=>A.ucI .u8 d4 (@hid _ ⟨fun n42 d5=>A.uc0 d5 (@hid _ ⟨A.cmp .neq n42 0 (@hid _ ⟨fun d6=>A.join (@hid _ ⟨fun d7 h46=>A.unI d7 (@hid _ ⟨fun n47 d8=>A.unI d8 (@hid _ ⟨fun n49 d9=>A.unV d9 (@hid _ ⟨fun e0 e1=>A.un0 e1 (@hid _ ⟨A.ari .add .i64 n28 1 (@hid _ ⟨fun n53=>b6 [(.i n53),(.i n47),(.i n49),(.v e0)] h46⟩)⟩)⟩)⟩)⟩)⟩) (@hid _ ⟨fun a1=>A.cond d6 (@hid _ ⟨A.opt (idS 2 V n28) (@hid _ ⟨fun e2=>A.opt (fdP 0 e2) (@hid _ ⟨fun a2=>A.chk a2 (@hid _ ⟨A.peek (.lg cc 1 a2) O (@hid _ ⟨fun e3=>A.ucI .i64 e3 (@hid _ ⟨fun n58 f0=>A.uc0 f0 (@hid _ ⟨A.opt (idS 2 V n28) (@hid _ ⟨fun x60=>A.opt (fdP 1 x60) (@hid _ ⟨fun a3=>A.chk a3 (@hid _ ⟨A.peek (.lg cc 1 a3) O (@hid _ ⟨fun f1=>A.ucI .u8 f1 (@hid _ ⟨fun n63 f2=>A.uc0 f2 (@hid _ ⟨A.opt (idS 1 U n28) (@hid _ ⟨fun f3=>A.peek (.lg cc 1 f3) O (@hid _ ⟨fun g0=>A.ucI .u8 g0 (@hid _ ⟨fun n67 g1=>A.uc0 g1 (@hid _ ⟨A.new (.cells [(.int .i64 n58),(.int .u8 n63),(.int .u8 n67)] 3 true) O (@hid _ ⟨fun g2 g3=>A.heap (.ap cc 3 16 x34 (.slice (some ⟨g2,0,(some 13)⟩) 1 2)) g3 (@hid _ ⟨fun g6 g9=>A.ucV g6 (@hid _ ⟨fun a4 h0=>A.chk a4 (@hid _ ⟨A.uc0 h0 (@hid _ ⟨a1 [(.i n30),(.i n32),(.v a4)] g9⟩)⟩)⟩)⟩)⟩)⟩)⟩)⟩)⟩)⟩)⟩)⟩)⟩)⟩)⟩)⟩)⟩)⟩)⟩)⟩)⟩)⟩) (@hid _ ⟨a1 [(.i n30),(.i n32),(.v x34)] O⟩)⟩)⟩)⟩)⟩)⟩)⟩)⟩) (@hid _ ⟨a0 [(.i n30),(.i n32),(.v x34)] O⟩)⟩)⟩)⟩) (@hid _ ⟨a0 [(.i n30),(.i n32),(.v x34)] O⟩)⟩)⟩)⟩)⟩)⟩)⟩)⟩)⟩) [(.i 0),(.i n6),(.i n8),(.v (.slice none 0 0))] a9⟩)⟩)⟩)⟩)⟩)⟩)⟩)⟩)
theorem g16:(fun A:Alg Prop (HL)=>p16 A)=fun A=>f16 A:=by kernel_rfl
theorem h16(ls:List Lf)(H:HL)(K:List Lf→HL→Prop):p16 P1 ls H K=aj P1 (xc 16) ac drN n16 ls H K:=
 congrFun (congrFun (congrFun ((congrFun g16 P1).trans (congrFun (congrFun (congrFun e16 Prop) (HL)) P1)) ls) H) K
theorem u16{ls:List Lf}{H:HL}{K:List Lf→HL→Prop}(hls:aQ ls=true)(h:p16 P1 ls H K):∃rs H',au cc ac 16 ls (absH aa H) rs (absH aa H')∧K rs H':=
 eW i16 hls (h16 ls H K▸h)
theorem x16{ls:List Lf}{H:HL}{K:List Lf→HL→Prop}(hls:bg ls)(h:p16 P1 ls H K):∃rs H',au cc ac 16 ls (absH aa H) rs (absH aa H')∧K rs H':=
 de i16 hls (h16 ls H K▸h)
/-- crimp/patterns.Check -/
def p18(A:Alg Prop (HL))(ls:List Lf)(h:HL)(K:List Lf→HL→Prop):Prop:=A.unI ls (@hid _ ⟨fun n6 a1=>A.unI a1 (@hid _ ⟨fun n8 a2=>A.unV a2 (@hid _ ⟨fun O a3=>A.un0 a3 (@hid _ ⟨A.call 32 [(.i n6),(.i n8)] h (@hid _ ⟨fun a4 V=>A.unI a4 (@hid _ ⟨fun n14 a5=>A.un0 a5 (@hid _ ⟨A.cmp .neq n14 0 (@hid _ ⟨fun a6=>A.cond a6 (@hid _ ⟨K [(.i n14)] V⟩) (@hid _ ⟨A.call 34 [(.v O),(.v (.func (.func 35) ⟨[]⟩ ⟨[]⟩))] V (@hid _ ⟨fun a7 h18=>A.unB a7 (@hid _ ⟨fun a8 a9=>A.un0 a9 (@hid _ ⟨A.cond a8 (@hid _ ⟨K [(.i 1)] h18⟩) (@hid _ ⟨A.opt (lenS O) (@hid _ ⟨fun x21=>A.loop (@hid _ ⟨fun b0 b1 h24=>A.unI b1 (@hid _ ⟨fun n25 b2=>A.un0 b2 (@hid _ ⟨A.cmp .lss n25 x21 (@hid _ ⟨fun b3=>A.cond b3 (@hid _ ⟨A.opt (idS 3 O n25) (@hid _ ⟨fun b4=>A.peek (.lg cc 3 b4) h24 (@hid _ ⟨fun b5=>A.ucI .i64 b5 (@hid _ ⟨fun n30 b6=>A.ucI .u8 b6 (@hid _ ⟨fun n32 b7=>A.ucI .u8 b7 (@hid _ ⟨fun n34 b8=>A.uc0 b8 (@hid _ ⟨A.call 37 [(.i n6),(.i n8),(.i n30),(.i n32)] h24 (@hid _ ⟨fun b9 h37=>A.unI b9 (@hid _ ⟨fun n38 c0=>A.unI c0 (@hid _ ⟨fun n40 c1=>A.unI c1 (@hid _ ⟨fun n42 d0=>A.un0 d0 (@hid _ ⟨A.cmp .neq n42 0 (@hid _ ⟨fun d1=>A.cond d1 (@hid _ ⟨K [(.i 7)] h37⟩) (@hid _ ⟨A.call 38 [(.i n30),(.i n32),(.i n34)] h37 (@hid _ ⟨fun d2 h46=>A.unI d2 (@hid _ ⟨fun n47 d3=>A.unI d3 (@hid _ ⟨fun n49 d4=>A.un0 d4 (@hid _ ⟨A.eqs [((.i n38),(.i n47)),((.i n40),(.i n49))] (@hid _ ⟨fun d5=>A.cond (!d5) (@hid _ ⟨K [(.i 7)] h46⟩) (@hid _ ⟨A.ari .add .i64 n25 1 (@hid _ ⟨fun n52=>b0 [(.i n52)] h46⟩)⟩)⟩)⟩)⟩)⟩)⟩)⟩)⟩)⟩)⟩)⟩)⟩)⟩)⟩)⟩)⟩)⟩)⟩)⟩)⟩) (@hid _ ⟨A.loop (@hid _ ⟨fun d6 d7 U=>A.unI d7 (@hid _ ⟨fun n56 d8=>A.un0 d8 (@hid _ ⟨A.opt (lenS O) (@hid _ ⟨fun d9=>A.cmp .lss n56 d9 (@hid _ ⟨fun e0=>A.cond e0 (@hid _ ⟨A.ari .sub .i64 n56 1 (@hid _ ⟨fun n60=>A.opt (idS 3 O n60) (@hid _ ⟨fun e1=>A.peek (.lg cc 3 e1) U (@hid _ ⟨fun e2=>A.ucI .i64 e2 (@hid _ ⟨fun n63 e3=>A.ucI .u8 e3 (@hid _ ⟨fun n65 f0=>A.ucI .u8 f0 (@hid _ ⟨fun n67 f1=>A.uc0 f1 (@hid _ ⟨A.call 38 [(.i n63),(.i n65),(.i n67)] U (@hid _ ⟨fun f2 a0=>A.unI f2 (@hid _ ⟨fun f3 g0=>A.unI g0 (@hid _ ⟨fun g1 g2=>A.un0 g2 (@hid _ ⟨A.opt (idS 3 O n56) (@hid _ ⟨fun g3=>A.peek (.lg cc 3 g3) a0 (@hid _ ⟨fun g6=>A.ucI .i64 g6 (@hid _ ⟨fun n77 g9=>A.ucI .u8 g9 (@hid _ ⟨fun n79 h0=>A.ucI .u8 h0 (@hid _ ⟨fun n81 h1=>A.uc0 h1 (@hid _ ⟨A.call 38 [(.i n77),(.i n79),(.i n81)] a0 (@hid _ ⟨fun h2 h3=>A.unI h2 (@hid _ ⟨fun n85 h6=>A.unI h6 (@hid _ ⟨fun n87 h9=>A.un0 h9 (@hid _ ⟨A.call 39 [(.i f3),(.i g1),(.i n85),(.i n87)] h3 (@hid _ ⟨fun i0 h90=>A.unI i0 (@hid _ ⟨fun i1 i2=>A.un0 i2 (@hid _ ⟨A.cmp .geq i1 0 (@hid _ ⟨fun i3=>A.cond i3 (@hid _ ⟨K [(.i 6)] h90⟩) (@hid _ ⟨A.ari .add .i64 n56 1 (@hid _ ⟨fun j0=>d6 [(.i j0)] h90⟩)⟩)⟩)⟩)⟩)⟩)⟩)⟩)⟩)⟩)⟩)⟩)⟩)⟩)⟩)⟩)⟩)⟩)⟩)⟩)⟩)⟩)⟩)⟩)⟩)⟩)⟩)⟩) (@hid _ ⟨K [(.i 0)] U⟩)⟩)⟩)⟩)⟩)⟩) [(.i 1)] h24⟩)⟩)⟩)⟩)⟩) [(.i 0)] h18⟩)⟩)⟩)⟩)⟩)⟩)⟩)⟩)⟩)⟩)⟩)⟩)⟩)⟩)
theorem g18:(fun A:Alg Prop (HL)=>p18 A)=fun A=>f18 A:=by kernel_rfl
theorem h18(ls:List Lf)(H:HL)(K:List Lf→HL→Prop):p18 P1 ls H K=aj P1 (xc 18) ac drN n18 ls H K:=
 congrFun (congrFun (congrFun ((congrFun g18 P1).trans (congrFun (congrFun (congrFun e18 Prop) (HL)) P1)) ls) H) K
theorem x18{ls:List Lf}{H:HL}{K:List Lf→HL→Prop}(hls:bg ls)(h:p18 P1 ls H K):∃rs H',au cc ac 18 ls (absH aa H) rs (absH aa H')∧K rs H':=
 de i18 hls (h18 ls H K▸h)
/-- crimp/corners.corner -/
def p19(A:Alg Prop (HL))(ls:List Lf)(h:HL)(K:List Lf→HL→Prop):Prop:=A.unI ls (@hid _ ⟨fun n6 U=>A.unI U (@hid _ ⟨fun n8 V=>A.unI V (@hid _ ⟨fun n10 a0=>A.unI a0 (@hid _ ⟨fun n12 a1=>A.un0 a1 (@hid _ ⟨A.call 32 [(.i n6),(.i n8)] h (@hid _ ⟨fun a2 O=>A.unI a2 (@hid _ ⟨fun n16 a3=>A.un0 a3 (@hid _ ⟨A.cmp .neq n16 0 (@hid _ ⟨fun a4=>A.cond a4 (@hid _ ⟨K [(.i n16)] O⟩) (@hid _ ⟨A.cmp .leq n10 0 (@hid _ ⟨fun a5=>A.cond a5 (@hid _ ⟨K [(.i 7)] O⟩) (@hid _ ⟨A.cmp .leq n12 0 (@hid _ ⟨fun a6=>A.cond a6 (@hid _ ⟨K [(.i 7)] O⟩) (@hid _ ⟨A.ari .mul .i64 2 n6 (@hid _ ⟨fun n21=>A.cmp .geq n10 n21 (@hid _ ⟨fun a7=>A.cond a7 (@hid _ ⟨K [(.i 7)] O⟩) (@hid _ ⟨A.ari .mul .i64 2 n8 (@hid _ ⟨fun n23=>A.cmp .geq n12 n23 (@hid _ ⟨fun a8=>A.cond a8 (@hid _ ⟨K [(.i 7)] O⟩) (@hid _ ⟨A.ari .rem .i64 n10 2 (@hid _ ⟨fun n25=>A.ari .rem .i64 n12 2 (@hid _ ⟨fun n26=>A.cmp .neq n25 n26 (@hid _ ⟨fun a9=>A.cond a9 (@hid _ ⟨K [(.i 7)] O⟩) (@hid _ ⟨K [(.i 0)] O⟩)⟩)⟩)⟩)⟩)⟩)⟩)⟩)⟩)⟩)⟩)⟩)⟩)⟩)⟩)⟩)⟩)⟩)⟩)⟩)⟩)⟩)⟩)⟩)
theorem g19:(fun A:Alg Prop (HL)=>p19 A)=fun A=>f19 A:=by kernel_rfl
theorem h19(ls:List Lf)(H:HL)(K:List Lf→HL→Prop):p19 P1 ls H K=aj P1 (xc 19) ac drN n19 ls H K:=
 congrFun (congrFun (congrFun ((congrFun g19 P1).trans (congrFun (congrFun (congrFun e19 Prop) (HL)) P1)) ls) H) K
theorem u19{ls:List Lf}{H:HL}{K:List Lf→HL→Prop}(hls:aQ ls=true)(h:p19 P1 ls H K):∃rs H',au cc ac 19 ls (absH aa H) rs (absH aa H')∧K rs H':=
 eW i19 hls (h19 ls H K▸h)
theorem q19{ls rs:List Lf}(hls:aQ ls=true)(h:p19 P1 ls [] fun rs' _=>rs'=rs):Cc 19 ls rs:=by
 obtain⟨_,_,h1,rfl⟩:=u19 hls h
 exact gp mixed bY (sg:=⟨[.agg [.i .i64,.i .i64],.agg [.i .i64,.i .i64]],[li]⟩) rfl (by kernel_rfl) h1
/-- crimp/corners.walk -/
def p20(A:Alg Prop (HL))(ls:List Lf)(h:HL)(K:List Lf→HL→Prop):Prop:=A.unI ls (@hid _ ⟨fun n6 V=>A.unI V (@hid _ ⟨fun n8 a0=>A.unI a0 (@hid _ ⟨fun n10 a1=>A.unI a1 (@hid _ ⟨fun n12 a2=>A.un0 a2 (@hid _ ⟨A.new (.cells [(.int .i64 n6),(.int .i64 n8)] 2 true) h (@hid _ ⟨fun O a3=>A.new (.cells [(.int .i64 n10),(.int .i64 n12)] 2 true) a3 (@hid _ ⟨fun U a4=>A.chk (.func (.func 40) ⟨[]⟩ ⟨[(.pointer (some ⟨U,0,none⟩)),(.pointer (some ⟨O,0,none⟩))]⟩) (@hid _ ⟨K [(.v (.func (.func 40) ⟨[]⟩ ⟨[(.pointer (some ⟨U,0,none⟩)),(.pointer (some ⟨O,0,none⟩))]⟩))] a4⟩)⟩)⟩)⟩)⟩)⟩)⟩)⟩)
theorem g20:(fun A:Alg Prop (HL)=>p20 A)=fun A=>f20 A:=by kernel_rfl
theorem h20(ls:List Lf)(H:HL)(K:List Lf→HL→Prop):p20 P1 ls H K=aj P1 (xc 20) ac drN n20 ls H K:=
 congrFun (congrFun (congrFun ((congrFun g20 P1).trans (congrFun (congrFun (congrFun e20 Prop) (HL)) P1)) ls) H) K
theorem u20{ls:List Lf}{H:HL}{K:List Lf→HL→Prop}(hls:aQ ls=true)(h:p20 P1 ls H K):∃rs H',au cc ac 20 ls (absH aa H) rs (absH aa H')∧K rs H':=
 eW i20 hls (h20 ls H K▸h)
/-- crimp/patterns.Kind -/
def p21(A:Alg Prop (HL))(ls:List Lf)(h:HL)(K:List Lf→HL→Prop):Prop:=A.unI ls (@hid _ ⟨fun n6 a0=>A.unI a0 (@hid _ ⟨fun n8 a1=>A.unV a1 (@hid _ ⟨fun U a2=>A.unI a2 (@hid _ ⟨fun n12 a3=>A.unI a3 (@hid _ ⟨fun n14 a4=>A.un0 a4 (@hid _ ⟨A.call 46 [(.i n6),(.i n8),(.v U),(.i n12),(.i n14)] h (@hid _ ⟨fun a5 O=>A.unI a5 (@hid _ ⟨fun n18 a6=>A.unI a6 (@hid _ ⟨fun n20 a7=>A.unI a7 (@hid _ ⟨fun n22 a8=>A.unB a8 (@hid _ ⟨fun a9 b0=>A.unI b0 (@hid _ ⟨fun n26 b1=>A.un0 b1 (@hid _ ⟨A.cmp .neq n26 0 (@hid _ ⟨fun b2=>A.cond b2 (@hid _ ⟨K [(.i 0),(.i n26)] O⟩) (@hid _ ⟨A.cond (!a9) (@hid _ ⟨K [(.i 0),(.i n26)] O⟩) (@hid _ ⟨A.opt (idS 3 U n22) (@hid _ ⟨fun b3=>A.opt (fdP 2 b3) (@hid _ ⟨fun V=>A.chk V (@hid _ ⟨A.peek (.lg cc 1 V) O (@hid _ ⟨fun b4=>A.ucI .u8 b4 (@hid _ ⟨fun n32 b5=>A.uc0 b5 (@hid _ ⟨K [(.i n32),(.i 0)] O⟩)⟩)⟩)⟩)⟩)⟩)⟩)⟩)⟩)⟩)⟩)⟩)⟩)⟩)⟩)⟩)⟩)⟩)⟩)⟩)⟩)⟩)
theorem g21:(fun A:Alg Prop (HL)=>p21 A)=fun A=>f21 A:=by kernel_rfl
theorem h21(ls:List Lf)(H:HL)(K:List Lf→HL→Prop):p21 P1 ls H K=aj P1 (xc 21) ac drN n21 ls H K:=
 congrFun (congrFun (congrFun ((congrFun g21 P1).trans (congrFun (congrFun (congrFun e21 Prop) (HL)) P1)) ls) H) K
theorem x21{ls:List Lf}{H:HL}{K:List Lf→HL→Prop}(hls:bg ls)(h:p21 P1 ls H K):∃rs H',au cc ac 21 ls (absH aa H) rs (absH aa H')∧K rs H':=
 de i21 hls (h21 ls H K▸h)
/-- slices.SortFunc[[]crimp/corners.Ray,crimp/corners.Ray] -/
def p22(A:Alg Prop (HL))(ls:List Lf)(h:HL)(K:List Lf→HL→Prop):Prop:=A.unV ls (@hid _ ⟨fun O V=>A.unV V (@hid _ ⟨fun x8 a0=>A.un0 a0 (@hid _ ⟨A.opt (lenS O) (@hid _ ⟨fun U=>A.conv .u64 U (@hid _ ⟨fun a1=>A.call 48 [(.i a1)] h (@hid _ ⟨fun a2 a3=>A.unI a2 (@hid _ ⟨fun n14 a4=>A.un0 a4 (@hid _ ⟨A.call 47 [(.v O),(.i 0),(.i U),(.i n14),(.v x8)] a3 (@hid _ ⟨fun a5 a6=>A.un0 a5 (@hid _ ⟨K [] a6⟩)⟩)⟩)⟩)⟩)⟩)⟩)⟩)⟩)⟩)
theorem g22:(fun A:Alg Prop (HL)=>p22 A)=fun A=>f22 A:=by kernel_rfl
theorem h22(ls:List Lf)(H:HL)(K:List Lf→HL→Prop):p22 P1 ls H K=aj P1 (xc 22) ac drN n22 ls H K:=
 congrFun (congrFun (congrFun ((congrFun g22 P1).trans (congrFun (congrFun (congrFun e22 Prop) (HL)) P1)) ls) H) K
theorem x22{ls:List Lf}{H:HL}{K:List Lf→HL→Prop}(hls:bg ls)(h:p22 P1 ls H K):∃rs H',au cc ac 22 ls (absH aa H) rs (absH aa H')∧K rs H':=
 de i22 hls (h22 ls H K▸h)
/-- crimp/corners.Creases$1 -/
def p23(A:Alg Prop (HL))(ls:List Lf)(h:HL)(K:List Lf→HL→Prop):Prop:=A.unI ls (@hid _ ⟨fun n6 O=>A.unI O (@hid _ ⟨fun n8 U=>A.unI U (@hid _ ⟨fun n10 V=>A.unI V (@hid _ ⟨fun n12 a0=>A.un0 a0 (@hid _ ⟨A.ari .sub .i64 n6 n10 (@hid _ ⟨fun n14=>K [(.i n14)] h⟩)⟩)⟩)⟩)⟩)⟩)
theorem g23:(fun A:Alg Prop (HL)=>p23 A)=fun A=>f23 A:=by kernel_rfl
theorem h23(ls:List Lf)(H:HL)(K:List Lf→HL→Prop):p23 P1 ls H K=aj P1 (xc 23) ac drN n23 ls H K:=
 congrFun (congrFun (congrFun ((congrFun g23 P1).trans (congrFun (congrFun (congrFun e23 Prop) (HL)) P1)) ls) H) K
theorem u23{ls:List Lf}{H:HL}{K:List Lf→HL→Prop}(hls:aQ ls=true)(h:p23 P1 ls H K):∃rs H',au cc ac 23 ls (absH aa H) rs (absH aa H')∧K rs H':=
 eW i23 hls (h23 ls H K▸h)
theorem q23{ls rs:List Lf}(hls:aQ ls=true)(h:p23 P1 ls [] fun rs' _=>rs'=rs):Cc 23 ls rs:=by
 obtain⟨_,_,h1,rfl⟩:=u23 hls h
 exact gp mixed bY (sg:=⟨[.agg [.i .i64,.i .u8],.agg [.i .i64,.i .u8]],[li]⟩) rfl (by kernel_rfl) h1
/-- slices.Clip[[]crimp/corners.Ray,crimp/corners.Ray] -/
def p24(A:Alg Prop (HL))(ls:List Lf)(h:HL)(K:List Lf→HL→Prop):Prop:=A.unV ls (@hid _ ⟨fun O V=>A.un0 V (@hid _ ⟨A.opt (lenS O) (@hid _ ⟨fun x8=>A.opt (lenS O) (@hid _ ⟨fun a0=>A.opt (slS 2 O none (some x8) (some a0)) (@hid _ ⟨fun U=>A.chk U (@hid _ ⟨K [(.v U)] h⟩)⟩)⟩)⟩)⟩)⟩)
theorem g24:(fun A:Alg Prop (HL)=>p24 A)=fun A=>f24 A:=by kernel_rfl
theorem h24(ls:List Lf)(H:HL)(K:List Lf→HL→Prop):p24 P1 ls H K=aj P1 (xc 24) ac drN n24 ls H K:=
 congrFun (congrFun (congrFun ((congrFun g24 P1).trans (congrFun (congrFun (congrFun e24 Prop) (HL)) P1)) ls) H) K
theorem x24{ls:List Lf}{H:HL}{K:List Lf→HL→Prop}(hls:bg ls)(h:p24 P1 ls H K):∃rs H',au cc ac 24 ls (absH aa H) rs (absH aa H')∧K rs H':=
 de i24 hls (h24 ls H K▸h)
/-- crimp/sheets.Check -/
def p32(A:Alg Prop (HL))(ls:List Lf)(h:HL)(K:List Lf→HL→Prop):Prop:=A.unI ls (@hid _ ⟨fun n6 O=>A.unI O (@hid _ ⟨fun n8 U=>A.un0 U (@hid _ ⟨A.cmp .lss n6 1 (@hid _ ⟨fun V=>A.cond V (@hid _ ⟨K [(.i 1)] h⟩) (@hid _ ⟨A.cmp .lss n8 1 (@hid _ ⟨fun a0=>A.cond a0 (@hid _ ⟨K [(.i 1)] h⟩) (@hid _ ⟨A.cmp .gtr n6 256 (@hid _ ⟨fun a1=>A.cond a1 (@hid _ ⟨K [(.i 1)] h⟩) (@hid _ ⟨A.cmp .gtr n8 256 (@hid _ ⟨fun a2=>A.cond a2 (@hid _ ⟨K [(.i 1)] h⟩) (@hid _ ⟨A.ari .mul .i64 n6 n8 (@hid _ ⟨fun n14=>A.cmp .gtr n14 256 (@hid _ ⟨fun a3=>A.cond a3 (@hid _ ⟨K [(.i 1)] h⟩) (@hid _ ⟨K [(.i 0)] h⟩)⟩)⟩)⟩)⟩)⟩)⟩)⟩)⟩)⟩)⟩)⟩)⟩)⟩)
theorem g32:(fun A:Alg Prop (HL)=>p32 A)=fun A=>f32 A:=by kernel_rfl
theorem h32(ls:List Lf)(H:HL)(K:List Lf→HL→Prop):p32 P1 ls H K=aj P1 (xc 32) ac drN n32 ls H K:=
 congrFun (congrFun (congrFun ((congrFun g32 P1).trans (congrFun (congrFun (congrFun e32 Prop) (HL)) P1)) ls) H) K
theorem u32{ls:List Lf}{H:HL}{K:List Lf→HL→Prop}(hls:aQ ls=true)(h:p32 P1 ls H K):∃rs H',au cc ac 32 ls (absH aa H) rs (absH aa H')∧K rs H':=
 eW i32 hls (h32 ls H K▸h)
theorem q32{ls rs:List Lf}(hls:aQ ls=true)(h:p32 P1 ls [] fun rs' _=>rs'=rs):Cc 32 ls rs:=by
 obtain⟨_,_,h1,rfl⟩:=u32 hls h
 exact gp mixed bY (sg:=⟨[.agg [.i .i64,.i .i64]],[li]⟩) rfl (by kernel_rfl) h1
/-- slices.ContainsFunc[[]crimp/patterns.Crease,crimp/patterns.Crease] -/
def p34(A:Alg Prop (HL))(ls:List Lf)(h:HL)(K:List Lf→HL→Prop):Prop:=A.unV ls (@hid _ ⟨fun O U=>A.unV U (@hid _ ⟨fun x8 V=>A.un0 V (@hid _ ⟨A.call 60 [(.v O),(.v x8)] h (@hid _ ⟨fun a0 a1=>A.unI a0 (@hid _ ⟨fun n12 a2=>A.un0 a2 (@hid _ ⟨A.cmp .geq n12 0 (@hid _ ⟨fun a3=>K [(.b a3)] a1⟩)⟩)⟩)⟩)⟩)⟩)⟩)
theorem g34:(fun A:Alg Prop (HL)=>p34 A)=fun A=>f34 A:=by kernel_rfl
theorem h34(ls:List Lf)(H:HL)(K:List Lf→HL→Prop):p34 P1 ls H K=aj P1 (xc 34) ac drN n34 ls H K:=
 congrFun (congrFun (congrFun ((congrFun g34 P1).trans (congrFun (congrFun (congrFun e34 Prop) (HL)) P1)) ls) H) K
theorem x34{ls:List Lf}{H:HL}{K:List Lf→HL→Prop}(hls:bg ls)(h:p34 P1 ls H K):∃rs H',au cc ac 34 ls (absH aa H) rs (absH aa H')∧K rs H':=
 de i34 hls (h34 ls H K▸h)
/-- crimp/patterns.Check$1 -/
def p35(A:Alg Prop (HL))(ls:List Lf)(h:HL)(K:List Lf→HL→Prop):Prop:=A.unI ls (@hid _ ⟨fun n6 O=>A.unI O (@hid _ ⟨fun n8 U=>A.unI U (@hid _ ⟨fun n10 V=>A.un0 V (@hid _ ⟨A.call 36 [(.i n10)] h (@hid _ ⟨fun a0 a1=>A.unB a0 (@hid _ ⟨fun a2 a3=>A.un0 a3 (@hid _ ⟨K [(.b (!a2))] a1⟩)⟩)⟩)⟩)⟩)⟩)⟩)
theorem g35:(fun A:Alg Prop (HL)=>p35 A)=fun A=>f35 A:=by kernel_rfl
theorem h35(ls:List Lf)(H:HL)(K:List Lf→HL→Prop):p35 P1 ls H K=aj P1 (xc 35) ac drN n35 ls H K:=
 congrFun (congrFun (congrFun ((congrFun g35 P1).trans (congrFun (congrFun (congrFun e35 Prop) (HL)) P1)) ls) H) K
theorem u35{ls:List Lf}{H:HL}{K:List Lf→HL→Prop}(hls:aQ ls=true)(h:p35 P1 ls H K):∃rs H',au cc ac 35 ls (absH aa H) rs (absH aa H')∧K rs H':=
 eW i35 hls (h35 ls H K▸h)
theorem q35{ls rs:List Lf}(hls:aQ ls=true)(h:p35 P1 ls [] fun rs' _=>rs'=rs):Cc 35 ls rs:=by
 obtain⟨_,_,h1,rfl⟩:=u35 hls h
 exact gp mixed bY (sg:=⟨[.agg [.i .i64,.i .u8,.i .u8]],[lb]⟩) rfl (by kernel_rfl) h1
/-- crimp/patterns.isKind -/
def p36(A:Alg Prop (HL))(ls:List Lf)(h:HL)(K:List Lf→HL→Prop):Prop:=A.unI ls (@hid _ ⟨fun n6 U=>A.un0 U (@hid _ ⟨A.join (@hid _ ⟨fun V a0=>A.unB V (@hid _ ⟨fun a1 a2=>A.un0 a2 (@hid _ ⟨K [(.b a1)] a0⟩)⟩)⟩) (@hid _ ⟨fun O=>A.cmp .geq n6 1 (@hid _ ⟨fun a3=>A.cond a3 (@hid _ ⟨A.cmp .leq n6 3 (@hid _ ⟨fun a4=>O [(.b a4)] h⟩)⟩) (@hid _ ⟨O [(.b false)] h⟩)⟩)⟩)⟩)⟩)
theorem g36:(fun A:Alg Prop (HL)=>p36 A)=fun A=>f36 A:=by kernel_rfl
theorem h36(ls:List Lf)(H:HL)(K:List Lf→HL→Prop):p36 P1 ls H K=aj P1 (xc 36) ac drN n36 ls H K:=
 congrFun (congrFun (congrFun ((congrFun g36 P1).trans (congrFun (congrFun (congrFun e36 Prop) (HL)) P1)) ls) H) K
theorem u36{ls:List Lf}{H:HL}{K:List Lf→HL→Prop}(hls:aQ ls=true)(h:p36 P1 ls H K):∃rs H',au cc ac 36 ls (absH aa H) rs (absH aa H')∧K rs H':=
 eW i36 hls (h36 ls H K▸h)
theorem q36{ls rs:List Lf}(hls:aQ ls=true)(h:p36 P1 ls [] fun rs' _=>rs'=rs):Cc 36 ls rs:=by
 obtain⟨_,_,h1,rfl⟩:=u36 hls h
 exact gp mixed bY (sg:=⟨[.leaf (.i .u8)],[lb]⟩) rfl (by kernel_rfl) h1
/-- crimp/sheets.Name -/
def p37(A:Alg Prop (HL))(ls:List Lf)(h:HL)(K:List Lf→HL→Prop):Prop:=A.unI ls (@hid _ ⟨fun n6 U=>A.unI U (@hid _ ⟨fun n8 V=>A.unI V (@hid _ ⟨fun n10 a0=>A.unI a0 (@hid _ ⟨fun n12 a1=>A.un0 a1 (@hid _ ⟨A.call 61 [(.i n6),(.i n8),(.i n10),(.i n12)] h (@hid _ ⟨fun a2 O=>A.unI a2 (@hid _ ⟨fun n16 a3=>A.unI a3 (@hid _ ⟨fun n18 a4=>A.un0 a4 (@hid _ ⟨A.cmp .neq n18 0 (@hid _ ⟨fun a5=>A.cond a5 (@hid _ ⟨K [(.i 0),(.i 0),(.i n18)] O⟩) (@hid _ ⟨A.cmp .lss n16 n10 (@hid _ ⟨fun a6=>A.sel a6 n16 n10 (@hid _ ⟨fun n22=>K [(.i n22),(.i n12),(.i 0)] O⟩)⟩)⟩)⟩)⟩)⟩)⟩)⟩)⟩)⟩)⟩)⟩)⟩)
theorem g37:(fun A:Alg Prop (HL)=>p37 A)=fun A=>f37 A:=by kernel_rfl
theorem h37(ls:List Lf)(H:HL)(K:List Lf→HL→Prop):p37 P1 ls H K=aj P1 (xc 37) ac drN n37 ls H K:=
 congrFun (congrFun (congrFun ((congrFun g37 P1).trans (congrFun (congrFun (congrFun e37 Prop) (HL)) P1)) ls) H) K
theorem u37{ls:List Lf}{H:HL}{K:List Lf→HL→Prop}(hls:aQ ls=true)(h:p37 P1 ls H K):∃rs H',au cc ac 37 ls (absH aa H) rs (absH aa H')∧K rs H':=
 eW i37 hls (h37 ls H K▸h)
theorem q37{ls rs:List Lf}(hls:aQ ls=true)(h:p37 P1 ls [] fun rs' _=>rs'=rs):Cc 37 ls rs:=by
 obtain⟨_,_,h1,rfl⟩:=u37 hls h
 exact gp mixed bY (sg:=⟨[.agg [.i .i64,.i .i64],li,.leaf (.i .u8)],[.agg [.i .i64,.i .u8],li]⟩) rfl (by kernel_rfl) h1
/-- (crimp/patterns.Crease).unit -/
def p38(A:Alg Prop (HL))(ls:List Lf)(h:HL)(K:List Lf→HL→Prop):Prop:=A.unI ls (@hid _ ⟨fun n6 O=>A.unI O (@hid _ ⟨fun n8 U=>A.unI U (@hid _ ⟨fun n10 V=>A.un0 V (@hid _ ⟨K [(.i n6),(.i n8)] h⟩)⟩)⟩)⟩)
theorem g38:(fun A:Alg Prop (HL)=>p38 A)=fun A=>f38 A:=by kernel_rfl
theorem h38(ls:List Lf)(H:HL)(K:List Lf→HL→Prop):p38 P1 ls H K=aj P1 (xc 38) ac drN n38 ls H K:=
 congrFun (congrFun (congrFun ((congrFun g38 P1).trans (congrFun (congrFun (congrFun e38 Prop) (HL)) P1)) ls) H) K
theorem u38{ls:List Lf}{H:HL}{K:List Lf→HL→Prop}(hls:aQ ls=true)(h:p38 P1 ls H K):∃rs H',au cc ac 38 ls (absH aa H) rs (absH aa H')∧K rs H':=
 eW i38 hls (h38 ls H K▸h)
theorem q38{ls rs:List Lf}(hls:aQ ls=true)(h:p38 P1 ls [] fun rs' _=>rs'=rs):Cc 38 ls rs:=by
 obtain⟨_,_,h1,rfl⟩:=u38 hls h
 exact gp mixed bY (sg:=⟨[.agg [.i .i64,.i .u8,.i .u8]],[.agg [.i .i64,.i .u8]]⟩) rfl (by kernel_rfl) h1
/-- crimp/patterns.order -/
def p39(A:Alg Prop (HL))(ls:List Lf)(h:HL)(K:List Lf→HL→Prop):Prop:=A.unI ls (@hid _ ⟨fun n6 O=>A.unI O (@hid _ ⟨fun n8 U=>A.unI U (@hid _ ⟨fun n10 V=>A.unI V (@hid _ ⟨fun n12 a0=>A.un0 a0 (@hid _ ⟨A.cmp .neq n6 n10 (@hid _ ⟨fun a1=>A.cond a1 (@hid _ ⟨A.ari .sub .i64 n6 n10 (@hid _ ⟨fun n15=>K [(.i n15)] h⟩)⟩) (@hid _ ⟨A.conv .i64 n8 (@hid _ ⟨fun n16=>A.conv .i64 n12 (@hid _ ⟨fun n17=>A.ari .sub .i64 n16 n17 (@hid _ ⟨fun n18=>K [(.i n18)] h⟩)⟩)⟩)⟩)⟩)⟩)⟩)⟩)⟩)⟩)
theorem g39:(fun A:Alg Prop (HL)=>p39 A)=fun A=>f39 A:=by kernel_rfl
theorem h39(ls:List Lf)(H:HL)(K:List Lf→HL→Prop):p39 P1 ls H K=aj P1 (xc 39) ac drN n39 ls H K:=
 congrFun (congrFun (congrFun ((congrFun g39 P1).trans (congrFun (congrFun (congrFun e39 Prop) (HL)) P1)) ls) H) K
theorem u39{ls:List Lf}{H:HL}{K:List Lf→HL→Prop}(hls:aQ ls=true)(h:p39 P1 ls H K):∃rs H',au cc ac 39 ls (absH aa H) rs (absH aa H')∧K rs H':=
 eW i39 hls (h39 ls H K▸h)
theorem q39{ls rs:List Lf}(hls:aQ ls=true)(h:p39 P1 ls [] fun rs' _=>rs'=rs):Cc 39 ls rs:=by
 obtain⟨_,_,h1,rfl⟩:=u39 hls h
 exact gp mixed bY (sg:=⟨[.agg [.i .i64,.i .u8],.agg [.i .i64,.i .u8]],[li]⟩) rfl (by kernel_rfl) h1
/-- crimp/corners.walk$1 -/
def p40(A:Alg Prop (HL))(ls:List Lf)(h:HL)(K:List Lf→HL→Prop):Prop:=A.unV ls (@hid _ ⟨fun a2 d0=>A.unV d0 (@hid _ ⟨fun x8 d1=>A.unV d1 (@hid _ ⟨fun U d2=>A.un0 d2 (@hid _ ⟨A.opt (fdP 0 x8) (@hid _ ⟨fun a3=>A.chk a3 (@hid _ ⟨A.peek (.lg cc 1 a3) h (@hid _ ⟨fun d3=>A.ucI .i64 d3 (@hid _ ⟨fun n14 d4=>A.uc0 d4 (@hid _ ⟨A.ari .quo .i64 n14 2 (@hid _ ⟨fun n16=>A.opt (fdP 1 x8) (@hid _ ⟨fun a4=>A.chk a4 (@hid _ ⟨A.peek (.lg cc 1 a4) h (@hid _ ⟨fun d5=>A.ucI .i64 d5 (@hid _ ⟨fun n19 d6=>A.uc0 d6 (@hid _ ⟨A.ari .quo .i64 n19 2 (@hid _ ⟨fun n21=>A.opt (fdP 0 x8) (@hid _ ⟨fun x22=>A.chk x22 (@hid _ ⟨A.peek (.lg cc 1 x22) h (@hid _ ⟨fun d7=>A.ucI .i64 d7 (@hid _ ⟨fun n24 d8=>A.uc0 d8 (@hid _ ⟨A.ari .rem .i64 n24 2 (@hid _ ⟨fun n26=>A.cmp .neq n26 0 (@hid _ ⟨fun d9=>A.join (@hid _ ⟨fun e0 e1=>A.unI e0 (@hid _ ⟨fun n30 e2=>A.unI e2 (@hid _ ⟨fun n32 e3=>A.unI e3 (@hid _ ⟨fun n34 f0=>A.un0 f0 (@hid _ ⟨A.loop (@hid _ ⟨fun a5 f1 h38=>A.unI f1 (@hid _ ⟨fun n39 f2=>A.unI f2 (@hid _ ⟨fun n41 f3=>A.unI f3 (@hid _ ⟨fun n43 g0=>A.unI g0 (@hid _ ⟨fun n45 g1=>A.un0 g1 (@hid _ ⟨A.peek (.lg cc 2 U) h38 (@hid _ ⟨fun g2=>A.ucI .i64 g2 (@hid _ ⟨fun n48 g3=>A.ucI .i64 g3 (@hid _ ⟨fun n50 g6=>A.uc0 g6 (@hid _ ⟨A.call 41 [(.i n48),(.i n50),(.i n41),(.i n43),(.i n45)] h38 (@hid _ ⟨fun g9 h0=>A.unI g9 (@hid _ ⟨fun n54 h1=>A.unI h1 (@hid _ ⟨fun n56 h2=>A.un0 h2 (@hid _ ⟨A.loop (@hid _ ⟨fun h3 h6 h60=>A.unI h6 (@hid _ ⟨fun n61 h9=>A.unI h9 (@hid _ ⟨fun n63 i0=>A.unI i0 (@hid _ ⟨fun n65 i1=>A.unI i1 (@hid _ ⟨fun n67 i2=>A.unI i2 (@hid _ ⟨fun O i3=>A.un0 i3 (@hid _ ⟨A.cmp .lss n63 3 (@hid _ ⟨fun j0=>A.cond j0 (@hid _ ⟨A.join (@hid _ ⟨fun j1 j2=>A.unI j1 (@hid _ ⟨fun j3 j4=>A.unI j4 (@hid _ ⟨fun j5 j6=>A.unI j6 (@hid _ ⟨fun n78 j7=>A.unI j7 (@hid _ ⟨fun n80 j8=>A.un0 j8 (@hid _ ⟨A.ari .add .u8 n63 1 (@hid _ ⟨fun n82=>h3 [(.i j3),(.i n82),(.i j5),(.i n78),(.i n80)] j2⟩)⟩)⟩)⟩)⟩)⟩)⟩) (@hid _ ⟨fun V=>A.peek (.lg cc 2 x8) h60 (@hid _ ⟨fun j9=>A.ucI .i64 j9 (@hid _ ⟨fun n85 k0=>A.ucI .i64 k0 (@hid _ ⟨fun n87 k1=>A.uc0 k1 (@hid _ ⟨A.call 42 [(.i n65),(.i n67),(.i O),(.i n63),(.i n85),(.i n87)] h60 (@hid _ ⟨fun k2 h90=>A.unB k2 (@hid _ ⟨fun k3 k4=>A.un0 k4 (@hid _ ⟨A.cond (!k3) (@hid _ ⟨V [(.i n61),(.i n65),(.i n67),(.i O)] h90⟩) (@hid _ ⟨A.cmp .eql n63 n61 (@hid _ ⟨fun k5=>A.cond k5 (@hid _ ⟨V [(.i n61),(.i n65),(.i n67),(.i O)] h90⟩) (@hid _ ⟨A.cmp .eql n61 3 (@hid _ ⟨fun k6=>A.cond k6 (@hid _ ⟨A.peek (.lg cc 2 x8) h90 (@hid _ ⟨fun k7=>A.ucI .i64 k7 (@hid _ ⟨fun n96 k8=>A.ucI .i64 k8 (@hid _ ⟨fun n98 k9=>A.uc0 k9 (@hid _ ⟨A.call 43 [(.i n65),(.i n67),(.i O),(.i n63),(.i n96),(.i n98)] h90 (@hid _ ⟨fun l0 a6=>A.unB l0 (@hid _ ⟨fun l1 l2=>A.un0 l2 (@hid _ ⟨A.join (@hid _ ⟨fun l3 a7=>A.un0 l3 (@hid _ ⟨A.peek (.lg cc 2 U) a7 (@hid _ ⟨fun l4=>A.ucI .i64 l4 (@hid _ ⟨fun l5 l6=>A.ucI .i64 l6 (@hid _ ⟨fun n109 l7=>A.uc0 l7 (@hid _ ⟨A.call 37 [(.i l5),(.i n109),(.i n54),(.i n63)] a7 (@hid _ ⟨fun l8 a0=>A.unI l8 (@hid _ ⟨fun n113 l9=>A.unI l9 (@hid _ ⟨fun a8 m0=>A.unI m0 (@hid _ ⟨fun s9 m1=>A.un0 m1 (@hid _ ⟨A.peek (.lg cc 2 U) a0 (@hid _ ⟨fun m2=>A.ucI .i64 m2 (@hid _ ⟨fun m3 m4=>A.ucI .i64 m4 (@hid _ ⟨fun m5 m6=>A.uc0 m6 (@hid _ ⟨A.peek (.lg cc 2 x8) a0 (@hid _ ⟨fun m7=>A.ucI .i64 m7 (@hid _ ⟨fun m8 m9=>A.ucI .i64 m9 (@hid _ ⟨fun n0 n1=>A.uc0 n1 (@hid _ ⟨A.call 44 [(.i m3),(.i m5),(.i n113),(.i a8),(.i m8),(.i n0)] a0 (@hid _ ⟨fun n2 n3=>A.unI n2 (@hid _ ⟨fun o0 o1=>A.un0 o1 (@hid _ ⟨A.callv a2 [(.int .i64 n54),(.agg ⟨[(.int .i64 o0),(.int .i64 n113),(.int .u8 a8)]⟩)] [(.leaf .b)] n3 (@hid _ ⟨fun o2 a9=>A.unB o2 (@hid _ ⟨fun o3 o4=>A.un0 o4 (@hid _ ⟨A.cond (!o3) (@hid _ ⟨K [] a9⟩) (@hid _ ⟨A.call 45 [(.i n65),(.i n67),(.i O),(.i n63)] a9 (@hid _ ⟨fun o5 b0=>A.unI o5 (@hid _ ⟨fun b1 o6=>A.unI o6 (@hid _ ⟨fun b2 o7=>A.unI o7 (@hid _ ⟨fun b3 o8=>A.unI o8 (@hid _ ⟨fun t0 o9=>A.un0 o9 (@hid _ ⟨A.eqs [((.i b1),(.i n30)),((.i b2),(.i n32)),((.i b3),(.i n34))] (@hid _ ⟨fun p0=>A.cond p0 (@hid _ ⟨K [] b0⟩) (@hid _ ⟨a5 [(.i n63),(.i b1),(.i b2),(.i b3)] b0⟩)⟩)⟩)⟩)⟩)⟩)⟩)⟩)⟩)⟩)⟩)⟩)⟩)⟩)⟩)⟩)⟩)⟩)⟩)⟩)⟩)⟩)⟩)⟩)⟩)⟩)⟩)⟩)⟩)⟩)⟩)⟩)⟩)⟩) (@hid _ ⟨fun p1=>A.cond (!l1) (@hid _ ⟨V [(.i n61),(.i n65),(.i n67),(.i O)] a6⟩) (@hid _ ⟨p1 [] a6⟩)⟩)⟩)⟩)⟩)⟩)⟩)⟩)⟩)⟩) (@hid _ ⟨A.peek (.lg cc 2 U) h90 (@hid _ ⟨fun p2=>A.ucI .i64 p2 (@hid _ ⟨fun p3 p6=>A.ucI .i64 p6 (@hid _ ⟨fun p9 q0=>A.uc0 q0 (@hid _ ⟨A.call 37 [(.i p3),(.i p9),(.i n54),(.i n63)] h90 (@hid _ ⟨fun q1 a1=>A.unI q1 (@hid _ ⟨fun b4 q2=>A.unI q2 (@hid _ ⟨fun b5 q3=>A.unI q3 (@hid _ ⟨fun t1 q4=>A.un0 q4 (@hid _ ⟨A.peek (.lg cc 2 U) a1 (@hid _ ⟨fun q5=>A.ucI .i64 q5 (@hid _ ⟨fun q6 q7=>A.ucI .i64 q7 (@hid _ ⟨fun q8 q9=>A.uc0 q9 (@hid _ ⟨A.peek (.lg cc 2 x8) a1 (@hid _ ⟨fun r1=>A.ucI .i64 r1 (@hid _ ⟨fun r2 r3=>A.ucI .i64 r3 (@hid _ ⟨fun r4 r5=>A.uc0 r5 (@hid _ ⟨A.call 44 [(.i q6),(.i q8),(.i b4),(.i b5),(.i r2),(.i r4)] a1 (@hid _ ⟨fun r6 r7=>A.unI r6 (@hid _ ⟨fun r8 r9=>A.un0 r9 (@hid _ ⟨A.callv a2 [(.int .i64 n54),(.agg ⟨[(.int .i64 r8),(.int .i64 b4),(.int .u8 b5)]⟩)] [(.leaf .b)] r7 (@hid _ ⟨fun s0 b6=>A.unB s0 (@hid _ ⟨fun s1 s2=>A.un0 s2 (@hid _ ⟨A.cond (!s1) (@hid _ ⟨K [] b6⟩) (@hid _ ⟨A.call 45 [(.i n65),(.i n67),(.i O),(.i n63)] b6 (@hid _ ⟨fun s3 b7=>A.unI s3 (@hid _ ⟨fun b8 s4=>A.unI s4 (@hid _ ⟨fun b9 s5=>A.unI s5 (@hid _ ⟨fun c0 s6=>A.unI s6 (@hid _ ⟨fun t2 s7=>A.un0 s7 (@hid _ ⟨A.eqs [((.i b8),(.i n30)),((.i b9),(.i n32)),((.i c0),(.i n34))] (@hid _ ⟨fun s8=>A.cond s8 (@hid _ ⟨K [] b7⟩) (@hid _ ⟨a5 [(.i n63),(.i b8),(.i b9),(.i c0)] b7⟩)⟩)⟩)⟩)⟩)⟩)⟩)⟩)⟩)⟩)⟩)⟩)⟩)⟩)⟩)⟩)⟩)⟩)⟩)⟩)⟩)⟩)⟩)⟩)⟩)⟩)⟩)⟩)⟩)⟩)⟩)⟩)⟩)⟩)⟩)⟩)⟩)⟩)⟩)⟩)⟩)⟩)⟩)⟩)⟩)⟩) (@hid _ ⟨K [] h60⟩)⟩)⟩)⟩)⟩)⟩)⟩)⟩)⟩) [(.i n39),(.i 0),(.i n41),(.i n43),(.i n45)] h0⟩)⟩)⟩)⟩)⟩)⟩)⟩)⟩)⟩)⟩)⟩)⟩)⟩)⟩) [(.i 3),(.i n30),(.i n32),(.i n34)] e1⟩)⟩)⟩)⟩)⟩) (@hid _ ⟨fun c1=>A.cond d9 (@hid _ ⟨c1 [(.i n16),(.i n21),(.i 2)] h⟩) (@hid _ ⟨c1 [(.i n16),(.i n21),(.i 0)] h⟩)⟩)⟩)⟩)⟩)⟩)⟩)⟩)⟩)⟩)⟩)⟩)⟩)⟩)⟩)⟩)⟩)⟩)⟩)⟩)⟩)⟩)⟩)⟩)⟩)
theorem g40:(fun A:Alg Prop (HL)=>p40 A)=fun A=>f40 A:=by kernel_rfl
theorem h40(ls:List Lf)(H:HL)(K:List Lf→HL→Prop):p40 P1 ls H K=aj P1 (xc 40) ac drN n40 ls H K:=
 congrFun (congrFun (congrFun ((congrFun g40 P1).trans (congrFun (congrFun (congrFun e40 Prop) (HL)) P1)) ls) H) K
theorem x40{ls:List Lf}{H:HL}{K:List Lf→HL→Prop}(hls:bg ls)(h:p40 P1 ls H K):∃rs H',au cc ac 40 ls (absH aa H) rs (absH aa H')∧K rs H':=
 de i40 hls (h40 ls H K▸h)
/-- crimp/cells.Neighbour -/
def p45(A:Alg Prop (HL))(ls:List Lf)(h:HL)(K:List Lf→HL→Prop):Prop:=A.unI ls (@hid _ ⟨fun n6 U=>A.unI U (@hid _ ⟨fun n8 V=>A.unI V (@hid _ ⟨fun n10 a0=>A.unI a0 (@hid _ ⟨fun n12 a1=>A.un0 a1 (@hid _ ⟨A.call 62 [(.i n6),(.i n8),(.i n10)] h (@hid _ ⟨fun a2 O=>A.unI a2 (@hid _ ⟨fun n16 a3=>A.un0 a3 (@hid _ ⟨A.cmp .neq n16 0 (@hid _ ⟨fun a4=>A.cond a4 (@hid _ ⟨K [(.i 0),(.i 0),(.i 0),(.i 1)] O⟩) (@hid _ ⟨A.cmp .gtr n12 2 (@hid _ ⟨fun a5=>A.cond a5 (@hid _ ⟨K [(.i 0),(.i 0),(.i 0),(.i 1)] O⟩) (@hid _ ⟨A.opt (inB 4 n10) (@hid _ ⟨fun b2=>A.opt (inB 3 n12) (@hid _ ⟨fun x21=>A.opt (uy gl1 4 [(n10,17),(n12,3)] 3) (@hid _ ⟨fun x22=>A.ucI .i64 x22 (@hid _ ⟨fun n23 a6=>A.ucI .i64 a6 (@hid _ ⟨fun n25 a7=>A.ucI .u8 a7 (@hid _ ⟨fun n27 a8=>A.uc0 a8 (@hid _ ⟨A.ari .add .i64 n23 n6 (@hid _ ⟨fun n29=>A.ari .add .i64 n25 n8 (@hid _ ⟨fun n30=>A.call 62 [(.i n29),(.i n30),(.i n27)] O (@hid _ ⟨fun a9 h32=>A.unI a9 (@hid _ ⟨fun n33 b0=>A.un0 b0 (@hid _ ⟨A.cmp .neq n33 0 (@hid _ ⟨fun b1=>A.cond b1 (@hid _ ⟨K [(.i 0),(.i 0),(.i 0),(.i 3)] h32⟩) (@hid _ ⟨K [(.i n29),(.i n30),(.i n27),(.i 0)] h32⟩)⟩)⟩)⟩)⟩)⟩)⟩)⟩)⟩)⟩)⟩)⟩)⟩)⟩)⟩)⟩)⟩)⟩)⟩)⟩)⟩)⟩)⟩)⟩)⟩)⟩)
theorem g45:(fun A:Alg Prop (HL)=>p45 A)=fun A=>f45 A:=by kernel_rfl
theorem h45(ls:List Lf)(H:HL)(K:List Lf→HL→Prop):p45 P1 ls H K=aj P1 (xc 45) ac drN n45 ls H K:=
 congrFun (congrFun (congrFun ((congrFun g45 P1).trans (congrFun (congrFun (congrFun e45 Prop) (HL)) P1)) ls) H) K
theorem u45{ls:List Lf}{H:HL}{K:List Lf→HL→Prop}(hls:aQ ls=true)(h:p45 P1 ls H K):∃rs H',au cc ac 45 ls (absH aa H) rs (absH aa H')∧K rs H':=
 eW i45 hls (h45 ls H K▸h)
theorem q45{ls rs:List Lf}(hls:aQ ls=true)(h:p45 P1 ls [] fun rs' _=>rs'=rs):Cc 45 ls rs:=by
 obtain⟨_,_,h1,rfl⟩:=u45 hls h
 exact gp mixed bY (sg:=⟨[.agg [.i .i64,.i .i64,.i .u8],.leaf (.i .u8)],[.agg [.i .i64,.i .i64,.i .u8],li]⟩) rfl (by kernel_rfl) h1
/-- crimp/patterns.at -/
def p46(A:Alg Prop (HL))(ls:List Lf)(h:HL)(K:List Lf→HL→Prop):Prop:=A.unI ls (@hid _ ⟨fun n6 V=>A.unI V (@hid _ ⟨fun n8 a0=>A.unV a0 (@hid _ ⟨fun O a1=>A.unI a1 (@hid _ ⟨fun n12 a2=>A.unI a2 (@hid _ ⟨fun n14 a3=>A.un0 a3 (@hid _ ⟨A.call 18 [(.i n6),(.i n8),(.v O)] h (@hid _ ⟨fun a4 U=>A.unI a4 (@hid _ ⟨fun n18 a5=>A.un0 a5 (@hid _ ⟨A.cmp .neq n18 0 (@hid _ ⟨fun a6=>A.cond a6 (@hid _ ⟨K [(.i 0),(.i 0),(.i 0),(.b false),(.i n18)] U⟩) (@hid _ ⟨A.call 37 [(.i n6),(.i n8),(.i n12),(.i n14)] U (@hid _ ⟨fun a7 h22=>A.unI a7 (@hid _ ⟨fun n23 a8=>A.unI a8 (@hid _ ⟨fun n25 a9=>A.unI a9 (@hid _ ⟨fun n27 b0=>A.un0 b0 (@hid _ ⟨A.cmp .neq n27 0 (@hid _ ⟨fun b1=>A.cond b1 (@hid _ ⟨K [(.i 0),(.i 0),(.i 0),(.b false),(.i n27)] h22⟩) (@hid _ ⟨A.call 67 [(.v O),(.i n23),(.i n25)] h22 (@hid _ ⟨fun b2 b3=>A.unI b2 (@hid _ ⟨fun n32 b4=>A.unB b4 (@hid _ ⟨fun b5 b6=>A.un0 b6 (@hid _ ⟨K [(.i n23),(.i n25),(.i n32),(.b b5),(.i 0)] b3⟩)⟩)⟩)⟩)⟩)⟩)⟩)⟩)⟩)⟩)⟩)⟩)⟩)⟩)⟩)⟩)⟩)⟩)⟩)⟩)⟩)⟩)
theorem g46:(fun A:Alg Prop (HL)=>p46 A)=fun A=>f46 A:=by kernel_rfl
theorem h46(ls:List Lf)(H:HL)(K:List Lf→HL→Prop):p46 P1 ls H K=aj P1 (xc 46) ac drN n46 ls H K:=
 congrFun (congrFun (congrFun ((congrFun g46 P1).trans (congrFun (congrFun (congrFun e46 Prop) (HL)) P1)) ls) H) K
theorem x46{ls:List Lf}{H:HL}{K:List Lf→HL→Prop}(hls:bg ls)(h:p46 P1 ls H K):∃rs H',au cc ac 46 ls (absH aa H) rs (absH aa H')∧K rs H':=
 de i46 hls (h46 ls H K▸h)
/-- slices.pdqsortCmpFunc[crimp/corners.Ray] -/
def p47(A:Alg Prop (HL))(ls:List Lf)(h:HL)(K:List Lf→HL→Prop):Prop:=A.unV ls (@hid _ ⟨fun O g9=>A.unI g9 (@hid _ ⟨fun n8 h0=>A.unI h0 (@hid _ ⟨fun n10 h1=>A.unI h1 (@hid _ ⟨fun n12 h2=>A.unV h2 (@hid _ ⟨fun U h3=>A.un0 h3 (@hid _ ⟨A.loop (@hid _ ⟨fun h6 h9 h18=>A.unI h9 (@hid _ ⟨fun n19 i0=>A.unI i0 (@hid _ ⟨fun n21 i1=>A.unB i1 (@hid _ ⟨fun a7 i2=>A.unB i2 (@hid _ ⟨fun a6 i3=>A.unI i3 (@hid _ ⟨fun n27 j0=>A.un0 j0 (@hid _ ⟨A.join (@hid _ ⟨fun j1 j2=>A.unI j1 (@hid _ ⟨fun n31 j3=>A.unI j3 (@hid _ ⟨fun n33 j4=>A.unB j4 (@hid _ ⟨fun j5 j6=>A.unB j6 (@hid _ ⟨fun j7 j8=>A.unI j8 (@hid _ ⟨fun n39 j9=>A.un0 j9 (@hid _ ⟨h6 [(.i n31),(.i n33),(.b j5),(.b j7),(.i n39)] j2⟩)⟩)⟩)⟩)⟩)⟩)⟩) (@hid _ ⟨fun V=>A.ari .sub .i64 n27 n21 (@hid _ ⟨fun n42=>A.cmp .leq n42 12 (@hid _ ⟨fun k0=>A.cond k0 (@hid _ ⟨A.call 68 [(.v O),(.i n21),(.i n27),(.v U)] h18 (@hid _ ⟨fun k1 h45=>A.un0 k1 (@hid _ ⟨K [] h45⟩)⟩)⟩) (@hid _ ⟨A.cmp .eql n19 0 (@hid _ ⟨fun k2=>A.cond k2 (@hid _ ⟨A.call 69 [(.v O),(.i n21),(.i n27),(.v U)] h18 (@hid _ ⟨fun k3 k4=>A.un0 k3 (@hid _ ⟨K [] k4⟩)⟩)⟩) (@hid _ ⟨A.join (@hid _ ⟨fun k5 k6=>A.unI k5 (@hid _ ⟨fun n51 k7=>A.un0 k7 (@hid _ ⟨A.call 71 [(.v O),(.i n21),(.i n27),(.v U)] k6 (@hid _ ⟨fun k8 b0=>A.unI k8 (@hid _ ⟨fun n55 k9=>A.unI k9 (@hid _ ⟨fun n57 l0=>A.un0 l0 (@hid _ ⟨A.cmp .eql n57 2 (@hid _ ⟨fun l1=>A.join (@hid _ ⟨fun l2 h61=>A.unI l2 (@hid _ ⟨fun n62 l3=>A.unI l3 (@hid _ ⟨fun n64 l4=>A.un0 l4 (@hid _ ⟨A.cond a6 (@hid _ ⟨A.cond a7 (@hid _ ⟨A.cmp .eql n64 1 (@hid _ ⟨fun l5=>A.join (@hid _ ⟨fun l6 h68=>A.un0 l6 (@hid _ ⟨A.cmp .gtr n21 0 (@hid _ ⟨fun l7=>A.cond l7 (@hid _ ⟨A.ari .sub .i64 n21 1 (@hid _ ⟨fun l8=>A.opt (idS 2 O l8) (@hid _ ⟨fun l9=>A.peek (.lg cc 2 l9) h68 (@hid _ ⟨fun m0=>A.ucI .i64 m0 (@hid _ ⟨fun m1 m2=>A.ucI .u8 m2 (@hid _ ⟨fun m3 m4=>A.uc0 m4 (@hid _ ⟨A.opt (idS 2 O n62) (@hid _ ⟨fun m5=>A.peek (.lg cc 2 m5) h68 (@hid _ ⟨fun m6=>A.ucI .i64 m6 (@hid _ ⟨fun n79 m7=>A.ucI .u8 m7 (@hid _ ⟨fun n81 m8=>A.uc0 m8 (@hid _ ⟨A.callv U [(.agg ⟨[(.int .i64 m1),(.int .u8 m3)]⟩),(.agg ⟨[(.int .i64 n79),(.int .u8 n81)]⟩)] [(.leaf (.i .i64))] h68 (@hid _ ⟨fun m9 b1=>A.unI m9 (@hid _ ⟨fun n85 n0=>A.un0 n0 (@hid _ ⟨A.cmp .lss n85 0 (@hid _ ⟨fun n1=>A.join (@hid _ ⟨fun n2 h89=>A.unI n2 (@hid _ ⟨fun n90 n3=>A.un0 n3 (@hid _ ⟨A.call 75 [(.v O),(.i n90),(.i n27),(.i n62),(.v U)] h89 (@hid _ ⟨fun o0 b2=>A.unI o0 (@hid _ ⟨fun a0 o1=>A.unB o1 (@hid _ ⟨fun o2 o3=>A.un0 o3 (@hid _ ⟨A.ari .sub .i64 a0 n90 (@hid _ ⟨fun n98=>A.ari .sub .i64 n27 a0 (@hid _ ⟨fun n99=>A.ari .quo .i64 n42 8 (@hid _ ⟨fun n100=>A.cmp .lss n98 n99 (@hid _ ⟨fun o4=>A.join (@hid _ ⟨fun o5 o6=>A.unB o5 (@hid _ ⟨fun o7 o8=>A.unI o8 (@hid _ ⟨fun o9 p0=>A.unI p0 (@hid _ ⟨fun n108 p1=>A.un0 p1 (@hid _ ⟨V [(.i n51),(.i o9),(.b o2),(.b o7),(.i n108)] o6⟩)⟩)⟩)⟩)⟩) (@hid _ ⟨fun b3=>A.cond o4 (@hid _ ⟨A.cmp .geq n98 n100 (@hid _ ⟨fun p2=>A.call 47 [(.v O),(.i n90),(.i a0),(.i n51),(.v U)] b2 (@hid _ ⟨fun p3 p6=>A.un0 p3 (@hid _ ⟨A.ari .add .i64 a0 1 (@hid _ ⟨fun n114=>b3 [(.b p2),(.i n114),(.i n27)] p6⟩)⟩)⟩)⟩)⟩) (@hid _ ⟨A.cmp .geq n99 n100 (@hid _ ⟨fun p9=>A.ari .add .i64 a0 1 (@hid _ ⟨fun q0=>A.call 47 [(.v O),(.i q0),(.i n27),(.i n51),(.v U)] b2 (@hid _ ⟨fun q1 q2=>A.un0 q1 (@hid _ ⟨b3 [(.b p9),(.i n90),(.i a0)] q2⟩)⟩)⟩)⟩)⟩)⟩)⟩)⟩)⟩)⟩)⟩)⟩)⟩)⟩)⟩)⟩)⟩) (@hid _ ⟨fun q3=>A.cond (!n1) (@hid _ ⟨A.call 74 [(.v O),(.i n21),(.i n27),(.i n62),(.v U)] b1 (@hid _ ⟨fun q4 q5=>A.unI q4 (@hid _ ⟨fun q6 q7=>A.un0 q7 (@hid _ ⟨V [(.i n51),(.i q6),(.b a7),(.b a6),(.i n27)] q5⟩)⟩)⟩)⟩) (@hid _ ⟨q3 [(.i n21)] b1⟩)⟩)⟩)⟩)⟩)⟩)⟩)⟩)⟩)⟩)⟩)⟩)⟩)⟩)⟩)⟩)⟩)⟩) (@hid _ ⟨A.call 75 [(.v O),(.i n21),(.i n27),(.i n62),(.v U)] h68 (@hid _ ⟨fun q8 b4=>A.unI q8 (@hid _ ⟨fun a1 q9=>A.unB q9 (@hid _ ⟨fun r1 r2=>A.un0 r2 (@hid _ ⟨A.ari .sub .i64 a1 n21 (@hid _ ⟨fun b5=>A.ari .sub .i64 n27 a1 (@hid _ ⟨fun b6=>A.ari .quo .i64 n42 8 (@hid _ ⟨fun b7=>A.cmp .lss b5 b6 (@hid _ ⟨fun r3=>A.join (@hid _ ⟨fun r4 r5=>A.unB r4 (@hid _ ⟨fun r6 r7=>A.unI r7 (@hid _ ⟨fun r8 r9=>A.unI r9 (@hid _ ⟨fun s0 s1=>A.un0 s1 (@hid _ ⟨V [(.i n51),(.i r8),(.b r1),(.b r6),(.i s0)] r5⟩)⟩)⟩)⟩)⟩) (@hid _ ⟨fun b8=>A.cond r3 (@hid _ ⟨A.cmp .geq b5 b7 (@hid _ ⟨fun s2=>A.call 47 [(.v O),(.i n21),(.i a1),(.i n51),(.v U)] b4 (@hid _ ⟨fun s3 s4=>A.un0 s3 (@hid _ ⟨A.ari .add .i64 a1 1 (@hid _ ⟨fun s5=>b8 [(.b s2),(.i s5),(.i n27)] s4⟩)⟩)⟩)⟩)⟩) (@hid _ ⟨A.cmp .geq b6 b7 (@hid _ ⟨fun s6=>A.ari .add .i64 a1 1 (@hid _ ⟨fun s7=>A.call 47 [(.v O),(.i s7),(.i n27),(.i n51),(.v U)] b4 (@hid _ ⟨fun s8 s9=>A.un0 s8 (@hid _ ⟨b8 [(.b s6),(.i n21),(.i a1)] s9⟩)⟩)⟩)⟩)⟩)⟩)⟩)⟩)⟩)⟩)⟩)⟩)⟩)⟩)⟩)⟩)⟩)⟩) (@hid _ ⟨fun b9=>A.cond l5 (@hid _ ⟨A.call 73 [(.v O),(.i n21),(.i n27),(.v U)] h61 (@hid _ ⟨fun t0 c0=>A.unB t0 (@hid _ ⟨fun t1 t2=>A.un0 t2 (@hid _ ⟨A.cond t1 (@hid _ ⟨K [] c0⟩) (@hid _ ⟨b9 [] c0⟩)⟩)⟩)⟩)⟩) (@hid _ ⟨b9 [] h61⟩)⟩)⟩)⟩) (@hid _ ⟨A.cmp .gtr n21 0 (@hid _ ⟨fun t3=>A.cond t3 (@hid _ ⟨A.ari .sub .i64 n21 1 (@hid _ ⟨fun t4=>A.opt (idS 2 O t4) (@hid _ ⟨fun t5=>A.peek (.lg cc 2 t5) h61 (@hid _ ⟨fun t6=>A.ucI .i64 t6 (@hid _ ⟨fun t7 t8=>A.ucI .u8 t8 (@hid _ ⟨fun t9 uc=>A.uc0 uc (@hid _ ⟨A.opt (idS 2 O n62) (@hid _ ⟨fun uR=>A.peek (.lg cc 2 uR) h61 (@hid _ ⟨fun uS=>A.ucI .i64 uS (@hid _ ⟨fun uT uU=>A.ucI .u8 uU (@hid _ ⟨fun uV uW=>A.uc0 uW (@hid _ ⟨A.callv U [(.agg ⟨[(.int .i64 t7),(.int .u8 t9)]⟩),(.agg ⟨[(.int .i64 uT),(.int .u8 uV)]⟩)] [(.leaf (.i .i64))] h61 (@hid _ ⟨fun uX c1=>A.unI uX (@hid _ ⟨fun uY uZ=>A.un0 uZ (@hid _ ⟨A.cmp .lss uY 0 (@hid _ ⟨fun u0=>A.join (@hid _ ⟨fun u1 u2=>A.unI u1 (@hid _ ⟨fun a8 u3=>A.un0 u3 (@hid _ ⟨A.call 75 [(.v O),(.i a8),(.i n27),(.i n62),(.v U)] u2 (@hid _ ⟨fun u5 d0=>A.unI u5 (@hid _ ⟨fun a2 u6=>A.unB u6 (@hid _ ⟨fun u7 u9=>A.un0 u9 (@hid _ ⟨A.ari .sub .i64 a2 a8 (@hid _ ⟨fun d1=>A.ari .sub .i64 n27 a2 (@hid _ ⟨fun d2=>A.ari .quo .i64 n42 8 (@hid _ ⟨fun d3=>A.cmp .lss d1 d2 (@hid _ ⟨fun va=>A.join (@hid _ ⟨fun vb vc=>A.unB vb (@hid _ ⟨fun vd ve=>A.unI ve (@hid _ ⟨fun vf vg=>A.unI vg (@hid _ ⟨fun vh vi=>A.un0 vi (@hid _ ⟨V [(.i n51),(.i vf),(.b u7),(.b vd),(.i vh)] vc⟩)⟩)⟩)⟩)⟩) (@hid _ ⟨fun d4=>A.cond va (@hid _ ⟨A.cmp .geq d1 d3 (@hid _ ⟨fun vj=>A.call 47 [(.v O),(.i a8),(.i a2),(.i n51),(.v U)] d0 (@hid _ ⟨fun vk vl=>A.un0 vk (@hid _ ⟨A.ari .add .i64 a2 1 (@hid _ ⟨fun vm=>d4 [(.b vj),(.i vm),(.i n27)] vl⟩)⟩)⟩)⟩)⟩) (@hid _ ⟨A.cmp .geq d2 d3 (@hid _ ⟨fun vn=>A.ari .add .i64 a2 1 (@hid _ ⟨fun vo=>A.call 47 [(.v O),(.i vo),(.i n27),(.i n51),(.v U)] d0 (@hid _ ⟨fun vp vq=>A.un0 vp (@hid _ ⟨d4 [(.b vn),(.i a8),(.i a2)] vq⟩)⟩)⟩)⟩)⟩)⟩)⟩)⟩)⟩)⟩)⟩)⟩)⟩)⟩)⟩)⟩)⟩) (@hid _ ⟨fun vr=>A.cond (!u0) (@hid _ ⟨A.call 74 [(.v O),(.i n21),(.i n27),(.i n62),(.v U)] c1 (@hid _ ⟨fun vt vu=>A.unI vt (@hid _ ⟨fun vw vx=>A.un0 vx (@hid _ ⟨V [(.i n51),(.i vw),(.b a7),(.b a6),(.i n27)] vu⟩)⟩)⟩)⟩) (@hid _ ⟨vr [(.i n21)] c1⟩)⟩)⟩)⟩)⟩)⟩)⟩)⟩)⟩)⟩)⟩)⟩)⟩)⟩)⟩)⟩)⟩)⟩) (@hid _ ⟨A.call 75 [(.v O),(.i n21),(.i n27),(.i n62),(.v U)] h61 (@hid _ ⟨fun vy d5=>A.unI vy (@hid _ ⟨fun a3 vz=>A.unB vz (@hid _ ⟨fun vA vB=>A.un0 vB (@hid _ ⟨A.ari .sub .i64 a3 n21 (@hid _ ⟨fun d6=>A.ari .sub .i64 n27 a3 (@hid _ ⟨fun d7=>A.ari .quo .i64 n42 8 (@hid _ ⟨fun d8=>A.cmp .lss d6 d7 (@hid _ ⟨fun vC=>A.join (@hid _ ⟨fun vD vE=>A.unB vD (@hid _ ⟨fun vF vG=>A.unI vG (@hid _ ⟨fun vH vI=>A.unI vI (@hid _ ⟨fun vJ vK=>A.un0 vK (@hid _ ⟨V [(.i n51),(.i vH),(.b vA),(.b vF),(.i vJ)] vE⟩)⟩)⟩)⟩)⟩) (@hid _ ⟨fun d9=>A.cond vC (@hid _ ⟨A.cmp .geq d6 d8 (@hid _ ⟨fun vL=>A.call 47 [(.v O),(.i n21),(.i a3),(.i n51),(.v U)] d5 (@hid _ ⟨fun vM vN=>A.un0 vM (@hid _ ⟨A.ari .add .i64 a3 1 (@hid _ ⟨fun vO=>d9 [(.b vL),(.i vO),(.i n27)] vN⟩)⟩)⟩)⟩)⟩) (@hid _ ⟨A.cmp .geq d7 d8 (@hid _ ⟨fun vP=>A.ari .add .i64 a3 1 (@hid _ ⟨fun vQ=>A.call 47 [(.v O),(.i vQ),(.i n27),(.i n51),(.v U)] d5 (@hid _ ⟨fun vR vS=>A.un0 vR (@hid _ ⟨d9 [(.b vP),(.i n21),(.i a3)] vS⟩)⟩)⟩)⟩)⟩)⟩)⟩)⟩)⟩)⟩)⟩)⟩)⟩)⟩)⟩)⟩)⟩)⟩) (@hid _ ⟨A.cmp .gtr n21 0 (@hid _ ⟨fun vT=>A.cond vT (@hid _ ⟨A.ari .sub .i64 n21 1 (@hid _ ⟨fun vU=>A.opt (idS 2 O vU) (@hid _ ⟨fun vV=>A.peek (.lg cc 2 vV) h61 (@hid _ ⟨fun vW=>A.ucI .i64 vW (@hid _ ⟨fun vX vY=>A.ucI .u8 vY (@hid _ ⟨fun vZ v0=>A.uc0 v0 (@hid _ ⟨A.opt (idS 2 O n62) (@hid _ ⟨fun v1=>A.peek (.lg cc 2 v1) h61 (@hid _ ⟨fun v2=>A.ucI .i64 v2 (@hid _ ⟨fun v3 v4=>A.ucI .u8 v4 (@hid _ ⟨fun v5 v6=>A.uc0 v6 (@hid _ ⟨A.callv U [(.agg ⟨[(.int .i64 vX),(.int .u8 vZ)]⟩),(.agg ⟨[(.int .i64 v3),(.int .u8 v5)]⟩)] [(.leaf (.i .i64))] h61 (@hid _ ⟨fun v7 e0=>A.unI v7 (@hid _ ⟨fun v8 v9=>A.un0 v9 (@hid _ ⟨A.cmp .lss v8 0 (@hid _ ⟨fun wc=>A.join (@hid _ ⟨fun we wg=>A.unI we (@hid _ ⟨fun a9 wh=>A.un0 wh (@hid _ ⟨A.call 75 [(.v O),(.i a9),(.i n27),(.i n62),(.v U)] wg (@hid _ ⟨fun wi e1=>A.unI wi (@hid _ ⟨fun a4 wj=>A.unB wj (@hid _ ⟨fun wk wl=>A.un0 wl (@hid _ ⟨A.ari .sub .i64 a4 a9 (@hid _ ⟨fun e2=>A.ari .sub .i64 n27 a4 (@hid _ ⟨fun e3=>A.ari .quo .i64 n42 8 (@hid _ ⟨fun f0=>A.cmp .lss e2 e3 (@hid _ ⟨fun wm=>A.join (@hid _ ⟨fun wn wo=>A.unB wn (@hid _ ⟨fun wp wq=>A.unI wq (@hid _ ⟨fun wt wu=>A.unI wu (@hid _ ⟨fun wv ww=>A.un0 ww (@hid _ ⟨V [(.i n51),(.i wt),(.b wk),(.b wp),(.i wv)] wo⟩)⟩)⟩)⟩)⟩) (@hid _ ⟨fun f1=>A.cond wm (@hid _ ⟨A.cmp .geq e2 f0 (@hid _ ⟨fun wx=>A.call 47 [(.v O),(.i a9),(.i a4),(.i n51),(.v U)] e1 (@hid _ ⟨fun wy wz=>A.un0 wy (@hid _ ⟨A.ari .add .i64 a4 1 (@hid _ ⟨fun wA=>f1 [(.b wx),(.i wA),(.i n27)] wz⟩)⟩)⟩)⟩)⟩) (@hid _ ⟨A.cmp .geq e3 f0 (@hid _ ⟨fun wB=>A.ari .add .i64 a4 1 (@hid _ ⟨fun wC=>A.call 47 [(.v O),(.i wC),(.i n27),(.i n51),(.v U)] e1 (@hid _ ⟨fun wD wE=>A.un0 wD (@hid _ ⟨f1 [(.b wB),(.i a9),(.i a4)] wE⟩)⟩)⟩)⟩)⟩)⟩)⟩)⟩)⟩)⟩)⟩)⟩)⟩)⟩)⟩)⟩)⟩) (@hid _ ⟨fun wF=>A.cond (!wc) (@hid _ ⟨A.call 74 [(.v O),(.i n21),(.i n27),(.i n62),(.v U)] e0 (@hid _ ⟨fun wG wH=>A.unI wG (@hid _ ⟨fun wI wJ=>A.un0 wJ (@hid _ ⟨V [(.i n51),(.i wI),(.b a7),(.b a6),(.i n27)] wH⟩)⟩)⟩)⟩) (@hid _ ⟨wF [(.i n21)] e0⟩)⟩)⟩)⟩)⟩)⟩)⟩)⟩)⟩)⟩)⟩)⟩)⟩)⟩)⟩)⟩)⟩)⟩) (@hid _ ⟨A.call 75 [(.v O),(.i n21),(.i n27),(.i n62),(.v U)] h61 (@hid _ ⟨fun wK f2=>A.unI wK (@hid _ ⟨fun a5 wL=>A.unB wL (@hid _ ⟨fun wM wN=>A.un0 wN (@hid _ ⟨A.ari .sub .i64 a5 n21 (@hid _ ⟨fun f3=>A.ari .sub .i64 n27 a5 (@hid _ ⟨fun g0=>A.ari .quo .i64 n42 8 (@hid _ ⟨fun g1=>A.cmp .lss f3 g0 (@hid _ ⟨fun wO=>A.join (@hid _ ⟨fun wP wQ=>A.unB wP (@hid _ ⟨fun wR wS=>A.unI wS (@hid _ ⟨fun wT wU=>A.unI wU (@hid _ ⟨fun wV wW=>A.un0 wW (@hid _ ⟨V [(.i n51),(.i wT),(.b wM),(.b wR),(.i wV)] wQ⟩)⟩)⟩)⟩)⟩) (@hid _ ⟨fun g2=>A.cond wO (@hid _ ⟨A.cmp .geq f3 g1 (@hid _ ⟨fun wX=>A.call 47 [(.v O),(.i n21),(.i a5),(.i n51),(.v U)] f2 (@hid _ ⟨fun wY wZ=>A.un0 wY (@hid _ ⟨A.ari .add .i64 a5 1 (@hid _ ⟨fun w0=>g2 [(.b wX),(.i w0),(.i n27)] wZ⟩)⟩)⟩)⟩)⟩) (@hid _ ⟨A.cmp .geq g0 g1 (@hid _ ⟨fun w1=>A.ari .add .i64 a5 1 (@hid _ ⟨fun w2=>A.call 47 [(.v O),(.i w2),(.i n27),(.i n51),(.v U)] f2 (@hid _ ⟨fun w3 xa=>A.un0 w3 (@hid _ ⟨g2 [(.b w1),(.i n21),(.i a5)] xa⟩)⟩)⟩)⟩)⟩)⟩)⟩)⟩)⟩)⟩)⟩)⟩)⟩)⟩)⟩)⟩)⟩)⟩)⟩)⟩)⟩) (@hid _ ⟨fun g3=>A.cond l1 (@hid _ ⟨A.call 72 [(.v O),(.i n21),(.i n27),(.v U)] b0 (@hid _ ⟨fun xd xe=>A.un0 xd (@hid _ ⟨A.ari .sub .i64 n27 1 (@hid _ ⟨fun xf=>A.ari .sub .i64 n55 n21 (@hid _ ⟨fun xg=>A.ari .sub .i64 xf xg (@hid _ ⟨fun xh=>g3 [(.i xh),(.i 1)] xe⟩)⟩)⟩)⟩)⟩)⟩) (@hid _ ⟨g3 [(.i n55),(.i n57)] b0⟩)⟩)⟩)⟩)⟩)⟩)⟩)⟩)⟩)⟩) (@hid _ ⟨fun g6=>A.cond (!a6) (@hid _ ⟨A.call 70 [(.v O),(.i n21),(.i n27),(.v U)] h18 (@hid _ ⟨fun xi xj=>A.un0 xi (@hid _ ⟨A.ari .sub .i64 n19 1 (@hid _ ⟨fun xk=>g6 [(.i xk)] xj⟩)⟩)⟩)⟩) (@hid _ ⟨g6 [(.i n19)] h18⟩)⟩)⟩)⟩)⟩)⟩)⟩)⟩)⟩)⟩)⟩)⟩)⟩)⟩)⟩) [(.i n12),(.i n8),(.b true),(.b true),(.i n10)] h⟩)⟩)⟩)⟩)⟩)⟩)
theorem g47:(fun A:Alg Prop (HL)=>p47 A)=fun A=>f47 A:=by kernel_rfl
theorem h47(ls:List Lf)(H:HL)(K:List Lf→HL→Prop):p47 P1 ls H K=aj P1 (xc 47) ac drN n47 ls H K:=
 congrFun (congrFun (congrFun ((congrFun g47 P1).trans (congrFun (congrFun (congrFun e47 Prop) (HL)) P1)) ls) H) K
theorem x47{ls:List Lf}{H:HL}{K:List Lf→HL→Prop}(hls:bg ls)(h:p47 P1 ls H K):∃rs H',au cc ac 47 ls (absH aa H) rs (absH aa H')∧K rs H':=
 de i47 hls (h47 ls H K▸h)
/-- slices.IndexFunc[[]crimp/patterns.Crease,crimp/patterns.Crease] -/
def p60(A:Alg Prop (HL))(ls:List Lf)(h:HL)(K:List Lf→HL→Prop):Prop:=A.unV ls (@hid _ ⟨fun U a0=>A.unV a0 (@hid _ ⟨fun x8 a1=>A.un0 a1 (@hid _ ⟨A.opt (lenS U) (@hid _ ⟨fun a2=>A.loop (@hid _ ⟨fun a3 a4 O=>A.unI a4 (@hid _ ⟨fun n14 a5=>A.un0 a5 (@hid _ ⟨A.cmp .lss n14 a2 (@hid _ ⟨fun a6=>A.cond a6 (@hid _ ⟨A.opt (idS 3 U n14) (@hid _ ⟨fun a7=>A.peek (.lg cc 3 a7) O (@hid _ ⟨fun a8=>A.ucI .i64 a8 (@hid _ ⟨fun n19 a9=>A.ucI .u8 a9 (@hid _ ⟨fun n21 b0=>A.ucI .u8 b0 (@hid _ ⟨fun n23 b1=>A.uc0 b1 (@hid _ ⟨A.callv x8 [(.agg ⟨[(.int .i64 n19),(.int .u8 n21),(.int .u8 n23)]⟩)] [(.leaf .b)] O (@hid _ ⟨fun b2 V=>A.unB b2 (@hid _ ⟨fun b3 b4=>A.un0 b4 (@hid _ ⟨A.cond b3 (@hid _ ⟨K [(.i n14)] V⟩) (@hid _ ⟨A.ari .add .i64 n14 1 (@hid _ ⟨fun n29=>a3 [(.i n29)] V⟩)⟩)⟩)⟩)⟩)⟩)⟩)⟩)⟩)⟩)⟩)⟩) (@hid _ ⟨K [(.i (-1))] O⟩)⟩)⟩)⟩)⟩) [(.i 0)] h⟩)⟩)⟩)⟩)
theorem g60:(fun A:Alg Prop (HL)=>p60 A)=fun A=>f60 A:=by kernel_rfl
theorem h60(ls:List Lf)(H:HL)(K:List Lf→HL→Prop):p60 P1 ls H K=aj P1 (xc 60) ac drN n60 ls H K:=
 congrFun (congrFun (congrFun ((congrFun g60 P1).trans (congrFun (congrFun (congrFun e60 Prop) (HL)) P1)) ls) H) K
theorem x60{ls:List Lf}{H:HL}{K:List Lf→HL→Prop}(hls:bg ls)(h:p60 P1 ls H K):∃rs H',au cc ac 60 ls (absH aa H) rs (absH aa H')∧K rs H':=
 de i60 hls (h60 ls H K▸h)
/-- crimp/sheets.Neighbour -/
def p61(A:Alg Prop (HL))(ls:List Lf)(h:HL)(K:List Lf→HL→Prop):Prop:=A.unI ls (@hid _ ⟨fun n6 V=>A.unI V (@hid _ ⟨fun n8 a0=>A.unI a0 (@hid _ ⟨fun n10 a1=>A.unI a1 (@hid _ ⟨fun n12 a2=>A.un0 a2 (@hid _ ⟨A.call 87 [(.i n6),(.i n8),(.i n10)] h (@hid _ ⟨fun a3 O=>A.unI a3 (@hid _ ⟨fun n16 a4=>A.unI a4 (@hid _ ⟨fun n18 a5=>A.unI a5 (@hid _ ⟨fun n20 a6=>A.unI a6 (@hid _ ⟨fun n22 a7=>A.un0 a7 (@hid _ ⟨A.cmp .neq n22 0 (@hid _ ⟨fun a8=>A.cond a8 (@hid _ ⟨K [(.i 0),(.i n22)] O⟩) (@hid _ ⟨A.call 45 [(.i n16),(.i n18),(.i n20),(.i n12)] O (@hid _ ⟨fun a9 U=>A.unI a9 (@hid _ ⟨fun n27 b0=>A.unI b0 (@hid _ ⟨fun n29 b1=>A.unI b1 (@hid _ ⟨fun n31 b2=>A.unI b2 (@hid _ ⟨fun n33 b3=>A.un0 b3 (@hid _ ⟨A.cmp .neq n33 0 (@hid _ ⟨fun b4=>A.cond b4 (@hid _ ⟨K [(.i 0),(.i 1)] U⟩) (@hid _ ⟨A.call 41 [(.i n6),(.i n8),(.i n27),(.i n29),(.i n31)] U (@hid _ ⟨fun b5 h37=>A.unI b5 (@hid _ ⟨fun n38 b6=>A.unI b6 (@hid _ ⟨fun n40 b7=>A.un0 b7 (@hid _ ⟨K [(.i n38),(.i n40)] h37⟩)⟩)⟩)⟩)⟩)⟩)⟩)⟩)⟩)⟩)⟩)⟩)⟩)⟩)⟩)⟩)⟩)⟩)⟩)⟩)⟩)⟩)⟩)⟩)⟩)
theorem g61:(fun A:Alg Prop (HL)=>p61 A)=fun A=>f61 A:=by kernel_rfl
theorem h61(ls:List Lf)(H:HL)(K:List Lf→HL→Prop):p61 P1 ls H K=aj P1 (xc 61) ac drN n61 ls H K:=
 congrFun (congrFun (congrFun ((congrFun g61 P1).trans (congrFun (congrFun (congrFun e61 Prop) (HL)) P1)) ls) H) K
theorem u61{ls:List Lf}{H:HL}{K:List Lf→HL→Prop}(hls:aQ ls=true)(h:p61 P1 ls H K):∃rs H',au cc ac 61 ls (absH aa H) rs (absH aa H')∧K rs H':=
 eW i61 hls (h61 ls H K▸h)
theorem q61{ls rs:List Lf}(hls:aQ ls=true)(h:p61 P1 ls [] fun rs' _=>rs'=rs):Cc 61 ls rs:=by
 obtain⟨_,_,h1,rfl⟩:=u61 hls h
 exact gp mixed bY (sg:=⟨[.agg [.i .i64,.i .i64],li,.leaf (.i .u8)],[li,li]⟩) rfl (by kernel_rfl) h1
/-- crimp/cells.Check -/
def p62(A:Alg Prop (HL))(ls:List Lf)(h:HL)(K:List Lf→HL→Prop):Prop:=A.unI ls (@hid _ ⟨fun n6 O=>A.unI O (@hid _ ⟨fun n8 U=>A.unI U (@hid _ ⟨fun n10 V=>A.un0 V (@hid _ ⟨A.cmp .lss n6 (-4096) (@hid _ ⟨fun a0=>A.cond a0 (@hid _ ⟨K [(.i 1)] h⟩) (@hid _ ⟨A.cmp .gtr n6 4096 (@hid _ ⟨fun a1=>A.cond a1 (@hid _ ⟨K [(.i 1)] h⟩) (@hid _ ⟨A.cmp .lss n8 (-4096) (@hid _ ⟨fun a2=>A.cond a2 (@hid _ ⟨K [(.i 1)] h⟩) (@hid _ ⟨A.cmp .gtr n8 4096 (@hid _ ⟨fun a3=>A.cond a3 (@hid _ ⟨K [(.i 1)] h⟩) (@hid _ ⟨A.cmp .gtr n10 3 (@hid _ ⟨fun a4=>A.cond a4 (@hid _ ⟨K [(.i 1)] h⟩) (@hid _ ⟨K [(.i 0)] h⟩)⟩)⟩)⟩)⟩)⟩)⟩)⟩)⟩)⟩)⟩)⟩)⟩)⟩)
theorem g62:(fun A:Alg Prop (HL)=>p62 A)=fun A=>f62 A:=by kernel_rfl
theorem h62(ls:List Lf)(H:HL)(K:List Lf→HL→Prop):p62 P1 ls H K=aj P1 (xc 62) ac drN n62 ls H K:=
 congrFun (congrFun (congrFun ((congrFun g62 P1).trans (congrFun (congrFun (congrFun e62 Prop) (HL)) P1)) ls) H) K
theorem u62{ls:List Lf}{H:HL}{K:List Lf→HL→Prop}(hls:aQ ls=true)(h:p62 P1 ls H K):∃rs H',au cc ac 62 ls (absH aa H) rs (absH aa H')∧K rs H':=
 eW i62 hls (h62 ls H K▸h)
theorem q62{ls rs:List Lf}(hls:aQ ls=true)(h:p62 P1 ls [] fun rs' _=>rs'=rs):Cc 62 ls rs:=by
 obtain⟨_,_,h1,rfl⟩:=u62 hls h
 exact gp mixed bY (sg:=⟨[.agg [.i .i64,.i .i64,.i .u8]],[li]⟩) rfl (by kernel_rfl) h1
/-- crimp/patterns.find -/
def p67(A:Alg Prop (HL))(ls:List Lf)(h:HL)(K:List Lf→HL→Prop):Prop:=A.unV ls (@hid _ ⟨fun O U=>A.unI U (@hid _ ⟨fun n8 V=>A.unI V (@hid _ ⟨fun n10 a0=>A.un0 a0 (@hid _ ⟨A.call 89 [(.v O),(.i n8),(.i n10),(.v (.func (.func 90) ⟨[]⟩ ⟨[]⟩))] h (@hid _ ⟨fun a1 a2=>A.unI a1 (@hid _ ⟨fun n14 a3=>A.unB a3 (@hid _ ⟨fun a4 a5=>A.un0 a5 (@hid _ ⟨K [(.i n14),(.b a4)] a2⟩)⟩)⟩)⟩)⟩)⟩)⟩)⟩)
theorem g67:(fun A:Alg Prop (HL)=>p67 A)=fun A=>f67 A:=by kernel_rfl
theorem h67(ls:List Lf)(H:HL)(K:List Lf→HL→Prop):p67 P1 ls H K=aj P1 (xc 67) ac drN n67 ls H K:=
 congrFun (congrFun (congrFun ((congrFun g67 P1).trans (congrFun (congrFun (congrFun e67 Prop) (HL)) P1)) ls) H) K
theorem x67{ls:List Lf}{H:HL}{K:List Lf→HL→Prop}(hls:bg ls)(h:p67 P1 ls H K):∃rs H',au cc ac 67 ls (absH aa H) rs (absH aa H')∧K rs H':=
 de i67 hls (h67 ls H K▸h)
/-- slices.insertionSortCmpFunc[crimp/corners.Ray] -/
def p68(A:Alg Prop (HL))(ls:List Lf)(h:HL)(K:List Lf→HL→Prop):Prop:=A.unV ls (@hid _ ⟨fun O a1=>A.unI a1 (@hid _ ⟨fun n8 a2=>A.unI a2 (@hid _ ⟨fun n10 a3=>A.unV a3 (@hid _ ⟨fun a4 a5=>A.un0 a5 (@hid _ ⟨A.ari .add .i64 n8 1 (@hid _ ⟨fun n14=>A.loop (@hid _ ⟨fun a6 a7 V=>A.unI a7 (@hid _ ⟨fun n18 a8=>A.un0 a8 (@hid _ ⟨A.cmp .lss n18 n10 (@hid _ ⟨fun a9=>A.cond a9 (@hid _ ⟨A.join (@hid _ ⟨fun b0 h22=>A.un0 b0 (@hid _ ⟨A.ari .add .i64 n18 1 (@hid _ ⟨fun n23=>a6 [(.i n23)] h22⟩)⟩)⟩) (@hid _ ⟨fun a0=>A.loop (@hid _ ⟨fun b1 b2 U=>A.unI b2 (@hid _ ⟨fun n28 b3=>A.un0 b3 (@hid _ ⟨A.cmp .gtr n28 n8 (@hid _ ⟨fun b4=>A.cond b4 (@hid _ ⟨A.opt (idS 2 O n28) (@hid _ ⟨fun b5=>A.peek (.lg cc 2 b5) U (@hid _ ⟨fun b6=>A.ucI .i64 b6 (@hid _ ⟨fun n33 b7=>A.ucI .u8 b7 (@hid _ ⟨fun n35 b8=>A.uc0 b8 (@hid _ ⟨A.ari .sub .i64 n28 1 (@hid _ ⟨fun n37=>A.opt (idS 2 O n37) (@hid _ ⟨fun b9=>A.peek (.lg cc 2 b9) U (@hid _ ⟨fun c0=>A.ucI .i64 c0 (@hid _ ⟨fun n40 c1=>A.ucI .u8 c1 (@hid _ ⟨fun n42 d0=>A.uc0 d0 (@hid _ ⟨A.callv a4 [(.agg ⟨[(.int .i64 n33),(.int .u8 n35)]⟩),(.agg ⟨[(.int .i64 n40),(.int .u8 n42)]⟩)] [(.leaf (.i .i64))] U (@hid _ ⟨fun d1 h45=>A.unI d1 (@hid _ ⟨fun n46 d2=>A.un0 d2 (@hid _ ⟨A.cmp .lss n46 0 (@hid _ ⟨fun d3=>A.cond d3 (@hid _ ⟨A.ari .sub .i64 n28 1 (@hid _ ⟨fun n49=>A.ari .sub .i64 n28 1 (@hid _ ⟨fun n50=>A.opt (idS 2 O n50) (@hid _ ⟨fun d4=>A.peek (.lg cc 2 d4) h45 (@hid _ ⟨fun d5=>A.ucI .i64 d5 (@hid _ ⟨fun n53 d6=>A.ucI .u8 d6 (@hid _ ⟨fun n55 d7=>A.uc0 d7 (@hid _ ⟨A.opt (idS 2 O n28) (@hid _ ⟨fun d8=>A.peek (.lg cc 2 d8) h45 (@hid _ ⟨fun d9=>A.ucI .i64 d9 (@hid _ ⟨fun n59 e0=>A.ucI .u8 e0 (@hid _ ⟨fun n61 e1=>A.uc0 e1 (@hid _ ⟨A.opt (idS 2 O n28) (@hid _ ⟨fun e2=>A.heap (.st e2 [(.int .i64 n53),(.int .u8 n55)]) h45 (@hid _ ⟨fun f2 e3=>A.opt (idS 2 O n49) (@hid _ ⟨fun f0=>A.heap (.st f0 [(.int .i64 n59),(.int .u8 n61)]) e3 (@hid _ ⟨fun f3 h68=>A.ari .sub .i64 n28 1 (@hid _ ⟨fun f1=>b1 [(.i f1)] h68⟩)⟩)⟩)⟩)⟩)⟩)⟩)⟩)⟩)⟩)⟩)⟩)⟩)⟩)⟩)⟩)⟩)⟩) (@hid _ ⟨a0 [] h45⟩)⟩)⟩)⟩)⟩)⟩)⟩)⟩)⟩)⟩)⟩)⟩)⟩)⟩)⟩)⟩)⟩) (@hid _ ⟨a0 [] U⟩)⟩)⟩)⟩)⟩) [(.i n18)] V⟩)⟩) (@hid _ ⟨K [] V⟩)⟩)⟩)⟩)⟩) [(.i n14)] h⟩)⟩)⟩)⟩)⟩)⟩)
theorem g68:(fun A:Alg Prop (HL)=>p68 A)=fun A=>f68 A:=by kernel_rfl
theorem h68(ls:List Lf)(H:HL)(K:List Lf→HL→Prop):p68 P1 ls H K=aj P1 (xc 68) ac drN n68 ls H K:=
 congrFun (congrFun (congrFun ((congrFun g68 P1).trans (congrFun (congrFun (congrFun e68 Prop) (HL)) P1)) ls) H) K
theorem x68{ls:List Lf}{H:HL}{K:List Lf→HL→Prop}(hls:bg ls)(h:p68 P1 ls H K):∃rs H',au cc ac 68 ls (absH aa H) rs (absH aa H')∧K rs H':=
 de i68 hls (h68 ls H K▸h)
/-- crimp/sheets.Cell -/
def p87(A:Alg Prop (HL))(ls:List Lf)(h:HL)(K:List Lf→HL→Prop):Prop:=A.unI ls (@hid _ ⟨fun n6 U=>A.unI U (@hid _ ⟨fun n8 V=>A.unI V (@hid _ ⟨fun n10 a0=>A.un0 a0 (@hid _ ⟨A.call 32 [(.i n6),(.i n8)] h (@hid _ ⟨fun a1 O=>A.unI a1 (@hid _ ⟨fun n14 a2=>A.un0 a2 (@hid _ ⟨A.cmp .neq n14 0 (@hid _ ⟨fun a3=>A.cond a3 (@hid _ ⟨K [(.i 0),(.i 0),(.i 0),(.i n14)] O⟩) (@hid _ ⟨A.call 109 [(.i n6),(.i n8),(.i n10)] O (@hid _ ⟨fun a4 h18=>A.unB a4 (@hid _ ⟨fun a5 a6=>A.un0 a6 (@hid _ ⟨A.cond (!a5) (@hid _ ⟨K [(.i 0),(.i 0),(.i 0),(.i 7)] h18⟩) (@hid _ ⟨A.call 110 [(.i n6),(.i n8),(.i n10)] h18 (@hid _ ⟨fun a7 h22=>A.unI a7 (@hid _ ⟨fun n23 a8=>A.unI a8 (@hid _ ⟨fun n25 a9=>A.unI a9 (@hid _ ⟨fun n27 b0=>A.un0 b0 (@hid _ ⟨K [(.i n23),(.i n25),(.i n27),(.i 0)] h22⟩)⟩)⟩)⟩)⟩)⟩)⟩)⟩)⟩)⟩)⟩)⟩)⟩)⟩)⟩)⟩)⟩)⟩)
theorem g87:(fun A:Alg Prop (HL)=>p87 A)=fun A=>f87 A:=by kernel_rfl
theorem h87(ls:List Lf)(H:HL)(K:List Lf→HL→Prop):p87 P1 ls H K=aj P1 (xc 87) ac drN n87 ls H K:=
 congrFun (congrFun (congrFun ((congrFun g87 P1).trans (congrFun (congrFun (congrFun e87 Prop) (HL)) P1)) ls) H) K
theorem u87{ls:List Lf}{H:HL}{K:List Lf→HL→Prop}(hls:aQ ls=true)(h:p87 P1 ls H K):∃rs H',au cc ac 87 ls (absH aa H) rs (absH aa H')∧K rs H':=
 eW i87 hls (h87 ls H K▸h)
theorem q87{ls rs:List Lf}(hls:aQ ls=true)(h:p87 P1 ls [] fun rs' _=>rs'=rs):Cc 87 ls rs:=by
 obtain⟨_,_,h1,rfl⟩:=u87 hls h
 exact gp mixed bY (sg:=⟨[.agg [.i .i64,.i .i64],li],[.agg [.i .i64,.i .i64,.i .u8],li]⟩) rfl (by kernel_rfl) h1
/-- slices.BinarySearchFunc[[]crimp/patterns.Crease,crimp/patterns.Crease,crimp/sheets.Unit] -/
def p89(A:Alg Prop (HL))(ls:List Lf)(h:HL)(K:List Lf→HL→Prop):Prop:=A.unV ls (@hid _ ⟨fun U a3=>A.unI a3 (@hid _ ⟨fun n8 a4=>A.unI a4 (@hid _ ⟨fun n10 a5=>A.unV a5 (@hid _ ⟨fun V a6=>A.un0 a6 (@hid _ ⟨A.opt (lenS U) (@hid _ ⟨fun a0=>A.loop (@hid _ ⟨fun a7 a8 O=>A.unI a8 (@hid _ ⟨fun n18 a9=>A.unI a9 (@hid _ ⟨fun n20 b0=>A.un0 b0 (@hid _ ⟨A.cmp .lss n18 n20 (@hid _ ⟨fun b1=>A.cond b1 (@hid _ ⟨A.ari .add .i64 n18 n20 (@hid _ ⟨fun n23=>A.conv .u64 n23 (@hid _ ⟨fun n24=>A.shf .shr .u64 n24 .u64 1 (@hid _ ⟨fun n25=>A.conv .i64 n25 (@hid _ ⟨fun n26=>A.opt (idS 3 U n26) (@hid _ ⟨fun b2=>A.peek (.lg cc 3 b2) O (@hid _ ⟨fun b3=>A.ucI .i64 b3 (@hid _ ⟨fun n29 b4=>A.ucI .u8 b4 (@hid _ ⟨fun n31 b5=>A.ucI .u8 b5 (@hid _ ⟨fun n33 b6=>A.uc0 b6 (@hid _ ⟨A.callv V [(.agg ⟨[(.int .i64 n29),(.int .u8 n31),(.int .u8 n33)]⟩),(.agg ⟨[(.int .i64 n8),(.int .u8 n10)]⟩)] [(.leaf (.i .i64))] O (@hid _ ⟨fun b7 h36=>A.unI b7 (@hid _ ⟨fun n37 b8=>A.un0 b8 (@hid _ ⟨A.cmp .lss n37 0 (@hid _ ⟨fun b9=>A.join (@hid _ ⟨fun c0 c1=>A.unI c0 (@hid _ ⟨fun n42 d0=>A.unI d0 (@hid _ ⟨fun n44 d1=>A.un0 d1 (@hid _ ⟨a7 [(.i n42),(.i n44)] c1⟩)⟩)⟩)⟩) (@hid _ ⟨fun a1=>A.cond b9 (@hid _ ⟨A.ari .add .i64 n26 1 (@hid _ ⟨fun n47=>a1 [(.i n47),(.i n20)] h36⟩)⟩) (@hid _ ⟨a1 [(.i n18),(.i n26)] h36⟩)⟩)⟩)⟩)⟩)⟩)⟩)⟩)⟩)⟩)⟩)⟩)⟩)⟩)⟩)⟩)⟩) (@hid _ ⟨A.join (@hid _ ⟨fun d2 d3=>A.unI d2 (@hid _ ⟨fun n50 d4=>A.unB d4 (@hid _ ⟨fun d5 d6=>A.un0 d6 (@hid _ ⟨K [(.i n50),(.b d5)] d3⟩)⟩)⟩)⟩) (@hid _ ⟨fun a2=>A.cmp .lss n18 a0 (@hid _ ⟨fun d7=>A.cond d7 (@hid _ ⟨A.opt (idS 3 U n18) (@hid _ ⟨fun d8=>A.peek (.lg cc 3 d8) O (@hid _ ⟨fun d9=>A.ucI .i64 d9 (@hid _ ⟨fun n58 e0=>A.ucI .u8 e0 (@hid _ ⟨fun n60 e1=>A.ucI .u8 e1 (@hid _ ⟨fun n62 e2=>A.uc0 e2 (@hid _ ⟨A.callv V [(.agg ⟨[(.int .i64 n58),(.int .u8 n60),(.int .u8 n62)]⟩),(.agg ⟨[(.int .i64 n8),(.int .u8 n10)]⟩)] [(.leaf (.i .i64))] O (@hid _ ⟨fun e3 f0=>A.unI e3 (@hid _ ⟨fun n66 f1=>A.un0 f1 (@hid _ ⟨A.cmp .eql n66 0 (@hid _ ⟨fun f2=>a2 [(.i n18),(.b f2)] f0⟩)⟩)⟩)⟩)⟩)⟩)⟩)⟩)⟩)⟩)⟩) (@hid _ ⟨a2 [(.i n18),(.b false)] O⟩)⟩)⟩)⟩)⟩)⟩)⟩)⟩)⟩) [(.i 0),(.i a0)] h⟩)⟩)⟩)⟩)⟩)⟩)
theorem g89:(fun A:Alg Prop (HL)=>p89 A)=fun A=>f89 A:=by kernel_rfl
theorem h89(ls:List Lf)(H:HL)(K:List Lf→HL→Prop):p89 P1 ls H K=aj P1 (xc 89) ac drN n89 ls H K:=
 congrFun (congrFun (congrFun ((congrFun g89 P1).trans (congrFun (congrFun (congrFun e89 Prop) (HL)) P1)) ls) H) K
theorem x89{ls:List Lf}{H:HL}{K:List Lf→HL→Prop}(hls:bg ls)(h:p89 P1 ls H K):∃rs H',au cc ac 89 ls (absH aa H) rs (absH aa H')∧K rs H':=
 de i89 hls (h89 ls H K▸h)
/-- crimp/patterns.find$1 -/
def p90(A:Alg Prop (HL))(ls:List Lf)(h:HL)(K:List Lf→HL→Prop):Prop:=A.unI ls (@hid _ ⟨fun n6 O=>A.unI O (@hid _ ⟨fun n8 U=>A.unI U (@hid _ ⟨fun n10 V=>A.unI V (@hid _ ⟨fun n12 a0=>A.unI a0 (@hid _ ⟨fun n14 a1=>A.un0 a1 (@hid _ ⟨A.call 38 [(.i n6),(.i n8),(.i n10)] h (@hid _ ⟨fun a2 a3=>A.unI a2 (@hid _ ⟨fun n18 a4=>A.unI a4 (@hid _ ⟨fun n20 a5=>A.un0 a5 (@hid _ ⟨A.call 39 [(.i n18),(.i n20),(.i n12),(.i n14)] a3 (@hid _ ⟨fun a6 h23=>A.unI a6 (@hid _ ⟨fun n24 a7=>A.un0 a7 (@hid _ ⟨K [(.i n24)] h23⟩)⟩)⟩)⟩)⟩)⟩)⟩)⟩)⟩)⟩)⟩)⟩)⟩)
theorem g90:(fun A:Alg Prop (HL)=>p90 A)=fun A=>f90 A:=by kernel_rfl
theorem h90(ls:List Lf)(H:HL)(K:List Lf→HL→Prop):p90 P1 ls H K=aj P1 (xc 90) ac drN n90 ls H K:=
 congrFun (congrFun (congrFun ((congrFun g90 P1).trans (congrFun (congrFun (congrFun e90 Prop) (HL)) P1)) ls) H) K
theorem u90{ls:List Lf}{H:HL}{K:List Lf→HL→Prop}(hls:aQ ls=true)(h:p90 P1 ls H K):∃rs H',au cc ac 90 ls (absH aa H) rs (absH aa H')∧K rs H':=
 eW i90 hls (h90 ls H K▸h)
theorem q90{ls rs:List Lf}(hls:aQ ls=true)(h:p90 P1 ls [] fun rs' _=>rs'=rs):Cc 90 ls rs:=by
 obtain⟨_,_,h1,rfl⟩:=u90 hls h
 exact gp mixed bY (sg:=⟨[.agg [.i .i64,.i .u8,.i .u8],.agg [.i .i64,.i .u8]],[li]⟩) rfl (by kernel_rfl) h1
/-- (crimp/sheets.Sheet).has -/
def p109(A:Alg Prop (HL))(ls:List Lf)(h:HL)(K:List Lf→HL→Prop):Prop:=A.unI ls (@hid _ ⟨fun n6 U=>A.unI U (@hid _ ⟨fun n8 V=>A.unI V (@hid _ ⟨fun n10 a0=>A.un0 a0 (@hid _ ⟨A.join (@hid _ ⟨fun a1 a2=>A.unB a1 (@hid _ ⟨fun a3 a4=>A.un0 a4 (@hid _ ⟨K [(.b a3)] a2⟩)⟩)⟩) (@hid _ ⟨fun O=>A.cmp .geq n10 0 (@hid _ ⟨fun a5=>A.cond a5 (@hid _ ⟨A.ari .mul .i64 4 n6 (@hid _ ⟨fun n18=>A.ari .mul .i64 n18 n8 (@hid _ ⟨fun n19=>A.cmp .lss n10 n19 (@hid _ ⟨fun a6=>O [(.b a6)] h⟩)⟩)⟩)⟩) (@hid _ ⟨O [(.b false)] h⟩)⟩)⟩)⟩)⟩)⟩)⟩)
theorem g109:(fun A:Alg Prop (HL)=>p109 A)=fun A=>f109 A:=by kernel_rfl
theorem h109(ls:List Lf)(H:HL)(K:List Lf→HL→Prop):p109 P1 ls H K=aj P1 (xc 109) ac drN n109 ls H K:=
 congrFun (congrFun (congrFun ((congrFun g109 P1).trans (congrFun (congrFun (congrFun e109 Prop) (HL)) P1)) ls) H) K
theorem u109{ls:List Lf}{H:HL}{K:List Lf→HL→Prop}(hls:aQ ls=true)(h:p109 P1 ls H K):∃rs H',au cc ac 109 ls (absH aa H) rs (absH aa H')∧K rs H':=
 eW i109 hls (h109 ls H K▸h)
theorem q109{ls rs:List Lf}(hls:aQ ls=true)(h:p109 P1 ls [] fun rs' _=>rs'=rs):Cc 109 ls rs:=by
 obtain⟨_,_,h1,rfl⟩:=u109 hls h
 exact gp mixed bY (sg:=⟨[.agg [.i .i64,.i .i64],li],[lb]⟩) rfl (by kernel_rfl) h1
def py112(A:Alg Prop HL)(vs:List Value)(lp:Nat)(ls:List Lf)(h:HL)(K:List Lf→HL→Prop):Prop:=A.ucV vs (@hid _ ⟨fun x8 a9=>A.chk x8 (@hid _ ⟨A.ucV a9 (@hid _ ⟨fun V b0=>A.chk V (@hid _ ⟨A.uc0 b0 (@hid _ ⟨A.unI ls (@hid _ ⟨fun n12 b1=>A.unI b1 (@hid _ ⟨fun n14 b2=>A.unI b2 (@hid _ ⟨fun n16 b3=>A.unI b3 (@hid _ ⟨fun n18 b4=>A.un0 b4 (@hid _ ⟨A.new (.cells [(.int .i64 0),(.int .i64 0),(.int .u8 0)] 3 true) h (@hid _ ⟨fun O h21=>A.heap (.st (.pointer (some ⟨O,0,none⟩)) [(.int .i64 n14),(.int .i64 n16),(.int .u8 n18)]) h21 (@hid _ ⟨fun f2 h23=>A.lp1 lp h23 (@hid _ ⟨fun h24=>A.peek (.lg cc 3 x8) h24 (@hid _ ⟨fun b5=>A.ucI .i64 b5 (@hid _ ⟨fun n26 b6=>A.ucI .i64 b6 (@hid _ ⟨fun n28 b7=>A.ucV b7 (@hid _ ⟨fun a0 b8=>A.chk a0 (@hid _ ⟨A.uc0 b8 (@hid _ ⟨A.opt (fdP 1 (.pointer (some ⟨O,0,none⟩))) (@hid _ ⟨fun a1=>A.chk a1 (@hid _ ⟨A.opt (fdP 0 a1) (@hid _ ⟨fun a2=>A.chk a2 (@hid _ ⟨A.peek (.lg cc 1 a2) h24 (@hid _ ⟨fun b9=>A.ucI .i64 b9 (@hid _ ⟨fun n35 c0=>A.uc0 c0 (@hid _ ⟨A.opt (fdP 1 (.pointer (some ⟨O,0,none⟩))) (@hid _ ⟨fun a3=>A.chk a3 (@hid _ ⟨A.opt (fdP 1 a3) (@hid _ ⟨fun a4=>A.chk a4 (@hid _ ⟨A.peek (.lg cc 1 a4) h24 (@hid _ ⟨fun c1=>A.ucI .u8 c1 (@hid _ ⟨fun n40 d0=>A.uc0 d0 (@hid _ ⟨A.call 21 [(.i n26),(.i n28),(.v a0),(.i n35),(.i n40)] h24 (@hid _ ⟨fun d1 U=>A.unI d1 (@hid _ ⟨fun n44 d2=>A.unI d2 (@hid _ ⟨fun n46 d3=>A.un0 d3 (@hid _ ⟨A.cmp .neq n44 0 (@hid _ ⟨fun d4=>A.join (@hid _ ⟨fun d5 d6=>A.un0 d5 (@hid _ ⟨A.lp2 lp none d6 (@hid _ ⟨fun d7=>K [(.b true)] d7⟩)⟩)⟩) (@hid _ ⟨fun a5=>A.cond d4 (@hid _ ⟨A.peek (.lg cc 1 V) U (@hid _ ⟨fun d8=>A.ucV d8 (@hid _ ⟨fun a6 d9=>A.chk a6 (@hid _ ⟨A.uc0 d9 (@hid _ ⟨A.opt (fdP 0 (.pointer (some ⟨O,0,none⟩))) (@hid _ ⟨fun a7=>A.chk a7 (@hid _ ⟨A.peek (.lg cc 1 a7) U (@hid _ ⟨fun e0=>A.ucI .i64 e0 (@hid _ ⟨fun n58 e1=>A.uc0 e1 (@hid _ ⟨A.new (.cells [(.int .i64 n58),(.int .u8 n44)] 2 true) U (@hid _ ⟨fun e2 h61=>A.heap (.ap cc 2 16 a6 (.slice (some ⟨e2,0,(some 12)⟩) 1 2)) h61 (@hid _ ⟨fun e3 f0=>A.ucV e3 (@hid _ ⟨fun a8 f1=>A.chk a8 (@hid _ ⟨A.uc0 f1 (@hid _ ⟨A.heap (.st V [a8]) f0 (@hid _ ⟨fun f3 h67=>a5 [] h67⟩)⟩)⟩)⟩)⟩)⟩)⟩)⟩)⟩)⟩)⟩)⟩)⟩)⟩)⟩)⟩) (@hid _ ⟨a5 [] U⟩)⟩)⟩)⟩)⟩)⟩)⟩)⟩)⟩)⟩)⟩)⟩)⟩)⟩)⟩)⟩)⟩)⟩)⟩)⟩)⟩)⟩)⟩)⟩)⟩)⟩)⟩)⟩)⟩)⟩)⟩)⟩)⟩)⟩)⟩)⟩)⟩)⟩)⟩)⟩)
theorem gy112:(fun A:Alg Prop HL=>py112 A)=fun A=>y112 A:=by kernel_rfl
theorem hy112(vs:List Value)(lp:Nat)(ls:List Lf)(H:HL)(K:List Lf→HL→Prop):py112 P1 vs lp ls H K=mp P1 (xc 0) ac drN (aa 112) vs lp ls H K:=
 congrFun (congrFun (congrFun (congrFun (congrFun ((congrFun gy112 P1).trans (congrFun (congrFun (congrFun ey112 Prop) HL) P1)) vs) lp) ls) H) K
theorem xy112{vs:List Value}{lp:Nat}{ls:List Lf}{H:HL}{K:List Lf→HL→Prop}{st:LoopState}{pd:Option Code}{ys:List S0}(hl:H[lp]? = some (.lp 112 st pd vs))(hy:Told ((aa 112).params.map (·.2)) ls ys)(h:py112 P1 vs lp ls H K):∃b H',ey cc lp (ah ys) (absH aa H) (.bool b) (absH aa H')∧K [.b b] H':=
 sA (X:=xc 0) (PH_ok cc ac aa) pP (sH hl) rfl rfl rfl rfl hy (hy112 vs lp ls H K▸h)
end Go.Am

/-
 SLICES IN THE HEAP: what lies behind them,how they are read and lengthened.
-/
set_option maxRecDepth 100000
namespace Go.Am
namespace Sx
theorem gS{vs:List Value}{off n:Nat}{cs:List Value}:cut vs off n=some cs↔off+n≤vs.length∧(vs.drop off).take n=cs:=by
 unfold cut
 split
 ·rename_i h;simp[h]
 ·rename_i h;simp[h]
theorem cut_len{vs:List Value}{off n:Nat}{cs:List Value}(h:cut vs off n=some cs):cs.length=n:=by
 obtain⟨h1,rfl⟩:=gS.1 h
 rw[List.length_take,List.length_drop];omega
theorem cut_cut{vs:List Value}{off n:Nat}{cs:List Value}(h:cut vs off n=some cs){o k:Nat}(hk:o+k≤n):cut vs (off+o) k=some ((cs.drop o).take k):=by
 obtain⟨h1,rfl⟩:=gS.1 h
 refine gS.2 ⟨by omega,?_⟩
 rw[List.drop_take,List.drop_drop,List.take_take,Nat.min_eq_left (by omega)]
theorem cut_all{vs:List Value}{n:Nat}(h:vs.length=n):cut vs 0 n=some vs:=gS.2 ⟨by omega,by rw[List.drop_zero,List.take_of_length_le (by omega)]⟩
def Pre(h0 h:HL):Prop:=∃G,h=h0++G
theorem Pre.refl(h:HL):Pre h h:=⟨[],by simp⟩
theorem Pre.trans{a b c:HL}(h:Pre a b)(k:Pre b c):Pre a c:=by
 obtain⟨G,rfl⟩:=h
 obtain⟨G',rfl⟩:=k
 exact⟨G++G',by simp⟩
theorem Pre.app{a b:HL}(h:Pre a b)(G:HL):Pre a (b++G):=h.trans ⟨G,rfl⟩
theorem Pre.len{a b:HL}(h:Pre a b):a.length≤b.length:=by obtain⟨G,rfl⟩:=h;simp
theorem Pre.get{a b:HL}(h:Pre a b){i:Nat}{o:HO}(hi:a[i]? = some o):b[i]? = some o:=by
 obtain⟨G,rfl⟩:=h
 have:i<a.length:=by
  rcases Nat.lt_or_ge i a.length with h|h
  ·exact h
  ·rw[List.getElem?_eq_none h]at hi;cases hi
 rw[List.getElem?_append_left this];exact hi
theorem Pre.set{a b:HL}(h:Pre a b){i:Nat}(hi:a.length≤i)(o:HO):Pre a (b.set i o):=by
 obtain⟨G,rfl⟩:=h
 rw[List.set_append_right _ _ hi]
 exact⟨_,rfl⟩
def Ptr(h:HL)(p:Value)(cs:List Value):Prop:=∃id o vs e rw,p = .pointer (some ⟨id,o,none⟩)∧h[id]? = some (.o (.cells vs e rw))∧cut vs o cs.length=some cs
def SlC(h:HL)(v:Value)(e n:Nat)(cs:List Value):Prop:=
 cs.length=n*e∧((v = .slice none 0 0∧n=0)∨∃id off cx vs rw,v = .slice (some ⟨id,off,tag e⟩) n cx∧h[id]? = some (.o (.cells vs e rw))∧cut vs off (n*e)=some cs)
def LsH{α:Type}(h:HL)(v:Value)(e:Nat)(enc:α→List Value)(l:List α):Prop:=(∀a∈l,(enc a).length=e)∧SlC h v e l.length (l.flatMap enc)
def Mk(n0:Nat)(h:HL)(v:Value)(e n:Nat)(cs:List Value):Prop:=
 cs.length=n*e∧((v = .slice none 0 0∧n=0)∨∃id,n0≤id∧v = .slice (some ⟨id,0,tag e⟩) n 0∧h[id]? = some (.o (.cells cs e true)))
def MkL{α:Type}(n0:Nat)(h:HL)(v:Value)(e:Nat)(enc:α→List Value)(l:List α):Prop:=(∀a∈l,(enc a).length=e)∧Mk n0 h v e l.length (l.flatMap enc)
noncomputable def blk:Value→Option Nat
 | .slice (some a) _ _=>some a.block
 |_=>none
theorem Ptr.keep{h h':HL}{p:Value}{cs:List Value}(hp:Ptr h p cs)(hk:∀(j:Nat) o,h[j]? = some o→h'[j]? = some o):Ptr h' p cs:=by
 obtain⟨id,o,vs,e,rw',h1,h2,h3⟩:=hp
 exact⟨id,o,vs,e,rw',h1,hk _ _ h2,h3⟩
theorem SlC.keep{h h':HL}{v:Value}{e n:Nat}{cs:List Value}(hs:SlC h v e n cs)(hk:∀(j:Nat) o,h[j]? = some o→blk v=some j→h'[j]? = some o):SlC h' v e n cs:=by
 obtain⟨h0,h1|⟨id,off,cx,vs,rw',rfl,h2,h3⟩⟩:=hs
 ·exact⟨h0,.inl h1⟩
 ·exact⟨h0,.inr ⟨id,off,cx,vs,rw',rfl,hk _ _ h2 rfl,h3⟩⟩
theorem SlC.pre{h h':HL}{v:Value}{e n:Nat}{cs:List Value}(hs:SlC h v e n cs)(hp:Pre h h'):SlC h' v e n cs:=hs.keep fun _ _ h _=>hp.get h
theorem LsH.keep{α:Type}{h h':HL}{v:Value}{e:Nat}{enc:α→List Value}{l:List α}(hs:LsH h v e enc l)(hk:∀(j:Nat) o,h[j]? = some o→blk v=some j→h'[j]? = some o):LsH h' v e enc l:=⟨hs.1,hs.2.keep hk⟩
theorem LsH.pre{α:Type}{h h':HL}{v:Value}{e:Nat}{enc:α→List Value}{l:List α}(hs:LsH h v e enc l)(hp:Pre h h'):LsH h' v e enc l:=⟨hs.1,hs.2.pre hp⟩
theorem SlC.len{h:HL}{v:Value}{e n:Nat}{cs:List Value}(hs:SlC h v e n cs):lenS v=some (.ofNat n):=by
 obtain⟨_,⟨rfl,rfl⟩|⟨id,off,cx,vs,rw',rfl,_⟩⟩:=hs<;>rfl
theorem LsH.len{α:Type}{h:HL}{v:Value}{e:Nat}{enc:α→List Value}{l:List α}(hs:LsH h v e enc l):lenS v=some (.ofNat l.length):=hs.2.len
theorem Mk.sl{n0:Nat}{h:HL}{v:Value}{e n:Nat}{cs:List Value}(hs:Mk n0 h v e n cs):SlC h v e n cs:=by
 obtain⟨h0,h1|⟨id,_,rfl,h2⟩⟩:=hs
 ·exact⟨h0,.inl h1⟩
 ·exact⟨h0,.inr ⟨id,0,0,cs,true,rfl,h2,cut_all h0⟩⟩
theorem MkL.ls{α:Type}{n0:Nat}{h:HL}{v:Value}{e:Nat}{enc:α→List Value}{l:List α}(hs:MkL n0 h v e enc l):LsH h v e enc l:=⟨hs.1,hs.2.sl⟩
theorem Mk.nil(n0:Nat)(h:HL)(e:Nat):Mk n0 h (.slice none 0 0) e 0 []:=⟨by simp,.inl ⟨rfl,rfl⟩⟩
theorem MkL.nil{α:Type}(n0:Nat)(h:HL)(e:Nat)(enc:α→List Value):MkL n0 h (.slice none 0 0) e enc []:=⟨by simp,Mk.nil n0 h e⟩
theorem LsH.nil{α:Type}(h:HL)(e:Nat)(enc:α→List Value):LsH h (.slice none 0 0) e enc []:=(MkL.nil 0 h e enc).ls
theorem Mk.keep{n0:Nat}{h h':HL}{v:Value}{e n:Nat}{cs:List Value}(hs:Mk n0 h v e n cs)(hk:∀(j:Nat) o,h[j]? = some o→blk v=some j→h'[j]? = some o):Mk n0 h' v e n cs:=by
 obtain⟨h0,h1|⟨id,h1,rfl,h2⟩⟩:=hs
 ·exact⟨h0,.inl h1⟩
 ·exact⟨h0,.inr ⟨id,h1,rfl,hk _ _ h2 rfl⟩⟩
theorem Mk.pre{n0:Nat}{h h':HL}{v:Value}{e n:Nat}{cs:List Value}(hs:Mk n0 h v e n cs)(hp:Pre h h'):Mk n0 h' v e n cs:=hs.keep fun _ _ h _=>hp.get h
theorem MkL.keep{α:Type}{n0:Nat}{h h':HL}{v:Value}{e:Nat}{enc:α→List Value}{l:List α}(hs:MkL n0 h v e enc l)(hk:∀(j:Nat) o,h[j]? = some o→blk v=some j→h'[j]? = some o):MkL n0 h' v e enc l:=⟨hs.1,hs.2.keep hk⟩
theorem MkL.pre{α:Type}{n0:Nat}{h h':HL}{v:Value}{e:Nat}{enc:α→List Value}{l:List α}(hs:MkL n0 h v e enc l)(hp:Pre h h'):MkL n0 h' v e enc l:=⟨hs.1,hs.2.pre hp⟩
theorem gt{α:Type}{e:Nat}{enc:α→List Value}:∀ {l:List α},(∀a∈l,(enc a).length=e)→(l.flatMap enc).length=l.length*e
 | [],_=>by simp
 |a :: l,h=>by
  rw[List.flatMap_cons,List.length_append,h a List.mem_cons_self,gt fun b hb=>h b (List.mem_cons_of_mem _ hb),List.length_cons,Nat.add_mul,Nat.one_mul,Nat.add_comm]
theorem mM{α:Type}{e:Nat}{enc:α→List Value}:∀ {l:List α},(∀a∈l,(enc a).length=e)→∀ {i:Nat} {a:α},l[i]? = some a→((l.flatMap enc).drop (i*e)).take e=enc a
 |b :: l,h,0,a,hi=>by
  simp only[List.getElem?_cons_zero,Option.some.injEq]at hi
  subst hi
  have:=h b List.mem_cons_self
  rw[Nat.zero_mul,List.drop_zero,List.flatMap_cons,List.take_append_of_le_length (by omega),List.take_of_length_le (by omega)]
 |b :: l,h,i+1,a,hi=>by
  simp only[List.getElem?_cons_succ]at hi
  have hb:=h b List.mem_cons_self
  have:=mM (fun b hb=>h b (List.mem_cons_of_mem _ hb)) hi
  rw[List.flatMap_cons,Nat.add_mul,Nat.one_mul,←this]
  have e1:i*e+e=(enc b).length+i*e:=by omega
  rw[e1,List.drop_append,List.drop_of_length_le (by omega),List.nil_append,Nat.add_sub_cancel_left]
 | [],_,_,_,hi=>by simp at hi
theorem SlC.at{h:HL}{v:Value}{e n:Nat}{cs:List Value}(hs:SlC h v e n cs){i:Nat}(hi:i<n):∃p,idS e v (.ofNat i)=some p∧Ptr h p ((cs.drop (i*e)).take e):=by
 obtain⟨h0,⟨rfl,rfl⟩|⟨id,off,cx,vs,rw',rfl,h2,h3⟩⟩:=hs
 ·omega
 ·have hle:i*e+e≤n*e:=by
   have:=Nat.mul_le_mul_right e (show i+1≤n by omega)
   rw[Nat.add_mul,Nat.one_mul]at this;exact this
  refine⟨.pointer (some ⟨id,off+i*e,none⟩),?_,id,off+i*e,vs,e,rw',rfl,h2,?_⟩
  ·rw[idS_eq]
   have hh:0≤Int.ofNat i∧Int.ofNat i<(n:Int):=⟨Int.natCast_nonneg i,by show(i:Int)<n;omega⟩
   simp only[if_pos hh]
   have:¬(tag e=some 1):=by simp[tag]
   simp only[if_neg this]
   rfl
  ·have hc:=cut_cut h3 hle
   have hl:=cut_len hc
   rw[hl];exact hc
theorem LsH.at{α:Type}{h:HL}{v:Value}{e:Nat}{enc:α→List Value}{l:List α}(hs:LsH h v e enc l){i:Nat}{a:α}(hi:l[i]? = some a):∃p,idS e v (.ofNat i)=some p∧Ptr h p (enc a):=by
 have hlt:i<l.length:=by
  rcases Nat.lt_or_ge i l.length with h|h
  ·exact h
  ·rw[List.getElem?_eq_none h]at hi;cases hi
 obtain⟨p,h1,h2⟩:=hs.2.at hlt
 rw[mM hs.1 hi]at h2
 exact⟨p,h1,h2⟩
theorem Ptr.fd{h:HL}{p:Value}{cs:List Value}(hp:Ptr h p cs)(o k:Nat)(hk:o+k≤cs.length):∃p',fdP o p=some p'∧Ptr h p' ((cs.drop o).take k):=by
 obtain⟨id,o',vs,e,rw',rfl,h2,h3⟩:=hp
 refine⟨_,rfl,id,o'+o,vs,e,rw',rfl,h2,?_⟩
 have hc:=cut_cut h3 hk
 rw[cut_len hc];exact hc
section
variable [Val] [Kno]
theorem eF{T:Nat→Site}{h:HL}{i:Nat}{o:HObj}(hi:h[i]? = some (.o o)):getH T h i=some o:=by
 unfold getH;rw[hi];rfl
theorem Ptr.ld{T:Nat→Site}{h:HL}{p:Value}{cs:List Value}(hp:Ptr h p cs){n:Nat}(hn:cs.length=n):(Pk.ld n p).run (getH T h)=some cs:=by
 obtain⟨id,o,vs,e,rw',rfl,h2,h3⟩:=hp
 subst hn
 show(match (none:Option Nat)with|none=>(fg (getH T h) id).bind fun vs=>cut vs o cs.length|some _=>none)=_
 unfold fg
 rw[eF h2]
 exact h3
theorem Ptr.lg{C:Cfg}{T:Nat→Site}{h:HL}{p:Value}{cs:List Value}(hp:Ptr h p cs){n:Nat}(hn:cs.length=n):(Pk.lg C n p).run (getH T h)=some cs:=by
 obtain⟨id,o,vs,e,rw',rfl,h2,h3⟩:=hp
 subst hn
 show(fg (getH T h) id).bind (fun vs=>cut vs o cs.length)=_
 unfold fg
 rw[eF h2]
 exact h3
theorem slG_sl{C:Cfg}{T:Nat→Site}{h:HL}{v:Value}{e n:Nat}{cs:List Value}(hs:SlC h v e n cs):slG C e (getH T h) v=some (cs,n):=by
 obtain⟨h0,⟨rfl,rfl⟩|⟨id,off,cx,vs,rw',rfl,h2,h3⟩⟩:=hs
 ·simp only[Nat.zero_mul,List.length_eq_zero_iff]at h0
  subst h0;rfl
 ·unfold slG
  have:¬(tag e=some 1):=by simp[tag]
  simp only[if_neg this,if_true]
  rw[eF h2]
  simp only[if_true]
  rw[h3];rfl
variable {C:Cfg} {Sg:FuncId→Option Sig} {T:Nat→Site}
theorem ap_mk{n0:Nat}{h0 h:HL}{v x:Value}{e n k bytes:Nat}{cs new:List Value}(hp:Pre h0 h)(h0n:h0.length=n0)(hm:Mk n0 h v e n cs)(hx:SlC h x e k new)(hs:cp (n+k) bytes=true) :
  ∃acts v',(Hp.ap C e bytes v x).run (getH T h) h.length=some (acts,[v'])∧Pre h0 (bX h acts)∧Mk n0 (bX h acts) v' e (n+k) (cs++new)∧
   (∀(j:Nat) o,h[j]? = some o→blk v≠some j→(bX h acts)[j]? = some o)∧(blk v'=blk v∨blk v'=none∨∃j,blk v'=some j∧h.length≤j):=by
 obtain⟨c0,hm⟩:=hm
 have c1:=hx.1
 have c3:(cs++new).length=(n+k)*e:=by rw[List.length_append,c0,c1,Nat.add_mul]
 have hslg:=slG_sl (C:=C) (T:=T) hx
 rcases hm with⟨rfl,rfl⟩|⟨id,hid,rfl,hg⟩
 ·simp only[Nat.zero_mul,List.length_eq_zero_iff]at c0
  subst c0
  by_cases hk:k=0
  ·subst hk
   simp only[Nat.zero_mul,List.length_eq_zero_iff]at c1
   subst c1
   refine⟨[],.slice none 0 0,?_,hp,Mk.nil _ _ _,fun j o hj _=>hj,.inl rfl⟩
   show apG C e bytes (.slice none 0 0) x (getH T h) h.length=_
   unfold apG
   rw[hslg]
   rfl
  ·refine⟨[.push (.cells new e true)],.slice (some ⟨h.length,0,tag e⟩) k 0,?_,hp.app _,?_,fun j o hj _=>?_,.inr (.inr ⟨h.length,rfl,Nat.le_refl _⟩)⟩
   ·show apG C e bytes (.slice none 0 0) x (getH T h) h.length=_
    unfold apG
    rw[hslg]
    simp only[if_neg hk]
    rw[Nat.zero_add]at hs
    rw[if_pos hs]
   ·rw[Nat.zero_add,List.nil_append]
    refine⟨by simpa using c1,.inr ⟨h.length,by have:=hp.len;omega,rfl,?_⟩⟩
    simp[bX,Act1.onH]
   ·exact Pre.get ⟨_,rfl⟩ hj
 ·by_cases hk:k=0
  ·subst hk
   simp only[Nat.zero_mul,List.length_eq_zero_iff]at c1
   subst c1
   refine⟨[],.slice (some ⟨id,0,tag e⟩) n 0,?_,hp,⟨c3,.inr ⟨id,hid,rfl,by simpa[bX]using hg⟩⟩,fun j o hj _=>hj,.inl rfl⟩
   show apG C e bytes (.slice (some ⟨id,0,tag e⟩) n 0) x (getH T h) h.length=_
   unfold apG
   rw[hslg]
   simp only[ne_eq,not_true_eq_false,if_false]
   rw[eF hg]
   simp only[ne_eq,not_true_eq_false,if_false]
   rw[cut_all c0]
   rfl
  ·have hlt:id<h.length:=by
    rcases Nat.lt_or_ge id h.length with h1|h1
    ·exact h1
    ·rw[List.getElem?_eq_none h1]at hg;cases hg
   refine⟨[.set id .dead,.push (.cells (cs++new) e true)],.slice (some ⟨h.length,0,tag e⟩) (n+k) 0,?_,?_,?_,fun j o hj hb=>?_,.inr (.inr ⟨h.length,rfl,Nat.le_refl _⟩)⟩
   ·show apG C e bytes (.slice (some ⟨id,0,tag e⟩) n 0) x (getH T h) h.length=_
    unfold apG
    rw[hslg]
    simp only[ne_eq,not_true_eq_false,if_false]
    rw[eF hg]
    simp only[ne_eq,not_true_eq_false,if_false]
    rw[cut_all c0]
    simp only[if_neg hk,Bool.true_and]
    rw[if_pos hs]
   ·exact(hp.set (by omega) _).app _
   ·refine⟨c3,.inr ⟨h.length,by have:=hp.len;omega,rfl,?_⟩⟩
    simp[bX,Act1.onH]
   ·have hne:id≠j:=fun hh=>hb (by subst hh;rfl)
    refine Pre.get (a:=h.set id (.o .dead)) ⟨_,rfl⟩ ?_
    rw[List.getElem?_set_ne hne];exact hj
theorem sa{n0:Nat}{h:HL}{v:Value}{e n:Nat}{cs:List Value}(hm:Mk n0 h v e n cs){j:Nat}(hb:blk v=some j):n0≤j∧j<h.length:=by
 obtain⟨_,⟨rfl,_⟩|⟨id,h1,rfl,hg⟩⟩:=hm
 ·cases hb
 ·cases hb
  refine⟨h1,?_⟩
  rcases Nat.lt_or_ge id h.length with h2|h2
  ·exact h2
  ·rw[List.getElem?_eq_none h2]at hg;cases hg
theorem p_app1{α:Type}{h0 h:HL}{v:Value}{e bytes:Nat}{enc:α→List Value}{l:List α}{a:α}{K:List Value→HL→Prop}{new:List Value}{m:Nat}{sp:Option Nat}(hp:Pre h0 h)(hm:MkL h0.length h v e enc l)(hn:new=enc a)(hl:(enc a).length=e)(hmm:m=h.length)(hsp:sp=some (e+10))
  (hs:cp (l.length+1) bytes=true)
  (hk:∀v' h',Pre h0 h'→MkL h0.length h' v' e enc (l++[a])→bj v'=true→(∀(j:Nat) o,h[j]? = some o→blk v≠some j→h'[j]? = some o)→(blk v'=blk v∨∃j,blk v'=some j∧h.length≤j)→K [v'] h') :
  (PH C Sg T).heap (.ap C e bytes v (.slice (some ⟨m,0,sp⟩) 1 2)) (h++[.o (.cells new e true)]) (@hid _ ⟨K⟩):=by
 subst hn hmm hsp
 have hx:SlC (h++[HO.o (.cells (enc a) e true)]) (.slice (some ⟨h.length,0,tag e⟩) 1 2) e 1 (enc a):=by
  refine⟨by omega,.inr ⟨h.length,0,2,enc a,true,rfl,by simp,cut_all (by omega)⟩⟩
 have hm':Mk h0.length (h++[HO.o (.cells (enc a) e true)]) v e l.length (l.flatMap enc):=hm.2.pre ⟨_,rfl⟩
 obtain⟨acts,v',a1,a2,a3,a4,a5⟩:=ap_mk (C:=C) (T:=T) (hp.app [HO.o (.cells (enc a) e true)]) rfl hm' hx hs
 refine jX a1 (hk v' _ a2 ⟨?_,?_⟩ ?_ ?_ ?_)
 ·intro b hb
  rcases List.mem_append.1 hb with hb|hb
  ·exact hm.1 b hb
  ·simp only[List.mem_singleton]at hb;subst hb;exact hl
 ·rw[List.flatMap_append,List.length_append]
  simpa using a3
 ·obtain⟨_,⟨rfl,_⟩|⟨id,_,rfl,_⟩⟩:=a3
  ·rfl
  ·simp[bj,noLoc,bh,cH,bS,bc,aF,tag]
 ·intro j o hj hb
  exact a4 j o (Pre.get ⟨_,rfl⟩ hj) hb
 ·rcases a5 with h1|h1|⟨j,h1,h2⟩
  ·exact .inl h1
  ·obtain⟨q1,⟨_,q2⟩|⟨id,_,rfl,_⟩⟩:=a3
   ·omega
   ·cases h1
  ·exact .inr ⟨j,h1,by simp at h2;omega⟩
end
end Sx
end Go.Am

/-
 RULES FOR LOOPS AND SLICES.
-/
set_option maxRecDepth 100000
namespace Go.Am
namespace Sx
theorem Ptr.good{h:HL}{p:Value}{cs:List Value}(hp:Ptr h p cs):bj p=true:=by
 obtain⟨id,o,vs,e,rw',rfl,_⟩:=hp
 simp[bj,noLoc,bh,cH,bS,bc,aF]
theorem SlC.good{h:HL}{v:Value}{e n:Nat}{cs:List Value}(hs:SlC h v e n cs):bj v=true:=by
 obtain⟨_,⟨rfl,_⟩|⟨id,off,cx,vs,rw',rfl,_⟩⟩:=hs
 ·rfl
 ·simp[bj,noLoc,bh,cH,bS,bc,aF,tag]
theorem LsH.good{α:Type}{h:HL}{v:Value}{e:Nat}{enc:α→List Value}{l:List α}(hs:LsH h v e enc l):bj v=true:=hs.2.good
section
variable [Val] [Kno] {C:Cfg} {Sg:FuncId→Option Sig} {T:Nat→Site}
theorem hidL{F:(List Lf→HL→Prop)→List Lf→HL→Prop}{s:List Lf→HL→Prop}{l:List Lf}{h:HL}(hf:F s l h):@hid _ ⟨F⟩ s l h:=hf
theorem fz{σ:Type}{F:(List Lf→HL→Prop)→List Lf→HL→Prop}(n:Nat)(S:Nat→σ→List Lf)(HP:Nat→σ→HL)(Inv:Nat→σ→Prop){j0:Nat}{s0:σ}{ls:List Lf}{h:HL}(hls:ls=S j0 s0)(hh:h=HP j0 s0)(hj:j0≤n)(hi:Inv j0 s0)
  (step:∀j s,j≤n→Inv j s→∀self:List Lf→HL→Prop,(∀s',j<n→Inv (j+1) s'→self (S (j+1) s') (HP (j+1) s'))→F self (S j s) (HP j s)):(PH C Sg T).loop (@hid _ ⟨F⟩) ls h:=by
 subst hls hh
 refine cX (m:=n - j0) (fun m ls h=>∃j s,ls=S j s∧h=HP j s∧j≤n∧m=n - j∧Inv j s) ⟨j0,s0,rfl,rfl,hj,rfl,hi⟩ ?_
 rintro m ls h ⟨j,s,rfl,rfl,hj,rfl,hi⟩ self hself
 exact hidL (step j s hj hi self fun s' hlt hi'=>hself (n - (j+1)) _ _ (by omega) ⟨j+1,s',rfl,rfl,by omega,rfl,hi'⟩)
theorem rt{F:(List Lf→HL→Prop)→List Lf→HL→Prop}(n:Nat)(Inv:Nat→Prop){j0:Nat}{h:HL}{ls:List Lf}(hls:ls=[.i (Int.ofNat j0)])(hj:j0≤n)(hi:Inv j0)
  (step:∀j,j≤n→Inv j→∀self:List Lf→HL→Prop,(j<n→Inv (j+1)→self [.i (Int.ofNat j+1)] h)→F self [.i (Int.ofNat j)] h):(PH C Sg T).loop (@hid _ ⟨F⟩) ls h:=
 fz (σ:=Unit) n (fun j _=>[.i (Int.ofNat j)]) (fun _ _=>h) (fun j _=>Inv j) (s0:=()) hls rfl hj hi fun j _ hj hi self hs=>step j hj hi self (fun a b=>hs () a b)
theorem gE{α:Type}{h:HL}{v:Value}{e:Nat}{enc:α→List Value}{l:List α}{K:Int→Prop}(hs:LsH h v e enc l)(hk:K (Int.ofNat l.length)):(PH C Sg T).opt (lenS v) (@hid _ ⟨K⟩):=aW hs.len hk
theorem eX{α:Type}{h:HL}{v:Value}{e:Nat}{enc:α→List Value}{l:List α}{i:Nat}{a:α}{n:Int}{K:List Value→Prop}(hs:LsH h v e enc l)(hn:n=Int.ofNat i)(hi:l[i]? = some a)(hk:K (enc a)) :
  (PH C Sg T).opt (idS e v n) (@hid _ ⟨fun x=>(PH C Sg T).peek (.lg C e x) h (@hid _ ⟨K⟩)⟩):=by
 subst hn
 obtain⟨p,h1,h2⟩:=hs.at hi
 exact aW h1 (jY (h2.lg (hs.1 a (List.mem_of_getElem? hi))) hk)
theorem r_fld{α:Type}{h:HL}{v:Value}{e:Nat}{enc:α→List Value}{l:List α}{i:Nat}{a:α}{n:Int}{o k:Nat}{cs:List Value}{K:List Value→Prop}(hs:LsH h v e enc l)(hn:n=Int.ofNat i)(hi:l[i]? = some a)(hcs:cs=((enc a).drop o).take k)(hok:o+k≤e)(hk:K cs) :
  (PH C Sg T).opt (idS e v n) (@hid _ ⟨fun x=>(PH C Sg T).opt (fdP o x) (@hid _ ⟨fun y=>(PH C Sg T).chk y (@hid _ ⟨(PH C Sg T).peek (.lg C k y) h (@hid _ ⟨K⟩)⟩)⟩)⟩):=by
 subst hn hcs
 obtain⟨p,h1,h2⟩:=hs.at hi
 have he:=hs.1 a (List.mem_of_getElem? hi)
 have hok:o+k≤(enc a).length:=by omega
 have hlen:(((enc a).drop o).take k).length=k:=by rw[List.length_take,List.length_drop];omega
 obtain⟨q,h3,h4⟩:=h2.fd o k hok
 refine aW h1 (aW h3 ?_)
 show bj q=true∧_
 exact⟨h4.good,jY (h4.lg hlen) hk⟩
end
end Sx
end Go.Am

/-
 CREASES: the tests of patterns,told of lists: kinds.
-/
set_option maxRecDepth 100000
set_option maxHeartbeats 4000000
namespace Go.Am
open Sx Go.Proofs
abbrev Crs:=Int×Int×Int
def encC(c:Crs):List Value:=[.int .i64 c.1,.int .u8 c.2.1,.int .u8 c.2.2]
def okC(c:Crs):Prop:=-9223372036854775808≤c.1∧c.1≤9223372036854775807∧0≤c.2.1∧c.2.1≤255∧0≤c.2.2∧c.2.2≤255
def isK(c:Crs):Bool:=decide (1≤c.2.2)&&decide (c.2.2≤3)
theorem isKind_c(k:Int):Cc 36 [.i k] [.b (decide (1≤k)&&decide (k≤3))]:=by
 refine q36 rfl ?_;unfold p36
 by_cases h1:1≤k
 ·by_cases h2:k≤3
  ·simp (disch:=omega) only[↓qxs,↓qxc,↓qxa];simp[h1,h2]
  ·simp (disch:=omega) only[↓qxs,↓qxc,↓qxa];simp[h1,h2]
 ·simp (disch:=omega) only[↓qxs,↓qxc,↓qxa];simp[h1]
theorem chk1_c(c:Crs):Cc 35 [.i c.1,.i c.2.1,.i c.2.2] [.b (!isK c)]:=by
 refine q35 rfl ?_;unfold p35
 simp (disch:=omega) only[↓qxs,↓qxc,↓qxa]
 refine aT (isKind_c c.2.2) ?_
 simp (disch:=omega) only[↓qxs,↓qxc,↓qxa]
 simp[isK]
abbrev clo1:Value:=.func (.func 35) ⟨[]⟩ ⟨[]⟩
theorem good1:bj clo1=true:=rfl
theorem index_c{h:HL}{x:Value}{l:List Crs}(hl:LsH h x 3 encC l)(hn:l.length≤4294967296):∃n:Int,au cc ac 60 [.v x,.v clo1] (absH aa h) [.i n] (absH aa h)∧(0≤n↔∃c∈l,isK c=false):=by
 obtain⟨rs,h',h1,n,rfl,rfl,h2⟩:=x60 (K:=fun rs h'=>∃n:Int,rs=[.i n]∧h'=h∧(0≤n↔∃c∈l,isK c=false)) (H:=h) (glsV hl.good (glsV good1 gls0)) (by
  unfold p60
  simp (disch:=omega) only[↓qxs,↓qxc,↓qxa]
  refine gE hl ?_
  refine rt l.length (fun j=>∀i,i<j→∀c,l[i]? = some c→isK c=true) rfl (Nat.zero_le _) (fun i hi=>absurd hi (Nat.not_lt_zero _)) ?_
  intro j hj hi self hself
  simp (disch:=omega) only[↓qxs,↓qxc,↓qxa]
  by_cases hlt:j<l.length
  ·have e1:Int.ofNat j<Int.ofNat l.length:=by show(j:Int)<l.length;omega
   rw[p_lss_t e1]
   simp (disch:=omega) only[↓qxs,↓qxc,↓qxa]
   obtain⟨c,hc⟩ : ∃c,l[j]? = some c:=⟨_,List.getElem?_eq_getElem hlt⟩
   refine eX hl rfl hc ?_
   unfold encC
   simp (disch:=omega) only[↓qxs,↓qxc,↓qxa]
   refine oE (jL (chk1_c c _) rfl [.agg [.i .i64 c.1,.i .u8 c.2.1,.i .u8 c.2.2]] rfl rfl) ?_
   simp (disch:=omega) only[↓qxs,↓qxc,↓qxa]
   cases hk:isK c with
   |true=>
    show P1.cond false _ _
    simp (disch:=omega) only[↓qxs,↓qxc,↓qxa]
    rw[p_add (by show -9223372036854775808≤(j:Int)+1;omega) (by show(j:Int)+1≤9223372036854775807;omega)]
    refine hself hlt fun i hi' c' hc'=>?_
    rcases Nat.lt_or_ge i j with h|h
    ·exact hi i h c' hc'
    ·obtain rfl:i=j:=by omega
     rw[hc]at hc';cases hc';exact hk
   |false=>
    show P1.cond true _ _
    simp (disch:=omega) only[↓qxs,↓qxc,↓qxa]
    exact⟨_,rfl,by trivial,fun _=>⟨c,List.mem_of_getElem? hc,hk⟩,fun _=>Int.natCast_nonneg j⟩
  ·have e1:Int.ofNat l.length≤Int.ofNat j:=by show(l.length:Int)≤j;omega
   rw[p_lss_f e1]
   simp (disch:=omega) only[↓qxs,↓qxc,↓qxa]
   refine⟨_,rfl,by trivial,fun h=>by omega,fun⟨c,hc,hk⟩=>?_⟩
   obtain⟨i,hi'⟩:=List.getElem?_of_mem hc
   have hlt':i<l.length:=by
    rcases Nat.lt_or_ge i l.length with h|h
    ·exact h
    ·rw[List.getElem?_eq_none h]at hi';cases hi'
   rw[hi i (by omega) c hi']at hk
   cases hk)
 exact⟨n,h1,h2⟩
theorem tX{h:HL}{x:Value}{l:List Crs}(hl:LsH h x 3 encC l)(hn:l.length≤4294967296):au cc ac 34 [.v x,.v clo1] (absH aa h) [.b (!l.all isK)] (absH aa h):=by
 obtain⟨n,h1,h2⟩:=index_c hl hn
 obtain⟨rs,h',h3,rfl,rfl⟩:=x34 (K:=fun rs h'=>rs=[.b (!l.all isK)]∧h'=h) (H:=h) (glsV hl.good (glsV good1 gls0)) (by
  unfold p34
  simp (disch:=omega) only[↓qxs,↓qxc,↓qxa]
  refine aY h1 ?_
  simp (disch:=omega) only[↓qxs,↓qxc,↓qxa]
  cases hb:l.all isK with
  |true=>
   have:¬0≤n:=fun h=>by
    obtain⟨c,hc,hk⟩:=h2.1 h
    rw[List.all_eq_true.1 hb c hc]at hk;cases hk
   simp (disch:=omega) only[↓qxs,↓qxc,↓qxa]
   exact⟨by trivial,by trivial⟩
  |false=>
   have:0≤n:=h2.2 (by
    obtain⟨c,hc,hk⟩:=List.all_eq_false.1 hb
    exact⟨c,hc,by simpa using hk⟩)
   simp (disch:=omega) only[↓qxs,↓qxc,↓qxa]
   exact⟨by trivial,by trivial⟩)
 exact h3
end Go.Am

/-
 CALLS THAT MAKE BLOCKS: what a run over some blocks alone answers and makes,holds whatever else there is: the new blocks come behind.
-/
namespace Go.Am
namespace Sx
section
variable [Val]
noncomputable def rn:HObj→HObj
 | .cells vs e true=>if vs.all flat then .cells vs e true else .dead
 |_=>.dead
theorem rp{o:HObj}(h:(rn o).alive=true):∃vs e,o = .cells vs e true∧vs.all flat=true∧rn o = .cells vs e true:=by
 match o,h with
 | .cells vs e true,h=>
  unfold rn at h
  by_cases hf:vs.all flat=true
  ·exact⟨vs,e,rfl,hf,by show(if vs.all flat=true then HObj.cells vs e true else .dead)=_;rw[if_pos hf]⟩
  ·simp only[if_neg hf]at h;cases h
 | .cells _ _ false,h=>cases h
 | .map ..,h=>cases h
 | .loop ..,h=>cases h
 | .siter ..,h=>cases h
 | .dead,h=>cases h
noncomputable def im(n0 n:Nat)(σ:Nat→Nat):Nat→Nat:=fun j=>if j<n0 then σ j else n+(j - n0)
theorem vr_ren' [Glo]{n:Nat}{τ:Nat→Nat}{mu' mu'':HMap}(hmu:∀j,j<n→mu'' (τ j)=mu' j){v c:Value}(hv:OkV n v)(h:VR noL mu' v c):VR noL mu'' (renV τ v) c:=by
 rcases hv with⟨h1,h2⟩|⟨j,off,len,cx,e,hj,rfl⟩
 ·rw[h2,cw h1 h]
  exact .of_flat h1
 ·show VR noL mu'' (.slice (some ⟨τ j,off,tag e⟩) len cx) c
  generalize ht:tag e=t at h ⊢
  cases h with
  |hslice q1 q2 q3 q4=>exact .hslice ((hmu j hj).trans q1) q2 q3 q4
  |hslice0 q1=>exact .hslice0 q1
  |gslice _=>simp[tag]at ht
  |gslice0=>simp[tag]at ht
  |scalar q=>simp[scalar]at q
theorem vr_sl' [Glo]{n:Nat}{τ:Nat→Nat}{mu' mu'':HMap}(hmu:∀j,j<n→mu'' (τ j)=mu' j){l:SL}{c:Value}(hl:OkL n l.lf)(h:VR noL mu' l.val c):VR noL mu'' (jD τ l).val c:=by
 cases l with
 |v x=>exact vr_ren' hmu hl h
 |i k m=>
  have hf:flat (Value.int k m)=true:=rfl
  have h:VR noL mu' (.int k m) c:=h
  rw[cw hf h];exact .of_flat hf
 |b t=>
  have hf:flat (Value.bool t)=true:=rfl
  have h:VR noL mu' (.bool t) c:=h
  rw[cw hf h];exact .of_flat hf
 |l t=>
  have hf:flat (Value.bool t)=true:=rfl
  have h:VR noL mu' (.bool t) c:=h
  rw[cw hf h];exact .of_flat hf
theorem vr_s0' [Glo]{n:Nat}{τ:Nat→Nat}{mu' mu'':HMap}(hmu:∀j,j<n→mu'' (τ j)=mu' j){x:S0}{c:Value}(hx:∀l∈x.cells,OkL n l.lf)(h:VR noL mu' x.val c):VR noL mu'' (renS τ x).val c:=by
 cases x with
 |leaf l=>exact vr_sl' hmu (hx l (by simp[S0.cells])) h
 |agg cs=>
  have h:VR noL mu' (.agg ⟨cs.map SL.val⟩) c:=h
  generalize ha:(⟨cs.map SL.val⟩ : Array Value)=a at h
  cases h with
  |scalar q=>simp[scalar]at q
  |agg hs h=>
   subst ha
   refine .agg (by simpa using hs) fun i x y hx' hy=>?_
   have hi:((cs.map (jD τ)).map SL.val)[i]? = some x:=by simpa using hx'
   rw[List.getElem?_map,List.getElem?_map]at hi
   cases e:cs[i]? with
   |none=>rw[e]at hi;cases hi
   |some l=>
    rw[e]at hi
    cases hi
    exact vr_sl' hmu (hx l (List.mem_of_getElem? e)) (h i _ y (by simp[e]) hy)
theorem vr_pack' [Glo]{n:Nat}{τ:Nat→Nat}{mu' mu'':HMap}(hmu:∀j,j<n→mu'' (τ j)=mu' j){xs:List S0}{c:Value}(hx:∀x∈xs,∀l∈x.cells,OkL n l.lf)(h:VR noL mu' (dP (ah xs)) c):VR noL mu'' (dP (ah (xs.map (renS τ)))) c:=by
 match xs,hx,h with
 | [],_,h=>
  have h:VR noL mu' undef c:=h
  have hf:flat undef=true:=rfl
  rw[cw hf h]
  exact .of_flat hf
 | [x],hx,h=>exact vr_s0' hmu (hx x List.mem_cons_self) h
 |x :: y :: l,hx,h=>
  have h:VR noL mu' (.tuple ⟨ah (x :: y :: l)⟩) c:=h
  show VR noL mu'' (.tuple ⟨ah ((x :: y :: l).map (renS τ))⟩) c
  generalize ha:(⟨ah (x :: y :: l)⟩ : Array Value)=a at h
  have hsz:a.size=l.length+2:=by subst ha;simp[ah]
  cases h with
  |scalar q=>simp[scalar]at q
  |poison _=>exact absurd hsz (by simp)
  |sym _=>exact absurd hsz (by simp)
  |tuple hn hs h=>
   subst ha
   refine .tuple (by simp[ah]) (by simpa[ah]using hs) fun i x' y' hx' hy=>?_
   have hi:(ah ((x :: y :: l).map (renS τ)))[i]? = some x':=by simpa using hx'
   unfold ah at hi
   rw[List.getElem?_map,List.getElem?_map]at hi
   cases e:(x :: y :: l)[i]? with
   |none=>rw[e]at hi;cases hi
   |some s=>
    rw[e]at hi
    cases hi
    exact vr_s0' hmu (hx s (List.mem_of_getElem? e)) (h i _ y' (by
     show(⟨(x :: y :: l).map S0.val⟩ : Array Value)[i]? = _
     rw[List.getElem?_toArray,List.getElem?_map,e];rfl) hy)
theorem objR_some [Glo]{mu:HMap}{p:Pl}{x:Option Obj}{o:HObj}(ha:o.alive=true)(h:objR mu p x o):∃y,x=some y:=by
 cases o with
 |cells vs e rw=>obtain⟨_,_,_,c,e,fr,h,_⟩:=h;exact⟨_,h⟩
 |map es c=>obtain⟨es',h,_⟩:=h;exact⟨_,h⟩
 |loop r=>obtain⟨L,h,_⟩:=h;exact⟨_,h⟩
 |siter s p=>exact⟨_,h⟩
 |dead=>cases ha
end
section
variable [Val]
theorem frame_alI(kp:Nat→HObj→HObj)(hkp:∀k o,(kp k o).alive=true→∃vs e,o = .cells vs e true∧vs.all flat=true∧kp k o = .cells vs e true){C:Cfg}(hG:∀g vs,C.G g=some vs→vs.all gfl=true){f:FuncId}{args0 args:List Value}{r0 r:Value}{H0 H' H:List HObj}(σ:Nat→Nat)(h:dD C f args0 H0 r0 H')
  (h0:∀(j:Nat) (o:HObj),H0[j]? = some o→∃vs e rw,o = .cells vs e false∧vs.all flat=true∧H[σ j]? = some (.cells vs e rw))
  (ha:∀ [Glo] (mu mu0:HMap) (cs:List Value),(∀j,j<H0.length→mu0 j=mu (σ j))→VRs noL mu args cs→VRs noL mu0 args0 cs)
  (hr:∀ [Glo] (mu' mu'':HMap) (c:Value),(∀j,j<H'.length→mu'' (im H0.length H.length σ j)=mu' j)→VR noL mu' r0 c→VR noL mu'' r c):dD C f args H r (H++(H'.drop H0.length).mapIdx kp):=by
 intro _ base mu w args' hb hargs hW cs
 let mu0:HMap:=fun j=>if j<H0.length then mu (σ j)else none
 have hno:∀b,¬Own mu0 H0 b:=by
  rintro b ⟨id,o,p,h1,h2,_⟩
  obtain⟨vs,e,rw',rfl,_⟩:=h0 id o h1
  cases h2
 have hmu:∀(id:Nat) (o:HObj),H0[id]? = some o→mu0 id=mu (σ id):=by
  intro id o h1
  have:id<H0.length:=by
   rcases Nat.lt_or_ge id H0.length with h|h
   ·exact h
   ·rw[List.getElem?_eq_none h]at h1;cases h1
  simp only[mu0,if_pos this]
 have hobj:∀(id:Nat) (o:HObj),H0[id]? = some o→∃p,mu0 id=some p∧objR mu0 p w.heap[p.b]? o:=by
  intro id o h1
  obtain⟨vs,e,rw',rfl,hf,hH⟩:=h0 id o h1
  obtain⟨p,h3,h4⟩:=hW.obj (σ id) _ hH rfl
  obtain⟨g1,g2,g3,c,e',fr,g4,g5,g6,g7⟩:=h4
  refine⟨p,by rw[hmu id _ h1];exact h3,g1,g2,g3,c,e',fr,g4,g5,fun e=>by(cases e),fun i v hv=>?_⟩
  obtain⟨v',q1,q2⟩:=g7 i v hv
  have h2:flat v=true:=List.all_eq_true.1 hf v (List.mem_of_getElem? hv)
  refine⟨v',q1,?_⟩
  rw[cw h2 q2]
  exact .of_flat h2
 have hin:∀(p:Pl) (o:HObj) (m:HMap),o.alive=true→objR m p w.heap[p.b]? o→p.b<w.heap.size:=by
  intro p o m ha h
  obtain⟨y,hy⟩:=objR_some ha h
  rcases Nat.lt_or_ge p.b w.heap.size with h|h
  ·exact h
  ·rw[Array.getElem?_eq_none h]at hy;cases hy
 have hW0:WR C w.heap.size mu0 H0 w:=by
  refine⟨fun id o h1 _=>hobj id o h1,fun i j oi oj pi pj h1 h2 h3=>?_,fun i o p h1 h2=>?_,fun i o p h1 ha' _ h2=>?_,fun id h1=>?_,fun g vs hg=>?_⟩
  ·obtain⟨vs,e,rw',rfl,_⟩:=h0 i oi h1
   cases h3
  ·obtain⟨vs,e,rw',rfl,_⟩:=h0 i o h1
   cases h2
  ·obtain⟨p',h3,h4⟩:=hobj i o h1
   rw[h2]at h3
   cases h3
   exact hin _ _ _ ha' h4
  ·simp only[mu0,if_neg (Nat.not_lt.2 h1)]
  ·obtain⟨h1,h2,c,e,fr,h3,h4⟩:=hW.glob g vs hg
   exact⟨by omega,h2,c,e,fr,h3,jR (hG g vs hg) h4⟩
 have hargs0:VRs noL mu0 args0 args'.toList:=ha mu mu0 _ (fun j hj=>by simp only[mu0,if_pos hj]) hargs
 obtain⟨v,mu',w',a1,a2,a3,a4,a5⟩:=h _ w.heap.size mu0 w args' (Nat.le_refl _) hargs0 hW0 cs
 have hkeep:∀(b:Nat) x,w.heap[b]? = some x→w'.heap[b]? = some x:=by
  intro b x hx
  have hlt:b<w.heap.size:=by
   rcases Nat.lt_or_ge b w.heap.size with h|h
   ·exact h
   ·rw[Array.getElem?_eq_none h]at hx;cases hx
  rw[a3.keep b hlt (hno b)];exact hx
 let mu2:HMap:=fun id=>if id<H.length then mu id else mu' (H0.length+(id - H.length))
 have hold:∀id,id<H.length→mu2 id=mu id:=fun id hi=>by simp only[mu2,if_pos hi]
 have hnew:∀k,mu2 (H.length+k)=mu' (H0.length+k):=fun k=>by
  simp only[mu2,if_neg (Nat.not_lt.2 (Nat.le_add_right H.length k)),Nat.add_sub_cancel_left]
 have hlen:=a3.len
 have hmono:∀i p,mu i=some p→mu2 i=some p:=by
  intro i p hp
  rw[hold i];exact hp
  rcases Nat.lt_or_ge i H.length with h|h
  ·exact h
  ·rw[hW.dom i h]at hp;cases hp
 have hbeh:∀(id:Nat) (o:HObj),(H++(H'.drop H0.length).mapIdx kp)[id]? = some o→¬id<H.length→o.alive=true→
   ∃k vs e,id=H.length+k∧H'[H0.length+k]? = some (.cells vs e true)∧vs.all flat=true∧o = .cells vs e true:=by
  intro id o ho hid hal
  rw[List.getElem?_append_right (by omega),List.getElem?_mapIdx,List.getElem?_drop]at ho
  obtain⟨o',h1,rfl⟩:=Option.map_eq_some_iff.1 ho
  obtain⟨vs,e,rfl,hf,e2⟩:=hkp _ _ hal
  exact⟨id - H.length,vs,e,by omega,h1,hf,e2⟩
 refine⟨v,mu2,w',?_,?_,?_,a4,a5⟩
 ·refine hr mu' mu2 v (fun j hj=>?_) a1
  unfold im
  by_cases hj0:j<H0.length
  ·rw[if_pos hj0]
   obtain⟨vs,e,rw',_,_,hH⟩:=h0 j _ (List.getElem?_eq_getElem hj0)
   have:σ j<H.length:=by
    rcases Nat.lt_or_ge (σ j) H.length with h|h
    ·exact h
    ·rw[List.getElem?_eq_none h]at hH;cases hH
   rw[hold _ this,a3.same j hj0]
   simp only[mu0,if_pos hj0]
  ·rw[if_neg hj0,hnew,show H0.length+(j - H0.length)=j by omega]
 ·refine⟨fun id o h1 h2=>?_,fun i j oi oj pi pj h1 h2 h3 h4 h5 h6 h7=>?_,fun i o p h1 h2 h3=>?_,fun i o p h1 h2 h3 h4=>?_,fun id h1=>?_,fun g vs hg=>?_⟩
  ·by_cases hid:id<H.length
   ·rw[List.getElem?_append_left hid]at h1
    obtain⟨p,h3,h4⟩:=hW.obj id o h1 h2
    exact⟨p,hmono _ _ h3,(qx (hkeep p.b) h4).mono hmono⟩
   ·obtain⟨k,vs,e,rfl,h3,hf,rfl⟩:=hbeh id o h1 hid h2
    obtain⟨p,h4,g1,g2,g3,c,e',fr,g4,g5,g6,g7⟩:=a2.obj _ _ h3 rfl
    refine⟨p,by rw[hnew];exact h4,g1,g2,g3,c,e',fr,g4,g5,g6,fun i v hv=>?_⟩
    obtain⟨v',q1,q2⟩:=g7 i v hv
    have hfv:flat v=true:=List.all_eq_true.1 hf v (List.mem_of_getElem? hv)
    refine⟨v',q1,?_⟩
    rw[cw hfv q2]
    exact .of_flat hfv
  ·by_cases hi:i<H.length
   ·rw[List.getElem?_append_left hi]at h1
    rw[hold i hi]at h6
    by_cases hj:j<H.length
    ·rw[List.getElem?_append_left hj]at h2
     rw[hold j hj]at h7
     exact hW.inj i j oi oj pi pj h1 h2 h3 h4 h5 h6 h7
    ·obtain⟨k,vs,e,rfl,q1,hf,rfl⟩:=hbeh j oj h2 hj h4
     rw[hnew]at h7
     have hb2:=a2.own _ _ _ q1 rfl h7
     obtain⟨p,h8,h9⟩:=hW.obj i oi h1 (aG h3)
     rw[h6]at h8;cases h8
     have:=hin _ _ _ (aG h3) h9
     omega
   ·obtain⟨k,vs,e,rfl,q1,hf,rfl⟩:=hbeh i oi h1 hi (aG h3)
    rw[hnew]at h6
    have hb2:=a2.own _ _ _ q1 rfl h6
    by_cases hj:j<H.length
    ·rw[List.getElem?_append_left hj]at h2
     rw[hold j hj]at h7
     obtain⟨p,h8,h9⟩:=hW.obj j oj h2 h4
     rw[h7]at h8;cases h8
     have:=hin _ _ _ h4 h9
     omega
    ·obtain⟨k2,vs2,e2,rfl,q2,hf2,rfl⟩:=hbeh j oj h2 hj h4
     rw[hnew]at h7
     exact a2.inj _ _ _ _ _ _ q1 q2 rfl rfl (by omega) h6 h7
  ·by_cases hi:i<H.length
   ·rw[List.getElem?_append_left hi]at h1
    rw[hold i hi]at h3
    exact hW.own i o p h1 h2 h3
   ·obtain⟨k,vs,e,rfl,q1,hf,rfl⟩:=hbeh i o h1 hi (aG h2)
    rw[hnew]at h3
    have:=a2.own _ _ _ q1 rfl h3
    omega
  ·by_cases hi:i<H.length
   ·rw[List.getElem?_append_left hi]at h1
    rw[hold i hi]at h4
    exact hW.ro i o p h1 h2 h3 h4
   ·obtain⟨k,vs,e,rfl,q1,hf,rfl⟩:=hbeh i o h1 hi h2
    cases h3
  ·rw[List.length_append,List.length_mapIdx,List.length_drop]at h1
   have:¬id<H.length:=by omega
   simp only[mu2,if_neg this]
   exact a2.dom _ (by omega)
  ·obtain⟨h1,h2,c,e,fr,h3,h4⟩:=hW.glob g vs hg
   exact⟨h1,h2,c,e,fr,hkeep _ _ h3,jR (hG g vs hg) h4⟩
 ·refine⟨by simp,fun id hid=>hold id hid,a3.size,fun b hb _=>a3.keep b hb (hno b),fun b hb=>?_,a3.os,a3.tape,a3.output⟩
  obtain⟨id,o,p,q1,q2,q3,rfl⟩:=hb
  by_cases hid:id<H.length
  ·rw[List.getElem?_append_left hid]at q1
   rw[hold id hid]at q3
   exact .inr ⟨id,o,p,q1,q2,q3,rfl⟩
  ·obtain⟨k,vs,e,rfl,q4,hf,rfl⟩:=hbeh id o q1 hid (aG q2)
   rw[hnew]at q3
   exact .inl (a2.own _ _ _ q4 rfl q3)
theorem call_alI(kp:Nat→HObj→HObj)(hkp:∀k o,(kp k o).alive=true→∃vs e,o = .cells vs e true∧vs.all flat=true∧kp k o = .cells vs e true){C:Cfg}{N:FuncId→Option Nat}{Sg:FuncId→Option Sig}(hm:C.P.follows .mixedOrders=true)(hG:∀g vs,C.G g=some vs→vs.all gfl=true){g:FuncId}(hn:N g=none){ls0 rs:List Lf}{H0 H' H:List HObj}(σ:Nat→Nat)
  (h:let _:Kno:=KnoC C N;au C Sg g ls0 H0 rs H')
  (h0:∀(j:Nat) (o:HObj),H0[j]? = some o→∃vs e rw,o = .cells vs e false∧vs.all flat=true∧H[σ j]? = some (.cells vs e rw))
  (hl:∀l∈ls0,OkL H0.length l) (hrl:∀l∈rs,OkL H'.length l):let _:Kno:=KnoC C N;au C Sg g (ls0.map (renL σ)) H (rs.map (renL (im H0.length H.length σ))) (H++(H'.drop H0.length).mapIdx kp):=by
 let _:Kno:=KnoC C N
 obtain⟨sg,xs,ys,c1,c2,c3,c4⟩:=h
 have hx:∀x∈xs,∀l∈x.cells,OkL H0.length l.lf:=fun x hx l hl'=>hl _ (by rw[←c2.2.1];exact ql hx hl')
 have hy:∀x∈ys,∀l∈x.cells,OkL H'.length l.lf:=fun x hx l hl'=>hrl _ (by rw[←c3.2.1];exact ql hx hl')
 have gd:∀(τ:Nat→Nat) (zs:List S0),(∀x∈zs,x.good)→∀x∈zs.map (renS τ),x.good:=by
  intro τ zs hz x hx'
  obtain⟨y,hy,rfl⟩:=List.mem_map.1 hx'
  intro l hl'
  rw[pI]at hl'
  obtain⟨l',hl'',rfl⟩:=List.mem_map.1 hl'
  exact good_ren (hz y hy l' hl'')
 refine⟨sg,xs.map (renS σ),ys.map (renS (im H0.length H.length σ)),c1,⟨by rw[ko];exact c2.1,by rw[kZ,c2.2.1],gd _ _ c2.2.2⟩,⟨by rw[ko];exact c3.1,by rw[kZ,c3.2.1],gd _ _ c3.2.2⟩,⟨0,?_⟩⟩
 exact .inr ⟨.inl hn,frame_alI kp hkp hG σ (md hm c4) h0 (fun mu mu0 cs hmu h=>vrs_ren hmu hx h) fun mu' mu'' c hmu h=>vr_pack' hmu hy h⟩
theorem uv{α β:Type}(f:α→β)(l:List α):l.mapIdx (fun _=>f)=l.map f:=by
 apply List.ext_getElem?
 intro i
 rw[List.getElem?_mapIdx,List.getElem?_map]
theorem call_alK(kp:HObj→HObj)(hkp:∀o,(kp o).alive=true→∃vs e,o = .cells vs e true∧vs.all flat=true∧kp o = .cells vs e true){C:Cfg}{N:FuncId→Option Nat}{Sg:FuncId→Option Sig}(hm:C.P.follows .mixedOrders=true)(hG:∀g vs,C.G g=some vs→vs.all gfl=true){g:FuncId}(hn:N g=none){ls0 rs:List Lf}{H0 H' H:List HObj}(σ:Nat→Nat)
  (h:let _:Kno:=KnoC C N;au C Sg g ls0 H0 rs H')
  (h0:∀(j:Nat) (o:HObj),H0[j]? = some o→∃vs e rw,o = .cells vs e false∧vs.all flat=true∧H[σ j]? = some (.cells vs e rw))
  (hl:∀l∈ls0,OkL H0.length l) (hrl:∀l∈rs,OkL H'.length l):let _:Kno:=KnoC C N;au C Sg g (ls0.map (renL σ)) H (rs.map (renL (im H0.length H.length σ))) (H++(H'.drop H0.length).map kp):=by
 have:=call_alI (fun _=>kp) (fun _=>hkp) hm hG hn σ h h0 hl hrl
 rwa [uv]at this
theorem call_al{C:Cfg}{N:FuncId→Option Nat}{Sg:FuncId→Option Sig}(hm:C.P.follows .mixedOrders=true)(hG:∀g vs,C.G g=some vs→vs.all gfl=true){g:FuncId}(hn:N g=none){ls0 rs:List Lf}{H0 H' H:List HObj}(σ:Nat→Nat)
  (h:let _:Kno:=KnoC C N;au C Sg g ls0 H0 rs H')
  (h0:∀(j:Nat) (o:HObj),H0[j]? = some o→∃vs e rw,o = .cells vs e false∧vs.all flat=true∧H[σ j]? = some (.cells vs e rw))
  (hl:∀l∈ls0,OkL H0.length l) (hrl:∀l∈rs,OkL H'.length l):let _:Kno:=KnoC C N;au C Sg g (ls0.map (renL σ)) H (rs.map (renL (im H0.length H.length σ))) (H++(H'.drop H0.length).map rn):=
 call_alK rn (fun _ h=>rp h) hm hG hn σ h h0 hl hrl
end
end Sx
end Go.Am

/-
 WHAT RUNS OVER AN EMPTY HEAP TELL: answers,and lists that are made.
-/
set_option maxRecDepth 100000
namespace Go.Am
open Sx Go.Proofs
theorem known_val{g n:Nat}{ls rs:List Lf}{sg:Sig}(hs:ac g=some sg)(hp:sg.plain=true)(hg:aQ ls=true)(h:runF n (.f g) ls .empty tell=some rs):∀H,au cc ac g ls H rs H:=by
 obtain⟨rs',h',a1,a2⟩:=(lP n).f g ls .empty tell rs (df hg) h
 rw[tell_eq]at a2
 cases a2
 exact tn g sg ls _ _ hs hp a1
noncomputable def isAns(rs':List Lf):Option (List Lf)→Bool:=fun o=>@Option.rec _ (fun _=>Bool) false (fun rs=>eqLs rs rs') o
theorem fy{g n:Nat}{ls rs:List Lf}{sg:Sig}(hs:ac g=some sg)(hp:sg.plain=true)(hg:aQ ls=true)(h:isAns rs (runF n (.f g) ls .empty tell)=true):∀H,au cc ac g ls H rs H:=by
 cases e:runF n (.f g) ls .empty tell with
 |none=>rw[e]at h;cases h
 |some rs'=>
  rw[e]at h
  have h:eqLs rs' rs=true:=h
  rw[eo h]at e
  exact known_val hs hp hg e
noncomputable def eqCell(a b:Value):Bool:=match a,b with
 | .int k n,.int k' n'=>ej k k'&&eqZK n n'
 | .bool t,.bool t'=>eqBK t t'
 |_,_=>false
theorem eqCell_ok{a b:Value}(h:eqCell a b=true):a=b∧flat b=true:=by
 unfold eqCell at h
 split at h
 ·simp only[Bool.and_eq_true]at h
  have h2:=h.2
  rw[oa,beq_iff_eq]at h2
  rw[cL h.1,h2]
  exact⟨rfl,rfl⟩
 ·rename_i a b
  cases a<;>cases b<;>first|exact⟨rfl,rfl⟩|cases h
 ·cases h
noncomputable def nY(c:Tr Value):List Value→Nat→Bool
 | [],_=>true
 |v :: l,i=>eqCell ((bi i).get nilV c) v&&nY c l (i+1)
theorem mJ{c:Tr Value}:∀ {l:List Value} {i:Nat},nY c l i=true→(∀j (h:j<l.length),(bi (i+j)).get nilV c=l[j])∧l.all flat=true
 | [],i,_=>⟨fun j h=>by simp at h,rfl⟩
 |v :: l,i,h=>by
  simp only[nY,Bool.and_eq_true]at h
  obtain⟨h1,h2⟩:=eqCell_ok h.1
  obtain⟨h3,h4⟩:=mJ h.2
  refine⟨fun j hj=>?_,by simp[h2,h4]⟩
  cases j with
  |zero=>exact h1
  |succ j=>
   have:=h3 j (by simpa using hj)
   rw[show i+(j+1)=i+1+j by omega]
   simpa using this
noncomputable def isSl(h:HTr)(x:Value)(e n:Nat)(cells:List Value):Bool:=match x with
 | .slice none 0 0=>Nat.beq n 0&&Nat.beq cells.length 0
 | .slice (some a) len _=>Nat.beq len n&&Nat.beq a.off 0&&Nat.beq cells.length (n*e)&&tagB a.spot e&&(match h.at a.block with
  |some (.t m e' true c)=>Nat.beq m (n*e)&&Nat.beq e' e&&nY c cells 0
  |_=>false)
 |_=>false
theorem isSl_ok{h:HTr}{x:Value}{e n:Nat}{cells:List Value}(hx:isSl h x e n cells=true):cells.length=n*e∧cells.all flat=true∧((x = .slice none 0 0∧n=0)∨∃id cx,x = .slice (some ⟨id,0,tag e⟩) n cx∧id<h.n∧(toL h)[id]? = some (.o (.cells cells e true))):=by
 unfold isSl at hx
 split at hx
 ·simp only[Bool.and_eq_true]at hx
  have h1:=Nat.eq_of_beq_eq_true hx.1
  have h2:=Nat.eq_of_beq_eq_true hx.2
  subst h1
  rw[List.length_eq_zero_iff]at h2
  subst h2
  exact⟨by simp,rfl,.inl ⟨rfl,rfl⟩⟩
 ·rename_i a len cx
  simp only[Bool.and_eq_true]at hx
  obtain⟨⟨⟨⟨h1,h2⟩,h3⟩,h4⟩,h5⟩:=hx
  have h1:=Nat.eq_of_beq_eq_true h1
  have h2:=Nat.eq_of_beq_eq_true h2
  have h3:=Nat.eq_of_beq_eq_true h3
  have h4:=pe.1 h4
  subst h1
  split at h5
  ·rename_i m e' c hat
   simp only[Bool.and_eq_true]at h5
   obtain⟨⟨g1,g2⟩,g3⟩:=h5
   have g1:=Nat.eq_of_beq_eq_true g1
   have g2:=Nat.eq_of_beq_eq_true g2
   subst g1 g2
   obtain⟨g4,g5⟩:=mJ g3
   have ha:a=⟨a.block,0,tag e'⟩:=by cases a;simp_all
   have hc:bC c (len*e')=cells:=by
    apply List.ext_getElem
    ·rw[aK,h3]
    ·intro i hi hi'
     have:=cT c (i:=i) (n:=len*e') (by rw[aK]at hi;exact hi)
     rw[List.getElem?_eq_getElem hi]at this
     have:=Option.some.inj this
     rw[this,←g4 i hi',Nat.zero_add]
   refine⟨h3,g5,.inr ⟨a.block,cx,by rw[ha],?_,?_⟩⟩
   ·unfold HTr.at at hat
    split at hat
    ·rename_i hb;rw[Nat.blt_eq]at hb;exact hb
    ·cases hat
   ·rw[gI,hat]
    show some (HO.o (.cells (bC c (len*e')) e' true))=_
    rw[hc]
  ·cases h5
 ·cases hx
theorem rZ(T:Nat→Site)(h G:HL):absH T (h++G)=absH T h++absH T G:=by simp[absH]
theorem absH_o(T:Nat→Site)(l:List HObj):absH T (l.map HO.o)=l:=by
 induction l with
 |nil=>rfl
 |cons a l ih=>show absO T (.o a) :: absH T (l.map HO.o)=_;rw[ih];rfl
theorem made{g n:Nat}{ls rest:List Lf}{e m:Nat}{cells:List Value}(hg:aQ ls=true)(hno:neuN g=none)(hl:ls.all (fun l=>match l with | .v _=>false|_=>true)=true)(hr:rest.all (fun l=>match l with | .v _=>false|_=>true)=true)
  (h:runF n (.f g) ls .empty (fun rs h=>match rs with
   | .v x :: r=>ans (eqLs r rest&&isSl h x e m cells)
   |_=>none)=yes) (H:HL):∃x G,au cc ac g ls (absH aa H) (.v x :: rest) (absH aa (H++G))∧SlC (H++G) x e m cells:=by
 obtain⟨rs,h',a1,a2⟩:=(lP n).f g ls .empty _ [] (df hg) h
 split at a2
 ·rename_i x r
  have a2:=ans_yes a2
  simp only[Bool.and_eq_true]at a2
  obtain⟨a2,a3⟩:=a2
  have a2:=eo a2
  subst a2
  obtain⟨b1,b2,b3⟩:=isSl_ok a3
  have plainR:∀(l:List Lf) (σ:Nat→Nat),l.all (fun l=>match l with | .v _=>false|_=>true)=true→l.map (renL σ)=l:=by
   intro l σ hl
   induction l with
   |nil=>rfl
   |cons a l ih=>
    simp only[List.all_cons,Bool.and_eq_true]at hl
    rw[List.map_cons,ih hl.2]
    cases a<;>first|rfl|(simp at hl)
  have plainOk:∀(l:List Lf) (n:Nat),l.all (fun l=>match l with | .v _=>false|_=>true)=true→∀a∈l,OkL n a:=by
   intro l n hl a ha
   have:=List.all_eq_true.1 hl a ha
   cases a<;>first|trivial|cases this
  have e0:absH aa (toL HTr.empty)=[]:=rfl
  rw[e0]at a1
  have key:=call_al (N:=neuN) mixed bY hno (H:=absH aa H) id a1 (fun j o hj=>by simp at hj) (plainOk ls _ hl) (fun l hl'=>by
   rcases List.mem_cons.1 hl' with rfl|hl'
   ·rcases b3 with⟨rfl,_⟩|⟨id,cx,rfl,hid,_⟩
    ·exact .inl ⟨rfl,fun _=>rfl⟩
    ·exact .inr ⟨id,0,m,cx,e,by rw[dn,dU];exact hid,rfl⟩
   ·exact plainOk _ _ hr l hl')
  rw[plainR ls id hl,List.map_cons,plainR _ _ hr,List.length_nil,List.drop_zero]at key
  refine⟨renV (im 0 (absH aa H).length id) x,((absH aa (toL h')).map rn).map .o,?_,b1,?_⟩
  ·rw[rZ,absH_o];exact key
  ·rcases b3 with⟨rfl,hm⟩|⟨id',cx,rfl,hid,hb⟩
   ·exact .inl ⟨rfl,hm⟩
   ·refine .inr ⟨_,0,cx,cells,true,rfl,?_,Sx.cut_all b1⟩
    unfold im
    rw[if_neg (Nat.not_lt_zero _),Nat.sub_zero,dn,List.getElem?_append_right (by omega),Nat.add_sub_cancel_left,List.getElem?_map,List.getElem?_map]
    have:(absH aa (toL h'))[id']? = some (.cells cells e true):=by
     unfold absH
     rw[List.getElem?_map,hb];rfl
    rw[this]
    show some (HO.o (if cells.all flat=true then HObj.cells cells e true else .dead))=_
    rw[if_pos b2]
 ·cases a2
end Go.Am

/-
 UNITS: tables by the kernel: names,cells,the list of units.
-/
set_option maxRecDepth 100000
namespace Go.Am
open Sx Go.Proofs
def nbr(w v c e:Nat):Option Nat:=
 match e,c%4 with
 |0,0=>if 0<c / 4 / w then some (c+2 - 4*w)else none
 |0,1=>if c / 4%w+1<w then some (c+6)else none
 |0,2=>if c / 4 / w+1<v then some (c+4*w - 2)else none
 |0,_=>if 0<c / 4%w then some (c - 6)else none
 |1,0=>some (c+1)
 |1,1=>some (c - 1)
 |1,2=>some (c+1)
 |1,_=>some (c - 1)
 |2,0=>some (c+3)
 |2,1=>some (c+1)
 |2,2=>some (c - 1)
 |2,_=>some (c - 3)
 |_,_=>none
def nameN(w v c e:Nat):List Lf:=match nbr w v c e with
 |some n=>[.i (.ofNat (min c n)),.i (.ofNat e),.i 0]
 |none=>[.i 0,.i 0,.i 7]
def cellN(w c:Nat):List Lf:=[.i (.ofNat (c / 4%w)),.i (.ofNat (c / 4 / w)),.i (.ofNat (c%4)),.i 0]
noncomputable def tabName(w v:Nat):Bool:=(List.range (4*w*v)).all fun c=>(List.range 3).all fun e=>isAns (nameN w v c e) (runF 60 (.f 37) [.i (.ofNat w),.i (.ofNat v),.i (.ofNat c),.i (.ofNat e)] .empty tell)
noncomputable def tabCell(w v:Nat):Bool:=(List.range (4*w*v)).all fun c=>isAns (cellN w c) (runF 60 (.f 87) [.i (.ofNat w),.i (.ofNat v),.i (.ofNat c)] .empty tell)
def aZ(w v:Nat):List (Nat×Nat):=(List.range (4*w*v)).flatMap fun c=>(List.range 3).filterMap fun e=>match nbr w v c e with
 |some n=>if c<n then some (c,e)else none
 |none=>none
def encU(u:Nat×Nat):List Value:=[.int .i64 (.ofNat u.1),.int .u8 (.ofNat u.2)]
noncomputable def pc(w v:Nat):Bool:=match runF 60 (.f 31) [.i (.ofNat w),.i (.ofNat v)] .empty (fun rs h=>match rs with
   | .v x :: r=>ans (eqLs r []&&isSl h x 2 (aZ w v).length ((aZ w v).flatMap encU))
   |_=>none)with
 |some []=>true
 |_=>false
def ltN(a b:Nat×Nat):Bool:=Nat.blt a.1 b.1||(Nat.beq a.1 b.1&&Nat.blt a.2 b.2)
def ascN:List (Nat×Nat)→Bool
 |a :: b :: l=>ltN a b&&ascN (b :: l)
 |_=>true
noncomputable def tab5(w v:Nat):Bool:=tabName w v&&(tabCell w v&&(pc w v&&(ascN (aZ w v)&&Nat.ble (aZ w v).length 1000)))
theorem ma:∀w v:Nat,1≤w→w≤5→1≤v→v≤5→tab5 w v=true:=by
 have key:((List.range 5).all fun w=>(List.range 5).all fun v=>tab5 (w+1) (v+1))=true:=by kernel_rfl
 intro w v h1 h2 h3 h4
 have h5:=List.all_eq_true.1 key (w - 1) (List.mem_range.2 (by omega))
 have h6:=List.all_eq_true.1 h5 (v - 1) (List.mem_range.2 (by omega))
 have e1:w - 1+1=w:=by omega
 have e2:v - 1+1=v:=by omega
 rw[e1,e2]at h6
 exact h6
end Go.Am

/-
 UNITS AND CREASES: names at whatever cell and edge;the test of patterns,told of lists.
-/
set_option maxRecDepth 100000
set_option maxHeartbeats 4000000
namespace Go.Am
open Sx Go.Proofs
theorem nbr_ne{w v c e n:Nat}(hw:1≤w)(h:nbr w v c e=some n):n≠c:=by
 have hx:c / 4%w≤c / 4:=Nat.mod_le _ _
 have hy:c / 4 / w≤c / 4:=Nat.div_le_self _ _
 have hq:c%4=0∨c%4=1∨c%4=2∨c%4=3:=by omega
 rcases e with _|_|_|e<;>rcases hq with h1|h1|h1|h1<;>simp only[nbr,h1]at h<;>
  first
  |(split at h<;>first|(simp only[Option.some.injEq]at h;omega)|(cases h;done))
  |(simp only[Option.some.injEq]at h;omega)
  |(cases h;done)
theorem jc{w v:Nat}(h:tab5 w v=true):tabName w v=true∧tabCell w v=true∧pc w v=true∧ascN (aZ w v)=true∧(aZ w v).length≤1000:=by
 unfold tab5 at h
 simp only[Bool.and_eq_true,Nat.ble_eq]at h
 exact h
theorem nameIn{w v:Nat}(ht:tab5 w v=true){c e:Nat}(hc:c<4*w*v)(he:e<3):Cc 37 [.i (.ofNat w),.i (.ofNat v),.i (.ofNat c),.i (.ofNat e)] (nameN w v c e):=by
 have h1:=List.all_eq_true.1 (jc ht).1 c (List.mem_range.2 hc)
 exact fy (n:=60) rfl (by kernel_rfl) rfl (List.all_eq_true.1 h1 e (List.mem_range.2 he))
theorem cellIn{w v:Nat}(ht:tab5 w v=true){c:Nat}(hc:c<4*w*v):Cc 87 [.i (.ofNat w),.i (.ofNat v),.i (.ofNat c)] (cellN w c):=
 fy (n:=60) rfl (by kernel_rfl) rfl (List.all_eq_true.1 (jc ht).2.1 c (List.mem_range.2 hc))
def valS(w v:Int):Prop:=1≤w∧1≤v∧w≤256∧v≤256∧w*v≤256
instance (w v : Int) : Decidable (valS w v) := by unfold valS; infer_instance
theorem sV{w v a b:Int}(h:0≤w∧w≤a∧0≤v∧v≤b):0≤w*v∧w*v≤a*b:=
 ⟨Int.mul_nonneg h.1 h.2.2.1,Int.mul_le_mul h.2.1 h.2.2.2 h.2.2.1 (by omega)⟩
theorem shCheck(w v:Int):Cc 32 [.i w,.i v] [.i (if valS w v then 0 else 1)]:=by
 refine q32 rfl ?_;unfold p32
 by_cases h1:1≤w
 ·by_cases h2:1≤v
  ·by_cases h3:w≤256
   ·by_cases h4:v≤256
    ·have hm:=sV (w:=w) (v:=v) (a:=256) (b:=256) (by omega)
     by_cases h5:w*v≤256
     ·simp (disch:=omega) only[↓qxs,↓qxc,↓qxa];simp[valS,h1,h2,h3,h4,h5]
     ·simp (disch:=omega) only[↓qxs,↓qxc,↓qxa];simp[valS,h5]
    ·simp (disch:=omega) only[↓qxs,↓qxc,↓qxa];simp[valS,h4]
   ·simp (disch:=omega) only[↓qxs,↓qxc,↓qxa];simp[valS,h3]
  ·simp (disch:=omega) only[↓qxs,↓qxc,↓qxa];simp[valS,h2]
 ·simp (disch:=omega) only[↓qxs,↓qxc,↓qxa];simp[valS,h1]
theorem jb{w v:Int}(h:valS w v):Cc 32 [.i w,.i v] [.i 0]:=by
 have:=shCheck w v;rw[if_pos h]at this;exact this
def smS(w v:Int):Prop:=1≤w∧w≤5∧1≤v∧v≤5
theorem rP{w v:Int}(h:smS w v):valS w v:=by
 unfold smS at h;have:=sV (w:=w) (v:=v) (a:=5) (b:=5) (by omega);unfold valS;omega
theorem sm4{w v:Int}(h:smS w v):4≤4*w*v∧4*w*v≤100:=by
 unfold smS at h
 have h1:=sV (w:=4*w) (v:=v) (a:=20) (b:=5) (by omega)
 have h2:4*w≤4*w*v:=by
  have:=Int.mul_le_mul_of_nonneg_left h.2.2.1 (show 0≤4*w by omega)
  rw[Int.mul_one]at this;exact this
 omega
theorem has_c{w v:Int}(h:smS w v)(c:Int):Cc 109 [.i w,.i v,.i c] [.b (decide (0≤c)&&decide (c<4*w*v))]:=by
 have h4:=sm4 h
 unfold smS at h
 refine q109 rfl ?_;unfold p109
 by_cases h1:0≤c
 ·by_cases h2:c<4*w*v
  ·simp (disch:=omega) only[↓qxs,↓qxc,↓qxa];simp[h1,h2]
  ·simp (disch:=omega) only[↓qxs,↓qxc,↓qxa];simp[h1,h2]
 ·simp (disch:=omega) only[↓qxs,↓qxc,↓qxa];simp[h1]
theorem uJ{w v c:Int}(h:smS w v)(hc:¬(0≤c∧c<4*w*v)):Cc 87 [.i w,.i v,.i c] [.i 0,.i 0,.i 0,.i 7]:=by
 refine q87 rfl ?_;unfold p87
 simp (disch:=omega) only[↓qxs,↓qxc,↓qxa]
 refine aT (jb (rP h)) ?_
 simp (disch:=omega) only[↓qxs,↓qxc,↓qxa]
 have e:(decide (0≤c)&&decide (c<4*w*v))=false:=by simp;omega
 refine aT (e▸has_c h c) ?_
 simp (disch:=omega) only[↓qxs,↓qxc,↓qxa,Bool.not_false]
theorem rO{w v c e:Int}(h:smS w v)(hc:¬(0≤c∧c<4*w*v)):Cc 61 [.i w,.i v,.i c,.i e] [.i 0,.i 7]:=by
 refine q61 rfl ?_;unfold p61
 simp (disch:=omega) only[↓qxs,↓qxc,↓qxa]
 refine aT (uJ h hc) ?_
 simp (disch:=omega) only[↓qxs,↓qxc,↓qxa]
theorem uK{w v c e:Int}(h:smS w v)(hc:¬(0≤c∧c<4*w*v)):Cc 37 [.i w,.i v,.i c,.i e] [.i 0,.i 0,.i 7]:=by
 refine q37 rfl ?_;unfold p37
 simp (disch:=omega) only[↓qxs,↓qxc,↓qxa]
 refine aT (rO h hc) ?_
 simp (disch:=omega) only[↓qxs,↓qxc,↓qxa]
theorem pF{x y q:Int}(h:-4096≤x∧x≤4096∧-4096≤y∧y≤4096∧q≤3):Cc 62 [.i x,.i y,.i q] [.i 0]:=by
 refine q62 rfl ?_;unfold p62
 simp (disch:=omega) only[↓qxs,↓qxc,↓qxa]
theorem mm{x y q e:Int}(h:-4096≤x∧x≤4096∧-4096≤y∧y≤4096∧q≤3)(he:2<e):Cc 45 [.i x,.i y,.i q,.i e] [.i 0,.i 0,.i 0,.i 1]:=by
 refine q45 rfl ?_;unfold p45
 simp (disch:=omega) only[↓qxs,↓qxc,↓qxa]
 refine aT (pF h) ?_
 simp (disch:=omega) only[↓qxs,↓qxc,↓qxa]
theorem toNat2{w v:Int}(h:smS w v):∃a b:Nat,w = .ofNat a∧v = .ofNat b∧1≤a∧a≤5∧1≤b∧b≤5:=by
 unfold smS at h
 obtain⟨a,rfl⟩:=Int.eq_ofNat_of_zero_le (show 0≤w by omega)
 obtain⟨b,rfl⟩:=Int.eq_ofNat_of_zero_le (show 0≤v by omega)
 exact⟨a,b,rfl,rfl,by omega,by omega,by omega,by omega⟩
theorem lt_nat{a b c:Nat}(h:(c:Int)<4*(a:Int)*(b:Int)):c<4*a*b:=by
 have:(4*(a:Int)*(b:Int))=((4*a*b:Nat):Int):=by simp
 rw[this]at h;omega
theorem qL{w v c e:Int}(h:smS w v)(hc:0≤c∧c<4*w*v)(he:2<e):Cc 61 [.i w,.i v,.i c,.i e] [.i 0,.i 1]:=by
 have h4:=sm4 h
 obtain⟨a,b,rfl,rfl,ha⟩:=toNat2 h
 obtain⟨k,rfl⟩:=Int.eq_ofNat_of_zero_le hc.1
 have hk:k<4*a*b:=lt_nat hc.2
 have hk2:4*a*b≤100:=by
  have:(4*(a:Int)*(b:Int))=((4*a*b:Nat):Int):=by simp
  have h5:=h4.2
  change 4*(a:Int)*(b:Int)≤100 at h5
  rw[this]at h5;omega
 refine q61 rfl ?_;unfold p61
 simp (disch:=omega) only[↓qxs,↓qxc,↓qxa]
 refine aT (cellIn (ma a b ha.1 ha.2.1 ha.2.2.1 ha.2.2.2) hk) ?_
 unfold cellN
 simp (disch:=omega) only[↓qxs,↓qxc,↓qxa]
 have h1:k / 4%a≤k / 4:=Nat.mod_le _ _
 have h2:k / 4 / a≤k / 4:=Nat.div_le_self _ _
 have h3:(0:Int)≤((k / 4 / a:Nat):Int):=Int.natCast_nonneg _
 have h5:(0:Int)≤((k / 4%a:Nat):Int):=Int.natCast_nonneg _
 refine aT (mm (x:=Int.ofNat (k / 4%a)) (y:=Int.ofNat (k / 4 / a)) (q:=Int.ofNat (k%4)) (by simp only[Int.ofNat_eq_natCast];omega) he) ?_
 simp (disch:=omega) only[↓qxs,↓qxc,↓qxa]
theorem rN{w v c e:Int}(h:smS w v)(hc:0≤c∧c<4*w*v)(he:2<e):Cc 37 [.i w,.i v,.i c,.i e] [.i 0,.i 0,.i 1]:=by
 refine q37 rfl ?_;unfold p37
 simp (disch:=omega) only[↓qxs,↓qxc,↓qxa]
 refine aT (qL h hc he) ?_
 simp (disch:=omega) only[↓qxs,↓qxc,↓qxa]
def isUn(w v c e:Int):Bool:=decide (0≤c)&&decide (c<4*w*v)&&decide (e≤2)&&(match nbr w.toNat v.toNat c.toNat e.toNat with
 |some n=>Nat.blt c.toNat n
 |none=>false)
theorem name_c{w v c e:Int}(h:smS w v)(he:0≤e):∃a b r:Int,Cc 37 [.i w,.i v,.i c,.i e] [.i a,.i b,.i r]∧(isUn w v c e=true↔r=0∧a=c∧b=e):=by
 by_cases hc:0≤c∧c<4*w*v
 ·by_cases h2:e≤2
  ·obtain⟨a,b,rfl,rfl,ha⟩:=toNat2 h
   obtain⟨k,rfl⟩:=Int.eq_ofNat_of_zero_le hc.1
   obtain⟨j,rfl⟩:=Int.eq_ofNat_of_zero_le he
   have hk:k<4*a*b:=lt_nat hc.2
   have hn:=nameIn (ma a b ha.1 ha.2.1 ha.2.2.1 ha.2.2.2) hk (e:=j) (by omega)
   unfold nameN at hn
   cases e:nbr a b k j with
   |none=>
    rw[e]at hn
    refine⟨_,_,_,hn,?_⟩
    have:isUn (.ofNat a) (.ofNat b) (k:Int) (j:Int)=false:=by
     unfold isUn
     have e':nbr (Int.ofNat a).toNat (Int.ofNat b).toNat (k:Int).toNat (j:Int).toNat=none:=e
     rw[e'];simp
    rw[this]
    simp
   |some n=>
    rw[e]at hn
    refine⟨_,_,_,hn,?_⟩
    have hne:=nbr_ne ha.1 e
    have e':nbr (Int.ofNat a).toNat (Int.ofNat b).toNat (k:Int).toNat (j:Int).toNat=some n:=e
    unfold isUn
    rw[e']
    simp only[Bool.and_eq_true,decide_eq_true_eq,Nat.blt_eq,Int.toNat_natCast]
    constructor
    ·rintro⟨_,h3⟩
     exact⟨by trivial,by show((min k n:Nat):Int)=k;omega,by trivial⟩
    ·rintro⟨_,h3,_⟩
     have h3:((min k n:Nat):Int)=k:=h3
     exact⟨⟨⟨hc.1,hc.2⟩,h2⟩,by omega⟩
  ·refine⟨_,_,_,rN h hc (by omega),?_⟩
   have:isUn w v c e=false:=by unfold isUn;simp[h2]
   rw[this];simp
 ·refine⟨_,_,_,uK h hc,?_⟩
  have:isUn w v c e=false:=by
   unfold isUn
   have:(decide (0≤c)&&decide (c<4*w*v))=false:=by simp;omega
   rw[this];simp
  rw[this];simp
theorem sL{w v c e:Int}(h:isUn w v c e=true):0≤c∧c<4*w*v∧e≤2:=by
 unfold isUn at h
 simp only[Bool.and_eq_true,decide_eq_true_eq]at h
 exact⟨h.1.1.1,h.1.1.2,h.1.2⟩
end Go.Am

/-
 RULES FOR NUMBERS THAT COUNT.
-/
set_option maxRecDepth 100000
namespace Go.Am
namespace Sx
section
variable [Val] [Kno] {C:Cfg} {Sg:FuncId→Option Sig} {T:Nat→Site}
theorem eJ{j:Nat}{K:Int→Prop}(h:j≤4294967296):(PH C Sg T).ari .add .i64 (Int.ofNat j) 1 (@hid _ ⟨K⟩)=K (Int.ofNat j+1):=
 p_add (by show -9223372036854775808≤(j:Int)+1;omega) (by show(j:Int)+1≤9223372036854775807;omega)
theorem n_sub{j:Nat}{K:Int→Prop}(h1:1≤j)(h:j≤4294967296):(PH C Sg T).ari .sub .i64 (Int.ofNat j) 1 (@hid _ ⟨K⟩)=K (Int.ofNat (j - 1)):=by
 rw[p_sub (by show -9223372036854775808≤(j:Int) - 1;omega) (by show(j:Int) - 1≤9223372036854775807;omega)]
 congr 1
 show(j:Int) - 1=((j - 1:Nat):Int)
 omega
theorem cy{j n:Nat}{K:Bool→Prop}(h:j<n):(PH C Sg T).cmp .lss (Int.ofNat j) (Int.ofNat n) (@hid _ ⟨K⟩)=K true:=p_lss_t (by show(j:Int)<n;omega)
theorem cM{j n:Nat}{K:Bool→Prop}(h:n≤j):(PH C Sg T).cmp .lss (Int.ofNat j) (Int.ofNat n) (@hid _ ⟨K⟩)=K false:=p_lss_f (by show(n:Int)≤j;omega)
end
theorem cK{α:Type}{l:List α}{i:Nat}{a:α}(h:l[i]? = some a):i<l.length:=by
 rcases Nat.lt_or_ge i l.length with h1|h1
 ·exact h1
 ·rw[List.getElem?_eq_none h1]at h;cases h
theorem dJ{α:Type}{l:List α}{i:Nat}(h:i<l.length):∃a,l[i]? = some a:=⟨_,List.getElem?_eq_getElem h⟩
end Sx
end Go.Am

/-
 THE TEST OF PATTERNS,told of lists.
-/
set_option maxRecDepth 100000
set_option maxHeartbeats 4000000
namespace Go.Am
open Sx Go.Proofs
def ltC(a b:Crs):Bool:=decide (a.1<b.1)||(decide (a.1=b.1)&&decide (a.2.1<b.2.1))
def ascC:List Crs→Bool
 |a :: b :: l=>ltC a b&&ascC (b :: l)
 |_=>true
theorem gO:∀ {l:List Crs},ascC l=true↔∀(i:Nat) a b,l[i]? = some a→l[i+1]? = some b→ltC a b=true
 | []=>by simp[ascC]
 | [a]=>by simp[ascC]
 |a :: b :: l=>by
  simp only[ascC,Bool.and_eq_true]
  rw[gO (l:=b :: l)]
  constructor
  ·rintro⟨h1,h2⟩ i x y hx hy
   cases i with
   |zero=>
    simp only[List.getElem?_cons_zero,Option.some.injEq,List.getElem?_cons_succ]at hx hy
    subst hx hy;exact h1
   |succ i=>exact h2 i x y (by simpa using hx) (by simpa using hy)
  ·intro h
   exact⟨h 0 a b rfl rfl,fun i x y hx hy=>h (i+1) x y (by simpa using hx) (by simpa using hy)⟩
def unC(w v:Int)(c:Crs):Bool:=isUn w v c.1 c.2.1
def chkC(w v:Int)(l:List Crs):Int:=if l.all isK=false then 1 else if l.all (unC w v)=false then 7 else if ascC l=true then 0 else 6
theorem tL(c:Crs):Cc 38 [.i c.1,.i c.2.1,.i c.2.2] [.i c.1,.i c.2.1]:=by
 refine q38 rfl ?_;unfold p38
 simp (disch:=omega) only[↓qxs,↓qxc,↓qxa]
theorem order_c{a b:Crs}(h:0≤a.1∧a.1≤1000∧0≤b.1∧b.1≤1000∧0≤a.2.1∧a.2.1≤255∧0≤b.2.1∧b.2.1≤255):∃d:Int,Cc 39 [.i a.1,.i a.2.1,.i b.1,.i b.2.1] [.i d]∧(d<0↔ltC a b=true):=by
 by_cases h1:a.1=b.1
 ·refine⟨a.2.1 - b.2.1,?_,by simp only[ltC,Bool.or_eq_true,Bool.and_eq_true,decide_eq_true_eq];omega⟩
  refine q39 rfl ?_;unfold p39
  simp (disch:=omega) only[↓qxs,↓qxc,↓qxa]
 ·refine⟨a.1 - b.1,?_,by simp only[ltC,Bool.or_eq_true,Bool.and_eq_true,decide_eq_true_eq];omega⟩
  refine q39 rfl ?_;unfold p39
  simp (disch:=omega) only[↓qxs,↓qxc,↓qxa]
theorem check_c{w v:Int}(hs:smS w v){h:HL}{x:Value}{l:List Crs}(hl:LsH h x 3 encC l)(hk:∀c∈l,okC c)(hn:l.length≤4294967296) :
  au cc ac 18 [.i w,.i v,.v x] (absH aa h) [.i (chkC w v l)] (absH aa h):=by
 obtain⟨rs,h',h3,rfl,rfl⟩:=x18 (K:=fun rs h'=>rs=[.i (chkC w v l)]∧h'=h) (H:=h) (glsI (glsI (glsV hl.good gls0))) (by
  unfold p18
  simp (disch:=omega) only[↓qxs,↓qxc,↓qxa]
  refine aT (jb (rP hs)) ?_
  simp (disch:=omega) only[↓qxs,↓qxc,↓qxa]
  refine aY (tX hl hn) ?_
  simp (disch:=omega) only[↓qxs,↓qxc,↓qxa]
  cases hb:l.all isK with
  |false=>
   simp (disch:=omega) only[↓qxs,↓qxc,↓qxa,Bool.not_false]
   exact⟨by simp[chkC,hb],by trivial⟩
  |true=>
   simp (disch:=omega) only[↓qxs,↓qxc,↓qxa,Bool.not_true]
   refine gE hl ?_
   refine rt l.length (fun j=>∀i,i<j→∀c,l[i]? = some c→unC w v c=true) rfl (Nat.zero_le _) (fun i hi=>absurd hi (Nat.not_lt_zero _)) ?_
   intro j hj hi self hself
   simp (disch:=omega) only[↓qxs,↓qxc,↓qxa]
   by_cases hlt:j<l.length
   ·rw[cy hlt]
    simp (disch:=omega) only[↓qxs,↓qxc,↓qxa]
    obtain⟨c,hc⟩:=dJ hlt
    have hmem:=List.mem_of_getElem? hc
    have hok:=hk c hmem
    unfold okC at hok
    have bad:unC w v c=false→chkC w v l=7:=fun hu=>by
     have:l.all (unC w v)=false:=List.all_eq_false.2 ⟨c,hmem,by simp[hu]⟩
     simp[chkC,hb,this]
    refine eX hl rfl hc ?_
    unfold encC
    simp (disch:=omega) only[↓qxs,↓qxc,↓qxa]
    obtain⟨a,b,r,hnm,hiff⟩:=name_c (c:=c.1) (e:=c.2.1) hs (by omega)
    refine aT hnm ?_
    simp (disch:=omega) only[↓qxs,↓qxc,↓qxa]
    by_cases hr:r=0
    ·subst hr
     simp (disch:=omega) only[↓qxs,↓qxc,↓qxa]
     refine aT (tL c) ?_
     simp (disch:=omega) only[↓qxs,↓qxc,↓qxa]
     by_cases hab:a=c.1∧b=c.2.1
     ·have hu:unC w v c=true:=hiff.2 ⟨rfl,hab.1,hab.2⟩
      simp (disch:=omega) only[↓qxs,↓qxc,↓qxa,Bool.not_true]
      rw[eJ (by omega)]
      refine hself hlt fun i hi' c' hc'=>?_
      rcases Nat.lt_or_ge i j with h|h
      ·exact hi i h c' hc'
      ·obtain rfl:i=j:=by omega
       rw[hc]at hc';cases hc';exact hu
     ·have hu:unC w v c=false:=by
       rw[←Bool.not_eq_true];intro hu
       have:=hiff.1 hu
       exact hab ⟨this.2.1,this.2.2⟩
      rw[p_eqs2_f hab]
      simp (disch:=omega) only[↓qxs,↓qxc,↓qxa,Bool.not_false]
      exact⟨by rw[bad hu],by trivial⟩
    ·have hu:unC w v c=false:=by
      rw[←Bool.not_eq_true];intro hu
      exact hr (hiff.1 hu).1
     simp (disch:=omega) only[↓qxs,↓qxc,↓qxa]
     exact⟨by rw[bad hu],by trivial⟩
   ·obtain rfl:j=l.length:=by omega
    rw[cM (Nat.le_refl _)]
    simp (disch:=omega) only[↓qxs,↓qxc,↓qxa]
    have hu:l.all (unC w v)=true:=List.all_eq_true.2 fun c hc=>by
     obtain⟨i,hi'⟩:=List.getElem?_of_mem hc
     exact hi i (cK hi') c hi'
    refine rt (j0:=1) (max 1 l.length) (fun j=>1≤j∧∀(i:Nat) a b,i+1<j→l[i]? = some a→l[i+1]? = some b→ltC a b=true) rfl (Nat.le_max_left _ _) ⟨Nat.le_refl _,fun i a b hi=>by omega⟩ ?_
    intro j hj' ⟨h1,hi2⟩ self hself
    simp (disch:=omega) only[↓qxs,↓qxc,↓qxa]
    refine gE hl ?_
    by_cases hlt:j<l.length
    ·rw[cy hlt]
     simp (disch:=omega) only[↓qxs,↓qxc,↓qxa]
     rw[n_sub h1 (by omega)]
     obtain⟨c,hc⟩:=dJ (l:=l) (i:=j - 1) (by omega)
     obtain⟨d,hd⟩:=dJ hlt
     have hc1:=hk c (List.mem_of_getElem? hc)
     have hd1:=hk d (List.mem_of_getElem? hd)
     have hc2:=sL (List.all_eq_true.1 hu c (List.mem_of_getElem? hc))
     have hd2:=sL (List.all_eq_true.1 hu d (List.mem_of_getElem? hd))
     have h4:=sm4 hs
     unfold okC at hc1 hd1
     refine eX hl rfl hc ?_
     unfold encC
     simp (disch:=omega) only[↓qxs,↓qxc,↓qxa]
     refine aT (tL c) ?_
     simp (disch:=omega) only[↓qxs,↓qxc,↓qxa]
     refine eX hl rfl hd ?_
     unfold encC
     simp (disch:=omega) only[↓qxs,↓qxc,↓qxa]
     refine aT (tL d) ?_
     simp (disch:=omega) only[↓qxs,↓qxc,↓qxa]
     obtain⟨o,ho,hoi⟩:=order_c (a:=c) (b:=d) (by omega)
     refine aT ho ?_
     simp (disch:=omega) only[↓qxs,↓qxc,↓qxa]
     by_cases hlo:o<0
     ·simp (disch:=omega) only[↓qxs,↓qxc,↓qxa]
      rw[eJ (by omega)]
      refine hself (by omega) ⟨by omega,fun i a b hi' ha hb'=>?_⟩
      rcases Nat.lt_or_ge (i+1) j with h|h
      ·exact hi2 i a b h ha hb'
      ·have e1:i=j - 1:=by omega
       have e2:i+1=j:=by omega
       rw[e2,hd]at hb'
       rw[e1,hc]at ha
       cases ha;cases hb'
       exact hoi.1 hlo
     ·have hna:ascC l=false:=by
       rw[←Bool.not_eq_true,gO]
       intro hall
       have:=hall (j - 1) c d hc (by rw[show j - 1+1=j by omega];exact hd)
       exact hlo (hoi.2 this)
      simp (disch:=omega) only[↓qxs,↓qxc,↓qxa]
      exact⟨by simp[chkC,hb,hu,hna],by trivial⟩
    ·rw[cM (by omega)]
     simp (disch:=omega) only[↓qxs,↓qxc,↓qxa]
     have ha:ascC l=true:=gO.2 fun i a b ha hb'=>hi2 i a b (by have:=cK hb';omega) ha hb'
     exact⟨by simp[chkC,hb,hu,ha],by trivial⟩)
 exact h3
end Go.Am

/-
 A CREASE AMONG OTHERS: binary search,told of lists;the kind across an edge.
-/
set_option maxRecDepth 100000
set_option maxHeartbeats 4000000
namespace Go.Am
open Sx Go.Proofs
def ltU(c:Crs)(a b:Int):Bool:=decide (c.1<a)||(decide (c.1=a)&&decide (c.2.1<b))
theorem iK{c:Crs}{a b:Int}:ltU c a b=true↔c.1<a∨(c.1=a∧c.2.1<b):=by
 simp only[ltU,Bool.or_eq_true,Bool.and_eq_true,decide_eq_true_eq]
theorem order_u{c:Crs}{a b:Int}(h:0≤c.1∧c.1≤1000∧0≤a∧a≤1000∧0≤c.2.1∧c.2.1≤255∧0≤b∧b≤255):∃d:Int,Cc 39 [.i c.1,.i c.2.1,.i a,.i b] [.i d]∧(d<0↔ltU c a b=true)∧(d=0↔c.1=a∧c.2.1=b):=by
 by_cases h1:c.1=a
 ·refine⟨c.2.1 - b,?_,by rw[iK];omega,by omega⟩
  refine q39 rfl ?_;unfold p39
  simp (disch:=omega) only[↓qxs,↓qxc,↓qxa]
 ·refine⟨c.1 - a,?_,by rw[iK];omega,by omega⟩
  refine q39 rfl ?_;unfold p39
  simp (disch:=omega) only[↓qxs,↓qxc,↓qxa]
theorem find1_c{c:Crs}{a b:Int}(h:0≤c.1∧c.1≤1000∧0≤a∧a≤1000∧0≤c.2.1∧c.2.1≤255∧0≤b∧b≤255):∃d:Int,Cc 90 [.i c.1,.i c.2.1,.i c.2.2,.i a,.i b] [.i d]∧(d<0↔ltU c a b=true)∧(d=0↔c.1=a∧c.2.1=b):=by
 obtain⟨d,hd,h1,h2⟩:=order_u h
 refine⟨d,?_,h1,h2⟩
 refine q90 rfl ?_;unfold p90
 simp (disch:=omega) only[↓qxs,↓qxc,↓qxa]
 refine aT (tL c) ?_
 simp (disch:=omega) only[↓qxs,↓qxc,↓qxa]
 refine aT hd ?_
 simp (disch:=omega) only[↓qxs,↓qxc,↓qxa]
abbrev cloF:Value:=.func (.func 90) ⟨[]⟩ ⟨[]⟩
theorem goodF1:bj cloF=true:=rfl
theorem p_half{a:Int}{K:Int→Prop}(h0:0≤a)(hk:K (a / 2)):P1.shf .shr .u64 a .u64 1 (@hid _ ⟨K⟩):=by
 refine s_shf (lP 0) (K:=fun n=>if n=a / 2 then yes else none) (fun n hn=>?_) ?_
 ·by_cases e:n=a / 2
  ·rw[e];exact hk
  ·simp only[if_neg e]at hn;cases hn
 ·have e0:∀(K:Int→RT),(BA ac aa (runF 0)).shf .shr .u64 a .u64 1 K=shfB .shr .u64 a .u64 1 K:=fun _=>rfl
  rw[e0]
  have e1:leZ 0 1=true:=rfl
  unfold shfB
  rw[e1]
  simp only
  rw[gV]
  have:a.fdiv (2 ^ min (1:Int).toNat IntKind.u64.bits)=a / 2:=by
   show a.fdiv 2=a / 2
   exact Int.fdiv_eq_ediv_of_nonneg a (by omega)
  rw[this,if_pos rfl]
theorem rD{a:Int}{K:Int→Prop}(h1:0≤a)(h2:a≤9223372036854775807)(hk:K a):P1.conv .u64 a (@hid _ ⟨K⟩):=by
 show K (IntKind.wrap .u64 a)
 have:IntKind.wrap .u64 a=a:=by
  simp only[IntKind.wrap,IntKind.bits,IntKind.signed,Bool.false_and,Bool.false_eq_true,if_false]
  omega
 rw[this];exact hk
def rngC(c:Crs):Prop:=0≤c.1∧c.1≤1000∧0≤c.2.1∧c.2.1≤255∧0≤c.2.2∧c.2.2≤255
def At(l:List Crs)(a b:Int)(i:Nat):Prop:=i≤l.length∧(∀(k:Nat) c,l[k]? = some c→k<i→ltU c a b=true)∧∀(k:Nat) c,l[k]? = some c→i≤k→ltU c a b=false
def isAt(l:List Crs)(a b:Int)(i:Nat):Bool:=match l[i]? with
 |some c=>decide (c.1=a)&&decide (c.2.1=b)
 |none=>false
theorem asc_le{l:List Crs}(h:ascC l=true):∀(n i:Nat) a b,l[i]? = some a→l[i+n+1]? = some b→ltC a b=true
 |0,i,a,b,ha,hb=>gO.1 h i a b ha hb
 |n+1,i,a,b,ha,hb=>by
  obtain⟨c,hc⟩:=dJ (l:=l) (i:=i+n+1) (by have:=cK hb;omega)
  have h1:=asc_le h n i a c ha hc
  have h2:=gO.1 h (i+n+1) c b hc (by rw[show i+n+1+1=i+(n+1)+1 by omega];exact hb)
  simp only[ltC,Bool.or_eq_true,Bool.and_eq_true,decide_eq_true_eq]at h1 h2 ⊢
  omega
theorem asc_lt{l:List Crs}(h:ascC l=true){i j:Nat}{a b:Crs}(hij:i<j)(ha:l[i]? = some a)(hb:l[j]? = some b):ltC a b=true:=
 asc_le h (j - i - 1) i a b ha (by rw[show i+(j - i - 1)+1=j by omega];exact hb)
theorem bin_c{h:HL}{x:Value}{l:List Crs}(hl:LsH h x 3 encC l)(hk:∀c∈l,rngC c)(hn:l.length≤1000)(hasc:ascC l=true){a b:Int}(hu:0≤a∧a≤1000∧0≤b∧b≤255) :
  ∃i:Nat,At l a b i∧au cc ac 89 [.v x,.i a,.i b,.v cloF] (absH aa h) [.i (Int.ofNat i),.b (isAt l a b i)] (absH aa h):=by
 obtain⟨rs,h',h1,i,rfl,rfl,h2⟩:=x89 (K:=fun rs h'=>∃i:Nat,rs=[.i (Int.ofNat i),.b (isAt l a b i)]∧h'=h∧At l a b i) (H:=h) (glsV hl.good (glsI (glsI (glsV goodF1 gls0)))) (by
  unfold p89
  simp (disch:=omega) only[↓qxs,↓qxc,↓qxa]
  refine gE hl ?_
  refine cX (m:=l.length) (fun m ls h'=>∃i j:Nat,ls=[.i (Int.ofNat i),.i (Int.ofNat j)]∧h'=h∧i≤j∧j≤l.length∧m=j - i∧(∀(k:Nat) c,l[k]? = some c→k<i→ltU c a b=true)∧∀(k:Nat) c,l[k]? = some c→j≤k→ltU c a b=false) ⟨0,l.length,rfl,rfl,by omega,by omega,by omega,fun k c _ hk=>by omega,fun k c hc hk=>by have:=cK hc;omega⟩ ?_
  rintro m ls h' ⟨i,j,rfl,rfl,hij,hj,rfl,hlo,hhi⟩ self hself
  refine hidL ?_
  simp (disch:=omega) only[↓qxs,↓qxc,↓qxa]
  by_cases hlt:i<j
  ·rw[cy hlt]
   simp (disch:=omega) only[↓qxs,↓qxc,↓qxa]
   rw[p_add (by show -9223372036854775808≤(i:Int)+j;omega) (by show(i:Int)+j≤9223372036854775807;omega)]
   refine rD (by show 0≤(i:Int)+j;omega) (by show(i:Int)+j≤9223372036854775807;omega) ?_
   refine p_half (by show 0≤(i:Int)+j;omega) ?_
   have hmid:(Int.ofNat i+Int.ofNat j) / 2=Int.ofNat ((i+j) / 2):=by simp
   rw[hmid]
   rw[p_conv (by show -9223372036854775808≤(((i+j) / 2:Nat):Int);omega) (by show(((i+j) / 2:Nat):Int)≤9223372036854775807;omega)]
   obtain⟨c,hc⟩:=dJ (l:=l) (i:=(i+j) / 2) (by omega)
   have hr:=hk c (List.mem_of_getElem? hc)
   unfold rngC at hr
   refine eX hl rfl hc ?_
   unfold encC
   simp (disch:=omega) only[↓qxs,↓qxc,↓qxa]
   obtain⟨d,hd,d1,d2⟩:=find1_c (c:=c) (a:=a) (b:=b) (by omega)
   refine oE (jL (hd _) rfl [.agg [.i .i64 c.1,.i .u8 c.2.1,.i .u8 c.2.2],.agg [.i .i64 a,.i .u8 b]] rfl rfl) ?_
   simp (disch:=omega) only[↓qxs,↓qxc,↓qxa]
   by_cases hd0:d<0
   ·have ht:=d1.1 hd0
    simp (disch:=omega) only[↓qxs,↓qxc,↓qxa]
    rw[eJ (by omega)]
    simp (disch:=omega) only[↓qxs,↓qxc,↓qxa]
    refine hself (j - ((i+j) / 2+1)) _ _ (by omega) ⟨(i+j) / 2+1,j,rfl,rfl,by omega,hj,rfl,fun k e he hk'=>?_,hhi⟩
    rcases Nat.lt_or_ge k ((i+j) / 2)with q|q
    ·have:=asc_lt hasc q he hc
     rw[iK]at ht ⊢
     simp only[ltC,Bool.or_eq_true,Bool.and_eq_true,decide_eq_true_eq]at this
     omega
    ·obtain rfl:k=(i+j) / 2:=by omega
     rw[hc]at he;cases he;exact ht
   ·have hf:ltU c a b=false:=by
     rw[←Bool.not_eq_true];intro hh;exact hd0 (d1.2 hh)
    simp (disch:=omega) only[↓qxs,↓qxc,↓qxa]
    refine hself ((i+j) / 2 - i) _ _ (by omega) ⟨i,(i+j) / 2,rfl,rfl,by omega,by omega,rfl,hlo,fun k e he hk'=>?_⟩
    rcases Nat.lt_or_ge ((i+j) / 2) k with q|q
    ·have:=asc_lt hasc q hc he
     rw[←Bool.not_eq_true,iK]at hf ⊢
     simp only[ltC,Bool.or_eq_true,Bool.and_eq_true,decide_eq_true_eq]at this
     omega
    ·obtain rfl:k=(i+j) / 2:=by omega
     rw[hc]at he;cases he;exact hf
  ·obtain rfl:i=j:=by omega
   rw[cM (Nat.le_refl _)]
   simp (disch:=omega) only[↓qxs,↓qxc,↓qxa]
   by_cases hi:i<l.length
   ·rw[cy hi]
    simp (disch:=omega) only[↓qxs,↓qxc,↓qxa]
    obtain⟨c,hc⟩:=dJ hi
    have hr:=hk c (List.mem_of_getElem? hc)
    unfold rngC at hr
    refine eX hl rfl hc ?_
    unfold encC
    simp (disch:=omega) only[↓qxs,↓qxc,↓qxa]
    obtain⟨d,hd,d1,d2⟩:=find1_c (c:=c) (a:=a) (b:=b) (by omega)
    refine oE (jL (hd _) rfl [.agg [.i .i64 c.1,.i .u8 c.2.1,.i .u8 c.2.2],.agg [.i .i64 a,.i .u8 b]] rfl rfl) ?_
    simp (disch:=omega) only[↓qxs,↓qxc,↓qxa]
    by_cases hz:d=0
    ·have:=d2.1 hz
     rw[p_eql_t hz]
     simp (disch:=omega) only[↓qxs,↓qxc,↓qxa]
     exact⟨i,by simp[isAt,hc,this.1,this.2],by trivial,hj,hlo,hhi⟩
    ·have h3:¬(c.1=a∧c.2.1=b):=fun q=>hz (d2.2 q)
     rw[p_eql_f hz]
     simp (disch:=omega) only[↓qxs,↓qxc,↓qxa]
     refine⟨i,?_,by trivial,hj,hlo,hhi⟩
     have:isAt l a b i=false:=by
      simp only[isAt,hc]
      rw[←Bool.not_eq_true]
      simpa using h3
     rw[this]
   ·rw[cM (by omega)]
    simp (disch:=omega) only[↓qxs,↓qxc,↓qxa]
    refine⟨i,?_,by trivial,hj,hlo,hhi⟩
    have:isAt l a b i=false:=by
     simp only[isAt,List.getElem?_eq_none (Nat.not_lt.1 hi)]
    rw[this])
 exact⟨i,h2,h1⟩
end Go.Am

/-
 THE KIND ACROSS AN EDGE,told of lists.
-/
set_option maxRecDepth 100000
set_option maxHeartbeats 4000000
namespace Go.Am
open Sx Go.Proofs
theorem find_c{h:HL}{x:Value}{l:List Crs}(hl:LsH h x 3 encC l)(hk:∀c∈l,rngC c)(hn:l.length≤1000)(hasc:ascC l=true){a b:Int}(hu:0≤a∧a≤1000∧0≤b∧b≤255) :
  ∃i:Nat,At l a b i∧au cc ac 67 [.v x,.i a,.i b] (absH aa h) [.i (Int.ofNat i),.b (isAt l a b i)] (absH aa h):=by
 obtain⟨i,hi,hc⟩:=bin_c hl hk hn hasc hu
 obtain⟨rs,h',h1,rfl,rfl⟩:=x67 (K:=fun rs h'=>rs=[.i (Int.ofNat i),.b (isAt l a b i)]∧h'=h) (H:=h) (glsV hl.good (glsI (glsI gls0))) (by
  unfold p67
  simp (disch:=omega) only[↓qxs,↓qxc,↓qxa]
  refine aY hc ?_
  simp (disch:=omega) only[↓qxs,↓qxc,↓qxa]
  exact⟨by trivial,by trivial⟩)
 exact⟨i,hi,h1⟩
def eqU(a b:Int)(c:Crs):Bool:=decide (c.1=a)&&decide (c.2.1=b)
def eu(l:List Crs)(a b:Int):Int:=match l.find? (eqU a b)with
 |some c=>c.2.2
 |none=>0
theorem kind_at{l:List Crs}{a b:Int}{i:Nat}(h:At l a b i)(hasc:ascC l=true):(isAt l a b i=true→∃c,l[i]? = some c∧eu l a b=c.2.2)∧(isAt l a b i=false→eu l a b=0):=by
 obtain⟨h1,h2,h3⟩:=h
 have uniq:∀(k:Nat) c,l[k]? = some c→eqU a b c=true→k=i:=by
  intro k c hc he
  simp only[eqU,Bool.and_eq_true,decide_eq_true_eq]at he
  rcases Nat.lt_trichotomy k i with q|q|q
  ·have:=h2 k c hc q
   rw[iK]at this
   omega
  ·exact q
  ·obtain⟨d,hd⟩:=dJ (l:=l) (i:=i) (by have:=cK hc;omega)
   have e1:=asc_lt hasc q hd hc
   have e2:=h3 i d hd (Nat.le_refl _)
   rw[←Bool.not_eq_true,iK]at e2
   simp only[ltC,Bool.or_eq_true,Bool.and_eq_true,decide_eq_true_eq]at e1
   omega
 have isA:isAt l a b i=true↔∃c,l[i]? = some c∧eqU a b c=true:=by
  unfold isAt eqU
  cases e:l[i]? with
  |none=>simp
  |some c=>simp
 unfold eu
 cases hf:l.find? (eqU a b)with
 |none=>
  have hno:=List.find?_eq_none.1 hf
  constructor
  ·intro ha
   obtain⟨c,hc,he⟩:=isA.1 ha
   exact absurd he (hno c (List.mem_of_getElem? hc))
  ·intro _;rfl
 |some c=>
  have hp:=List.find?_some hf
  obtain⟨k,hk⟩:=List.getElem?_of_mem (List.mem_of_find?_eq_some hf)
  have hki:=uniq k c hk hp
  subst hki
  constructor
  ·intro _;exact⟨c,hk,rfl⟩
  ·intro hn
   have:=isA.2 ⟨c,hk,hp⟩
   rw[hn]at this;cases this
structure Pat(w v:Nat)(l:List Crs):Prop where
 sheet:1≤w∧w≤5∧1≤v∧v≤5
 rng:∀c∈l,rngC c
 len:l.length≤1000
 ok:chkC (.ofNat w) (.ofNat v) l=0
theorem Pat.sm{w v:Nat}{l:List Crs}(h:Pat w v l):smS (.ofNat w) (.ofNat v):=by
 have:=h.sheet
 unfold smS
 simp only[Int.ofNat_eq_natCast]
 omega
theorem Pat.asc{w v:Nat}{l:List Crs}(h:Pat w v l):ascC l=true:=by
 have:=h.ok
 unfold chkC at this
 split at this
 ·cases this
 ·split at this
  ·cases this
  ·split at this
   ·assumption
   ·cases this
theorem Pat.check{w v:Nat}{l:List Crs}(h:Pat w v l){H:HL}{x:Value}(hl:LsH H x 3 encC l):au cc ac 18 [.i (.ofNat w),.i (.ofNat v),.v x] (absH aa H) [.i 0] (absH aa H):=by
 have:=check_c h.sm hl (fun c hc=>by
  have:=h.rng c hc
  unfold rngC at this
  unfold okC
  omega) (by have:=h.len;omega)
 rw[h.ok]at this
 exact this
theorem kind_c{w v:Nat}{l:List Crs}(hp:Pat w v l){H:HL}{x:Value}(hl:LsH H x 3 encC l){c e n:Nat}(hc:c<4*w*v)(he:e<3)(hn:nbr w v c e=some n)(hn2:n≤1000) :
  au cc ac 21 [.i (.ofNat w),.i (.ofNat v),.v x,.i (.ofNat c),.i (.ofNat e)] (absH aa H) [.i (eu l (.ofNat (min c n)) (.ofNat e)),.i 0] (absH aa H):=by
 have hsh:=hp.sheet
 have hnm:=nameIn (ma w v hsh.1 hsh.2.1 hsh.2.2.1 hsh.2.2.2) hc he
 unfold nameN at hnm
 rw[hn]at hnm
 simp only at hnm
 obtain⟨i,hi,hfi⟩:=find_c hl hp.rng hp.len hp.asc (a:=.ofNat (min c n)) (b:=.ofNat e) (by simp only[Int.ofNat_eq_natCast];omega)
 obtain⟨k1,k2⟩:=kind_at hi hp.asc
 obtain⟨rs,h',h1,e1,e2⟩:=x46 (K:=fun rs h'=>rs=[.i (.ofNat (min c n)),.i (.ofNat e),.i (.ofNat i),.b (isAt l (.ofNat (min c n)) (.ofNat e) i),.i 0]∧h'=H) (H:=H) (glsI (glsI (glsV hl.good (glsI (glsI gls0))))) (by
  unfold p46
  simp (disch:=omega) only[↓qxs,↓qxc,↓qxa]
  refine aY (hp.check hl) ?_
  simp (disch:=omega) only[↓qxs,↓qxc,↓qxa]
  refine aT hnm ?_
  simp (disch:=omega) only[↓qxs,↓qxc,↓qxa]
  refine aY hfi ?_
  simp (disch:=omega) only[↓qxs,↓qxc,↓qxa]
  exact⟨by trivial,by trivial⟩)
 rw[e1,e2]at h1
 obtain⟨rs2,h2,h3,e3,e4⟩:=x21 (K:=fun rs h'=>rs=[.i (eu l (.ofNat (min c n)) (.ofNat e)),.i 0]∧h'=H) (H:=H) (glsI (glsI (glsV hl.good (glsI (glsI gls0))))) (by
  unfold p21
  simp (disch:=omega) only[↓qxs,↓qxc,↓qxa]
  refine aY h1 ?_
  simp (disch:=omega) only[↓qxs,↓qxc,↓qxa]
  cases hb:isAt l (.ofNat (min c n)) (.ofNat e) i with
  |false=>
   simp (disch:=omega) only[↓qxs,↓qxc,↓qxa,Bool.not_false]
   rw[k2 hb]
   exact⟨by trivial,by trivial⟩
  |true=>
   obtain⟨c',hc',hkk⟩:=k1 hb
   simp (disch:=omega) only[↓qxs,↓qxc,↓qxa,Bool.not_true]
   refine r_fld (o:=2) (k:=1) (cs:=[.int .u8 c'.2.2]) hl rfl hc' rfl (by omega) ?_
   simp (disch:=omega) only[↓qxs,↓qxc,↓qxa]
   rw[hkk]
   exact⟨by trivial,by trivial⟩)
 rw[e3,e4]at h3
 exact h3
end Go.Am

/-
 STORES INTO LISTS: a block that holds a list of elements,one of them written.
-/
namespace Go.Am
namespace Sx
section
variable [Val] [Kno]
variable {C:Cfg} {Sg:FuncId→Option Sig} {T:Nat→Site} {α:Type}
def putE(h:HL)(id e:Nat)(enc:α→List Value)(l:List α):HL:=h.set id (.o (.cells (l.flatMap enc) e true))
theorem tr{h:HL}{id e:Nat}{enc:α→List Value}{l:List α}(hlt:id<h.length):(putE h id e enc l)[id]? = some (.o (.cells (l.flatMap enc) e true)):=by
 unfold putE
 rw[List.getElem?_set_self hlt]
theorem putE_put{h:HL}{id e:Nat}{enc:α→List Value}{l l':List α}:(putE h id e enc l).set id (.o (.cells (l'.flatMap enc) e true))=putE h id e enc l':=by
 unfold putE
 rw[List.set_set]
theorem iU{h:HL}{id e cx:Nat}{enc:α→List Value}(henc:∀a,(enc a).length=e){l:List α}(hlt:id<h.length):LsH (putE h id e enc l) (.slice (some ⟨id,0,tag e⟩) l.length cx) e enc l:=by
 have hl:=gt (e:=e) (enc:=enc) (l:=l) fun a _=>henc a
 exact⟨fun a _=>henc a,hl,.inr ⟨id,0,cx,_,true,rfl,tr hlt,cut_all hl⟩⟩
theorem kS{e:Nat}{enc:α→List Value}(henc:∀a,(enc a).length=e):∀ {l:List α} {i:Nat} (a:α),i<l.length→(l.flatMap enc).take (i*e)++enc a++(l.flatMap enc).drop (i*e+e)=(l.set i a).flatMap enc
 | [],_,_,h=>by simp at h
 |b :: l,0,a,_=>by
  have hb:=henc b
  simp only[Nat.zero_mul,List.take_zero,List.nil_append,Nat.zero_add,List.set_cons_zero,List.flatMap_cons]
  rw[List.drop_append,List.drop_of_length_le (by omega),List.nil_append,show e - (enc b).length=0 by omega,List.drop_zero]
 |b :: l,i+1,a,h=>by
  have hb:=henc b
  have ih:=kS henc (l:=l) (i:=i) a (by simpa using h)
  simp only[List.set_cons_succ,List.flatMap_cons]
  rw[←ih,Nat.add_mul,Nat.one_mul,List.take_append,List.drop_append]
  rw[List.take_of_length_le (by omega),List.drop_of_length_le (by omega),List.nil_append]
  rw[show i*e+e - (enc b).length=i*e by omega,show i*e+e+e - (enc b).length=i*e+e by omega]
  simp[List.append_assoc]
theorem r_set{h:HL}{id e cx len:Nat}{enc:α→List Value}(henc:∀a,(enc a).length=e){l:List α}{i:Nat}{a:α}{n:Int}{new:List Value}{K:List Value→HL→Prop}(hlt:id<h.length)(hn:n=Int.ofNat i)(hi:i<l.length)(hlen:l.length=len)(hnew:new=enc a)
  (hk:K [] (putE h id e enc (l.set i a))):(PH C Sg T).opt (idS e (.slice (some ⟨id,0,tag e⟩) len cx) n) (@hid _ ⟨fun x=>(PH C Sg T).heap (.st x new) (putE h id e enc l) (@hid _ ⟨K⟩)⟩):=by
 subst hn hlen hnew
 have hx:idS e (.slice (some ⟨id,0,tag e⟩) l.length cx) (Int.ofNat i)=some (.pointer (some ⟨id,i*e,none⟩)):=by
  rw[idS_eq]
  have hh:0≤Int.ofNat i∧Int.ofNat i<(l.length:Int):=⟨Int.natCast_nonneg i,by show(i:Int)<l.length;omega⟩
  simp only[if_pos hh]
  have:¬(tag e=some 1):=by simp[tag]
  simp only[if_neg this,Nat.zero_add]
  rfl
 refine aW hx ?_
 have hl:=gt (e:=e) (enc:=enc) (l:=l) fun a _=>henc a
 have hle:i*e+e≤l.length*e:=by
  have:=Nat.mul_le_mul_right e (show i+1≤l.length by omega)
  rw[Nat.add_mul,Nat.one_mul]at this;exact this
 have hrun:(Hp.st (.pointer (some ⟨id,i*e,none⟩)) (enc a)).run (getH T (putE h id e enc l)) (putE h id e enc l).length=some ([.set id (.cells ((l.set i a).flatMap enc) e true)],[]):=by
  show stP (.pointer (some ⟨id,i*e,none⟩)) (enc a) (getH T (putE h id e enc l)) (putE h id e enc l).length=_
  unfold stP
  simp only
  rw[eF (tr hlt)]
  simp only
  unfold splice
  rw[henc a,hl,if_pos hle,kS henc a hi]
  rfl
 refine jX hrun ?_
 show K [] (bX _ _)
 have:bX (putE h id e enc l) [.set id (.cells ((l.set i a).flatMap enc) e true)]=putE h id e enc (l.set i a):=putE_put
 rw[this]
 exact hk
end
end Sx
end Go.Am

/-
 RAYS ARE SORTED: insertion,told of lists.
-/
set_option maxRecDepth 100000
set_option maxHeartbeats 4000000
namespace Go.Am
open Sx Go.Proofs
abbrev Ray:=Int×Int
def encR(r:Ray):List Value:=[.int .i64 r.1,.int .u8 r.2]
theorem eD(r:Ray):(encR r).length=2:=rfl
def rngR(r:Ray):Prop:=0≤r.1∧r.1≤100∧0≤r.2∧r.2≤255
def insR(e:Ray):List Ray→List Ray
 | []=>[e]
 |p :: P=>if e.1<p.1 then p :: insR e P else e :: p :: P
def ip:List Ray→List Ray→List Ray
 | [],P=>P
 |e :: r,P=>ip r (insR e P)
def eP(l:List Ray):List Ray:=(ip l []).reverse
theorem jT(e:Ray):∀P,(insR e P).length=P.length+1
 | []=>rfl
 |p :: P=>by
  unfold insR
  split
  ·simp[jT e P]
  ·simp
theorem sK{e:Ray}:∀ {P:List Ray} {r:Ray},r∈insR e P→r=e∨r∈P
 | [],r,h=>by simpa[insR]using h
 |p :: P,r,h=>by
  unfold insR at h
  split at h
  ·rcases List.mem_cons.1 h with h|h
   ·exact .inr (by simp[h])
   ·rcases sK h with h|h
    ·exact .inl h
    ·exact .inr (by simp[h])
  ·rcases List.mem_cons.1 h with h|h
   ·exact .inl h
   ·exact .inr h
theorem get_mid{α:Type}(A:List α)(x:α)(R:List α):(A++x :: R)[A.length]? = some x:=by simp
theorem get_mid1{α:Type}(A:List α)(x y:α)(R:List α):(A++x :: y :: R)[A.length+1]? = some y:=by
 rw[List.getElem?_append_right (by omega)]
 simp
theorem set_mid{α:Type}(A:List α)(x y:α)(R:List α):(A++x :: R).set A.length y=A++y :: R:=by simp
theorem set_mid1{α:Type}(A:List α)(x y z:α)(R:List α):(A++x :: y :: R).set (A.length+1) z=A++x :: z :: R:=by
 rw[List.set_append_right _ _ (by omega)]
 simp
theorem cmpR_c{a b:Ray}(ha:rngR a)(hb:rngR b):Cc 23 [.i a.1,.i a.2,.i b.1,.i b.2] [.i (a.1 - b.1)]:=by
 unfold rngR at ha hb
 refine q23 rfl ?_;unfold p23
 simp (disch:=omega) only[↓qxs,↓qxc,↓qxa]
abbrev cloR:Value:=.func (.func 23) ⟨[]⟩ ⟨[]⟩
theorem ui:bj cloR=true:=rfl
theorem ins_c{h:HL}{id cx:Nat}{l:List Ray}(hlt:id<h.length)(hr:∀r∈l,rngR r)(hn:l.length≤1000) :
  au cc ac 68 [.v (.slice (some ⟨id,0,tag 2⟩) l.length cx),.i 0,.i (Int.ofNat l.length),.v cloR] (absH aa (putE h id 2 encR l)) [] (absH aa (putE h id 2 encR (eP l))):=by
 have hgood:bj (.slice (some ⟨id,0,tag 2⟩) l.length cx)=true:=(iU (cx:=cx) eD hlt (l:=l)).good
 obtain⟨rs,h',h1,e1,e2⟩:=x68 (ls:=[.v (.slice (some ⟨id,0,tag 2⟩) l.length cx),.i 0,.i (Int.ofNat l.length),.v cloR]) (K:=fun rs h'=>rs=[]∧h'=putE h id 2 encR (eP l)) (H:=putE h id 2 encR l) (glsV hgood (glsI (glsI (glsV ui gls0)))) (by
  unfold p68
  simp (disch:=omega) only[↓qxs,↓qxc,↓qxa]
  cases hl:l with
  |nil=>
   refine cX (m:=0) (fun _ ls h'=>ls=[.i 1]∧h'=putE h id 2 encR []) ⟨rfl,rfl⟩ ?_
   rintro m ls h' ⟨rfl,rfl⟩ self hself
   refine hidL ?_
   simp (disch:=omega) only[↓qxs,↓qxc,↓qxa]
   rw[p_lss_f (by decide)]
   simp (disch:=omega) only[↓qxs,↓qxc,↓qxa]
   exact⟨by trivial,rfl⟩
  |cons e0 r0=>
   rw[hl]at hr hn hgood
   refine cX (m:=r0.length) (fun m ls h'=>∃P rest,ls=[.i (Int.ofNat P.length)]∧h'=putE h id 2 encR (P.reverse++rest)∧P.length+rest.length=(e0 :: r0).length∧m=rest.length∧ip rest P=ip (e0 :: r0) []∧(∀r∈P,rngR r)∧∀r∈rest,rngR r)
    ⟨[e0],r0,rfl,rfl,by simp;omega,rfl,rfl,fun r hr'=>hr r (by simp at hr';simp[hr']),fun r hr'=>hr r (by simp[hr'])⟩ ?_
   rintro m ls h' ⟨P,rest,rfl,rfl,hlen,rfl,hs,hP,hR⟩ self hself
   refine hidL ?_
   simp (disch:=omega) only[↓qxs,↓qxc,↓qxa]
   cases hrest:rest with
   |nil=>
    rw[hrest]at hlen hs
    rw[cM (by simp only[List.length_nil]at hlen;omega)]
    simp (disch:=omega) only[↓qxs,↓qxc,↓qxa]
    refine⟨by trivial,?_⟩
    show putE h id 2 encR (P.reverse++[])=putE h id 2 encR (eP (e0 :: r0))
    have:eP (e0 :: r0)=P.reverse:=by
     unfold eP
     rw[←hs]
     rfl
    rw[this,List.append_nil]
   |cons e rest=>
    rw[hrest]at hlen hs hR hself
    have he:rngR e:=hR e List.mem_cons_self
    rw[cy (by simp only[List.length_cons]at hlen ⊢;omega)]
    simp (disch:=omega) only[↓qxs,↓qxc,↓qxa]
    refine cX (m:=P.length) (fun m ls h'=>∃A B,ls=[.i (Int.ofNat A.length)]∧h'=putE h id 2 encR (A.reverse++e :: (B++rest))∧m=A.length∧(insR e A).reverse++B=(insR e P).reverse∧(∀r∈A,rngR r)∧A.length+B.length=P.length)
     ⟨P,[],rfl,by simp,rfl,by simp,hP,by simp⟩ ?_
    rintro m ls h' ⟨A,B,rfl,rfl,rfl,hins,hA,hAB⟩ self2 hself2
    refine hidL ?_
    simp (disch:=omega) only[↓qxs,↓qxc,↓qxa]
    have fin:A.reverse++e :: B=(insR e P).reverse→self [.i (Int.ofNat P.length+1)] (putE h id 2 encR (A.reverse++e :: (B++rest))):=by
     intro hq
     refine hself rest.length _ _ (by simp) ⟨insR e P,rest,?_,?_,?_,rfl,hs,fun r hr'=>?_,fun r hr'=>hR r (by simp[hr'])⟩
     ·rw[jT];rfl
     ·rw[←hq];simp
     ·rw[jT];simp only[List.length_cons]at hlen ⊢;omega
     ·rcases sK hr' with h|h
      ·rw[h];exact he
      ·exact hP r h
    have hPl:P.length≤1000:=by simp only[List.length_cons]at hlen hn;omega
    cases hA':A with
    |nil=>
     rw[hA']at hins
     have hq:(A.reverse++e :: B)=(insR e P).reverse:=by rw[hA',←hins];rfl
     have:=fin hq
     rw[hA']at this
     rw[p_gtr_f (by simp)]
     simp (disch:=omega) only[↓qxs,↓qxc,↓qxa]
     rw[eJ (by omega)]
     exact this
    |cons p A2=>
     rw[hA']at hins hA hAB
     have hp:rngR p:=hA p List.mem_cons_self
     have hL:∀R,(p :: A2).reverse++R=A2.reverse++p :: R:=fun R=>by simp
     have hrl:A2.reverse.length=A2.length:=List.length_reverse
     have hlenL:(A2.reverse++p :: e :: (B++rest)).length=(e0 :: r0).length:=by
      simp only[List.length_append,List.length_cons,List.length_reverse]at hlen hAB ⊢
      omega
     rw[p_gtr_t (by simp only[List.length_cons,Int.ofNat_eq_natCast];omega)]
     simp (disch:=omega) only[↓qxs,↓qxc,↓qxa]
     rw[hL]
     have hls:LsH (putE h id 2 encR (A2.reverse++p :: e :: (B++rest))) (.slice (some ⟨id,0,tag 2⟩) (e0 :: r0).length cx) 2 encR (A2.reverse++p :: e :: (B++rest)):=by
      rw[←hlenL]
      exact iU eD hlt
     have g1:(A2.reverse++p :: e :: (B++rest))[A2.length+1]? = some e:=by rw[←hrl];exact get_mid1 _ _ _ _
     have g0:(A2.reverse++p :: e :: (B++rest))[A2.length]? = some p:=by rw[←hrl];exact get_mid _ _ _
     refine eX hls (by simp) g1 ?_
     unfold encR
     simp (disch:=omega) only[↓qxs,↓qxc,↓qxa]
     rw[n_sub (by simp) (by simp only[List.length_cons]at hAB ⊢;omega)]
     refine eX hls (by simp) g0 ?_
     unfold encR
     simp (disch:=omega) only[↓qxs,↓qxc,↓qxa]
     refine oE (jL (cmpR_c he hp _) rfl [.agg [.i .i64 e.1,.i .u8 e.2],.agg [.i .i64 p.1,.i .u8 p.2]] rfl rfl) ?_
     simp (disch:=omega) only[↓qxs,↓qxc,↓qxa]
     by_cases hcmp:e.1<p.1
     ·rw[p_lss_t (by omega)]
      simp (disch:=omega) only[↓qxs,↓qxc,↓qxa]
      have sub1:∀K:Int→Prop,P1.ari .sub .i64 (Int.ofNat (p :: A2).length) 1 (@hid _ ⟨K⟩)=K (Int.ofNat ((p :: A2).length - 1)):=fun K=>n_sub (by simp) (by simp only[List.length_cons]at hAB ⊢;omega)
      rw[sub1]
      rw[sub1]
      refine eX hls (by simp) g0 ?_
      unfold encR
      simp (disch:=omega) only[↓qxs,↓qxc,↓qxa]
      refine eX hls (by simp) g1 ?_
      unfold encR
      simp (disch:=omega) only[↓qxs,↓qxc,↓qxa]
      refine r_set eD (a:=p) (i:=A2.length+1) hlt (by simp) (by simp) hlenL rfl ?_
      have s1:(A2.reverse++p :: e :: (B++rest)).set (A2.length+1) p=A2.reverse++p :: p :: (B++rest):=by rw[←hrl];exact set_mid1 _ _ _ _ _
      rw[s1]
      refine r_set eD (a:=e) (i:=A2.length) hlt (by simp) (by simp) (by rw[←hlenL];simp) rfl ?_
      have s2:(A2.reverse++p :: p :: (B++rest)).set A2.length e=A2.reverse++e :: p :: (B++rest):=by rw[←hrl];exact set_mid _ _ _ _
      rw[s2]
      rw[sub1]
      refine hself2 A2.length _ _ (by rw[hA'];simp) ⟨A2,p :: B,by simp,by simp,rfl,?_,fun r hr'=>hA r (by simp[hr']),by simp only[List.length_cons]at hAB ⊢;omega⟩
      rw[←hins]
      have:insR e (p :: A2)=p :: insR e A2:=by
       show(if e.1<p.1 then p :: insR e A2 else e :: p :: A2)=_
       rw[if_pos hcmp]
      rw[this]
      simp
     ·rw[p_lss_f (by omega)]
      simp (disch:=omega) only[↓qxs,↓qxc,↓qxa]
      rw[eJ (by omega)]
      have hq:(A.reverse++e :: B)=(insR e P).reverse:=by
       rw[hA',←hins]
       unfold insR
       rw[if_neg hcmp]
       simp
      have:=fin hq
      rw[hA',hL]at this
      exact this)
 rw[e1,e2]at h1
 exact h1
end Go.Am

/-
 RAYS ARE SORTED: slices.SortFunc,for at most twelve of them.
-/
set_option maxRecDepth 100000
set_option maxHeartbeats 4000000
namespace Go.Am
open Sx Go.Proofs
def lenB(n:Nat):Nat:=if n=0 then 0 else Nat.log2 n+1
theorem len_tab:((List.range 13).all fun n=>isAns [.i (.ofNat (lenB n))] (runF 60 (.f 48) [.i (.ofNat n)] .empty tell))=true:=by kernel_rfl
theorem len_c{n:Nat}(h:n≤12):Cc 48 [.i (.ofNat n)] [.i (.ofNat (lenB n))]:=
 fy (n:=60) rfl (by kernel_rfl) rfl (List.all_eq_true.1 len_tab n (List.mem_range.2 (by omega)))
theorem pdq_c{h:HL}{id cx:Nat}{l:List Ray}(hlt:id<h.length)(hr:∀r∈l,rngR r)(hn:l.length≤12)(k:Int) :
  au cc ac 47 [.v (.slice (some ⟨id,0,tag 2⟩) l.length cx),.i 0,.i (Int.ofNat l.length),.i k,.v cloR] (absH aa (putE h id 2 encR l)) [] (absH aa (putE h id 2 encR (eP l))):=by
 have hgood:bj (.slice (some ⟨id,0,tag 2⟩) l.length cx)=true:=(iU (cx:=cx) eD hlt (l:=l)).good
 obtain⟨rs,h',h1,e1,e2⟩:=x47 (ls:=[.v (.slice (some ⟨id,0,tag 2⟩) l.length cx),.i 0,.i (Int.ofNat l.length),.i k,.v cloR]) (K:=fun rs h'=>rs=[]∧h'=putE h id 2 encR (eP l)) (H:=putE h id 2 encR l) (glsV hgood (glsI (glsI (glsI (glsV ui gls0))))) (by
  unfold p47
  simp (disch:=omega) only[↓qxs,↓qxc,↓qxa]
  refine⟨1,?_⟩
  refine hidL ?_
  simp (disch:=omega) only[↓qxs,↓qxc,↓qxa]
  have e:Int.ofNat l.length - 0=Int.ofNat l.length:=by omega
  rw[p_sub (by show -9223372036854775808≤(l.length:Int) - 0;omega) (by show(l.length:Int) - 0≤9223372036854775807;omega),e]
  rw[p_leq_t (by show(l.length:Int)≤12;omega)]
  simp (disch:=omega) only[↓qxs,↓qxc,↓qxa]
  refine aY (ins_c hlt hr (by omega)) ?_
  simp (disch:=omega) only[↓qxs,↓qxc,↓qxa]
  exact⟨by trivial,by trivial⟩)
 rw[e1,e2]at h1
 exact h1
theorem sort_c{h:HL}{id cx:Nat}{l:List Ray}(hlt:id<h.length)(hr:∀r∈l,rngR r)(hn:l.length≤12) :
  au cc ac 22 [.v (.slice (some ⟨id,0,tag 2⟩) l.length cx),.v cloR] (absH aa (putE h id 2 encR l)) [] (absH aa (putE h id 2 encR (eP l))):=by
 have hls:=iU (cx:=cx) eD hlt (l:=l)
 obtain⟨rs,h',h1,e1,e2⟩:=x22 (ls:=[.v (.slice (some ⟨id,0,tag 2⟩) l.length cx),.v cloR]) (K:=fun rs h'=>rs=[]∧h'=putE h id 2 encR (eP l)) (H:=putE h id 2 encR l) (glsV hls.good (glsV ui gls0)) (by
  unfold p22
  simp (disch:=omega) only[↓qxs,↓qxc,↓qxa]
  refine gE hls ?_
  refine rD (by show 0≤(l.length:Int);omega) (by show(l.length:Int)≤9223372036854775807;omega) ?_
  refine aT (len_c hn) ?_
  simp (disch:=omega) only[↓qxs,↓qxc,↓qxa]
  refine aY (pdq_c hlt hr hn _) ?_
  simp (disch:=omega) only[↓qxs,↓qxc,↓qxa]
  exact⟨by trivial,by trivial⟩)
 rw[e1,e2]at h1
 exact h1
theorem sort0_c(H:HL):au cc ac 22 [.v (.slice none 0 0),.v cloR] (absH aa H) [] (absH aa H):=by
 obtain⟨rs,h',h1,e1,e2⟩:=x22 (ls:=[.v (.slice none 0 0),.v cloR]) (K:=fun rs h'=>rs=[]∧h'=H) (H:=H) (glsV rfl (glsV ui gls0)) (by
  unfold p22
  simp (disch:=omega) only[↓qxs,↓qxc,↓qxa]
  refine aW (x:=(0:Int)) rfl ?_
  refine rD (by omega) (by omega) ?_
  refine aT (len_c (n:=0) (by omega)) ?_
  simp (disch:=omega) only[↓qxs,↓qxc,↓qxa]
  obtain⟨rs,h',g1,g2,g3⟩:=x47 (ls:=[.v (.slice none 0 0),.i 0,.i 0,.i (.ofNat (lenB 0)),.v cloR]) (K:=fun rs h'=>rs=[]∧h'=H) (H:=H) (glsV rfl (glsI (glsI (glsI (glsV ui gls0))))) (by
   unfold p47
   simp (disch:=omega) only[↓qxs,↓qxc,↓qxa]
   refine⟨1,?_⟩
   refine hidL ?_
   simp (disch:=omega) only[↓qxs,↓qxc,↓qxa]
   obtain⟨rs,h',g1,g2,g3⟩:=x68 (ls:=[.v (.slice none 0 0),.i 0,.i 0,.v cloR]) (K:=fun rs h'=>rs=[]∧h'=H) (H:=H) (glsV rfl (glsI (glsI (glsV ui gls0)))) (by
    unfold p68
    simp (disch:=omega) only[↓qxs,↓qxc,↓qxa]
    refine⟨1,?_⟩
    refine hidL ?_
    simp (disch:=omega) only[↓qxs,↓qxc,↓qxa]
    exact⟨by trivial,by trivial⟩)
   rw[g2,g3]at g1
   refine aY g1 ?_
   simp (disch:=omega) only[↓qxs,↓qxc,↓qxa]
   exact⟨by trivial,by trivial⟩)
  rw[g2,g3]at g1
  refine aY g1 ?_
  simp (disch:=omega) only[↓qxs,↓qxc,↓qxa]
  exact⟨by trivial,by trivial⟩)
 rw[e1,e2]at h1
 exact h1
end Go.Am

/-
 AROUND A CORNER: tables by the kernel: the cells,the edges between them,the spokes.
-/
set_option maxRecDepth 100000
namespace Go.Am
open Sx Go.Proofs
abbrev Cel:=Nat×Nat×Nat
def ring(x y:Nat):List Cel:=
 if x%2=1 then [(x / 2,y / 2,2),(x / 2,y / 2,3),(x / 2,y / 2,0),(x / 2,y / 2,1)]
 else [(x / 2,y / 2,0),(x / 2,y / 2,3),(x / 2 - 1,y / 2,1),(x / 2 - 1,y / 2,0),(x / 2 - 1,y / 2 - 1,2),(x / 2 - 1,y / 2 - 1,1),(x / 2,y / 2 - 1,3),(x / 2,y / 2 - 1,2)]
def many(x:Nat):Nat:=if x%2=1 then 4 else 8
def aR(x y j:Nat):Cel:=(ring x y).getD (j%many x) (0,0,0)
def dc(x j:Nat):Nat:=if x%2=1 then(if j%2=0 then 1 else 2)else [2,0,1,0].getD (j%4) 0
def idOf(w:Nat)(c:Cel):Nat:=4*(c.2.1*w+c.1)+c.2.2
def nT(x j:Nat):Nat:=if x%2=1 then(2*j+3)%8 else(j+1)%8
def jB(x j:Nat):Nat:=if j=0 then 3 else dc x (j - 1)
noncomputable def told(f:FuncId)(ls rs:List Lf):Bool:=isAns rs (runF 60 (.f f) ls .empty tell)
noncomputable def tchT(c:Cel)(e x y:Nat)(t:Bool):Bool:=told 42 [.i (.ofNat c.1),.i (.ofNat c.2.1),.i (.ofNat c.2.2),.i (.ofNat e),.i (.ofNat x),.i (.ofNat y)] [.b t]
noncomputable def lvT(c:Cel)(e x y:Nat)(t:Bool):Bool:=told 43 [.i (.ofNat c.1),.i (.ofNat c.2.1),.i (.ofNat c.2.2),.i (.ofNat e),.i (.ofNat x),.i (.ofNat y)] [.b t]
noncomputable def skipT(c:Cel)(l e x y:Nat):Bool:=tchT c e x y false||(tchT c e x y true&&(Nat.beq e l||(Nat.beq l 3&&lvT c e x y false)))
noncomputable def takeT(c:Cel)(l e x y:Nat):Bool:=tchT c e x y true&&(!(Nat.beq e l)&&(!(Nat.beq l 3)||lvT c e x y true))
noncomputable def stepT(w v x y j:Nat):Bool:=
 let c:=aR x y j
 let d:=aR x y (j+1)
 let e:=dc x j
 let u:=min (idOf w c) (idOf w d)
 told 41 [.i (.ofNat w),.i (.ofNat v),.i (.ofNat c.1),.i (.ofNat c.2.1),.i (.ofNat c.2.2)] [.i (.ofNat (idOf w c)),.i 0] &&
 ((List.range e).all (fun k=>skipT c (jB x j) k x y)&&(takeT c (jB x j) e x y&&(Nat.ble e 2 &&
 (told 37 [.i (.ofNat w),.i (.ofNat v),.i (.ofNat (idOf w c)),.i (.ofNat e)] [.i (.ofNat u),.i (.ofNat e),.i 0] &&
 (told 44 [.i (.ofNat w),.i (.ofNat v),.i (.ofNat u),.i (.ofNat e),.i (.ofNat x),.i (.ofNat y)] [.i (.ofNat (nT x j))] &&
 told 45 [.i (.ofNat c.1),.i (.ofNat c.2.1),.i (.ofNat c.2.2),.i (.ofNat e)] [.i (.ofNat d.1),.i (.ofNat d.2.1),.i (.ofNat d.2.2),.i 0])))))
def cg(w v x y:Nat):Bool:=Nat.blt 0 x&&(Nat.blt 0 y&&(Nat.blt x (2*w)&&(Nat.blt y (2*v)&&Nat.beq (x%2) (y%2))))
noncomputable def cornT(w v:Nat):Bool:=(List.range (2*w)).all fun x=>(List.range (2*v)).all fun y=>!(cg w v x y)||(List.range (many x)).all fun j=>stepT w v x y j
theorem corn_all:∀w v:Nat,1≤w→w≤4→1≤v→v≤4→cornT w v=true:=by
 have key:((List.range 4).all fun w=>(List.range 4).all fun v=>cornT (w+1) (v+1))=true:=by kernel_rfl
 intro w v h1 h2 h3 h4
 have h5:=List.all_eq_true.1 key (w - 1) (List.mem_range.2 (by omega))
 have h6:=List.all_eq_true.1 h5 (v - 1) (List.mem_range.2 (by omega))
 have e1:w - 1+1=w:=by omega
 have e2:v - 1+1=v:=by omega
 rw[e1,e2]at h6
 exact h6
theorem ee{f:FuncId}{ls rs:List Lf}{sg:Sig}(h:told f ls rs=true)(hs:ac f=some sg)(hp:sg.plain=true)(hg:aQ ls=true):Cc f ls rs:=fy (n:=60) hs hp hg h
structure Step(w v x y j:Nat):Prop where
 id:Cc 41 [.i (.ofNat w),.i (.ofNat v),.i (.ofNat (aR x y j).1),.i (.ofNat (aR x y j).2.1),.i (.ofNat (aR x y j).2.2)] [.i (.ofNat (idOf w (aR x y j))),.i 0]
 skip:∀k,k<dc x j→Cc 42 [.i (.ofNat (aR x y j).1),.i (.ofNat (aR x y j).2.1),.i (.ofNat (aR x y j).2.2),.i (.ofNat k),.i (.ofNat x),.i (.ofNat y)] [.b false]∨
  (Cc 42 [.i (.ofNat (aR x y j).1),.i (.ofNat (aR x y j).2.1),.i (.ofNat (aR x y j).2.2),.i (.ofNat k),.i (.ofNat x),.i (.ofNat y)] [.b true]∧(k=jB x j∨
   (jB x j=3∧Cc 43 [.i (.ofNat (aR x y j).1),.i (.ofNat (aR x y j).2.1),.i (.ofNat (aR x y j).2.2),.i (.ofNat k),.i (.ofNat x),.i (.ofNat y)] [.b false])))
 take:Cc 42 [.i (.ofNat (aR x y j).1),.i (.ofNat (aR x y j).2.1),.i (.ofNat (aR x y j).2.2),.i (.ofNat (dc x j)),.i (.ofNat x),.i (.ofNat y)] [.b true]
 ne:dc x j≠jB x j
 lv:jB x j=3→Cc 43 [.i (.ofNat (aR x y j).1),.i (.ofNat (aR x y j).2.1),.i (.ofNat (aR x y j).2.2),.i (.ofNat (dc x j)),.i (.ofNat x),.i (.ofNat y)] [.b true]
 le:dc x j≤2
 name:Cc 37 [.i (.ofNat w),.i (.ofNat v),.i (.ofNat (idOf w (aR x y j))),.i (.ofNat (dc x j))] [.i (.ofNat (min (idOf w (aR x y j)) (idOf w (aR x y (j+1))))),.i (.ofNat (dc x j)),.i 0]
 dir:Cc 44 [.i (.ofNat w),.i (.ofNat v),.i (.ofNat (min (idOf w (aR x y j)) (idOf w (aR x y (j+1))))),.i (.ofNat (dc x j)),.i (.ofNat x),.i (.ofNat y)] [.i (.ofNat (nT x j))]
 next:Cc 45 [.i (.ofNat (aR x y j).1),.i (.ofNat (aR x y j).2.1),.i (.ofNat (aR x y j).2.2),.i (.ofNat (dc x j))] [.i (.ofNat (aR x y (j+1)).1),.i (.ofNat (aR x y (j+1)).2.1),.i (.ofNat (aR x y (j+1)).2.2),.i 0]
theorem step_of{w v x y j:Nat}(h:stepT w v x y j=true):Step w v x y j:=by
 unfold stepT at h
 simp only[Bool.and_eq_true]at h
 obtain⟨h1,h2,h3,h4,h5,h6,h7⟩:=h
 unfold takeT at h3
 simp only[Bool.and_eq_true,Bool.or_eq_true,Bool.not_eq_true',Nat.beq_eq_true_eq]at h3
 obtain⟨t1,t2,t3⟩:=h3
 refine⟨ee h1 rfl (by kernel_rfl) rfl,fun k hk=>?_,ee t1 rfl (by kernel_rfl) rfl,?_,fun hl=>?_,Nat.le_of_ble_eq_true h4,ee h5 rfl (by kernel_rfl) rfl,ee h6 rfl (by kernel_rfl) rfl,ee h7 rfl (by kernel_rfl) rfl⟩
 ·have hs:=List.all_eq_true.1 h2 k (List.mem_range.2 hk)
  unfold skipT at hs
  simp only[Bool.and_eq_true,Bool.or_eq_true]at hs
  rcases hs with hs|⟨q1,q2|⟨q2,q3⟩⟩
  ·exact .inl (ee hs rfl (by kernel_rfl) rfl)
  ·exact .inr ⟨ee q1 rfl (by kernel_rfl) rfl,.inl (Nat.eq_of_beq_eq_true q2)⟩
  ·exact .inr ⟨ee q1 rfl (by kernel_rfl) rfl,.inr ⟨Nat.eq_of_beq_eq_true q2,ee q3 rfl (by kernel_rfl) rfl⟩⟩
 ·intro e
  rw[e]at t2
  rw[Nat.beq_refl]at t2
  cases t2
 ·rcases t3 with t3|t3
  ·rw[hl]at t3;cases t3
  ·exact ee t3 rfl (by kernel_rfl) rfl
theorem tF{w v x y:Nat}(h1:1≤w∧w≤4∧1≤v∧v≤4)(h2:cg w v x y=true){j:Nat}(hj:j<many x):Step w v x y j:=by
 have h:=corn_all w v h1.1 h1.2.1 h1.2.2.1 h1.2.2.2
 have h3:=h2
 unfold cg at h3
 simp only[Bool.and_eq_true,Nat.blt_eq]at h3
 have h4:=List.all_eq_true.1 (List.all_eq_true.1 h x (List.mem_range.2 (by omega))) y (List.mem_range.2 (by omega))
 rw[h2]at h4
 simp only[Bool.not_true,Bool.false_or]at h4
 exact step_of (List.all_eq_true.1 h4 j (List.mem_range.2 hj))
end Go.Am

/-
 AROUND A CORNER: the iterator makes a round for each cell.
-/
set_option maxRecDepth 100000
set_option maxHeartbeats 4000000
namespace Go.Am
open Sx Go.Proofs
theorem cj{h:HL}{p:Value}{cs:List Value}{n:Nat}{K:List Value→Prop}(hp:Ptr h p cs)(hn:cs.length=n)(hk:K cs):P1.peek (.lg cc n p) h (@hid _ ⟨K⟩):=jY (hp.lg hn) hk
theorem fA{h:HL}{p:Value}{cs ds:List Value}{o k:Nat}{K:List Value→Prop}(hp:Ptr h p cs)(hok:o+k≤cs.length)(hd:ds=(cs.drop o).take k)(hk:K ds) :
  P1.opt (fdP o p) (@hid _ ⟨fun y=>P1.chk y (@hid _ ⟨P1.peek (.lg cc k y) h (@hid _ ⟨K⟩)⟩)⟩):=by
 obtain⟨q,h3,h4⟩:=hp.fd o k hok
 subst hd
 have hlen:((cs.drop o).take k).length=k:=by rw[List.length_take,List.length_drop];omega
 refine aW h3 ?_
 show bj q=true∧_
 exact⟨h4.good,jY (h4.lg hlen) hk⟩
theorem sc(x y:Nat):aR x y (many x)=aR x y 0:=by
 unfold aR
 rw[Nat.mod_self,Nat.zero_mod]
theorem ne8{j:Nat}(x y:Nat)(h1:0<j)(h2:j<many x)(hx:0<x)(hy:0<y)(hxy:x%2=y%2):aR x y j≠aR x y 0:=by
 unfold aR many ring at *
 by_cases hp:x%2=1
 ·simp only[hp,if_true]at h2 ⊢
  have:j=1∨j=2∨j=3:=by omega
  rcases this with rfl|rfl|rfl<;>simp
 ·simp only[hp,if_false]at h2 ⊢
  have:j=1∨j=2∨j=3∨j=4∨j=5∨j=6∨j=7:=by omega
  rcases this with rfl|rfl|rfl|rfl|rfl|rfl|rfl<;>simp<;>omega
abbrev spkL(w x y j:Nat):List S0:=[.leaf (.i .i64 (.ofNat (idOf w (aR x y j)))),.agg [.i .i64 (.ofNat (nT x j)),.i .i64 (.ofNat (min (idOf w (aR x y j)) (idOf w (aR x y (j+1))))),.i .u8 (.ofNat (dc x j))]]
theorem start_at{x y:Nat}:aR x y 0=(x / 2,y / 2,if x%2=1 then 2 else 0):=by
 unfold aR many ring
 by_cases hp:x%2=1<;>simp[hp]
theorem many_pos(x:Nat):0<many x:=by unfold many;split<;>omega
theorem eqs3_t{a b c:Int}{K:Bool→Prop}:P1.eqs [(.i a,.i a),(.i b,.i b),(.i c,.i c)] (@hid _ ⟨K⟩)=K true:=by
 show K (bZ _)=K true
 simp[bZ,fW]
theorem cel_ext{c d:Cel}(h:Int.ofNat c.1=Int.ofNat d.1∧Int.ofNat c.2.1=Int.ofNat d.2.1∧Int.ofNat c.2.2=Int.ofNat d.2.2):c=d:=by
 obtain⟨h1,h2,h3⟩:=h
 exact Prod.ext (Int.ofNat.inj h1) (Prod.ext (Int.ofNat.inj h2) (Int.ofNat.inj h3))
theorem walk_c{w v x y:Nat}(hsh:1≤w∧w≤4∧1≤v∧v≤4)(hcor:cg w v x y=true){l:Nat}{pa ps:Value}(J:Nat→HL→Prop)
  (hP:∀j h,J j h→Ptr h pa [.int .i64 (.ofNat x),.int .i64 (.ofNat y)]∧Ptr h ps [.int .i64 (.ofNat w),.int .i64 (.ofNat v)])
  (hY:∀j,j<many x→∀h,J j h→∃h',ey cc l (ah (spkL w x y j)) (absH aa h) (.bool true) (absH aa h')∧J (j+1) h') {h0:HL} (h0J:J 0 h0) :
  ∃h',au cc ac 40 [.v (.func (.yield l) #[] #[]),.v pa,.v ps] (absH aa h0) [] (absH aa h')∧J (many x) h':=by
 have hc2:=hcor
 unfold cg at hc2
 simp only[Bool.and_eq_true,Nat.blt_eq]at hc2
 obtain⟨hx0,hy0,hx1,hy1,hxy⟩:=hc2
 have hxy:=Nat.eq_of_beq_eq_true hxy
 obtain⟨rs,h',h1,rfl,hJ⟩:=x40 (ls:=[.v (.func (.yield l) #[] #[]),.v pa,.v ps]) (K:=fun rs h'=>rs=[]∧J (many x) h') (H:=h0) (glsV rfl (glsV (hP 0 h0 h0J).1.good (glsV (hP 0 h0 h0J).2.good gls0))) (by
  unfold p40
  have hpa:=(hP 0 h0 h0J).1
  simp (disch:=omega) only[↓qxs,↓qxc,↓qxa]
  refine fA hpa (o:=0) (k:=1) (ds:=[.int .i64 (.ofNat x)]) (by simp) rfl ?_
  simp (disch:=omega) only[↓qxs,↓qxc,↓qxa]
  rw[p_quo_nn (by simp) (by decide) (by simp only[Int.ofNat_eq_natCast];omega)]
  refine fA hpa (o:=1) (k:=1) (ds:=[.int .i64 (.ofNat y)]) (by simp) rfl ?_
  simp (disch:=omega) only[↓qxs,↓qxc,↓qxa]
  rw[p_quo_nn (by simp) (by decide) (by simp only[Int.ofNat_eq_natCast];omega)]
  refine fA hpa (o:=0) (k:=1) (ds:=[.int .i64 (.ofNat x)]) (by simp) rfl ?_
  simp (disch:=omega) only[↓qxs,↓qxc,↓qxa]
  rw[p_rem_nn (by simp) (by decide)]
  have key:∀B:List Lf→HL→Prop,B [.i (Int.ofNat (aR x y 0).1),.i (Int.ofNat (aR x y 0).2.1),.i (Int.ofNat (aR x y 0).2.2)] h0→P1.cmp .neq (Int.ofNat x%2) 0 (@hid _ ⟨fun t27=>P1.join (@hid _ ⟨B⟩) (@hid _ ⟨fun j191=>P1.cond t27 (@hid _ ⟨j191 [(.i (Int.ofNat x / 2)),(.i (Int.ofNat y / 2)),(.i 2)] h0⟩) (@hid _ ⟨j191 [(.i (Int.ofNat x / 2)),(.i (Int.ofNat y / 2)),(.i 0)] h0⟩)⟩)⟩):=by
   intro B hB
   rw[start_at]at hB
   by_cases hp:x%2=1
   ·rw[if_pos hp]at hB
    rw[p_neq_t (by simp only[Int.ofNat_eq_natCast];omega)]
    exact⟨fun _=>hB,fun h=>by cases h⟩
   ·rw[if_neg hp]at hB
    rw[p_neq_f (by simp only[Int.ofNat_eq_natCast];omega)]
    exact⟨fun h=>(by cases h),fun _=>hB⟩
  refine key _ ?_
  simp (disch:=omega) only[↓qxs,↓qxc,↓qxa]
  refine cX (m:=many x) (fun m ls h=>∃j,j<many x∧m=many x - j∧ls=[.i (Int.ofNat (jB x j)),.i (Int.ofNat (aR x y j).1),.i (Int.ofNat (aR x y j).2.1),.i (Int.ofNat (aR x y j).2.2)]∧J j h) ⟨0,many_pos x,rfl,rfl,h0J⟩ ?_
  rintro m ls H ⟨j,hj,rfl,rfl,hJ⟩ self hself
  refine hidL ?_
  have st:=tF hsh hcor hj
  simp (disch:=omega) only[↓qxs,↓qxc,↓qxa]
  refine cj (hP j H hJ).2 rfl ?_
  simp (disch:=omega) only[↓qxs,↓qxc,↓qxa]
  refine aT st.id ?_
  simp (disch:=omega) only[↓qxs,↓qxc,↓qxa]
  refine cX (m:=dc x j) (fun m ls h=>∃k,k≤dc x j∧m=dc x j - k∧ls=[.i (Int.ofNat (jB x j)),.i (Int.ofNat k),.i (Int.ofNat (aR x y j).1),.i (Int.ofNat (aR x y j).2.1),.i (Int.ofNat (aR x y j).2.2)]∧h=H) ⟨0,Nat.zero_le _,rfl,rfl,rfl⟩ ?_
  rintro m2 ls2 h2 ⟨k,hk,rfl,rfl,rfl⟩ self2 hself2
  refine hidL ?_
  have hle:=st.le
  simp (disch:=omega) only[↓qxs,↓qxc,↓qxa]
  rw[p_lss_t (by simp only[Int.ofNat_eq_natCast];omega)]
  simp (disch:=omega) only[↓qxs,↓qxc,↓qxa]
  refine cj (hP j h2 hJ).1 rfl ?_
  simp (disch:=omega) only[↓qxs,↓qxc,↓qxa]
  by_cases hkl:k<dc x j
  ·have again:self2 [.i (Int.ofNat (jB x j)),.i (Int.ofNat k+1),.i (Int.ofNat (aR x y j).1),.i (Int.ofNat (aR x y j).2.1),.i (Int.ofNat (aR x y j).2.2)] h2:=hself2 (dc x j - (k+1)) _ _ (by omega) ⟨k+1,by omega,rfl,rfl,rfl⟩
   have add1:∀K:Int→Prop,P1.ari .add .u8 (Int.ofNat k) 1 (@hid _ ⟨K⟩)=K (Int.ofNat k+1):=fun K=>p_add8 (by simp only[Int.ofNat_eq_natCast];omega) (by simp only[Int.ofNat_eq_natCast];omega)
   rcases st.skip k hkl with ht|⟨ht,hs⟩
   ·refine aT ht ?_
    simp (disch:=omega) only[↓qxs,↓qxc,↓qxa,Bool.not_false]
    rw[add1]
    exact again
   ·refine aT ht ?_
    simp (disch:=omega) only[↓qxs,↓qxc,↓qxa,Bool.not_true]
    by_cases hkk:k=jB x j
    ·rw[p_eql_t (by rw[hkk])]
     simp (disch:=omega) only[↓qxs,↓qxc,↓qxa]
     rw[add1]
     exact again
    ·have h3:jB x j=3∧Cc 43 [.i (.ofNat (aR x y j).1),.i (.ofNat (aR x y j).2.1),.i (.ofNat (aR x y j).2.2),.i (.ofNat k),.i (.ofNat x),.i (.ofNat y)] [.b false]:=by
      rcases hs with hs|hs
      ·exact absurd hs hkk
      ·exact hs
     rw[p_eql_f (by simp only[Int.ofNat_eq_natCast];omega)]
     simp (disch:=omega) only[↓qxs,↓qxc,↓qxa]
     rw[p_eql_t (by rw[h3.1];rfl)]
     simp (disch:=omega) only[↓qxs,↓qxc,↓qxa]
     refine cj (hP j h2 hJ).1 rfl ?_
     simp (disch:=omega) only[↓qxs,↓qxc,↓qxa]
     refine aT h3.2 ?_
     simp (disch:=omega) only[↓qxs,↓qxc,↓qxa,Bool.not_false]
     rw[add1]
     exact again
  ·obtain rfl:k=dc x j:=by omega
   refine aT st.take ?_
   simp (disch:=omega) only[↓qxs,↓qxc,↓qxa,Bool.not_true]
   have hne:=st.ne
   rw[p_eql_f (by simp only[Int.ofNat_eq_natCast];omega)]
   simp (disch:=omega) only[↓qxs,↓qxc,↓qxa]
   by_cases h3:jB x j=3
   ·rw[p_eql_t (by rw[h3];rfl)]
    simp (disch:=omega) only[↓qxs,↓qxc,↓qxa]
    refine cj (hP j h2 hJ).1 rfl ?_
    simp (disch:=omega) only[↓qxs,↓qxc,↓qxa]
    refine aT (st.lv h3) ?_
    simp (disch:=omega) only[↓qxs,↓qxc,↓qxa,Bool.not_true]
    refine cj (hP j h2 hJ).2 rfl ?_
    simp (disch:=omega) only[↓qxs,↓qxc,↓qxa]
    refine aT st.name ?_
    simp (disch:=omega) only[↓qxs,↓qxc,↓qxa]
    refine cj (hP j h2 hJ).2 rfl ?_
    simp (disch:=omega) only[↓qxs,↓qxc,↓qxa]
    refine cj (hP j h2 hJ).1 rfl ?_
    simp (disch:=omega) only[↓qxs,↓qxc,↓qxa]
    refine aT st.dir ?_
    simp (disch:=omega) only[↓qxs,↓qxc,↓qxa]
    obtain⟨H',hu,hJ'⟩:=hY j hj h2 hJ
    refine p_callY (ys:=spkL w x y j) hu ?_
    simp (disch:=omega) only[↓qxs,↓qxc,↓qxa,Bool.not_true]
    refine aT st.next ?_
    simp (disch:=omega) only[↓qxs,↓qxc,↓qxa]
    by_cases hlast:j+1=many x
    ·rw[hlast,sc]
     rw[eqs3_t]
     simp (disch:=omega) only[↓qxs,↓qxc,↓qxa]
     refine⟨by trivial,?_⟩
     rw[←hlast];exact hJ'
    ·have hne:aR x y (j+1)≠aR x y 0:=ne8 x y (by omega) (by omega) hx0 hy0 hxy
     rw[p_eqs3_f (fun hq=>hne (cel_ext hq))]
     simp (disch:=omega) only[↓qxs,↓qxc,↓qxa]
     exact hself (many x - (j+1)) _ _ (by omega) ⟨j+1,by omega,rfl,rfl,hJ'⟩
   ·rw[p_eql_f (by simp only[Int.ofNat_eq_natCast];omega)]
    simp (disch:=omega) only[↓qxs,↓qxc,↓qxa]
    refine cj (hP j h2 hJ).2 rfl ?_
    simp (disch:=omega) only[↓qxs,↓qxc,↓qxa]
    refine aT st.name ?_
    simp (disch:=omega) only[↓qxs,↓qxc,↓qxa]
    refine cj (hP j h2 hJ).2 rfl ?_
    simp (disch:=omega) only[↓qxs,↓qxc,↓qxa]
    refine cj (hP j h2 hJ).1 rfl ?_
    simp (disch:=omega) only[↓qxs,↓qxc,↓qxa]
    refine aT st.dir ?_
    simp (disch:=omega) only[↓qxs,↓qxc,↓qxa]
    obtain⟨H',hu,hJ'⟩:=hY j hj h2 hJ
    refine p_callY (ys:=spkL w x y j) hu ?_
    simp (disch:=omega) only[↓qxs,↓qxc,↓qxa,Bool.not_true]
    refine aT st.next ?_
    simp (disch:=omega) only[↓qxs,↓qxc,↓qxa]
    by_cases hlast:j+1=many x
    ·rw[hlast,sc]
     rw[eqs3_t]
     simp (disch:=omega) only[↓qxs,↓qxc,↓qxa]
     refine⟨by trivial,?_⟩
     rw[←hlast];exact hJ'
    ·have hne:aR x y (j+1)≠aR x y 0:=ne8 x y (by omega) (by omega) hx0 hy0 hxy
     rw[p_eqs3_f (fun hq=>hne (cel_ext hq))]
     simp (disch:=omega) only[↓qxs,↓qxc,↓qxa]
     exact hself (many x - (j+1)) _ _ (by omega) ⟨j+1,by omega,rfl,rfl,hJ'⟩ )
 exact⟨h',h1,hJ⟩
end Go.Am

/-
 A ROUND OF corners.Creases: the ray of a spoke,if there is a crease.
-/
set_option maxRecDepth 100000
set_option maxHeartbeats 4000000
namespace Go.Am
open Sx Go.Proofs
def gF(l:List Crs)(d u e:Nat):List Ray:=if eu l (.ofNat u) (.ofNat e)=0 then []else [(.ofNat d,eu l (.ofNat u) (.ofNat e))]
structure RF(H:HL)(n0 a b L w v:Nat)(x:Value)(l:List Crs):Prop where
 len:H.length=n0
 ha:H[a]? = some (.o (.cells [.int .i64 (.ofNat w),.int .i64 (.ofNat v),x] 3 true))
 hx:LsH H x 3 encC l
 xb:blk x≠some b
 xL:blk x≠some L
 ab:a≠b
 aL:a≠L
 bL:b≠L
 lt:a<n0∧b<n0∧L<n0
structure RS(H:HL)(n0 a b L:Nat)(R:List Ray)(h:HL):Prop where
 old:∀(i:Nat) o,i≠b→i≠L→H[i]? = some o→h[i]? = some o
 len:n0≤h.length
 out:∃xo,h[b]? = some (.o (.cells [xo] 1 true))∧MkL n0 h xo 2 encR R∧bj xo=true
 lp:h[L]? = some (.lp 112 .ready none [.pointer (some ⟨a,0,none⟩),.pointer (some ⟨b,0,none⟩)])
theorem dm{h:HL}{a:Nat}{cs:List Value}{e:Nat}{rw':Bool}(ha:h[a]? = some (.o (.cells cs e rw'))):Ptr h (.pointer (some ⟨a,0,none⟩)) cs:=
 ⟨a,0,cs,e,rw',rfl,ha,gS.2 ⟨by omega,by simp⟩⟩
theorem st_run{h:HL}{id e:Nat}{cs new:List Value}(hg:h[id]? = some (.o (.cells cs e true)))(hl:new.length=cs.length):(Hp.st (.pointer (some ⟨id,0,none⟩)) new).run (getH aa h) h.length=some ([.set id (.cells new e true)],[]):=by
 show stP (.pointer (some ⟨id,0,none⟩)) new (getH aa h) h.length=_
 unfold stP
 simp only
 rw[eF hg]
 simp only
 unfold splice
 rw[if_pos (by omega)]
 simp[hl]
theorem round_c{H:HL}{n0 a b L w v:Nat}{x:Value}{l:List Crs}(hF:RF H n0 a b L w v x l)(hp:Pat w v l){R:List Ray}(hR:R.length≤100){h:HL}(hS:RS H n0 a b L R h){c d u e n:Nat}(hc:u<4*w*v)(he:e<3)(hn:nbr w v u e=some n)(hun:u<n)(hn2:n≤1000) :
  ∃h',ey cc L (ah [.leaf (.i .i64 (.ofNat c)),.agg [.i .i64 (.ofNat d),.i .i64 (.ofNat u),.i .u8 (.ofNat e)]]) (absH aa h) (.bool true) (absH aa h')∧RS H n0 a b L (R++gF l d u e) h':=by
 obtain⟨xo,hb,hmk,hgx⟩:=hS.out
 have hx2:bj x=true:=hF.hx.good
 obtain⟨bb,h',hu,hK1,hK2⟩:=xy112 (K:=fun rs h'=>rs=[.b true]∧RS H n0 a b L (R++gF l d u e) h') (ys:=[.leaf (.i .i64 (.ofNat c)),.agg [.i .i64 (.ofNat d),.i .i64 (.ofNat u),.i .u8 (.ofNat e)]]) (ls:=[.i (.ofNat c),.i (.ofNat d),.i (.ofNat u),.i (.ofNat e)]) hS.lp ⟨rfl,rfl,by
   intro y hy z hz
   simp only[List.mem_cons,List.not_mem_nil,or_false]at hy
   rcases hy with rfl|rfl<;>simp only[S0.cells,List.mem_cons,List.not_mem_nil,or_false]at hz
   ·subst hz;trivial
   ·rcases hz with rfl|rfl|rfl<;>trivial⟩ (by
  unfold py112
  simp (disch:=omega) only[↓qxs,↓qxc,↓qxa]
  refine cC rfl ?_
  simp (disch:=omega) only[↓qxs,↓qxc,↓qxa]
  refine cC rfl ?_
  simp (disch:=omega) only[↓qxs,↓qxc,↓qxa]
  have hnew:(h++[HO.o (.cells [.int .i64 0,.int .i64 0,.int .u8 0] 3 true)])[h.length]? = some (.o (.cells [.int .i64 0,.int .i64 0,.int .u8 0] 3 true)):=by simp
  refine jX (acts:=[.set h.length (.cells [.int .i64 (.ofNat d),.int .i64 (.ofNat u),.int .u8 (.ofNat e)] 3 true)]) (cs:=[]) (st_run hnew rfl) ?_
  have e1:bX (h++[HO.o (.cells [.int .i64 0,.int .i64 0,.int .u8 0] 3 true)]) [.set h.length (.cells [.int .i64 (.ofNat d),.int .i64 (.ofNat u),.int .u8 (.ofNat e)] 3 true)]=h++[HO.o (.cells [.int .i64 (.ofNat d),.int .i64 (.ofNat u),.int .u8 (.ofNat e)] 3 true)]:=by
   show(h++[_]).set h.length _=_
   simp
  rw[e1]
  have hLlt:L<h.length:=cK hS.lp
  refine p_lp1 (κ:=112) (pd:=none) (vs:=[.pointer (some ⟨a,0,none⟩),.pointer (some ⟨b,0,none⟩)]) (by rw[List.getElem?_append_left hLlt];exact hS.lp) ?_
  have facts:∃h3,h3=(h++[HO.o (.cells [.int .i64 (.ofNat d),.int .i64 (.ofNat u),.int .u8 (.ofNat e)] 3 true)]).set L (.lp 112 .busy none [.pointer (some ⟨a,0,none⟩),.pointer (some ⟨b,0,none⟩)])∧(∀(i:Nat) o,i≠L→h[i]? = some o→h3[i]? = some o)∧h3[h.length]? = some (.o (.cells [.int .i64 (.ofNat d),.int .i64 (.ofNat u),.int .u8 (.ofNat e)] 3 true))∧h3[L]? = some (.lp 112 .busy none [.pointer (some ⟨a,0,none⟩),.pointer (some ⟨b,0,none⟩)])∧h3.length=h.length+1:=by
   refine⟨_,rfl,fun i o hi ho=>?_,?_,?_,by simp⟩
   ·rw[List.getElem?_set_ne (Ne.symm hi),List.getElem?_append_left (cK ho)];exact ho
   ·rw[List.getElem?_set_ne (by omega)];simp
   ·rw[List.getElem?_set_self (by simp;omega)]
  obtain⟨h3,hh3,f1,f2,f3,f4⟩:=facts
  rw[←hh3]
  have ha3:=f1 a _ hF.aL (hS.old a _ hF.ab hF.aL hF.ha)
  refine cj (dm ha3) rfl ?_
  simp (disch:=omega) only[↓qxs,↓qxc,↓qxa]
  refine cC hx2 ?_
  simp (disch:=omega) only[↓qxs,↓qxc,↓qxa]
  obtain⟨q,q1,q2⟩:=(dm f2).fd 1 2 (by simp)
  refine aW q1 (cC q2.good ?_)
  refine fA q2 (o:=0) (k:=1) (ds:=[.int .i64 (.ofNat u)]) (by simp) rfl ?_
  simp (disch:=omega) only[↓qxs,↓qxc,↓qxa]
  refine aW q1 (cC q2.good ?_)
  refine fA q2 (o:=1) (k:=1) (ds:=[.int .u8 (.ofNat e)]) (by simp) rfl ?_
  simp (disch:=omega) only[↓qxs,↓qxc,↓qxa]
  have hls3:LsH h3 x 3 encC l:=hF.hx.keep fun j o hj hbj=>f1 j o (fun q=>hF.xL (by rw[hbj,q])) (hS.old j o (fun q=>hF.xb (by rw[hbj,q])) (fun q=>hF.xL (by rw[hbj,q])) hj)
  have hkd:=kind_c hp hls3 hc he hn hn2
  rw[Nat.min_eq_left (by omega:u≤n)]at hkd
  refine aY hkd ?_
  simp (disch:=omega) only[↓qxs,↓qxc,↓qxa]
  by_cases hk0:eu l (.ofNat u) (.ofNat e)=0
  ·rw[p_neq_f hk0]
   simp (disch:=omega) only[↓qxs,↓qxc,↓qxa]
   refine p_lp2 f3 ?_
   simp (disch:=omega) only[↓qxs,↓qxc,↓qxa]
   refine⟨by trivial,?_⟩
   have hray:gF l d u e=[]:=if_pos hk0
   rw[hray,List.append_nil]
   refine⟨fun i o hi1 hi2 ho=>?_,by rw[List.length_set,f4];have:=hS.len;omega,⟨xo,?_,hmk.keep fun j o hj hbj=>?_,hgx⟩,?_⟩
   ·rw[List.getElem?_set_ne (Ne.symm hi2)];exact f1 i o hi2 (hS.old i o hi1 hi2 ho)
   ·rw[List.getElem?_set_ne (Ne.symm hF.bL)];exact f1 b _ hF.bL hb
   ·have:=(sa hmk.2 hbj).1
    have hLn:=hF.lt.2.2
    rw[List.getElem?_set_ne (by omega)];exact f1 j o (by omega) hj
   ·rw[List.getElem?_set_self (by rw[f4];omega)]
  ·rw[p_neq_t hk0]
   simp (disch:=omega) only[↓qxs,↓qxc,↓qxa]
   have hb3:=f1 b _ hF.bL hb
   refine cj (dm hb3) rfl ?_
   simp (disch:=omega) only[↓qxs,↓qxc,↓qxa]
   refine cC hgx ?_
   simp (disch:=omega) only[↓qxs,↓qxc,↓qxa]
   refine fA (dm f2) (o:=0) (k:=1) (ds:=[.int .i64 (.ofNat d)]) (by simp) rfl ?_
   simp (disch:=omega) only[↓qxs,↓qxc,↓qxa]
   have hl0:(h3.take n0).length=n0:=by rw[List.length_take,f4];have:=hS.len;omega
   have hmk3:MkL (h3.take n0).length h3 xo 2 encR R:=by
    rw[hl0]
    exact hmk.keep fun j o hj hbj=>f1 j o (by have:=(sa hmk.2 hbj).1;have:=hF.lt.2.2;omega) hj
   refine p_app1 (h0:=h3.take n0) (a:=(.ofNat d,eu l (.ofNat u) (.ofNat e))) ⟨h3.drop n0,by simp⟩ hmk3 rfl rfl rfl rfl (by
    unfold cp
    rw[Bool.and_eq_true,Nat.ble_eq,Nat.ble_eq]
    omega) fun v' h' hp' hm' hg' hold hblk=>?_
   have nb:∀i,i<n0→blk xo≠some i:=fun i hi hq=>by have:=(sa hmk.2 hq).1;omega
   simp (disch:=omega) only[↓qxs,↓qxc,↓qxa]
   refine cC hg' ?_
   simp (disch:=omega) only[↓qxs,↓qxc,↓qxa]
   have hb':=hold b _ hb3 (nb b hF.lt.2.1)
   refine jX (st_run hb' rfl) ?_
   have e2:bX h' [.set b (.cells [v'] 1 true)]=h'.set b (.o (.cells [v'] 1 true)):=rfl
   rw[e2]
   simp (disch:=omega) only[↓qxs,↓qxc,↓qxa]
   have hL':=hold L _ f3 (nb L hF.lt.2.2)
   refine p_lp2 (by rw[List.getElem?_set_ne hF.bL];exact hL') ?_
   simp (disch:=omega) only[↓qxs,↓qxc,↓qxa]
   refine⟨by trivial,?_⟩
   have hray:gF l d u e=[(.ofNat d,eu l (.ofNat u) (.ofNat e))]:=if_neg hk0
   rw[hray]
   rw[hl0]at hm'
   have hbl:=cK hb'
   have hLl:=cK hL'
   have hlen':n0≤h'.length:=by have:=hp'.len;rw[hl0]at this;exact this
   refine⟨fun i o hi1 hi2 ho=>?_,by rw[List.length_set,List.length_set];exact hlen',⟨v',?_,hm'.keep fun j o hj hbj=>?_,hg'⟩,?_⟩
   ·rw[List.getElem?_set_ne (Ne.symm hi2),List.getElem?_set_ne (Ne.symm hi1)]
    have hin:i<n0:=by have:=cK ho;rw[hF.len]at this;exact this
    exact hold i o (f1 i o hi2 (hS.old i o hi1 hi2 ho)) (nb i hin)
   ·rw[List.getElem?_set_ne (Ne.symm hF.bL),List.getElem?_set_self hbl]
   ·have h5:=(sa hm'.2 hbj).1
    have h6:=hF.lt
    rw[List.getElem?_set_ne (by omega),List.getElem?_set_ne (by omega)];exact hj
   ·rw[List.getElem?_set_self (by rw[List.length_set];exact hLl)])
 cases hK1
 exact⟨h',hu,hK2⟩
end Go.Am

/-
 corners.walk and corners.corner,told.
-/
set_option maxRecDepth 100000
set_option maxHeartbeats 4000000
namespace Go.Am
open Sx Go.Proofs
abbrev cloW(n:Nat):Value:=.func (.func 40) ⟨[]⟩ ⟨[.pointer (some ⟨n+1,0,none⟩),.pointer (some ⟨n,0,none⟩)]⟩
theorem walkF_c(H:HL)(w v x y:Int):au cc ac 20 [.i w,.i v,.i x,.i y] (absH aa H) [.v (cloW H.length)] (absH aa (H++[.o (.cells [.int .i64 w,.int .i64 v] 2 true),.o (.cells [.int .i64 x,.int .i64 y] 2 true)])):=by
 obtain⟨rs,h',h1,e1,e2⟩:=u20 (ls:=[.i w,.i v,.i x,.i y]) (K:=fun rs h'=>rs=[.v (cloW H.length)]∧h'=H++[.o (.cells [.int .i64 w,.int .i64 v] 2 true),.o (.cells [.int .i64 x,.int .i64 y] 2 true)]) (H:=H) rfl (by
  unfold p20
  simp (disch:=omega) only[↓qxs,↓qxc,↓qxa]
  refine cC rfl ?_
  refine⟨?_,?_⟩
  ·simp
  ·simp)
 rw[e1,e2]at h1
 exact h1
theorem corner_i{w v x y:Int}(h:1≤w∧w≤4∧1≤v∧v≤4∧0<x∧x<2*w∧0<y∧y<2*v∧x%2=y%2):Cc 19 [.i w,.i v,.i x,.i y] [.i 0]:=by
 refine q19 rfl ?_;unfold p19
 simp (disch:=omega) only[↓qxs,↓qxc,↓qxa]
 refine aT (jb (rP (by unfold smS;omega))) ?_
 simp (disch:=omega) only[↓qxs,↓qxc,↓qxa]
theorem corner_c{w v x y:Nat}(hsh:1≤w∧w≤4∧1≤v∧v≤4)(hcor:cg w v x y=true):Cc 19 [.i (.ofNat w),.i (.ofNat v),.i (.ofNat x),.i (.ofNat y)] [.i 0]:=by
 have hc2:=hcor
 unfold cg at hc2
 simp only[Bool.and_eq_true,Nat.blt_eq]at hc2
 obtain⟨hx0,hy0,hx1,hy1,hxy⟩:=hc2
 have hxy:=Nat.eq_of_beq_eq_true hxy
 exact corner_i (by simp only[Int.ofNat_eq_natCast];omega)
end Go.Am

/-
 SPOKES ARE UNITS: by the kernel.
-/
set_option maxRecDepth 100000
namespace Go.Am
open Sx Go.Proofs
def jF(w x y j:Nat):Nat:=min (idOf w (aR x y j)) (idOf w (aR x y (j+1)))
def uniT(w v x y j:Nat):Bool:=match nbr w v (jF w x y j) (dc x j)with
 |some n=>Nat.blt (jF w x y j) n&&(Nat.blt (jF w x y j) (4*w*v)&&Nat.ble n 1000)
 |none=>false
def uniAll(w v:Nat):Bool:=(List.range (2*w)).all fun x=>(List.range (2*v)).all fun y=>!(cg w v x y)||(List.range (many x)).all fun j=>uniT w v x y j
theorem uni_all:∀w v:Nat,1≤w→w≤4→1≤v→v≤4→uniAll w v=true:=by
 have key:((List.range 4).all fun w=>(List.range 4).all fun v=>uniAll (w+1) (v+1))=true:=by kernel_rfl
 intro w v h1 h2 h3 h4
 have h5:=List.all_eq_true.1 key (w - 1) (List.mem_range.2 (by omega))
 have h6:=List.all_eq_true.1 h5 (v - 1) (List.mem_range.2 (by omega))
 have e1:w - 1+1=w:=by omega
 have e2:v - 1+1=v:=by omega
 rw[e1,e2]at h6
 exact h6
theorem uni_of{w v x y:Nat}(h1:1≤w∧w≤4∧1≤v∧v≤4)(h2:cg w v x y=true){j:Nat}(hj:j<many x):∃n,nbr w v (jF w x y j) (dc x j)=some n∧jF w x y j<n∧jF w x y j<4*w*v∧n≤1000:=by
 have h:=uni_all w v h1.1 h1.2.1 h1.2.2.1 h1.2.2.2
 have h3:=h2
 unfold cg at h3
 simp only[Bool.and_eq_true,Nat.blt_eq]at h3
 have h4:=List.all_eq_true.1 (List.all_eq_true.1 h x (List.mem_range.2 (by omega))) y (List.mem_range.2 (by omega))
 rw[h2]at h4
 simp only[Bool.not_true,Bool.false_or]at h4
 have h5:=List.all_eq_true.1 h4 j (List.mem_range.2 hj)
 unfold uniT at h5
 split at h5
 ·rename_i n e
  simp only[Bool.and_eq_true,Nat.blt_eq,Nat.ble_eq]at h5
  exact⟨n,e,h5.1,h5.2.1,h5.2.2⟩
 ·cases h5
def cQ(l:List Crs)(w x y:Nat):Nat→List Ray
 |0=>[]
 |j+1=>cQ l w x y j++gF l (nT x j) (jF w x y j) (dc x j)
theorem qD(l:List Crs)(d u e:Nat):(gF l d u e).length≤1:=by
 unfold gF
 split<;>simp
theorem fP(l:List Crs)(w x y:Nat):∀j,(cQ l w x y j).length≤j
 |0=>Nat.le_refl _
 |j+1=>by
  unfold cQ
  rw[List.length_append]
  have:=fP l w x y j
  have:=qD l (nT x j) (jF w x y j) (dc x j)
  omega
end Go.Am

/-
 corners.Creases,told.
-/
set_option maxRecDepth 100000
set_option maxHeartbeats 4000000
namespace Go.Am
open Sx Go.Proofs
theorem walkR_c{w v x y:Nat}(hsh:1≤w∧w≤4∧1≤v∧v≤4)(hcor:cg w v x y=true){l:List Crs}(hp:Pat w v l){H:HL}{n0 a b L pa ps:Nat}{xv:Value}(hF:RF H n0 a b L w v xv l)
  (hpa:H[pa]? = some (.o (.cells [.int .i64 (.ofNat x),.int .i64 (.ofNat y)] 2 true))) (hps:H[ps]? = some (.o (.cells [.int .i64 (.ofNat w),.int .i64 (.ofNat v)] 2 true))) (d1:pa≠b∧pa≠L∧ps≠b∧ps≠L) (hS:RS H n0 a b L [] H) :
  ∃h',au cc ac 40 [.v (.func (.yield L) #[] #[]),.v (.pointer (some ⟨pa,0,none⟩)),.v (.pointer (some ⟨ps,0,none⟩))] (absH aa H) [] (absH aa h')∧RS H n0 a b L (cQ l w x y (many x)) h':=by
 refine walk_c hsh hcor (fun j h=>RS H n0 a b L (cQ l w x y j) h) (fun j h hj=>⟨dm (hj.old pa _ d1.1 d1.2.1 hpa),dm (hj.old ps _ d1.2.2.1 d1.2.2.2 hps)⟩) (fun j hj h hJ=>?_) hS
 obtain⟨n,u1,u2,u3,u4⟩:=uni_of hsh hcor hj
 have hm:many x≤8:=by unfold many;split<;>omega
 exact round_c hF hp (by have:=fP l w x y j;omega) hJ u3 (by have:=(tF hsh hcor hj).le;omega) u1 u2 u4
end Go.Am

/-
 corners.Creases,told: the list of rays.
-/
set_option maxRecDepth 100000
set_option maxHeartbeats 4000000
namespace Go.Am
open Sx Go.Proofs
theorem pre_of{H h:HL}(hk:∀(i:Nat) o,H[i]? = some o→h[i]? = some o):Pre H h:=by
 refine⟨h.drop H.length,?_⟩
 conv=>lhs;rw[←List.take_append_drop H.length h]
 congr 1
 apply List.ext_getElem?
 intro i
 rw[List.getElem?_take]
 by_cases hi:i<H.length
 ·rw[if_pos hi,hk i _ (List.getElem?_eq_getElem hi),List.getElem?_eq_getElem hi]
 ·rw[if_neg hi,List.getElem?_eq_none (by omega)]
theorem putE_self{h:HL}{id:Nat}{R:List Ray}(hg:h[id]? = some (.o (.cells (R.flatMap encR) 2 true))):putE h id 2 encR R=h:=by
 unfold putE
 apply List.ext_getElem?
 intro i
 by_cases hi:id=i
 ·subst hi
  rw[List.getElem?_set_self (cK hg),hg]
 ·rw[List.getElem?_set_ne hi]
theorem clip_c(H:HL){id n:Nat}:au cc ac 24 [.v (.slice (some ⟨id,0,tag 2⟩) n 0)] (absH aa H) [.v (.slice (some ⟨id,0,tag 2⟩) n (n+1))] (absH aa H):=by
 obtain⟨rs,h',h1,e1,e2⟩:=x24 (ls:=[.v (.slice (some ⟨id,0,tag 2⟩) n 0)]) (K:=fun rs h'=>rs=[.v (.slice (some ⟨id,0,tag 2⟩) n (n+1))]∧h'=H) (H:=H) (glsV rfl gls0) (by
  unfold p24
  simp (disch:=omega) only[↓qxs,↓qxc,↓qxa]
  refine aW (x:=Int.ofNat n) rfl ?_
  refine aW (x:=Int.ofNat n) rfl ?_
  have e:slS 2 (.slice (some ⟨id,0,tag 2⟩) n 0) none (some (Int.ofNat n)) (some (Int.ofNat n))=some (.slice (some ⟨id,0,tag 2⟩) n (n+1)):=by
   unfold slS
   simp only
   rw[if_neg (by simp),if_pos (by simp[dS])]
   simp[fX,bR]
  refine aW e ?_
  refine cC rfl ?_
  exact⟨by trivial,by trivial⟩)
 rw[e1,e2]at h1
 exact h1
theorem qQ:∀(l P:List Ray),(ip l P).length=l.length+P.length
 | [],P=>by simp[ip]
 |e :: r,P=>by
  rw[show ip (e :: r) P=ip r (insR e P)from rfl,qQ r,jT]
  simp only[List.length_cons]
  omega
theorem lX(l:List Ray):(eP l).length=l.length:=by
 unfold eP
 rw[List.length_reverse,qQ]
 simp
theorem kindU_rng{l:List Crs}(hr:∀c∈l,rngC c)(a b:Int):0≤eu l a b∧eu l a b≤255:=by
 unfold eu
 split
 ·rename_i c hf
  have:=hr c (List.mem_of_find?_eq_some hf)
  unfold rngC at this
  omega
 ·omega
theorem np{l:List Crs}(hr:∀c∈l,rngC c)(w x y:Nat):∀j,∀r∈cQ l w x y j,rngR r
 |0,r,h=>by cases h
 |j+1,r,h=>by
  unfold cQ at h
  rcases List.mem_append.1 h with h|h
  ·exact np hr w x y j r h
  ·unfold gF at h
   split at h
   ·cases h
   ·have e:=List.mem_singleton.1 h
    subst e
    have hd:nT x j<8:=by unfold nT;split<;>omega
    have:=kindU_rng hr (Int.ofNat (jF w x y j)) (Int.ofNat (dc x j))
    unfold rngR
    simp only[Int.ofNat_eq_natCast]at this ⊢
    omega
theorem clip0_c(H:HL):au cc ac 24 [.v (.slice none 0 0)] (absH aa H) [.v (.slice none 0 0)] (absH aa H):=by
 obtain⟨rs,h',h1,e1,e2⟩:=x24 (ls:=[.v (.slice none 0 0)]) (K:=fun rs h'=>rs=[.v (.slice none 0 0)]∧h'=H) (H:=H) (glsV rfl gls0) (by
  unfold p24
  simp (disch:=omega) only[↓qxs,↓qxc,↓qxa]
  refine aW (x:=(0:Int)) rfl ?_
  refine aW (x:=(0:Int)) rfl ?_
  refine aW (x:=.slice none 0 0) rfl ?_
  refine cC rfl ?_
  exact⟨by trivial,by trivial⟩)
 rw[e1,e2]at h1
 exact h1
theorem p_pend{kn kr:Prop}{ks:List (Nat×Prop)}(hk:kn):P1.pend none (@hid _ ⟨kn⟩) kr ks:=hk
theorem pM{w v x y:Nat}(hsh:1≤w∧w≤4∧1≤v∧v≤4)(hcor:cg w v x y=true){l:List Crs}(hp:Pat w v l){H:HL}{xv:Value}(hl:LsH H xv 3 encC l) :
  ∃G rx,au cc ac 7 [.i (.ofNat w),.i (.ofNat v),.v xv,.i (.ofNat x),.i (.ofNat y)] (absH aa H) [.v rx,.i 0] (absH aa (H++G))∧LsH (H++G) rx 2 encR (eP (cQ l w x y (many x)))∧capS rx=some (Int.ofNat (eP (cQ l w x y (many x))).length):=by
 obtain⟨rs,h',h1,rx,e1,hpre,hrx,hcap⟩:=x7 (ls:=[.i (.ofNat w),.i (.ofNat v),.v xv,.i (.ofNat x),.i (.ofNat y)]) (K:=fun rs h'=>∃rx,rs=[.v rx,.i 0]∧Pre H h'∧LsH h' rx 2 encR (eP (cQ l w x y (many x)))∧capS rx=some (Int.ofNat (eP (cQ l w x y (many x))).length)) (H:=H) (glsI (glsI (glsV hl.good (glsI (glsI gls0))))) (by
  unfold p7
  simp (disch:=omega) only[↓qxs,↓qxc,↓qxa]
  have a1:(H++[HO.o (.cells [.int .i64 (.ofNat w),.int .i64 (.ofNat v),xv] 3 true)])[H.length]? = some (.o (.cells [.int .i64 (.ofNat w),.int .i64 (.ofNat v),xv] 3 true)):=by simp
  refine cj (dm a1) rfl ?_
  simp (disch:=omega) only[↓qxs,↓qxc,↓qxa]
  refine cC hl.good ?_
  simp (disch:=omega) only[↓qxs,↓qxc,↓qxa]
  refine aY (hp.check (hl.pre ⟨_,rfl⟩)) ?_
  simp (disch:=omega) only[↓qxs,↓qxc,↓qxa]
  refine fA (dm a1) (o:=0) (k:=2) (ds:=[.int .i64 (.ofNat w),.int .i64 (.ofNat v)]) (by simp) rfl ?_
  simp (disch:=omega) only[↓qxs,↓qxc,↓qxa]
  refine aT (corner_c hsh hcor) ?_
  simp (disch:=omega) only[↓qxs,↓qxc,↓qxa]
  obtain⟨hA,ehA⟩ : ∃hA,hA=H++[HO.o (.cells [.int .i64 (.ofNat w),.int .i64 (.ofNat v),xv] 3 true)]++[HO.o (.cells [.slice none 0 0] 1 true)]:=⟨_,rfl⟩
  have lA:hA.length=H.length+2:=by rw[ehA];simp
  have gA:hA[H.length]? = some (.o (.cells [.int .i64 (.ofNat w),.int .i64 (.ofNat v),xv] 3 true)):=by rw[ehA];simp
  have gB:hA[H.length+1]? = some (.o (.cells [.slice none 0 0] 1 true)):=by rw[ehA];simp
  have pA:Pre H hA:=⟨_,by rw[ehA,List.append_assoc]⟩
  have e2:(H++[HO.o (.cells [.int .i64 (.ofNat w),.int .i64 (.ofNat v),xv] 3 true)]).length=H.length+1:=by simp
  rw[e2,←ehA]
  refine fA (dm gA) (o:=0) (k:=2) (ds:=[.int .i64 (.ofNat w),.int .i64 (.ofNat v)]) (by simp) rfl ?_
  simp (disch:=omega) only[↓qxs,↓qxc,↓qxa]
  refine aY (walkF_c hA _ _ _ _) ?_
  simp (disch:=omega) only[↓qxs,↓qxc,↓qxa]
  obtain⟨hB,ehB⟩ : ∃hB,hB=hA++[HO.o (.cells [.int .i64 (.ofNat w),.int .i64 (.ofNat v)] 2 true),HO.o (.cells [.int .i64 (.ofNat x),.int .i64 (.ofNat y)] 2 true)]:=⟨_,rfl⟩
  rw[←ehB]
  have lB:hB.length=H.length+4:=by rw[ehB];simp;omega
  have pB:Pre hA hB:=⟨_,ehB⟩
  have gs:hB[hA.length]? = some (.o (.cells [.int .i64 (.ofNat w),.int .i64 (.ofNat v)] 2 true)):=by rw[ehB];simp
  have ga:hB[hA.length+1]? = some (.o (.cells [.int .i64 (.ofNat x),.int .i64 (.ofNat y)] 2 true)):=by rw[ehB];simp
  obtain⟨hC,ehC⟩ : ∃hC,hC=hB++[HO.lp 112 .ready none [.pointer (some ⟨H.length,0,none⟩),.pointer (some ⟨H.length+1,0,none⟩)]]:=⟨_,rfl⟩
  have pC:Pre hB hC:=⟨_,ehC⟩
  have lC:hC.length=H.length+5:=by rw[ehC];simp;omega
  have gl:hC[hB.length]? = some (.lp 112 .ready none [.pointer (some ⟨H.length,0,none⟩),.pointer (some ⟨H.length+1,0,none⟩)]):=by rw[ehC];simp
  have hxC:LsH hC xv 3 encC l:=((hl.pre pA).pre pB).pre pC
  have hxb:∀i,H.length≤i→blk xv≠some i:=fun i hi hq=>by
   obtain⟨_,_,⟨rfl,_⟩|⟨id,off,cx,vs,rw',rfl,h2,_⟩⟩:=hl
   ·cases hq
   ·have e:id=i:=Option.some.inj hq
    have:=cK h2
    omega
  have hF:RF hC (H.length+5) H.length (H.length+1) hB.length w v xv l:=⟨lC,pC.get (pB.get gA),hxC,hxb _ (by omega),hxb _ (by omega),by omega,by omega,by omega,by omega⟩
  have hS:RS hC (H.length+5) H.length (H.length+1) hB.length [] hC:=⟨fun _ _ _ _ h=>h,by omega,⟨_,pC.get (pB.get gB),MkL.nil _ _ _ _,rfl⟩,gl⟩
  obtain⟨h5,c5,s5⟩:=walkR_c hsh hcor hp hF (pC.get ga) (pC.get gs) (by omega) hS
  rw[ehC]at c5
  refine p_rfun (sg:=⟨[lv,lv,lv],[]⟩) (xs:=[.leaf (.v (.func (.yield hB.length) #[] #[])),.leaf (.v (.pointer (some ⟨hA.length+1,0,none⟩))),.leaf (.v (.pointer (some ⟨hA.length,0,none⟩)))]) c5 rfl rfl rfl rfl s5.lp (by simp) ?_
  refine p_pend ?_
  obtain⟨xo,gx,mk,ggx⟩:=s5.out
  have hbl:H.length+1≠hB.length:=by omega
  have gx2:(h5.set hB.length (.lp 112 .exhausted none [.pointer (some ⟨H.length,0,none⟩),.pointer (some ⟨H.length+1,0,none⟩)]))[H.length+1]? = some (.o (.cells [xo] 1 true)):=by rw[List.getElem?_set_ne (Ne.symm hbl)];exact gx
  refine cj (dm gx2) rfl ?_
  simp (disch:=omega) only[↓qxs,↓qxc,↓qxa]
  refine cC ggx ?_
  simp (disch:=omega) only[↓qxs,↓qxc,↓qxa]
  obtain⟨h6,eh6⟩ : ∃h6,h6=h5.set hB.length (.lp 112 .exhausted none [.pointer (some ⟨H.length,0,none⟩),.pointer (some ⟨H.length+1,0,none⟩)]):=⟨_,rfl⟩
  rw[←eh6]at gx2 ⊢
  have o6:∀(i:Nat) o,i≠hB.length→h5[i]? = some o→h6[i]? = some o:=fun i o hi ho=>by rw[eh6,List.getElem?_set_ne (Ne.symm hi)];exact ho
  have oH:∀(i:Nat) o,H[i]? = some o→h6[i]? = some o:=fun i o ho=>by
   have:=cK ho
   exact o6 i o (by omega) (s5.old i o (by omega) (by omega) (pC.get (pB.get (pA.get ho))))
  have hm8:many x≤8:=by unfold many;split<;>omega
  have hrl:=fP l w x y (many x)
  have hrr:=np hp.rng w x y (many x)
  obtain⟨m1,m2,⟨rfl,hn⟩|⟨id,hid0,rfl,hg⟩⟩:=mk
  ·have hnil:cQ l w x y (many x)=[]:=List.length_eq_zero_iff.1 hn
   refine aY (sort0_c h6) ?_
   simp (disch:=omega) only[↓qxs,↓qxc,↓qxa]
   refine cj (dm gx2) rfl ?_
   simp (disch:=omega) only[↓qxs,↓qxc,↓qxa]
   refine cC rfl ?_
   simp (disch:=omega) only[↓qxs,↓qxc,↓qxa]
   refine aY (clip0_c h6) ?_
   simp (disch:=omega) only[↓qxs,↓qxc,↓qxa]
   exact⟨_,by trivial,pre_of oH,by rw[hnil];exact LsH.nil _ _ _,by rw[hnil];rfl⟩
  ·have hg6:=o6 id _ (by omega) hg
   have hs:=sort_c (h:=h6) (cx:=0) (cK hg6) hrr (by omega)
   rw[putE_self hg6]at hs
   refine aY hs ?_
   simp (disch:=omega) only[↓qxs,↓qxc,↓qxa]
   have gx7:(putE h6 id 2 encR (eP (cQ l w x y (many x))))[H.length+1]? = some (.o (.cells [.slice (some ⟨id,0,tag 2⟩) (cQ l w x y (many x)).length 0] 1 true)):=by
    unfold putE
    rw[List.getElem?_set_ne (by omega)];exact gx2
   refine cj (dm gx7) rfl ?_
   simp (disch:=omega) only[↓qxs,↓qxc,↓qxa]
   refine cC ggx ?_
   simp (disch:=omega) only[↓qxs,↓qxc,↓qxa]
   refine aY (clip_c _) ?_
   simp (disch:=omega) only[↓qxs,↓qxc,↓qxa]
   refine⟨_,by trivial,pre_of fun i o ho=>?_,?_,by rw[lX];rfl⟩
   ·unfold putE
    have:=cK ho
    rw[List.getElem?_set_ne (by omega)];exact oH i o ho
   ·rw[←lX]
    exact iU eD (cK hg6))
 obtain⟨G,rfl⟩:=hpre
 rw[e1]at h1
 exact⟨G,rx,h1,hrx,hcap⟩
end Go.Am


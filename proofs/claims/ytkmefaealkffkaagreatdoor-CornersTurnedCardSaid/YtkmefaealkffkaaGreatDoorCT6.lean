/-
  PART 6 OF THE PROOF: Ph2 Ph3 Hx7 Pq Gp Hx1 Hx2 E1 Sx15 E0 E2 E3 Hx3 E4 E14 E15 Hx4 Hx5 E26 E27 Sp1 E50 E16 E17 E18 E19 E20 E51 E52 E53 (no conditions).
-/
import Derived.Test.YtkmefaealkffkaaGreatDoorCT5
set_option linter.unusedSectionVars false
set_option linter.unusedSimpArgs false
set_option linter.unusedVariables false
set_option linter.constructorNameAsVariable false
set_option linter.defProp false
noncomputable section
/-
 THE ALGEBRA OF PROPOSITIONS,its rules as equations: a step each.
-/
namespace Go.Am
namespace Sx
class Bx (α:Sort _) where
 v:α
def hid{α:Sort _} [b:Bx α]:α:=b.v
section
variable [Val] [Kno] {C:Cfg} {Sg:FuncId->Option Sig} {T:Nat->Site}
theorem b_unI{n:Int}{r:List Lf}{K:Int->List Lf->Prop}:(PH C Sg T).unI (.i n :: r) K=K n r:=rfl
theorem b_unB{n:Bool}{r:List Lf}{K:Bool->List Lf->Prop}:(PH C Sg T).unB (.b n :: r) K=K n r:=rfl
theorem b_unV{n:Value}{r:List Lf}{K:Value->List Lf->Prop}:(PH C Sg T).unV (.v n :: r) K=K n r:=rfl
theorem b_un0{K:Prop}:(PH C Sg T).un0 [] K=K:=rfl
theorem b_ucI{k:IntKind}{n:Int}{r:List Value}{K:Int->List Value->Prop}:(PH C Sg T).ucI k (.int k n :: r) K=K n r:=by
 show(k=k/\K n r)=K n r
 simp
theorem b_ucB{n:Bool}{r:List Value}{K:Bool->List Value->Prop}:(PH C Sg T).ucB (.bool n :: r) K=K n r:=rfl
theorem b_ucV{n:Value}{r:List Value}{K:Value->List Value->Prop}:(PH C Sg T).ucV (n :: r) K=K n r:=rfl
theorem b_uc0{K:Prop}:(PH C Sg T).uc0 [] K=K:=rfl
theorem b_cond_t{X Y:Prop}:(PH C Sg T).cond true X Y=X:=by
 show((true=true->X)/\(true=false->Y))=X
 simp
theorem b_cond_f{X Y:Prop}:(PH C Sg T).cond false X Y=Y:=by
 show((false=true->X)/\(false=false->Y))=Y
 simp
theorem b_lss_t{a b:Int}{K:Bool->Prop}(h:a<b):(PH C Sg T).cmp .lss a b K=K true:=by
 show K (decide (a<b))=_;rw[decide_eq_true h]
theorem b_lss_f{a b:Int}{K:Bool->Prop}(h:b<=a):(PH C Sg T).cmp .lss a b K=K false:=by
 show K (decide (a<b))=_;rw[decide_eq_false (by omega)]
theorem b_leq_t{a b:Int}{K:Bool->Prop}(h:a<=b):(PH C Sg T).cmp .leq a b K=K true:=by
 show K (decide (a<=b))=_;rw[decide_eq_true h]
theorem b_leq_f{a b:Int}{K:Bool->Prop}(h:b<a):(PH C Sg T).cmp .leq a b K=K false:=by
 show K (decide (a<=b))=_;rw[decide_eq_false (by omega)]
theorem b_gtr_t{a b:Int}{K:Bool->Prop}(h:b<a):(PH C Sg T).cmp .gtr a b K=K true:=by
 show K (decide (a > b))=_;rw[decide_eq_true h]
theorem b_gtr_f{a b:Int}{K:Bool->Prop}(h:a<=b):(PH C Sg T).cmp .gtr a b K=K false:=by
 show K (decide (a > b))=_;rw[decide_eq_false (by omega)]
theorem b_geq_t{a b:Int}{K:Bool->Prop}(h:b<=a):(PH C Sg T).cmp .geq a b K=K true:=by
 show K (decide (a ≥ b))=_;rw[decide_eq_true h]
theorem b_geq_f{a b:Int}{K:Bool->Prop}(h:a<b):(PH C Sg T).cmp .geq a b K=K false:=by
 show K (decide (a ≥ b))=_;rw[decide_eq_false (by omega)]
theorem b_eql_t{a b:Int}{K:Bool->Prop}(h:a=b):(PH C Sg T).cmp .eql a b K=K true:=by
 show K (a==b)=_;rw[beq_iff_eq.2 h]
theorem b_eql_f{a b:Int}{K:Bool->Prop}(h:a≠b):(PH C Sg T).cmp .eql a b K=K false:=by
 show K (a==b)=_;rw[beq_false_of_ne h]
theorem b_neq_t{a b:Int}{K:Bool->Prop}(h:a≠b):(PH C Sg T).cmp .neq a b K=K true:=by
 show K (a != b)=_;rw[bne_iff_ne.2 h]
theorem b_neq_f{a b:Int}{K:Bool->Prop}(h:a=b):(PH C Sg T).cmp .neq a b K=K false:=by
 show K (a != b)=_;subst h;simp
theorem b_add{a b:Int}{K:Int->Prop}(h1:-9223372036854775808<=a+b)(h2:a+b<=9223372036854775807):(PH C Sg T).ari .add .i64 a b K=K (a+b):=by
 show K (IntKind.wrap .i64 (a+b))=_;rw[cu h1 h2]
theorem b_sub{a b:Int}{K:Int->Prop}(h1:-9223372036854775808<=a - b)(h2:a - b<=9223372036854775807):(PH C Sg T).ari .sub .i64 a b K=K (a - b):=by
 show K (IntKind.wrap .i64 (a - b))=_;rw[cu h1 h2]
theorem b_mul{a b:Int}{K:Int->Prop}(h1:-9223372036854775808<=a*b)(h2:a*b<=9223372036854775807):(PH C Sg T).ari .mul .i64 a b K=K (a*b):=by
 show K (IntKind.wrap .i64 (a*b))=_;rw[cu h1 h2]
theorem b_add8{a b:Int}{K:Int->Prop}(h1:0<=a+b)(h2:a+b<=255):(PH C Sg T).ari .add .u8 a b K=K (a+b):=by
 show K (IntKind.wrap .u8 (a+b))=_;rw[pK h1 h2]
theorem b_sub8{a b:Int}{K:Int->Prop}(h1:0<=a - b)(h2:a - b<=255):(PH C Sg T).ari .sub .u8 a b K=K (a - b):=by
 show K (IntKind.wrap .u8 (a - b))=_;rw[pK h1 h2]
theorem b_mul8{a b:Int}{K:Int->Prop}(h1:0<=a*b)(h2:a*b<=255):(PH C Sg T).ari .mul .u8 a b K=K (a*b):=by
 show K (IntKind.wrap .u8 (a*b))=_;rw[pK h1 h2]
theorem tdiv_nn{a b:Int}(h:0<=a):a.tdiv b=a / b:=Int.tdiv_eq_ediv_of_nonneg h
theorem b_quo_nn{a b:Int}{K:Int->Prop}(h:0<=a)(hb:0<b)(h2:a<=9223372036854775807):(PH C Sg T).ari .quo .i64 a b K=K (a / b):=by
 show(b≠0/\K (IntKind.wrap .i64 (a.tdiv b)))=_
 have h3:a / b<=a:=Int.ediv_le_self b h
 have h4:0<=a / b:=Int.ediv_nonneg h (by omega)
 rw[tdiv_nn h,cu (by omega) (by omega)]
 simp;intro _ h;omega
theorem b_quo_dv{a b:Int}{K:Int->Prop}(h:a%b=0)(hb:0<b)(h1:-9223372036854775808<=a)(h2:a<=9223372036854775807):(PH C Sg T).ari .quo .i64 a b K=K (a / b):=by
 show(b≠0/\K (IntKind.wrap .i64 (a.tdiv b)))=_
 obtain⟨q,rfl⟩:=Int.dvd_of_emod_eq_zero h
 rw[Int.mul_tdiv_cancel_left q (by omega),Int.mul_ediv_cancel_left q (by omega)]
 have hq:-9223372036854775808<=q/\q<=9223372036854775807:=by
  rcases Int.le_total 0 q with hs|hs
  ·have:=qb1 (show(1:Int)<=b by omega) hs
   omega
  ·have:=qb1 (show(1:Int)<=b by omega) (show 0<=-q by omega)
   rw[Int.mul_neg b q]at this
   omega
 rw[cu hq.1 hq.2]
 simp;intro _ h;omega
theorem b_rem_nn{k:IntKind}{a b:Int}{K:Int->Prop}(h:0<=a)(hb:0<b):(PH C Sg T).ari .rem k a b K=K (a%b):=by
 show(b≠0/\K (a.tmod b))=_
 rw[qcM h]
 simp;intro _ h;omega
theorem b_rem_np{k:IntKind}{a b:Int}{K:Int->Prop}(h:a<=0)(hb:0<b):(PH C Sg T).ari .rem k a b K=K (-((-a)%b)):=by
 show(b≠0/\K (a.tmod b))=_
 have:a.tmod b = -((-a)%b):=by
  have h1:=Int.neg_tmod a b
  rw[qcM (a:=-a) (by omega)]at h1
  omega
 rw[this]
 simp;intro _ h;omega
theorem b_and1{a:Int}{K:Int->Prop}:(PH C Sg T).ari .and .i64 a 1 K=K (a%2):=by
 show(((1:Int)=1/\K (a%2))∨((1:Int)≠1/\∃n,nW .and .i64 a 1 n/\K n))=K (a%2)
 simp
theorem b_conv{a:Int}{K:Int->Prop}(h1:-9223372036854775808<=a)(h2:a<=9223372036854775807):(PH C Sg T).conv .i64 a K=K a:=by
 show K (IntKind.wrap .i64 a)=_;rw[cu h1 h2]
theorem b_conv8{a:Int}{K:Int->Prop}(h1:0<=a)(h2:a<=255):(PH C Sg T).conv .u8 a K=K a:=by
 show K (IntKind.wrap .u8 a)=_;rw[pK h1 h2]
theorem b_sel_t{a b:Int}{K:Int->Prop}:(PH C Sg T).sel true a b K=K a:=rfl
theorem b_sel_f{a b:Int}{K:Int->Prop}:(PH C Sg T).sel false a b K=K b:=rfl
theorem b_opt{α:Type}{x:α}{K:α->Prop}:(PH C Sg T).opt (some x) K=K x:=by
 show(∃y,some x=some y/\K y)=K x
 simp
theorem b_inB{n:Nat}{i:Int}{K:Unit->Prop}(h1:0<=i)(h2:i<(n:Int)):(PH C Sg T).opt (inB n i) K=K ():=by
 rw[show inB n i=some ()from(inB_eq n i).trans (if_pos ⟨h1,h2⟩),b_opt]
theorem b_join{b:List Lf->HL->Prop}{m:(List Lf->HL->Prop)->Prop}:(PH C Sg T).join b m=m b:=rfl
theorem b_eqs0{K:Bool->Prop}:(PH C Sg T).eqs [] K=K true:=rfl
theorem b_eqs_t{a b:Int}{l:List (Lf×Lf)}{K:Bool->Prop}(h:a=b):(PH C Sg T).eqs ((.i a,.i b) :: l) K=(PH C Sg T).eqs l K:=by
 show K (cm _)=K (cm l)
 subst h
 simp[cm,gp]
theorem b_eqs_f{a b:Int}{l:List (Lf×Lf)}{K:Bool->Prop}(h:a≠b):(PH C Sg T).eqs ((.i a,.i b) :: l) K=K false:=by
 show K (cm _)=K false
 have:(a==b)=false:=beq_false_of_ne h
 simp[cm,gp,this]
theorem b_it{F:(List Lf->HL->Prop)->List Lf->HL->Prop}{n:Nat}{ls:List Lf}{h:HL}:itH F (n+1) ls h=F (itH F n) ls h:=rfl
theorem aT{g:FuncId}{ls rs:List Lf}{h:HL}{K:List Lf->HL->Prop}(hc:∀H,aI C Sg g ls H rs H)(hk:K rs h):(PH C Sg T).call g ls h (@hid _ ⟨K⟩):=⟨rs,h,hc _,hk⟩
theorem b_eqsb_t{a b:Bool}{l:List (Lf×Lf)}{K:Bool->Prop}(h:a=b):(PH C Sg T).eqs ((.b a,.b b) :: l) K=(PH C Sg T).eqs l K:=by
 show K (cm _)=K (cm l)
 subst h
 simp[cm,gp]
theorem b_eqsb_tf{l:List (Lf×Lf)}{K:Bool->Prop}:(PH C Sg T).eqs ((.b true,.b false) :: l) K=K false:=rfl
theorem b_eqsb_ft{l:List (Lf×Lf)}{K:Bool->Prop}:(PH C Sg T).eqs ((.b false,.b true) :: l) K=K false:=rfl
theorem b_mul_1{b:Int}{K:Int->Prop}(h1:-9223372036854775808<=b)(h2:b<=9223372036854775807):(PH C Sg T).ari .mul .i64 1 b K=K b:=by
 show K (IntKind.wrap .i64 (1*b))=_;rw[Int.one_mul,cu h1 h2]
theorem b_mul_0{b:Int}{K:Int->Prop}:(PH C Sg T).ari .mul .i64 0 b K=K 0:=by
 show K (IntKind.wrap .i64 (0*b))=_;rw[Int.zero_mul];rfl
theorem b_mul_m{b:Int}{K:Int->Prop}(h1:-9223372036854775808<=-b)(h2:-b<=9223372036854775807):(PH C Sg T).ari .mul .i64 (-1) b K=K (-b):=by
 show K (IntKind.wrap .i64 (-1*b))=_
 have:(-1*b:Int) = -b:=by omega
 rw[this,cu h1 h2]
theorem b_mul_r1{b:Int}{K:Int->Prop}(h1:-9223372036854775808<=b)(h2:b<=9223372036854775807):(PH C Sg T).ari .mul .i64 b 1 K=K b:=by
 show K (IntKind.wrap .i64 (b*1))=_;rw[Int.mul_one,cu h1 h2]
theorem b_mul_r0{b:Int}{K:Int->Prop}:(PH C Sg T).ari .mul .i64 b 0 K=K 0:=by
 show K (IntKind.wrap .i64 (b*0))=_;rw[Int.mul_zero];rfl
theorem b_mul_rm{b:Int}{K:Int->Prop}(h1:-9223372036854775808<=-b)(h2:-b<=9223372036854775807):(PH C Sg T).ari .mul .i64 b (-1) K=K (-b):=by
 show K (IntKind.wrap .i64 (b * -1))=_
 have:(b * -1:Int) = -b:=by omega
 rw[this,cu h1 h2]
theorem b_add_0{b:Int}{K:Int->Prop}(h1:-9223372036854775808<=b)(h2:b<=9223372036854775807):(PH C Sg T).ari .add .i64 0 b K=K b:=by
 show K (IntKind.wrap .i64 (0+b))=_;rw[Int.zero_add,cu h1 h2]
theorem b_add_r0{b:Int}{K:Int->Prop}(h1:-9223372036854775808<=b)(h2:b<=9223372036854775807):(PH C Sg T).ari .add .i64 b 0 K=K b:=by
 show K (IntKind.wrap .i64 (b+0))=_;rw[Int.add_zero,cu h1 h2]
theorem b_add_11{K:Int->Prop}:(PH C Sg T).ari .add .i64 1 1 K=K 2:=by
 show K (IntKind.wrap .i64 (1+1))=_;rfl
theorem b_quo_1{a:Int}{K:Int->Prop}(h1:-9223372036854775808<=a)(h2:a<=9223372036854775807):(PH C Sg T).ari .quo .i64 a 1 K=K a:=by
 show((1:Int)≠0/\K (IntKind.wrap .i64 (a.tdiv 1)))=_
 rw[Int.tdiv_one,cu h1 h2];simp
theorem aE{α:Type}{o:Option α}{x:α}{K:α->Prop}(h:o=some x)(hk:K x):(PH C Sg T).opt o (@hid _ ⟨K⟩):=⟨x,h,hk⟩
theorem p_unI{n:Int}{r:List Lf}{K:Int->List Lf->Prop}:(PH C Sg T).unI (.i n :: r) (@hid _ ⟨K⟩)=K n r:=b_unI
theorem p_unB{n:Bool}{r:List Lf}{K:Bool->List Lf->Prop}:(PH C Sg T).unB (.b n :: r) (@hid _ ⟨K⟩)=K n r:=b_unB
theorem p_unV{n:Value}{r:List Lf}{K:Value->List Lf->Prop}:(PH C Sg T).unV (.v n :: r) (@hid _ ⟨K⟩)=K n r:=b_unV
theorem p_un0{K:Prop}:(PH C Sg T).un0 [] (@hid _ ⟨K⟩)=K:=b_un0
theorem p_ucI{k:IntKind}{n:Int}{r:List Value}{K:Int->List Value->Prop}:(PH C Sg T).ucI k (.int k n :: r) (@hid _ ⟨K⟩)=K n r:=b_ucI
theorem p_ucB{n:Bool}{r:List Value}{K:Bool->List Value->Prop}:(PH C Sg T).ucB (.bool n :: r) (@hid _ ⟨K⟩)=K n r:=b_ucB
theorem p_ucV{n:Value}{r:List Value}{K:Value->List Value->Prop}:(PH C Sg T).ucV (n :: r) (@hid _ ⟨K⟩)=K n r:=b_ucV
theorem p_uc0{K:Prop}:(PH C Sg T).uc0 [] (@hid _ ⟨K⟩)=K:=b_uc0
theorem p_cond_t{X Y:Prop}:(PH C Sg T).cond true (@hid _ ⟨X⟩) Y=X:=b_cond_t
theorem p_cond_f{X Y:Prop}:(PH C Sg T).cond false X (@hid _ ⟨Y⟩)=Y:=b_cond_f
theorem p_lss_t{a b:Int}{K:Bool->Prop}(h:a<b):(PH C Sg T).cmp .lss a b (@hid _ ⟨K⟩)=K true:=b_lss_t h
theorem p_lss_f{a b:Int}{K:Bool->Prop}(h:b<=a):(PH C Sg T).cmp .lss a b (@hid _ ⟨K⟩)=K false:=b_lss_f h
theorem p_leq_t{a b:Int}{K:Bool->Prop}(h:a<=b):(PH C Sg T).cmp .leq a b (@hid _ ⟨K⟩)=K true:=b_leq_t h
theorem p_leq_f{a b:Int}{K:Bool->Prop}(h:b<a):(PH C Sg T).cmp .leq a b (@hid _ ⟨K⟩)=K false:=b_leq_f h
theorem p_gtr_t{a b:Int}{K:Bool->Prop}(h:b<a):(PH C Sg T).cmp .gtr a b (@hid _ ⟨K⟩)=K true:=b_gtr_t h
theorem p_gtr_f{a b:Int}{K:Bool->Prop}(h:a<=b):(PH C Sg T).cmp .gtr a b (@hid _ ⟨K⟩)=K false:=b_gtr_f h
theorem p_geq_t{a b:Int}{K:Bool->Prop}(h:b<=a):(PH C Sg T).cmp .geq a b (@hid _ ⟨K⟩)=K true:=b_geq_t h
theorem p_geq_f{a b:Int}{K:Bool->Prop}(h:a<b):(PH C Sg T).cmp .geq a b (@hid _ ⟨K⟩)=K false:=b_geq_f h
theorem p_eql_t{a b:Int}{K:Bool->Prop}(h:a=b):(PH C Sg T).cmp .eql a b (@hid _ ⟨K⟩)=K true:=b_eql_t h
theorem p_eql_f{a b:Int}{K:Bool->Prop}(h:a≠b):(PH C Sg T).cmp .eql a b (@hid _ ⟨K⟩)=K false:=b_eql_f h
theorem p_neq_t{a b:Int}{K:Bool->Prop}(h:a≠b):(PH C Sg T).cmp .neq a b (@hid _ ⟨K⟩)=K true:=b_neq_t h
theorem p_neq_f{a b:Int}{K:Bool->Prop}(h:a=b):(PH C Sg T).cmp .neq a b (@hid _ ⟨K⟩)=K false:=b_neq_f h
theorem p_add{a b:Int}{K:Int->Prop}(h1:-9223372036854775808<=a+b)(h2:a+b<=9223372036854775807):(PH C Sg T).ari .add .i64 a b (@hid _ ⟨K⟩)=K (a+b):=b_add h1 h2
theorem p_sub{a b:Int}{K:Int->Prop}(h1:-9223372036854775808<=a - b)(h2:a - b<=9223372036854775807):(PH C Sg T).ari .sub .i64 a b (@hid _ ⟨K⟩)=K (a - b):=b_sub h1 h2
theorem p_mul{a b:Int}{K:Int->Prop}(h1:-9223372036854775808<=a*b)(h2:a*b<=9223372036854775807):(PH C Sg T).ari .mul .i64 a b (@hid _ ⟨K⟩)=K (a*b):=b_mul h1 h2
theorem p_add8{a b:Int}{K:Int->Prop}(h1:0<=a+b)(h2:a+b<=255):(PH C Sg T).ari .add .u8 a b (@hid _ ⟨K⟩)=K (a+b):=b_add8 h1 h2
theorem p_sub8{a b:Int}{K:Int->Prop}(h1:0<=a - b)(h2:a - b<=255):(PH C Sg T).ari .sub .u8 a b (@hid _ ⟨K⟩)=K (a - b):=b_sub8 h1 h2
theorem p_mul8{a b:Int}{K:Int->Prop}(h1:0<=a*b)(h2:a*b<=255):(PH C Sg T).ari .mul .u8 a b (@hid _ ⟨K⟩)=K (a*b):=b_mul8 h1 h2
theorem p_quo_nn{a b:Int}{K:Int->Prop}(h:0<=a)(hb:0<b)(h2:a<=9223372036854775807):(PH C Sg T).ari .quo .i64 a b (@hid _ ⟨K⟩)=K (a / b):=b_quo_nn h hb h2
theorem p_quo_dv{a b:Int}{K:Int->Prop}(h:a%b=0)(hb:0<b)(h1:-9223372036854775808<=a)(h2:a<=9223372036854775807):(PH C Sg T).ari .quo .i64 a b (@hid _ ⟨K⟩)=K (a / b):=b_quo_dv h hb h1 h2
theorem p_rem_nn{k:IntKind}{a b:Int}{K:Int->Prop}(h:0<=a)(hb:0<b):(PH C Sg T).ari .rem k a b (@hid _ ⟨K⟩)=K (a%b):=b_rem_nn h hb
theorem p_rem_np{k:IntKind}{a b:Int}{K:Int->Prop}(h:a<=0)(hb:0<b):(PH C Sg T).ari .rem k a b (@hid _ ⟨K⟩)=K (-((-a)%b)):=b_rem_np h hb
theorem p_and1{a:Int}{K:Int->Prop}:(PH C Sg T).ari .and .i64 a 1 (@hid _ ⟨K⟩)=K (a%2):=b_and1
theorem p_conv{a:Int}{K:Int->Prop}(h1:-9223372036854775808<=a)(h2:a<=9223372036854775807):(PH C Sg T).conv .i64 a (@hid _ ⟨K⟩)=K a:=b_conv h1 h2
theorem p_conv8{a:Int}{K:Int->Prop}(h1:0<=a)(h2:a<=255):(PH C Sg T).conv .u8 a (@hid _ ⟨K⟩)=K a:=b_conv8 h1 h2
theorem p_sel_t{a b:Int}{K:Int->Prop}:(PH C Sg T).sel true a b (@hid _ ⟨K⟩)=K a:=b_sel_t
theorem p_sel_f{a b:Int}{K:Int->Prop}:(PH C Sg T).sel false a b (@hid _ ⟨K⟩)=K b:=b_sel_f
theorem p_opt{α:Type}{x:α}{K:α->Prop}:(PH C Sg T).opt (some x) (@hid _ ⟨K⟩)=K x:=b_opt
theorem p_inB{n:Nat}{i:Int}{K:Unit->Prop}(h1:0<=i)(h2:i<(n:Int)):(PH C Sg T).opt (inB n i) (@hid _ ⟨K⟩)=K ():=b_inB h1 h2
theorem p_join{b:List Lf->HL->Prop}{m:(List Lf->HL->Prop)->Prop}:(PH C Sg T).join (@hid _ ⟨b⟩) (@hid _ ⟨m⟩)=m (@hid _ ⟨b⟩):=b_join
theorem p_eqs0{K:Bool->Prop}:(PH C Sg T).eqs [] (@hid _ ⟨K⟩)=K true:=b_eqs0
theorem p_eqs_t{a b:Int}{l:List (Lf×Lf)}{K:Bool->Prop}(h:a=b):(PH C Sg T).eqs ((.i a,.i b) :: l) (@hid _ ⟨K⟩)=(PH C Sg T).eqs l (@hid _ ⟨K⟩):=b_eqs_t h
theorem p_eqs_f{a b:Int}{l:List (Lf×Lf)}{K:Bool->Prop}(h:a≠b):(PH C Sg T).eqs ((.i a,.i b) :: l) (@hid _ ⟨K⟩)=K false:=b_eqs_f h
theorem p_it{F:(List Lf->HL->Prop)->List Lf->HL->Prop}{n:Nat}{ls:List Lf}{h:HL}:itH (@hid _ ⟨F⟩) (n+1) ls h=F (itH (@hid _ ⟨F⟩) n) ls h:=b_it
theorem p_eqsb_t{a b:Bool}{l:List (Lf×Lf)}{K:Bool->Prop}(h:a=b):(PH C Sg T).eqs ((.b a,.b b) :: l) (@hid _ ⟨K⟩)=(PH C Sg T).eqs l (@hid _ ⟨K⟩):=b_eqsb_t h
theorem p_eqsb_tf{l:List (Lf×Lf)}{K:Bool->Prop}:(PH C Sg T).eqs ((.b true,.b false) :: l) (@hid _ ⟨K⟩)=K false:=b_eqsb_tf
theorem p_eqsb_ft{l:List (Lf×Lf)}{K:Bool->Prop}:(PH C Sg T).eqs ((.b false,.b true) :: l) (@hid _ ⟨K⟩)=K false:=b_eqsb_ft
theorem p_mul_1{b:Int}{K:Int->Prop}(h1:-9223372036854775808<=b)(h2:b<=9223372036854775807):(PH C Sg T).ari .mul .i64 1 b (@hid _ ⟨K⟩)=K b:=b_mul_1 h1 h2
theorem p_mul_0{b:Int}{K:Int->Prop}:(PH C Sg T).ari .mul .i64 0 b (@hid _ ⟨K⟩)=K 0:=b_mul_0
theorem p_mul_m{b:Int}{K:Int->Prop}(h1:-9223372036854775808<=-b)(h2:-b<=9223372036854775807):(PH C Sg T).ari .mul .i64 (-1) b (@hid _ ⟨K⟩)=K (-b):=b_mul_m h1 h2
theorem p_mul_r1{b:Int}{K:Int->Prop}(h1:-9223372036854775808<=b)(h2:b<=9223372036854775807):(PH C Sg T).ari .mul .i64 b 1 (@hid _ ⟨K⟩)=K b:=b_mul_r1 h1 h2
theorem p_mul_r0{b:Int}{K:Int->Prop}:(PH C Sg T).ari .mul .i64 b 0 (@hid _ ⟨K⟩)=K 0:=b_mul_r0
theorem p_mul_rm{b:Int}{K:Int->Prop}(h1:-9223372036854775808<=-b)(h2:-b<=9223372036854775807):(PH C Sg T).ari .mul .i64 b (-1) (@hid _ ⟨K⟩)=K (-b):=b_mul_rm h1 h2
theorem p_add_0{b:Int}{K:Int->Prop}(h1:-9223372036854775808<=b)(h2:b<=9223372036854775807):(PH C Sg T).ari .add .i64 0 b (@hid _ ⟨K⟩)=K b:=b_add_0 h1 h2
theorem p_add_r0{b:Int}{K:Int->Prop}(h1:-9223372036854775808<=b)(h2:b<=9223372036854775807):(PH C Sg T).ari .add .i64 b 0 (@hid _ ⟨K⟩)=K b:=b_add_r0 h1 h2
theorem p_add_11{K:Int->Prop}:(PH C Sg T).ari .add .i64 1 1 (@hid _ ⟨K⟩)=K 2:=b_add_11
theorem p_quo_1{a:Int}{K:Int->Prop}(h1:-9223372036854775808<=a)(h2:a<=9223372036854775807):(PH C Sg T).ari .quo .i64 a 1 (@hid _ ⟨K⟩)=K a:=b_quo_1 h1 h2
theorem p_hid2{f:List Lf->HL->Prop}{a:List Lf}{b:HL}:@hid _ ⟨f⟩ a b=f a b:=rfl
theorem p_eqs2_f{a b c d:Int}{K:Bool->Prop}(h:¬(a=c/\b=d)):(PH C Sg T).eqs [(.i a,.i c),(.i b,.i d)] (@hid _ ⟨K⟩)=K false:=by
 show K (cm _)=K false
 have:cm [(.i a,.i c),(.i b,.i d)]=false:=by
  rw[Bool.eq_false_iff]
  simpa[cm,gp]using h
 rw[this]
theorem p_eqs3_f{a b c d e f:Int}{K:Bool->Prop}(h:¬(a=d/\b=e/\c=f)):(PH C Sg T).eqs [(.i a,.i d),(.i b,.i e),(.i c,.i f)] (@hid _ ⟨K⟩)=K false:=by
 show K (cm _)=K false
 have:cm [(.i a,.i d),(.i b,.i e),(.i c,.i f)]=false:=by
  rw[Bool.eq_false_iff]
  simpa[cm,gp]using h
 rw[this]
theorem aq{g:FuncId}{ls rs:List Lf}{h h':HL}{K:List Lf->HL->Prop}(hc:aI C Sg g ls (absH T h) rs (absH T h'))(hk:K rs h'):(PH C Sg T).call g ls h (@hid _ ⟨K⟩):=⟨rs,h',hc,hk⟩
theorem hQ{g:FuncId}{sg:Sig}{ls rs:List Lf}{H H':List HObj}(hc:aI C Sg g ls H rs H')(hs:Sg g=some sg)(xs:List S0)(h1:bz xs sg.ps=true)(h2:bB xs=ls) :
  rA C (.func (.func g) #[] #[]) (ah xs) sg.rs H rs H':=by
 obtain⟨sg',xs',ys,c1,c2,c3,c4⟩:=hc
 rw[hs]at c1
 cases c1
 obtain⟨w1,_⟩:=cA c2.1 h1 (c2.2.1.trans h2.symm)
 rw[w1]at c4
 exact⟨ys,c3,.inl ⟨g,#[],#[],rfl,by simpa using c4⟩⟩
theorem co{v:Value}{args:List Value}{hs:List SK}{rs:List Lf}{h h':HL}{K:List Lf->HL->Prop}(hc:rA C v args hs (absH T h) rs (absH T h'))(hk:K rs h'):(PH C Sg T).callv v args hs h (@hid _ ⟨K⟩):=⟨rs,h',hc,hk⟩
theorem p_new{o:HObj}{h:HL}{K:Nat->HL->Prop}:(PH C Sg T).new o h (@hid _ ⟨K⟩)=K h.length (h++[.o o]):=rfl
theorem bc{v:Value}{K:Prop}(h:bg v=true)(hk:K):(PH C Sg T).chk v (@hid _ ⟨K⟩):=⟨h,hk⟩
theorem cW{f:Hp}{h:HL}{K:List Value->HL->Prop}{acts:List Act1}{cs:List Value}(e:f.run (getH T h) h.length=some (acts,cs))(hk:K cs (bk h acts)):(PH C Sg T).heap f h (@hid _ ⟨K⟩):=⟨acts,cs,e,hk⟩
theorem kE{f:Pk}{h:HL}{K:List Value->Prop}{cs:List Value}(e:f.run (getH T h)=some cs)(hk:K cs):(PH C Sg T).peek f h (@hid _ ⟨K⟩):=⟨cs,e,hk⟩
def pxs(C:Cfg)(Sg:FuncId->Option Sig)(T:Nat->Site):=And.intro @p_hid2 (And.intro (@p_new _ _ C Sg T) (And.intro (@p_unI _ _ C Sg T) (And.intro (@p_unB _ _ C Sg T) (And.intro (@p_unV _ _ C Sg T) (And.intro (@p_un0 _ _ C Sg T) (And.intro (@p_ucI _ _ C Sg T) (And.intro (@p_ucB _ _ C Sg T) (And.intro (@p_ucV _ _ C Sg T) (And.intro (@p_uc0 _ _ C Sg T) (And.intro (@p_cond_t _ _ C Sg T) (And.intro (@p_cond_f _ _ C Sg T) (And.intro (@p_opt _ _ C Sg T) (And.intro (@p_inB _ _ C Sg T) (And.intro (@p_join _ _ C Sg T) (And.intro (@p_sel_t _ _ C Sg T) (And.intro (@p_sel_f _ _ C Sg T) ((@p_it))))))))))))))))))
def pxc(C:Cfg)(Sg:FuncId->Option Sig)(T:Nat->Site):=And.intro (@p_lss_t _ _ C Sg T) (And.intro (@p_lss_f _ _ C Sg T) (And.intro (@p_leq_t _ _ C Sg T) (And.intro (@p_leq_f _ _ C Sg T) (And.intro (@p_gtr_t _ _ C Sg T) (And.intro (@p_gtr_f _ _ C Sg T) (And.intro (@p_geq_t _ _ C Sg T) (And.intro (@p_geq_f _ _ C Sg T) (And.intro (@p_eql_t _ _ C Sg T) (And.intro (@p_eql_f _ _ C Sg T) (And.intro (@p_neq_t _ _ C Sg T) (And.intro (@p_neq_f _ _ C Sg T) (And.intro (@p_eqs0 _ _ C Sg T) (And.intro (@p_eqs_t _ _ C Sg T) (And.intro (@p_eqs_f _ _ C Sg T) (And.intro (@p_eqs2_f _ _ C Sg T) (And.intro (@p_eqs3_f _ _ C Sg T) (And.intro (@p_eqsb_t _ _ C Sg T) (And.intro (@p_eqsb_tf _ _ C Sg T) ((@p_eqsb_ft _ _ C Sg T))))))))))))))))))))
def pxa(C:Cfg)(Sg:FuncId->Option Sig)(T:Nat->Site):=And.intro (@p_mul_1 _ _ C Sg T) (And.intro (@p_mul_0 _ _ C Sg T) (And.intro (@p_mul_m _ _ C Sg T) (And.intro (@p_mul_r1 _ _ C Sg T) (And.intro (@p_mul_r0 _ _ C Sg T) (And.intro (@p_mul_rm _ _ C Sg T) (And.intro (@p_add_0 _ _ C Sg T) (And.intro (@p_add_r0 _ _ C Sg T) (And.intro (@p_add_11 _ _ C Sg T) (And.intro (@p_quo_1 _ _ C Sg T) (And.intro (@p_add _ _ C Sg T) (And.intro (@p_sub _ _ C Sg T) (And.intro (@p_mul _ _ C Sg T) (And.intro (@p_add8 _ _ C Sg T) (And.intro (@p_sub8 _ _ C Sg T) (And.intro (@p_mul8 _ _ C Sg T) (And.intro (@p_quo_nn _ _ C Sg T) (And.intro (@p_quo_dv _ _ C Sg T) (And.intro (@p_rem_nn _ _ C Sg T) (And.intro (@p_rem_np _ _ C Sg T) (And.intro (@p_and1 _ _ C Sg T) (And.intro (@p_conv _ _ C Sg T) ((@p_conv8 _ _ C Sg T)))))))))))))))))))))))
end
end Sx
end Go.Am

/-
 LOOPS OVER ITERATORS IN THE ALGEBRA OF PROPOSITIONS: the call of the iterator;a round.
-/
namespace Go.Am
namespace Sx
section
variable [Val] [Kno]
variable {C:Cfg} {Sg:FuncId->Option Sig} {T:Nat->Site}
theorem ti{h:HL}{l κ:Nat}{st:LoopState}{pd:Option Code}{vs:List Value}(e:h[l]? = some (.lp κ st pd vs)):dn (absH T h) l=some { lpOf (T κ) κ vs with state:=st,pending:=pd }:=by
 unfold dn absH
 rw[qax,e]
 rfl
theorem absH_app1(h:HL)(o:HO):absH T (h++[o])=absH T h++[absO T o]:=by simp[absH]
theorem p_rfun{g:FuncId}{first cap:Array Value}{κ:Nat}{vals:List Value}{h h1:HL}{ls rs:List Lf}{K:Option Code->HL->Prop}{κ':Nat}{st:LoopState}{pd:Option Code}{vs:List Value}{sg:Sig}{xs:List S0}
  (hc:aI C Sg g ls (absH T (h++[.lp κ .ready none vals])) rs (absH T h1)) (hs:Sg g=some sg) (h2:bz xs sg.ps=true) (h3:bB xs=ls) (h4:ah xs=first.toList++[.func (.yield h.length) #[] #[]]++cap.toList)
  (hl:h1[h.length]? = some (.lp κ' st pd vs)) (hst:st≠.busy) (hk:K pd (h1.set h.length (.lp κ' .exhausted pd vs))):(PH C Sg T).rfun κ (.func (.func g) first cap) vals h (@hid _ ⟨K⟩):=by
 obtain⟨sg',xs',ys,c1,c2,c3,c4⟩:=hc
 rw[hs]at c1
 cases c1
 have hlen:(absH T h).length=h.length:=ej T h
 obtain⟨w1,_⟩:=cA c2.1 h2 (c2.2.1.trans h3.symm)
 rw[w1,h4,absH_app1]at c4
 refine⟨g,first,cap,dW (ah ys),absH T h1,{ lpOf (T κ') κ' vs with state:=st,pending:=pd },h1.set h.length (.lp κ' .exhausted pd vs),rfl,?_,?_,hst,?_,hk⟩
 ·rw[hlen];exact c4
 ·rw[hlen];exact ti hl
 ·rw[hlen]
  simp[absH,absO,List.map_set]
theorem pP{h:HL}{l:Nat}{o:HO}:absH T (h.set l o)=(absH T h).set l (absO T o):=by
 unfold absH
 rw[List.map_set]
theorem p_lp1{l κ:Nat}{pd:Option Code}{vs:List Value}{h:HL}{K:HL->Prop}(hl:h[l]? = some (.lp κ .ready pd vs))(hk:K (h.set l (.lp κ .busy pd vs))):(PH C Sg T).lp1 l h (@hid _ ⟨K⟩):=
 ⟨{ lpOf (T κ) κ vs with state:=.ready,pending:=pd },h.set l (.lp κ .busy pd vs),ti hl,rfl,pP,hk⟩
theorem p_lp2{l κ:Nat}{st:LoopState}{pd:Option Code}{vs:List Value}{h:HL}{K:HL->Prop}(hl:h[l]? = some (.lp κ st pd vs))(hk:K (h.set l (.lp κ .ready none vs))):(PH C Sg T).lp2 l none h (@hid _ ⟨K⟩):=
 ⟨{ lpOf (T κ) κ vs with state:=st,pending:=pd },h.set l (.lp κ .ready none vs),ti hl,pP,hk⟩
theorem p_callY{l:Nat}{ys:List S0}{b:Bool}{h h':HL}{K:List Lf->HL->Prop}(hu:eI C l (ah ys) (absH T h) (.bool b) (absH T h'))(hk:K [.b b] h'):(PH C Sg T).callv (.func (.yield l) #[] #[]) (ah ys) [.leaf .b] h (@hid _ ⟨K⟩):=
 ⟨[.b b],h',⟨[.leaf (.b b)],⟨rfl,rfl,λx hx=>by
  simp only[qay]at hx
  subst hx
  intro y hy
  simp only[S0.cells,qay]at hy
  subst hy;trivial⟩,.inr ⟨l,rfl,hu⟩⟩,hk⟩
end
end Sx
end Go.Am

/-
 THE ALGEBRA OF PROPOSITIONS WITH WHAT COMES BEHIND PUT AWAY.
-/
namespace Go.Am
namespace Sx
open Go.Proofs
def hA(A:Alg Prop HL):Alg Prop HL where
 fail:=A.fail
 cond b x y:=A.cond b (@hid _ ⟨x⟩) (@hid _ ⟨y⟩)
 ari o k a b K:=A.ari o k a b (@hid _ ⟨K⟩)
 shf o k a l b K:=A.shf o k a l b (@hid _ ⟨K⟩)
 cmp o a b K:=A.cmp o a b (@hid _ ⟨K⟩)
 eqs l K:=A.eqs l (@hid _ ⟨K⟩)
 conv k a K:=A.conv k a (@hid _ ⟨K⟩)
 sel t a b K:=A.sel t a b (@hid _ ⟨K⟩)
 opt o K:=A.opt o (@hid _ ⟨K⟩)
 chk v x:=A.chk v (@hid _ ⟨x⟩)
 unI l K:=A.unI l (@hid _ ⟨K⟩)
 unB l K:=A.unB l (@hid _ ⟨K⟩)
 unV l K:=A.unV l (@hid _ ⟨K⟩)
 un0 l x:=A.un0 l (@hid _ ⟨x⟩)
 ucI k l K:=A.ucI k l (@hid _ ⟨K⟩)
 ucB l K:=A.ucB l (@hid _ ⟨K⟩)
 ucV l K:=A.ucV l (@hid _ ⟨K⟩)
 uc0 l x:=A.uc0 l (@hid _ ⟨x⟩)
 peek f h K:=A.peek f h (@hid _ ⟨K⟩)
 heap f h K:=A.heap f h (@hid _ ⟨K⟩)
 new o h K:=A.new o h (@hid _ ⟨K⟩)
 call g l h K:=A.call g l h (@hid _ ⟨K⟩)
 callv v a s h K:=A.callv v a s h (@hid _ ⟨K⟩)
 join b m:=A.join (@hid _ ⟨b⟩) (@hid _ ⟨m⟩)
 loop F l h:=A.loop (@hid _ ⟨F⟩) l h
 rfun n v a h K:=A.rfun n v a h (@hid _ ⟨K⟩)
 pend o x y l:=A.pend o (@hid _ ⟨x⟩) (@hid _ ⟨y⟩) l
 lp1 n h K:=A.lp1 n h (@hid _ ⟨K⟩)
 lp2 n o h K:=A.lp2 n o h (@hid _ ⟨K⟩)
theorem hA_eq(A:Alg Prop HL):hA A=A:=rfl
section
variable {A:Alg Prop HL}
theorem h_cond{b:Bool}{x y:Prop}:(hA A).cond b x y=A.cond b (@hid _ ⟨x⟩) (@hid _ ⟨y⟩):=rfl
theorem h_ari{o:BinOp}{k:IntKind}{a b:Int}{K:Int->Prop}:(hA A).ari o k a b K=A.ari o k a b (@hid _ ⟨K⟩):=rfl
theorem h_shf{o:BinOp}{k l:IntKind}{a b:Int}{K:Int->Prop}:(hA A).shf o k a l b K=A.shf o k a l b (@hid _ ⟨K⟩):=rfl
theorem h_cmp{o:BinOp}{a b:Int}{K:Bool->Prop}:(hA A).cmp o a b K=A.cmp o a b (@hid _ ⟨K⟩):=rfl
theorem h_eqs{l:List (Lf×Lf)}{K:Bool->Prop}:(hA A).eqs l K=A.eqs l (@hid _ ⟨K⟩):=rfl
theorem h_conv{k:IntKind}{a:Int}{K:Int->Prop}:(hA A).conv k a K=A.conv k a (@hid _ ⟨K⟩):=rfl
theorem h_sel{t:Bool}{a b:Int}{K:Int->Prop}:(hA A).sel t a b K=A.sel t a b (@hid _ ⟨K⟩):=rfl
theorem h_opt{α:Type}{o:Option α}{K:α->Prop}:(hA A).opt o K=A.opt o (@hid _ ⟨K⟩):=rfl
theorem h_chk{v:Value}{x:Prop}:(hA A).chk v x=A.chk v (@hid _ ⟨x⟩):=rfl
theorem h_unI{l:List Lf}{K:Int->List Lf->Prop}:(hA A).unI l K=A.unI l (@hid _ ⟨K⟩):=rfl
theorem h_unB{l:List Lf}{K:Bool->List Lf->Prop}:(hA A).unB l K=A.unB l (@hid _ ⟨K⟩):=rfl
theorem h_unV{l:List Lf}{K:Value->List Lf->Prop}:(hA A).unV l K=A.unV l (@hid _ ⟨K⟩):=rfl
theorem h_un0{l:List Lf}{x:Prop}:(hA A).un0 l x=A.un0 l (@hid _ ⟨x⟩):=rfl
theorem h_ucI{k:IntKind}{l:List Value}{K:Int->List Value->Prop}:(hA A).ucI k l K=A.ucI k l (@hid _ ⟨K⟩):=rfl
theorem h_ucB{l:List Value}{K:Bool->List Value->Prop}:(hA A).ucB l K=A.ucB l (@hid _ ⟨K⟩):=rfl
theorem h_ucV{l:List Value}{K:Value->List Value->Prop}:(hA A).ucV l K=A.ucV l (@hid _ ⟨K⟩):=rfl
theorem h_uc0{l:List Value}{x:Prop}:(hA A).uc0 l x=A.uc0 l (@hid _ ⟨x⟩):=rfl
theorem h_peek{f:Pk}{h:HL}{K:List Value->Prop}:(hA A).peek f h K=A.peek f h (@hid _ ⟨K⟩):=rfl
theorem h_heap{f:Hp}{h:HL}{K:List Value->HL->Prop}:(hA A).heap f h K=A.heap f h (@hid _ ⟨K⟩):=rfl
theorem h_new{o:HObj}{h:HL}{K:Nat->HL->Prop}:(hA A).new o h K=A.new o h (@hid _ ⟨K⟩):=rfl
theorem h_call{g:FuncId}{l:List Lf}{h:HL}{K:List Lf->HL->Prop}:(hA A).call g l h K=A.call g l h (@hid _ ⟨K⟩):=rfl
theorem h_callv{v:Value}{a:List Value}{s:List SK}{h:HL}{K:List Lf->HL->Prop}:(hA A).callv v a s h K=A.callv v a s h (@hid _ ⟨K⟩):=rfl
theorem h_join{b:List Lf->HL->Prop}{m:(List Lf->HL->Prop)->Prop}:(hA A).join b m=A.join (@hid _ ⟨b⟩) (@hid _ ⟨m⟩):=rfl
theorem h_loop{F:(List Lf->HL->Prop)->List Lf->HL->Prop}{l:List Lf}{h:HL}:(hA A).loop F l h=A.loop (@hid _ ⟨F⟩) l h:=rfl
theorem h_rfun{n:Nat}{v:Value}{a:List Value}{h:HL}{K:Option Code->HL->Prop}:(hA A).rfun n v a h K=A.rfun n v a h (@hid _ ⟨K⟩):=rfl
theorem h_pend{o:Option Code}{x y:Prop}{l:List (Nat×Prop)}:(hA A).pend o x y l=A.pend o (@hid _ ⟨x⟩) (@hid _ ⟨y⟩) l:=rfl
theorem h_lp1{n:Nat}{h:HL}{K:HL->Prop}:(hA A).lp1 n h K=A.lp1 n h (@hid _ ⟨K⟩):=rfl
theorem h_lp2{n:Nat}{o:Option Code}{h:HL}{K:HL->Prop}:(hA A).lp2 n o h K=A.lp2 n o h (@hid _ ⟨K⟩):=rfl
end
def pxh(A:Alg Prop HL):=And.intro (@h_cond A) (And.intro (@h_ari A) (And.intro (@h_shf A) (And.intro (@h_cmp A) (And.intro (@h_eqs A) (And.intro (@h_conv A) (And.intro (@h_sel A) (And.intro (@h_opt A) (And.intro (@h_chk A) (And.intro (@h_unI A) (And.intro (@h_unB A) (And.intro (@h_unV A) (And.intro (@h_un0 A) (And.intro (@h_ucI A) (And.intro (@h_ucB A) (And.intro (@h_ucV A) (And.intro (@h_uc0 A) (And.intro (@h_peek A) (And.intro (@h_heap A) (And.intro (@h_new A) (And.intro (@h_call A) (And.intro (@h_callv A) (And.intro (@h_join A) (And.intro (@h_loop A) (And.intro (@h_rfun A) (And.intro (@h_pend A) (And.intro (@h_lp1 A) ((@h_lp2 A))))))))))))))))))))))))))))
end Sx
end Go.Am

/-
 THE SEAT'S CALLS: what is known of them,and how it is shown (over the heaps of runs).
-/
set_option maxRecDepth 100000
namespace Go.Am
open Sx Go.Proofs
theorem gl_cell(g:Nat)(vs:List Value)(h:cc.G g=some vs):vs.all aP=true:=by
 unfold cc at h
 simp only at h
 split at h<;>first|(cases h;done)|(obtain rfl:=qao h;kernel_rfl)
abbrev P1:Alg Prop HL:=PH cc ac ae
abbrev Cc(g:FuncId)(ls rs:List Lf):Prop:=∀H,aI cc ac g ls H rs H
theorem fn_ok{f:FuncId}{fn:Fn1}(hi:FnIs (xc f) ac f fn){ls:List Lf}{H:HL}{K:List Lf->HL->Prop}(hls:fK ls=true)
  (h:al P1 (xc f) ac drN fn ls H K):∃rs H',aI cc ac f ls (absH ae H) rs (absH ae H')/\K rs H':=by
 obtain⟨rs,h',a1,_,a3⟩:=oF (X:=xc f) (holds:=id) (abs:=absH ae) (PH_ok cc ac ae) qi hi (dO hls) h
 exact⟨rs,h',a1,a3⟩
theorem fn_okG{f:FuncId}{fn:Fn1}(hi:FnIs (xc f) ac f fn){ls:List Lf}{H:HL}{K:List Lf->HL->Prop}(hls:dI ls)
  (h:al P1 (xc f) ac drN fn ls H K):∃rs H',aI cc ac f ls (absH ae H) rs (absH ae H')/\K rs H':=by
 obtain⟨rs,h',a1,_,a3⟩:=oF (X:=xc f) (holds:=id) (abs:=absH ae) (PH_ok cc ac ae) qi hi hls h
 exact⟨rs,h',a1,a3⟩
theorem gls0:dI []:=λ_ h=>by cases h
theorem glsI{n:Int}{ls:List Lf}(h:dI ls):dI (.i n :: ls):=λl hl=>by
 rcases qap.1 hl with rfl|hl
 ·trivial
 ·exact h l hl
theorem glsV{x:Value}{ls:List Lf}(hx:bg x=true)(h:dI ls):dI (.v x :: ls):=λl hl=>by
 rcases qap.1 hl with rfl|hl
 ·exact hx
 ·exact h l hl
abbrev FP:=List Lf->HL->(List Lf->HL->Prop)->Prop
abbrev UG(k:FuncId)(p:FP):Prop:=∀ {ls:List Lf} {H:HL} {K:List Lf->HL->Prop},fK ls=true->p ls H K->∃rs H',aI cc ac k ls (absH ae H) rs (absH ae H')/\K rs H'
abbrev XG(k:FuncId)(p:FP):Prop:=∀ {ls:List Lf} {H:HL} {K:List Lf->HL->Prop},dI ls->p ls H K->∃rs H',aI cc ac k ls (absH ae H) rs (absH ae H')/\K rs H'
abbrev QG(k:FuncId)(p:FP):Prop:=∀ {ls rs:List Lf},fK ls=true->p ls [] (λrs' _=>rs'=rs)->Cc k ls rs
abbrev YG(k:Nat)(p:List Value->Nat->FP):Prop:=∀ {vs:List Value} {lp:Nat} {ls:List Lf} {H:HL} {K:List Lf->HL->Prop} {st:LoopState} {pd:Option Code} {ys:List S0},H[lp]? = some (.lp k st pd vs)->Told ((ae k).params.map (·.2)) ls ys->p vs lp ls H K->∃b H',eI cc lp (ah ys) (absH ae H) (.bool b) (absH ae H')/\K [.b b] H'
theorem uu{k:FuncId}{fn:Fn1}{f:{R HT:Type}->Alg R HT->List Lf->HT->(List Lf->HT->R)->R}(hi:FnIs (xc k) ac k fn)(e:@f=λR HT A ls h K=>al A (xc k) ac drN fn ls h K):UG k (f (hA P1)):=by
 intro ls H K hls h
 rw[hA_eq,e]at h
 exact fn_ok hi hls h
theorem xx{k:FuncId}{fn:Fn1}{f:{R HT:Type}->Alg R HT->List Lf->HT->(List Lf->HT->R)->R}(hi:FnIs (xc k) ac k fn)(e:@f=λR HT A ls h K=>al A (xc k) ac drN fn ls h K):XG k (f (hA P1)):=by
 intro ls H K hls h
 rw[hA_eq,e]at h
 exact fn_okG hi hls h
theorem qq{k:FuncId}{sg:Sig}{p:FP}(hu:UG k p)(hs:ac k=some sg)(hf:sg.plain=true):QG k p:=λhls h=>by
 obtain⟨_,_,h1,rfl⟩:=hu hls h
 exact ct_of mixed oM hs hf h1
theorem yy{k:Nat}{f:{R HT:Type}->Alg R HT->List Value->Nat->List Lf->HT->(List Lf->HT->R)->R}(e:@f=λR HT A vs lp ls h K=>mK A (xc 0) ac drN (ae k) vs lp ls h K):YG k (f (hA P1)):=by
 intro vs lp ls H K st pd ys hl hy h
 rw[hA_eq,e]at h
 exact sY (X:=xc 0) (PH_ok cc ac ae) qi (ti hl) rfl rfl rfl rfl hy h
def qxs:=pxs cc ac ae
def qxh:=pxh P1
def qxc:=pxc cc ac ae
def qxa:=pxa cc ac ae
def qXX:=And.intro qxs (And.intro qxc qxa)
end Go.Am

/-
 THE FUNCTIONS OVER THE ALGEBRA OF PROPOSITIONS,BY PROGRAM.
-/
set_option maxRecDepth 100000
namespace Go.Am
open Sx Go.Proofs
/-- crimp/crimplaw09.CornersTurned -/
theorem u3:UG 3 (f3 (hA P1)):=uu i3 e3
theorem x3:XG 3 (f3 (hA P1)):=xx i3 e3
/-- (crimp/crimplaw06.P).Of -/
theorem u4:UG 4 (f4 (hA P1)):=uu i4 e4
theorem x4:XG 4 (f4 (hA P1)):=xx i4 e4
/-- crimp/patterns.Turned -/
theorem x5:XG 5 (f5 (hA P1)):=xx i5 e5
/-- crimp/corners.Creases -/
theorem x7:XG 7 (f7 (hA P1)):=xx i7 e7
/-- crimp/crimplaw09.point -/
theorem u8:UG 8 (f8 (hA P1)):=uu i8 e8
theorem q8:QG 8 (f8 (hA P1)):=qq u8 rfl (by kernel_rfl)
/-- crimp/crimpref06.Other -/
theorem u9:UG 9 (f9 (hA P1)):=uu i9 e9
theorem q9:QG 9 (f9 (hA P1)):=qq u9 rfl (by kernel_rfl)
/-- crimp/crimpref06.With -/
theorem x11:XG 11 (f11 (hA P1)):=xx i11 e11
/-- crimp/patterns.Opposite -/
theorem x12:XG 12 (f12 (hA P1)):=xx i12 e12
/-- crimp/sheets.Cell -/
theorem u13:UG 13 (f13 (hA P1)):=uu i13 e13
theorem q13:QG 13 (f13 (hA P1)):=qq u13 rfl (by kernel_rfl)
/-- crimp/sheets.Name -/
theorem u15:UG 15 (f15 (hA P1)):=uu i15 e15
theorem q15:QG 15 (f15 (hA P1)):=qq u15 rfl (by kernel_rfl)
/-- slices.SortFunc[[]crimp/patterns.Crease,crimp/patterns.Crease] -/
theorem u16:UG 16 (f16 (hA P1)):=uu i16 e16
theorem x16:XG 16 (f16 (hA P1)):=xx i16 e16
/-- crimp/patterns.Turned$1 -/
theorem u17:UG 17 (f17 (hA P1)):=uu i17 e17
theorem q17:QG 17 (f17 (hA P1)):=qq u17 rfl (by kernel_rfl)
/-- crimp/patterns.order -/
theorem u18:UG 18 (f18 (hA P1)):=uu i18 e18
theorem q18:QG 18 (f18 (hA P1)):=qq u18 rfl (by kernel_rfl)
/-- (crimp/patterns.Crease).unit -/
theorem u19:UG 19 (f19 (hA P1)):=uu i19 e19
theorem q19:QG 19 (f19 (hA P1)):=qq u19 rfl (by kernel_rfl)
/-- crimp/patterns.Check -/
theorem x21:XG 21 (f21 (hA P1)):=xx i21 e21
/-- crimp/corners.corner -/
theorem u22:UG 22 (f22 (hA P1)):=uu i22 e22
theorem q22:QG 22 (f22 (hA P1)):=qq u22 rfl (by kernel_rfl)
/-- crimp/corners.walk -/
theorem u23:UG 23 (f23 (hA P1)):=uu i23 e23
/-- crimp/patterns.Kind -/
theorem x24:XG 24 (f24 (hA P1)):=xx i24 e24
/-- slices.SortFunc[[]crimp/corners.Ray,crimp/corners.Ray] -/
theorem x25:XG 25 (f25 (hA P1)):=xx i25 e25
/-- crimp/corners.Creases$1 -/
theorem u26:UG 26 (f26 (hA P1)):=uu i26 e26
theorem q26:QG 26 (f26 (hA P1)):=qq u26 rfl (by kernel_rfl)
/-- slices.Clip[[]crimp/corners.Ray,crimp/corners.Ray] -/
theorem x27:XG 27 (f27 (hA P1)):=xx i27 e27
/-- crimp/sheets.Check -/
theorem u34:UG 34 (f34 (hA P1)):=uu i34 e34
theorem q34:QG 34 (f34 (hA P1)):=qq u34 rfl (by kernel_rfl)
/-- (crimp/sheets.Sheet).has -/
theorem u35:UG 35 (f35 (hA P1)):=uu i35 e35
theorem q35:QG 35 (f35 (hA P1)):=qq u35 rfl (by kernel_rfl)
/-- crimp/cells.Check -/
theorem u37:UG 37 (f37 (hA P1)):=uu i37 e37
theorem q37:QG 37 (f37 (hA P1)):=qq u37 rfl (by kernel_rfl)
/-- crimp/sheets.Neighbour -/
theorem u38:UG 38 (f38 (hA P1)):=uu i38 e38
theorem q38:QG 38 (f38 (hA P1)):=qq u38 rfl (by kernel_rfl)
/-- slices.pdqsortCmpFunc[crimp/patterns.Crease] -/
theorem x39:XG 39 (f39 (hA P1)):=xx i39 e39
/-- slices.ContainsFunc[[]crimp/patterns.Crease,crimp/patterns.Crease] -/
theorem x42:XG 42 (f42 (hA P1)):=xx i42 e42
/-- crimp/patterns.Check$1 -/
theorem u43:UG 43 (f43 (hA P1)):=uu i43 e43
theorem q43:QG 43 (f43 (hA P1)):=qq u43 rfl (by kernel_rfl)
/-- crimp/patterns.isKind -/
theorem u44:UG 44 (f44 (hA P1)):=uu i44 e44
theorem q44:QG 44 (f44 (hA P1)):=qq u44 rfl (by kernel_rfl)
/-- crimp/corners.walk$1 -/
theorem x45:XG 45 (f45 (hA P1)):=xx i45 e45
/-- crimp/cells.Neighbour -/
theorem u49:UG 49 (f49 (hA P1)):=uu i49 e49
theorem q49:QG 49 (f49 (hA P1)):=qq u49 rfl (by kernel_rfl)
/-- crimp/patterns.at -/
theorem x50:XG 50 (f50 (hA P1)):=xx i50 e50
/-- slices.pdqsortCmpFunc[crimp/corners.Ray] -/
theorem x51:XG 51 (f51 (hA P1)):=xx i51 e51
/-- slices.insertionSortCmpFunc[crimp/patterns.Crease] -/
theorem x59:XG 59 (f59 (hA P1)):=xx i59 e59
/-- slices.heapSortCmpFunc[crimp/patterns.Crease] -/
theorem x60:XG 60 (f60 (hA P1)):=xx i60 e60
/-- slices.breakPatternsCmpFunc[crimp/patterns.Crease] -/
theorem x61:XG 61 (f61 (hA P1)):=xx i61 e61
/-- slices.choosePivotCmpFunc[crimp/patterns.Crease] -/
theorem x62:XG 62 (f62 (hA P1)):=xx i62 e62
/-- slices.reverseRangeCmpFunc[crimp/patterns.Crease] -/
theorem x63:XG 63 (f63 (hA P1)):=xx i63 e63
/-- slices.partialInsertionSortCmpFunc[crimp/patterns.Crease] -/
theorem u64:UG 64 (f64 (hA P1)):=uu i64 e64
theorem x64:XG 64 (f64 (hA P1)):=xx i64 e64
/-- slices.partitionCmpFunc[crimp/patterns.Crease] -/
theorem x66:XG 66 (f66 (hA P1)):=xx i66 e66
/-- slices.IndexFunc[[]crimp/patterns.Crease,crimp/patterns.Crease] -/
theorem x69:XG 69 (f69 (hA P1)):=xx i69 e69
/-- crimp/patterns.find -/
theorem x74:XG 74 (f74 (hA P1)):=xx i74 e74
/-- slices.insertionSortCmpFunc[crimp/corners.Ray] -/
theorem x75:XG 75 (f75 (hA P1)):=xx i75 e75
/-- slices.siftDownCmpFunc[crimp/patterns.Crease] -/
theorem x90:XG 90 (f90 (hA P1)):=xx i90 e90
theorem x92:XG 92 (f92 (hA P1)):=xx i92 e92
/-- slices.medianAdjacentCmpFunc[crimp/patterns.Crease] -/
theorem x93:XG 93 (f93 (hA P1)):=xx i93 e93
/-- slices.medianCmpFunc[crimp/patterns.Crease] -/
theorem x94:XG 94 (f94 (hA P1)):=xx i94 e94
/-- slices.BinarySearchFunc[[]crimp/patterns.Crease,crimp/patterns.Crease,crimp/sheets.Unit] -/
theorem x96:XG 96 (f96 (hA P1)):=xx i96 e96
/-- crimp/patterns.find$1 -/
theorem u97:UG 97 (f97 (hA P1)):=uu i97 e97
theorem q97:QG 97 (f97 (hA P1)):=qq u97 rfl (by kernel_rfl)
/-- slices.order2CmpFunc[crimp/patterns.Crease] -/
theorem x110:XG 110 (f110 (hA P1)):=xx i110 e110
theorem xy112:YG 112 (y112 (hA P1)):=yy ey112
end Go.Am

/-
 SLICES IN THE HEAP: what lies behind them,how they are read and lengthened.
-/
set_option maxRecDepth 100000
namespace Go.Am
namespace Sx
theorem ie{vs:List Value}{off n:Nat}{cs:List Value}:cut vs off n=some cs↔off+n<=vs.length/\(vs.drop off).take n=cs:=by
 unfold cut
 split
 ·rename_i h;simp[h]
 ·rename_i h;simp[h]
theorem cut_len{vs:List Value}{off n:Nat}{cs:List Value}(h:cut vs off n=some cs):cs.length=n:=by
 obtain⟨h1,rfl⟩:=ie.1 h
 rw[qaT,qbE];omega
theorem cut_cut{vs:List Value}{off n:Nat}{cs:List Value}(h:cut vs off n=some cs){o k:Nat}(hk:o+k<=n):cut vs (off+o) k=some ((cs.drop o).take k):=by
 obtain⟨h1,rfl⟩:=ie.1 h
 refine ie.2 ⟨by omega,?_⟩
 rw[List.drop_take,qbB,List.take_take,qcs (by omega)]
theorem cut_all{vs:List Value}{n:Nat}(h:vs.length=n):cut vs 0 n=some vs:=ie.2 ⟨by omega,by rw[qbC,qaU (by omega)]⟩
def Pre(h0 h:HL):Prop:=∃G,h=h0++G
theorem Pre.refl(h:HL):Pre h h:=⟨[],by simp⟩
theorem Pre.trans{a b c:HL}(h:Pre a b)(k:Pre b c):Pre a c:=by
 obtain⟨G,rfl⟩:=h
 obtain⟨G',rfl⟩:=k
 exact⟨G++G',by simp⟩
theorem Pre.app{a b:HL}(h:Pre a b)(G:HL):Pre a (b++G):=h.trans ⟨G,rfl⟩
theorem Pre.len{a b:HL}(h:Pre a b):a.length<=b.length:=by obtain⟨G,rfl⟩:=h;simp
theorem Pre.get{a b:HL}(h:Pre a b){i:Nat}{o:HO}(hi:a[i]? = some o):b[i]? = some o:=by
 obtain⟨G,rfl⟩:=h
 have:i<a.length:=by
  rcases qaz i a.length with h|h
  ·exact h
  ·rw[qag h]at hi;cases hi
 rw[qah this];exact hi
theorem Pre.set{a b:HL}(h:Pre a b){i:Nat}(hi:a.length<=i)(o:HO):Pre a (b.set i o):=by
 obtain⟨G,rfl⟩:=h
 rw[qbA _ _ hi]
 exact⟨_,rfl⟩
def Ptr(h:HL)(p:Value)(cs:List Value):Prop:=∃id o vs e rw,p = .pointer (some ⟨id,o,none⟩)/\h[id]? = some (.o (.cells vs e rw))/\cut vs o cs.length=some cs
def SlC(h:HL)(v:Value)(e n:Nat)(cs:List Value):Prop:=
 cs.length=n*e/\((v = .slice none 0 0/\n=0)∨∃id off cx vs rw,v = .slice (some ⟨id,off,tag e⟩) n cx/\h[id]? = some (.o (.cells vs e rw))/\cut vs off (n*e)=some cs)
def LsH{α:Type}(h:HL)(v:Value)(e:Nat)(enc:α->List Value)(l:List α):Prop:=(∀a∈l,(enc a).length=e)/\SlC h v e l.length (l.flatMap enc)
def Mk(n0:Nat)(h:HL)(v:Value)(e n:Nat)(cs:List Value):Prop:=
 cs.length=n*e/\((v = .slice none 0 0/\n=0)∨∃id,n0<=id/\v = .slice (some ⟨id,0,tag e⟩) n 0/\h[id]? = some (.o (.cells cs e true)))
def MkL{α:Type}(n0:Nat)(h:HL)(v:Value)(e:Nat)(enc:α->List Value)(l:List α):Prop:=(∀a∈l,(enc a).length=e)/\Mk n0 h v e l.length (l.flatMap enc)
def blk:Value->Option Nat
 | .slice (some a) _ _=>some a.block
 |_=>none
theorem Ptr.keep{h h':HL}{p:Value}{cs:List Value}(hp:Ptr h p cs)(hk:∀(j:Nat) o,h[j]? = some o->h'[j]? = some o):Ptr h' p cs:=by
 obtain⟨id,o,vs,e,rw',h1,h2,h3⟩:=hp
 exact⟨id,o,vs,e,rw',h1,hk _ _ h2,h3⟩
theorem SlC.keep{h h':HL}{v:Value}{e n:Nat}{cs:List Value}(hs:SlC h v e n cs)(hk:∀(j:Nat) o,h[j]? = some o->blk v=some j->h'[j]? = some o):SlC h' v e n cs:=by
 obtain⟨h0,h1|⟨id,off,cx,vs,rw',rfl,h2,h3⟩⟩:=hs
 ·exact⟨h0,.inl h1⟩
 ·exact⟨h0,.inr ⟨id,off,cx,vs,rw',rfl,hk _ _ h2 rfl,h3⟩⟩
theorem SlC.pre{h h':HL}{v:Value}{e n:Nat}{cs:List Value}(hs:SlC h v e n cs)(hp:Pre h h'):SlC h' v e n cs:=hs.keep λ_ _ h _=>hp.get h
theorem LsH.keep{α:Type}{h h':HL}{v:Value}{e:Nat}{enc:α->List Value}{l:List α}(hs:LsH h v e enc l)(hk:∀(j:Nat) o,h[j]? = some o->blk v=some j->h'[j]? = some o):LsH h' v e enc l:=⟨hs.1,hs.2.keep hk⟩
theorem LsH.pre{α:Type}{h h':HL}{v:Value}{e:Nat}{enc:α->List Value}{l:List α}(hs:LsH h v e enc l)(hp:Pre h h'):LsH h' v e enc l:=⟨hs.1,hs.2.pre hp⟩
theorem SlC.len{h:HL}{v:Value}{e n:Nat}{cs:List Value}(hs:SlC h v e n cs):lenS v=some (.ofNat n):=by
 obtain⟨_,⟨rfl,rfl⟩|⟨id,off,cx,vs,rw',rfl,_⟩⟩:=hs<;>rfl
theorem LsH.len{α:Type}{h:HL}{v:Value}{e:Nat}{enc:α->List Value}{l:List α}(hs:LsH h v e enc l):lenS v=some (.ofNat l.length):=hs.2.len
theorem Mk.sl{n0:Nat}{h:HL}{v:Value}{e n:Nat}{cs:List Value}(hs:Mk n0 h v e n cs):SlC h v e n cs:=by
 obtain⟨h0,h1|⟨id,_,rfl,h2⟩⟩:=hs
 ·exact⟨h0,.inl h1⟩
 ·exact⟨h0,.inr ⟨id,0,0,cs,true,rfl,h2,cut_all h0⟩⟩
theorem MkL.ls{α:Type}{n0:Nat}{h:HL}{v:Value}{e:Nat}{enc:α->List Value}{l:List α}(hs:MkL n0 h v e enc l):LsH h v e enc l:=⟨hs.1,hs.2.sl⟩
theorem Mk.nil(n0:Nat)(h:HL)(e:Nat):Mk n0 h (.slice none 0 0) e 0 []:=⟨by simp,.inl ⟨rfl,rfl⟩⟩
theorem MkL.nil{α:Type}(n0:Nat)(h:HL)(e:Nat)(enc:α->List Value):MkL n0 h (.slice none 0 0) e enc []:=⟨by simp,Mk.nil n0 h e⟩
theorem LsH.nil{α:Type}(h:HL)(e:Nat)(enc:α->List Value):LsH h (.slice none 0 0) e enc []:=(MkL.nil 0 h e enc).ls
theorem Mk.keep{n0:Nat}{h h':HL}{v:Value}{e n:Nat}{cs:List Value}(hs:Mk n0 h v e n cs)(hk:∀(j:Nat) o,h[j]? = some o->blk v=some j->h'[j]? = some o):Mk n0 h' v e n cs:=by
 obtain⟨h0,h1|⟨id,h1,rfl,h2⟩⟩:=hs
 ·exact⟨h0,.inl h1⟩
 ·exact⟨h0,.inr ⟨id,h1,rfl,hk _ _ h2 rfl⟩⟩
theorem Mk.pre{n0:Nat}{h h':HL}{v:Value}{e n:Nat}{cs:List Value}(hs:Mk n0 h v e n cs)(hp:Pre h h'):Mk n0 h' v e n cs:=hs.keep λ_ _ h _=>hp.get h
theorem MkL.keep{α:Type}{n0:Nat}{h h':HL}{v:Value}{e:Nat}{enc:α->List Value}{l:List α}(hs:MkL n0 h v e enc l)(hk:∀(j:Nat) o,h[j]? = some o->blk v=some j->h'[j]? = some o):MkL n0 h' v e enc l:=⟨hs.1,hs.2.keep hk⟩
theorem MkL.pre{α:Type}{n0:Nat}{h h':HL}{v:Value}{e:Nat}{enc:α->List Value}{l:List α}(hs:MkL n0 h v e enc l)(hp:Pre h h'):MkL n0 h' v e enc l:=⟨hs.1,hs.2.pre hp⟩
theorem dc{α:Type}{e:Nat}{enc:α->List Value}:∀ {l:List α},(∀a∈l,(enc a).length=e)->(l.flatMap enc).length=l.length*e
 | [],_=>by simp
 |a :: l,h=>by
  rw[qbt,qaB,h a qaE,dc λb hb=>h b (qas _ hb),qaX,qbf,qb2,Nat.add_comm]
theorem nd{α:Type}{e:Nat}{enc:α->List Value}:∀ {l:List α},(∀a∈l,(enc a).length=e)->∀ {i:Nat} {a:α},l[i]? = some a->((l.flatMap enc).drop (i*e)).take e=enc a
 |b :: l,h,0,a,hi=>by
  simp only[qbd,qau]at hi
  subst hi
  have:=h b qaE
  rw[qbX,qbC,qbt,List.take_append_of_le_length (by omega),qaU (by omega)]
 |b :: l,h,i+1,a,hi=>by
  simp only[qbN]at hi
  have hb:=h b qaE
  have:=nd (λb hb=>h b (qas _ hb)) hi
  rw[qbt,qbf,qb2,←this]
  have e1:i*e+e=(enc b).length+i*e:=by omega
  rw[e1,qb3,qbT (by omega),qbg,qbM]
 | [],_,_,_,hi=>by simp at hi
theorem SlC.at{h:HL}{v:Value}{e n:Nat}{cs:List Value}(hs:SlC h v e n cs){i:Nat}(hi:i<n):∃p,idS e v (.ofNat i)=some p/\Ptr h p ((cs.drop (i*e)).take e):=by
 obtain⟨h0,⟨rfl,rfl⟩|⟨id,off,cx,vs,rw',rfl,h2,h3⟩⟩:=hs
 ·omega
 ·have hle:i*e+e<=n*e:=by
   have:=qa6 e (show i+1<=n by omega)
   rw[qbf,qb2]at this;exact this
  refine⟨.pointer (some ⟨id,off+i*e,none⟩),?_,id,off+i*e,vs,e,rw',rfl,h2,?_⟩
  ·rw[tn]
   have hh:0<=Int.ofNat i/\Int.ofNat i<(n:Int):=⟨qaR i,by show(i:Int)<n;omega⟩
   simp only[if_pos hh]
   have:¬(tag e=some 1):=by simp[tag]
   simp only[if_neg this]
   rfl
  ·have hc:=cut_cut h3 hle
   have hl:=cut_len hc
   rw[hl];exact hc
theorem LsH.at{α:Type}{h:HL}{v:Value}{e:Nat}{enc:α->List Value}{l:List α}(hs:LsH h v e enc l){i:Nat}{a:α}(hi:l[i]? = some a):∃p,idS e v (.ofNat i)=some p/\Ptr h p (enc a):=by
 have hlt:i<l.length:=by
  rcases qaz i l.length with h|h
  ·exact h
  ·rw[qag h]at hi;cases hi
 obtain⟨p,h1,h2⟩:=hs.2.at hlt
 rw[nd hs.1 hi]at h2
 exact⟨p,h1,h2⟩
theorem Ptr.fd{h:HL}{p:Value}{cs:List Value}(hp:Ptr h p cs)(o k:Nat)(hk:o+k<=cs.length):∃p',fdP o p=some p'/\Ptr h p' ((cs.drop o).take k):=by
 obtain⟨id,o',vs,e,rw',rfl,h2,h3⟩:=hp
 refine⟨_,rfl,id,o'+o,vs,e,rw',rfl,h2,?_⟩
 have hc:=cut_cut h3 hk
 rw[cut_len hc];exact hc
section
variable [Val] [Kno]
theorem dx{T:Nat->Site}{h:HL}{i:Nat}{o:HObj}(hi:h[i]? = some (.o o)):getH T h i=some o:=by
 unfold getH;rw[hi];rfl
theorem Ptr.ld{T:Nat->Site}{h:HL}{p:Value}{cs:List Value}(hp:Ptr h p cs){n:Nat}(hn:cs.length=n):(Pk.ld n p).run (getH T h)=some cs:=by
 obtain⟨id,o,vs,e,rw',rfl,h2,h3⟩:=hp
 subst hn
 show(match (none:Option Nat)with|none=>(fq (getH T h) id).bind λvs=>cut vs o cs.length|some _=>none)=_
 unfold fq
 rw[dx h2]
 exact h3
theorem Ptr.lg{C:Cfg}{T:Nat->Site}{h:HL}{p:Value}{cs:List Value}(hp:Ptr h p cs){n:Nat}(hn:cs.length=n):(Pk.lg C n p).run (getH T h)=some cs:=by
 obtain⟨id,o,vs,e,rw',rfl,h2,h3⟩:=hp
 subst hn
 show(fq (getH T h) id).bind (λvs=>cut vs o cs.length)=_
 unfold fq
 rw[dx h2]
 exact h3
theorem slG_sl{C:Cfg}{T:Nat->Site}{h:HL}{v:Value}{e n:Nat}{cs:List Value}(hs:SlC h v e n cs):slG C e (getH T h) v=some (cs,n):=by
 obtain⟨h0,⟨rfl,rfl⟩|⟨id,off,cx,vs,rw',rfl,h2,h3⟩⟩:=hs
 ·simp only[qbX,qa7]at h0
  subst h0;rfl
 ·unfold slG
  have:¬(tag e=some 1):=by simp[tag]
  simp only[if_neg this,if_true]
  rw[dx h2]
  simp only[if_true]
  rw[h3];rfl
variable {C:Cfg} {Sg:FuncId->Option Sig} {T:Nat->Site}
theorem ap_mk{n0:Nat}{h0 h:HL}{v x:Value}{e n k bytes:Nat}{cs new:List Value}(hp:Pre h0 h)(h0n:h0.length=n0)(hm:Mk n0 h v e n cs)(hx:SlC h x e k new)(hs:cE (n+k) bytes=true) :
  ∃acts v',(Hp.ap C e bytes v x).run (getH T h) h.length=some (acts,[v'])/\Pre h0 (bk h acts)/\Mk n0 (bk h acts) v' e (n+k) (cs++new)/\
   (∀(j:Nat) o,h[j]? = some o->blk v≠some j->(bk h acts)[j]? = some o)/\(blk v'=blk v∨blk v'=none∨∃j,blk v'=some j/\h.length<=j):=by
 obtain⟨c0,hm⟩:=hm
 have c1:=hx.1
 have c3:(cs++new).length=(n+k)*e:=by rw[qaB,c0,c1,qbf]
 have hslg:=slG_sl (C:=C) (T:=T) hx
 rcases hm with⟨rfl,rfl⟩|⟨id,hid,rfl,hg⟩
 ·simp only[qbX,qa7]at c0
  subst c0
  by_cases hk:k=0
  ·subst hk
   simp only[qbX,qa7]at c1
   subst c1
   refine⟨[],.slice none 0 0,?_,hp,Mk.nil _ _ _,λj o hj _=>hj,.inl rfl⟩
   show apG C e bytes (.slice none 0 0) x (getH T h) h.length=_
   unfold apG
   rw[hslg]
   rfl
  ·refine⟨[.push (.cells new e true)],.slice (some ⟨h.length,0,tag e⟩) k 0,?_,hp.app _,?_,λj o hj _=>?_,.inr (.inr ⟨h.length,rfl,qal _⟩)⟩
   ·show apG C e bytes (.slice none 0 0) x (getH T h) h.length=_
    unfold apG
    rw[hslg]
    simp only[if_neg hk]
    rw[qaW]at hs
    rw[if_pos hs]
   ·rw[qaW,qbg]
    refine⟨by simpa using c1,.inr ⟨h.length,by have:=hp.len;omega,rfl,?_⟩⟩
    simp[bk,Act1.onH]
   ·exact Pre.get ⟨_,rfl⟩ hj
 ·by_cases hk:k=0
  ·subst hk
   simp only[qbX,qa7]at c1
   subst c1
   refine⟨[],.slice (some ⟨id,0,tag e⟩) n 0,?_,hp,⟨c3,.inr ⟨id,hid,rfl,by simpa[bk]using hg⟩⟩,λj o hj _=>hj,.inl rfl⟩
   show apG C e bytes (.slice (some ⟨id,0,tag e⟩) n 0) x (getH T h) h.length=_
   unfold apG
   rw[hslg]
   simp only[ne_eq,not_true_eq_false,if_false]
   rw[dx hg]
   simp only[ne_eq,not_true_eq_false,if_false]
   rw[cut_all c0]
   rfl
  ·have hlt:id<h.length:=by
    rcases qaz id h.length with h1|h1
    ·exact h1
    ·rw[qag h1]at hg;cases hg
   refine⟨[.set id .dead,.push (.cells (cs++new) e true)],.slice (some ⟨h.length,0,tag e⟩) (n+k) 0,?_,?_,?_,λj o hj hb=>?_,.inr (.inr ⟨h.length,rfl,qal _⟩)⟩
   ·show apG C e bytes (.slice (some ⟨id,0,tag e⟩) n 0) x (getH T h) h.length=_
    unfold apG
    rw[hslg]
    simp only[ne_eq,not_true_eq_false,if_false]
    rw[dx hg]
    simp only[ne_eq,not_true_eq_false,if_false]
    rw[cut_all c0]
    simp only[if_neg hk,qdb]
    rw[if_pos hs]
   ·exact(hp.set (by omega) _).app _
   ·refine⟨c3,.inr ⟨h.length,by have:=hp.len;omega,rfl,?_⟩⟩
    simp[bk,Act1.onH]
   ·have hne:id≠j:=λhh=>hb (by subst hh;rfl)
    refine Pre.get (a:=h.set id (.o .dead)) ⟨_,rfl⟩ ?_
    rw[qaj hne];exact hj
theorem sK{n0:Nat}{h:HL}{v:Value}{e n:Nat}{cs:List Value}(hm:Mk n0 h v e n cs){j:Nat}(hb:blk v=some j):n0<=j/\j<h.length:=by
 obtain⟨_,⟨rfl,_⟩|⟨id,h1,rfl,hg⟩⟩:=hm
 ·cases hb
 ·cases hb
  refine⟨h1,?_⟩
  rcases qaz id h.length with h2|h2
  ·exact h2
  ·rw[qag h2]at hg;cases hg
theorem p_app1{α:Type}{h0 h:HL}{v:Value}{e bytes:Nat}{enc:α->List Value}{l:List α}{a:α}{K:List Value->HL->Prop}{new:List Value}{m:Nat}{sp:Option Nat}(hp:Pre h0 h)(hm:MkL h0.length h v e enc l)(hn:new=enc a)(hl:(enc a).length=e)(hmm:m=h.length)(hsp:sp=some (e+10))
  (hs:cE (l.length+1) bytes=true)
  (hk:∀v' h',Pre h0 h'->MkL h0.length h' v' e enc (l++[a])->bg v'=true->(∀(j:Nat) o,h[j]? = some o->blk v≠some j->h'[j]? = some o)->(blk v'=blk v∨∃j,blk v'=some j/\h.length<=j)->K [v'] h') :
  (PH C Sg T).heap (.ap C e bytes v (.slice (some ⟨m,0,sp⟩) 1 2)) (h++[.o (.cells new e true)]) (@hid _ ⟨K⟩):=by
 subst hn hmm hsp
 have hx:SlC (h++[HO.o (.cells (enc a) e true)]) (.slice (some ⟨h.length,0,tag e⟩) 1 2) e 1 (enc a):=by
  refine⟨by omega,.inr ⟨h.length,0,2,enc a,true,rfl,by simp,cut_all (by omega)⟩⟩
 have hm':Mk h0.length (h++[HO.o (.cells (enc a) e true)]) v e l.length (l.flatMap enc):=hm.2.pre ⟨_,rfl⟩
 obtain⟨acts,v',a1,a2,a3,a4,a5⟩:=ap_mk (C:=C) (T:=T) (hp.app [HO.o (.cells (enc a) e true)]) rfl hm' hx hs
 refine cW a1 (hk v' _ a2 ⟨?_,?_⟩ ?_ ?_ ?_)
 ·intro b hb
  rcases qaQ.1 hb with hb|hb
  ·exact hm.1 b hb
  ·simp only[qay]at hb;subst hb;exact hl
 ·rw[List.flatMap_append,qaB]
  simpa using a3
 ·obtain⟨_,⟨rfl,_⟩|⟨id,_,rfl,_⟩⟩:=a3
  ·rfl
  ·simp[bg,noLoc,bj,cw,bS,bd,aH,tag]
 ·intro j o hj hb
  exact a4 j o (Pre.get ⟨_,rfl⟩ hj) hb
 ·rcases a5 with h1|h1|⟨j,h1,h2⟩
  ·exact .inl h1
  ·obtain⟨q1,⟨_,q2⟩|⟨id,_,rfl,_⟩⟩:=a3
   ·omega
   ·cases h1
  ·exact .inr ⟨j,h1,by simp at h2;omega⟩
end
end Sx
end Go.Am

/-
 RULES FOR LOOPS AND SLICES.
-/
set_option maxRecDepth 100000
namespace Go.Am
namespace Sx
theorem Ptr.good{h:HL}{p:Value}{cs:List Value}(hp:Ptr h p cs):bg p=true:=by
 obtain⟨id,o,vs,e,rw',rfl,_⟩:=hp
 simp[bg,noLoc,bj,cw,bS,bd,aH]
theorem SlC.good{h:HL}{v:Value}{e n:Nat}{cs:List Value}(hs:SlC h v e n cs):bg v=true:=by
 obtain⟨_,⟨rfl,_⟩|⟨id,off,cx,vs,rw',rfl,_⟩⟩:=hs
 ·rfl
 ·simp[bg,noLoc,bj,cw,bS,bd,aH,tag]
theorem LsH.good{α:Type}{h:HL}{v:Value}{e:Nat}{enc:α->List Value}{l:List α}(hs:LsH h v e enc l):bg v=true:=hs.2.good
section
variable [Val] [Kno] {C:Cfg} {Sg:FuncId->Option Sig} {T:Nat->Site}
theorem hidL{F:(List Lf->HL->Prop)->List Lf->HL->Prop}{s:List Lf->HL->Prop}{l:List Lf}{h:HL}(hf:F s l h):@hid _ ⟨F⟩ s l h:=hf
theorem fM{σ:Type}{F:(List Lf->HL->Prop)->List Lf->HL->Prop}(n:Nat)(S:Nat->σ->List Lf)(HP:Nat->σ->HL)(Inv:Nat->σ->Prop){j0:Nat}{s0:σ}{ls:List Lf}{h:HL}(hls:ls=S j0 s0)(hh:h=HP j0 s0)(hj:j0<=n)(hi:Inv j0 s0)
  (step:∀j s,j<=n->Inv j s->∀self:List Lf->HL->Prop,(∀s',j<n->Inv (j+1) s'->self (S (j+1) s') (HP (j+1) s'))->F self (S j s) (HP j s)):(PH C Sg T).loop (@hid _ ⟨F⟩) ls h:=by
 subst hls hh
 refine aF (m:=n - j0) (λm ls h=>∃j s,ls=S j s/\h=HP j s/\j<=n/\m=n - j/\Inv j s) ⟨j0,s0,rfl,rfl,hj,rfl,hi⟩ ?_
 rintro m ls h ⟨j,s,rfl,rfl,hj,rfl,hi⟩ self hself
 exact hidL (step j s hj hi self λs' hlt hi'=>hself (n - (j+1)) _ _ (by omega) ⟨j+1,s',rfl,rfl,by omega,rfl,hi'⟩)
theorem oV{F:(List Lf->HL->Prop)->List Lf->HL->Prop}(n:Nat)(Inv:Nat->Prop){j0:Nat}{h:HL}{ls:List Lf}(hls:ls=[.i (Int.ofNat j0)])(hj:j0<=n)(hi:Inv j0)
  (step:∀j,j<=n->Inv j->∀self:List Lf->HL->Prop,(j<n->Inv (j+1)->self [.i (Int.ofNat j+1)] h)->F self [.i (Int.ofNat j)] h):(PH C Sg T).loop (@hid _ ⟨F⟩) ls h:=
 fM (σ:=Unit) n (λj _=>[.i (Int.ofNat j)]) (λ_ _=>h) (λj _=>Inv j) (s0:=()) hls rfl hj hi λj _ hj hi self hs=>step j hj hi self (λa b=>hs () a b)
theorem gu{α:Type}{h:HL}{v:Value}{e:Nat}{enc:α->List Value}{l:List α}{K:Int->Prop}(hs:LsH h v e enc l)(hk:K (Int.ofNat l.length)):(PH C Sg T).opt (lenS v) (@hid _ ⟨K⟩):=aE hs.len hk
theorem aO{α:Type}{h:HL}{v:Value}{e:Nat}{enc:α->List Value}{l:List α}{i:Nat}{a:α}{n:Int}{K:List Value->Prop}(hs:LsH h v e enc l)(hn:n=Int.ofNat i)(hi:l[i]? = some a)(hk:K (enc a)) :
  (PH C Sg T).opt (idS e v n) (@hid _ ⟨λx=>(PH C Sg T).peek (.lg C e x) h (@hid _ ⟨K⟩)⟩):=by
 subst hn
 obtain⟨p,h1,h2⟩:=hs.at hi
 exact aE h1 (kE (h2.lg (hs.1 a (qad hi))) hk)
theorem uX{α:Type}{h:HL}{v:Value}{e:Nat}{enc:α->List Value}{l:List α}{i:Nat}{a:α}{n:Int}{o k:Nat}{cs:List Value}{K:List Value->Prop}(hs:LsH h v e enc l)(hn:n=Int.ofNat i)(hi:l[i]? = some a)(hcs:cs=((enc a).drop o).take k)(hok:o+k<=e)(hk:K cs) :
  (PH C Sg T).opt (idS e v n) (@hid _ ⟨λx=>(PH C Sg T).opt (fdP o x) (@hid _ ⟨λy=>(PH C Sg T).chk y (@hid _ ⟨(PH C Sg T).peek (.lg C k y) h (@hid _ ⟨K⟩)⟩)⟩)⟩):=by
 subst hn hcs
 obtain⟨p,h1,h2⟩:=hs.at hi
 have he:=hs.1 a (qad hi)
 have hok:o+k<=(enc a).length:=by omega
 have hlen:(((enc a).drop o).take k).length=k:=by rw[qaT,qbE];omega
 obtain⟨q,h3,h4⟩:=h2.fd o k hok
 refine aE h1 (aE h3 ?_)
 show bg q=true/\_
 exact⟨h4.good,kE (h4.lg hlen) hk⟩
end
end Sx
end Go.Am

/-
 CREASES: the tests of patterns,told of lists: kinds.
-/
set_option maxRecDepth 100000
set_option maxHeartbeats 4000000
namespace Go.Am
open Sx Go.Proofs
abbrev Crs:=Int×Int×Int
def encC(c:Crs):List Value:=[.int .i64 c.1,.int .u8 c.2.1,.int .u8 c.2.2]
def okC(c:Crs):Prop:=-9223372036854775808<=c.1/\c.1<=9223372036854775807/\0<=c.2.1/\c.2.1<=255/\0<=c.2.2/\c.2.2<=255
def isK(c:Crs):Bool:=decide (1<=c.2.2)&&decide (c.2.2<=3)
theorem isKind_c(k:Int):Cc 44 [.i k] [.b (decide (1<=k)&&decide (k<=3))]:=by
 refine q44 rfl ?_;unfold f44;simp only[qxh]
 by_cases h1:1<=k
 ·by_cases h2:k<=3
  ·simp(disch:=omega)only[↓qXX];simp[h1,h2]
  ·simp(disch:=omega)only[↓qXX];simp[h1,h2]
 ·simp(disch:=omega)only[↓qXX];simp[h1]
theorem chk1_c(c:Crs):Cc 43 [.i c.1,.i c.2.1,.i c.2.2] [.b (!isK c)]:=by
 refine q43 rfl ?_;unfold f43;simp only[qxh]
 simp(disch:=omega)only[↓qXX]
 refine aT (isKind_c c.2.2) ?_
 simp(disch:=omega)only[↓qXX]
 simp[isK]
abbrev clo1:Value:=.func (.func 43) ⟨[]⟩ ⟨[]⟩
theorem good1:bg clo1=true:=rfl
theorem index_c{h:HL}{x:Value}{l:List Crs}(hl:LsH h x 3 encC l)(hn:l.length<=4294967296):∃n:Int,aI cc ac 69 [.v x,.v clo1] (absH ae h) [.i n] (absH ae h)/\(0<=n↔∃c∈l,isK c=false):=by
 obtain⟨rs,h',h1,n,rfl,rfl,h2⟩:=x69 (K:=λrs h'=>∃n:Int,rs=[.i n]/\h'=h/\(0<=n↔∃c∈l,isK c=false)) (H:=h) (glsV hl.good (glsV good1 gls0)) (by
  unfold f69;simp only[qxh]
  simp(disch:=omega)only[↓qXX]
  refine gu hl ?_
  refine oV l.length (λj=>∀i,i<j->∀c,l[i]? = some c->isK c=true) rfl (qbo _) (λi hi=>absurd hi (qcq _)) ?_
  intro j hj hi self hself
  simp(disch:=omega)only[↓qXX]
  by_cases hlt:j<l.length
  ·have e1:Int.ofNat j<Int.ofNat l.length:=by show(j:Int)<l.length;omega
   rw[p_lss_t e1]
   simp(disch:=omega)only[↓qXX]
   obtain⟨c,hc⟩ : ∃c,l[j]? = some c:=⟨_,qaC hlt⟩
   refine aO hl rfl hc ?_
   unfold encC
   simp(disch:=omega)only[↓qXX]
   refine co (hQ (chk1_c c _) rfl [.agg [.i .i64 c.1,.i .u8 c.2.1,.i .u8 c.2.2]] rfl rfl) ?_
   simp(disch:=omega)only[↓qXX]
   cases hk:isK c with
   |true=>
    show P1.cond false _ _
    simp(disch:=omega)only[↓qXX]
    rw[p_add (by show -9223372036854775808<=(j:Int)+1;omega) (by show(j:Int)+1<=9223372036854775807;omega)]
    refine hself hlt λi hi' c' hc'=>?_
    rcases qaz i j with h|h
    ·exact hi i h c' hc'
    ·obtain rfl:i=j:=by omega
     rw[hc]at hc';cases hc';exact hk
   |false=>
    show P1.cond true _ _
    simp(disch:=omega)only[↓qXX]
    exact⟨_,rfl,by trivial,λ_=>⟨c,qad hc,hk⟩,λ_=>qaR j⟩
  ·have e1:Int.ofNat l.length<=Int.ofNat j:=by show(l.length:Int)<=j;omega
   rw[p_lss_f e1]
   simp(disch:=omega)only[↓qXX]
   refine⟨_,rfl,by trivial,λh=>by omega,λ⟨c,hc,hk⟩=>?_⟩
   obtain⟨i,hi'⟩:=qaZ hc
   have hlt':i<l.length:=by
    rcases qaz i l.length with h|h
    ·exact h
    ·rw[qag h]at hi';cases hi'
   rw[hi i (by omega) c hi']at hk
   cases hk)
 exact⟨n,h1,h2⟩
theorem uC{h:HL}{x:Value}{l:List Crs}(hl:LsH h x 3 encC l)(hn:l.length<=4294967296):aI cc ac 42 [.v x,.v clo1] (absH ae h) [.b (!l.all isK)] (absH ae h):=by
 obtain⟨n,h1,h2⟩:=index_c hl hn
 obtain⟨rs,h',h3,rfl,rfl⟩:=x42 (K:=λrs h'=>rs=[.b (!l.all isK)]/\h'=h) (H:=h) (glsV hl.good (glsV good1 gls0)) (by
  unfold f42;simp only[qxh]
  simp(disch:=omega)only[↓qXX]
  refine aq h1 ?_
  simp(disch:=omega)only[↓qXX]
  cases hb:l.all isK with
  |true=>
   have:¬0<=n:=λh=>by
    obtain⟨c,hc,hk⟩:=h2.1 h
    rw[qac.1 hb c hc]at hk;cases hk
   simp(disch:=omega)only[↓qXX]
   exact⟨by trivial,by trivial⟩
  |false=>
   have:0<=n:=h2.2 (by
    obtain⟨c,hc,hk⟩:=List.all_eq_false.1 hb
    exact⟨c,hc,by simpa using hk⟩)
   simp(disch:=omega)only[↓qXX]
   exact⟨by trivial,by trivial⟩)
 exact h3
end Go.Am

/-
 CALLS THAT MAKE BLOCKS: what a run over some blocks alone answers and makes,holds whatever else there is: the new blocks come behind.
-/
namespace Go.Am
namespace Sx
section
variable [Val]
def uM:HObj->HObj
 | .cells vs e true=>if vs.all flat then .cells vs e true else .dead
 |_=>.dead
theorem rS{o:HObj}(h:(uM o).alive=true):∃vs e,o = .cells vs e true/\vs.all flat=true/\uM o = .cells vs e true:=by
 match o,h with
 | .cells vs e true,h=>
  unfold uM at h
  by_cases hf:vs.all flat=true
  ·exact⟨vs,e,rfl,hf,by show(if vs.all flat=true then HObj.cells vs e true else .dead)=_;rw[if_pos hf]⟩
  ·simp only[if_neg hf]at h;cases h
 | .cells _ _ false,h=>cases h
 | .map ..,h=>cases h
 | .loop ..,h=>cases h
 | .siter ..,h=>cases h
 | .dead,h=>cases h
def jL(n0 n:Nat)(σ:Nat->Nat):Nat->Nat:=λj=>if j<n0 then σ j else n+(j - n0)
theorem vr_ren' [Glo]{n:Nat}{τ:Nat->Nat}{mu' mu'':HMap}(hmu:∀j,j<n->mu'' (τ j)=mu' j){v c:Value}(hv:OkV n v)(h:VR noL mu' v c):VR noL mu'' (renV τ v) c:=by
 rcases hv with⟨h1,h2⟩|⟨j,off,len,cx,e,hj,rfl⟩
 ·rw[h2,cJ h1 h]
  exact .of_flat h1
 ·show VR noL mu'' (.slice (some ⟨τ j,off,tag e⟩) len cx) c
  generalize ht:tag e=t at h ⊢
  cases h with
  |hslice q1 q2 q3 q4=>exact .hslice ((hmu j hj).trans q1) q2 q3 q4
  |hslice0 q1=>exact .hslice0 q1
  |gslice _=>simp[tag]at ht
  |gslice0=>simp[tag]at ht
  |scalar q=>simp[scalar]at q
theorem vr_sl' [Glo]{n:Nat}{τ:Nat->Nat}{mu' mu'':HMap}(hmu:∀j,j<n->mu'' (τ j)=mu' j){l:SL}{c:Value}(hl:OkL n l.lf)(h:VR noL mu' l.val c):VR noL mu'' (jT τ l).val c:=by
 cases l with
 |v x=>exact vr_ren' hmu hl h
 |i k m=>
  have hf:flat (Value.int k m)=true:=rfl
  have h:VR noL mu' (.int k m) c:=h
  rw[cJ hf h];exact .of_flat hf
 |b t=>
  have hf:flat (Value.bool t)=true:=rfl
  have h:VR noL mu' (.bool t) c:=h
  rw[cJ hf h];exact .of_flat hf
 |l t=>
  have hf:flat (Value.bool t)=true:=rfl
  have h:VR noL mu' (.bool t) c:=h
  rw[cJ hf h];exact .of_flat hf
theorem vr_s0' [Glo]{n:Nat}{τ:Nat->Nat}{mu' mu'':HMap}(hmu:∀j,j<n->mu'' (τ j)=mu' j){x:S0}{c:Value}(hx:∀l∈x.cells,OkL n l.lf)(h:VR noL mu' x.val c):VR noL mu'' (renS τ x).val c:=by
 cases x with
 |leaf l=>exact vr_sl' hmu (hx l (by simp[S0.cells])) h
 |agg cs=>
  have h:VR noL mu' (.agg ⟨cs.map SL.val⟩) c:=h
  generalize ha:(⟨cs.map SL.val⟩ : Array Value)=a at h
  cases h with
  |scalar q=>simp[scalar]at q
  |agg hs h=>
   subst ha
   refine .agg (by simpa using hs) λi x y hx' hy=>?_
   have hi:((cs.map (jT τ)).map SL.val)[i]? = some x:=by simpa using hx'
   rw[qax,qax]at hi
   cases e:cs[i]? with
   |none=>rw[e]at hi;cases hi
   |some l=>
    rw[e]at hi
    cases hi
    exact vr_sl' hmu (hx l (qad e)) (h i _ y (by simp[e]) hy)
theorem vr_pack' [Glo]{n:Nat}{τ:Nat->Nat}{mu' mu'':HMap}(hmu:∀j,j<n->mu'' (τ j)=mu' j){xs:List S0}{c:Value}(hx:∀x∈xs,∀l∈x.cells,OkL n l.lf)(h:VR noL mu' (dW (ah xs)) c):VR noL mu'' (dW (ah (xs.map (renS τ)))) c:=by
 match xs,hx,h with
 | [],_,h=>
  have h:VR noL mu' undef c:=h
  have hf:flat undef=true:=rfl
  rw[cJ hf h]
  exact .of_flat hf
 | [x],hx,h=>exact vr_s0' hmu (hx x qaE) h
 |x :: y :: l,hx,h=>
  have h:VR noL mu' (.tuple ⟨ah (x :: y :: l)⟩) c:=h
  show VR noL mu'' (.tuple ⟨ah ((x :: y :: l).map (renS τ))⟩) c
  generalize ha:(⟨ah (x :: y :: l)⟩ : Array Value)=a at h
  have hsz:a.size=l.length+2:=by subst ha;simp[ah]
  cases h with
  |scalar q=>simp[scalar]at q
  |poison _=>exact absurd hsz (by simp)
  |sym _=>exact absurd hsz (by simp)
  |tuple hn hs h=>
   subst ha
   refine .tuple (by simp[ah]) (by simpa[ah]using hs) λi x' y' hx' hy=>?_
   have hi:(ah ((x :: y :: l).map (renS τ)))[i]? = some x':=by simpa using hx'
   unfold ah at hi
   rw[qax,qax]at hi
   cases e:(x :: y :: l)[i]? with
   |none=>rw[e]at hi;cases hi
   |some s=>
    rw[e]at hi
    cases hi
    exact vr_s0' hmu (hx s (qad e)) (h i _ y' (by
     show(⟨(x :: y :: l).map S0.val⟩ : Array Value)[i]? = _
     rw[List.getElem?_toArray,qax,e];rfl) hy)
theorem objR_some [Glo]{mu:HMap}{p:Pl}{x:Option Obj}{o:HObj}(ha:o.alive=true)(h:objR mu p x o):∃y,x=some y:=by
 cases o with
 |cells vs e rw=>obtain⟨_,_,_,c,e,fr,h,_⟩:=h;exact⟨_,h⟩
 |map es c=>obtain⟨es',h,_⟩:=h;exact⟨_,h⟩
 |loop r=>obtain⟨L,h,_⟩:=h;exact⟨_,h⟩
 |siter s p=>exact⟨_,h⟩
 |dead=>cases ha
end
section
variable [Val]
theorem frame_alI(kp:Nat->HObj->HObj)(hkp:∀k o,(kp k o).alive=true->∃vs e,o = .cells vs e true/\vs.all flat=true/\kp k o = .cells vs e true){C:Cfg}(hG:∀g vs,C.G g=some vs->vs.all gfl=true){f:FuncId}{args0 args:List Value}{r0 r:Value}{H0 H' H:List HObj}(σ:Nat->Nat)(h:dH C f args0 H0 r0 H')
  (h0:∀(j:Nat) (o:HObj),H0[j]? = some o->∃vs e rw,o = .cells vs e false/\vs.all flat=true/\H[σ j]? = some (.cells vs e rw))
  (ha:∀ [Glo] (mu mu0:HMap) (cs:List Value),(∀j,j<H0.length->mu0 j=mu (σ j))->VRs noL mu args cs->VRs noL mu0 args0 cs)
  (hr:∀ [Glo] (mu' mu'':HMap) (c:Value),(∀j,j<H'.length->mu'' (jL H0.length H.length σ j)=mu' j)->VR noL mu' r0 c->VR noL mu'' r c):dH C f args H r (H++(H'.drop H0.length).mapIdx kp):=by
 intro _ base mu w args' hb hargs hW cs
 let mu0:HMap:=λj=>if j<H0.length then mu (σ j)else none
 have hno:∀b,¬Own mu0 H0 b:=by
  rintro b ⟨id,o,p,h1,h2,_⟩
  obtain⟨vs,e,rw',rfl,_⟩:=h0 id o h1
  cases h2
 have hmu:∀(id:Nat) (o:HObj),H0[id]? = some o->mu0 id=mu (σ id):=by
  intro id o h1
  have:id<H0.length:=by
   rcases qaz id H0.length with h|h
   ·exact h
   ·rw[qag h]at h1;cases h1
  simp only[mu0,if_pos this]
 have hobj:∀(id:Nat) (o:HObj),H0[id]? = some o->∃p,mu0 id=some p/\objR mu0 p w.heap[p.b]? o:=by
  intro id o h1
  obtain⟨vs,e,rw',rfl,hf,hH⟩:=h0 id o h1
  obtain⟨p,h3,h4⟩:=hW.obj (σ id) _ hH rfl
  obtain⟨g1,g2,g3,c,e',fr,g4,g5,g6,g7⟩:=h4
  refine⟨p,by rw[hmu id _ h1];exact h3,g1,g2,g3,c,e',fr,g4,g5,λe=>by(cases e),λi v hv=>?_⟩
  obtain⟨v',q1,q2⟩:=g7 i v hv
  have h2:flat v=true:=qac.1 hf v (qad hv)
  refine⟨v',q1,?_⟩
  rw[cJ h2 q2]
  exact .of_flat h2
 have hin:∀(p:Pl) (o:HObj) (m:HMap),o.alive=true->objR m p w.heap[p.b]? o->p.b<w.heap.size:=by
  intro p o m ha h
  obtain⟨y,hy⟩:=objR_some ha h
  rcases qaz p.b w.heap.size with h|h
  ·exact h
  ·rw[qba h]at hy;cases hy
 have hW0:WR C w.heap.size mu0 H0 w:=by
  refine⟨λid o h1 _=>hobj id o h1,λi j oi oj pi pj h1 h2 h3=>?_,λi o p h1 h2=>?_,λi o p h1 ha' _ h2=>?_,λid h1=>?_,λg vs hg=>?_⟩
  ·obtain⟨vs,e,rw',rfl,_⟩:=h0 i oi h1
   cases h3
  ·obtain⟨vs,e,rw',rfl,_⟩:=h0 i o h1
   cases h2
  ·obtain⟨p',h3,h4⟩:=hobj i o h1
   rw[h2]at h3
   cases h3
   exact hin _ _ _ ha' h4
  ·simp only[mu0,if_neg (qdd.2 h1)]
  ·obtain⟨h1,h2,c,e,fr,h3,h4⟩:=hW.glob g vs hg
   exact⟨by omega,h2,c,e,fr,h3,ku (hG g vs hg) h4⟩
 have hargs0:VRs noL mu0 args0 args'.toList:=ha mu mu0 _ (λj hj=>by simp only[mu0,if_pos hj]) hargs
 obtain⟨v,mu',w',a1,a2,a3,a4,a5⟩:=h _ w.heap.size mu0 w args' (qal _) hargs0 hW0 cs
 have hkeep:∀(b:Nat) x,w.heap[b]? = some x->w'.heap[b]? = some x:=by
  intro b x hx
  have hlt:b<w.heap.size:=by
   rcases qaz b w.heap.size with h|h
   ·exact h
   ·rw[qba h]at hx;cases hx
  rw[a3.keep b hlt (hno b)];exact hx
 let mu2:HMap:=λid=>if id<H.length then mu id else mu' (H0.length+(id - H.length))
 have hold:∀id,id<H.length->mu2 id=mu id:=λid hi=>by simp only[mu2,if_pos hi]
 have hnew:∀k,mu2 (H.length+k)=mu' (H0.length+k):=λk=>by
  simp only[mu2,if_neg (qdd.2 (Nat.le_add_right H.length k)),qbM]
 have hlen:=a3.len
 have hmono:∀i p,mu i=some p->mu2 i=some p:=by
  intro i p hp
  rw[hold i];exact hp
  rcases qaz i H.length with h|h
  ·exact h
  ·rw[hW.dom i h]at hp;cases hp
 have hbeh:∀(id:Nat) (o:HObj),(H++(H'.drop H0.length).mapIdx kp)[id]? = some o->¬id<H.length->o.alive=true->
   ∃k vs e,id=H.length+k/\H'[H0.length+k]? = some (.cells vs e true)/\vs.all flat=true/\o = .cells vs e true:=by
  intro id o ho hid hal
  rw[qan (by omega),List.getElem?_mapIdx,qaO]at ho
  obtain⟨o',h1,rfl⟩:=qae.1 ho
  obtain⟨vs,e,rfl,hf,e2⟩:=hkp _ _ hal
  exact⟨id - H.length,vs,e,by omega,h1,hf,e2⟩
 refine⟨v,mu2,w',?_,?_,?_,a4,a5⟩
 ·refine hr mu' mu2 v (λj hj=>?_) a1
  unfold jL
  by_cases hj0:j<H0.length
  ·rw[if_pos hj0]
   obtain⟨vs,e,rw',_,_,hH⟩:=h0 j _ (qaC hj0)
   have:σ j<H.length:=by
    rcases qaz (σ j) H.length with h|h
    ·exact h
    ·rw[qag h]at hH;cases hH
   rw[hold _ this,a3.same j hj0]
   simp only[mu0,if_pos hj0]
  ·rw[if_neg hj0,hnew,show H0.length+(j - H0.length)=j by omega]
 ·refine⟨λid o h1 h2=>?_,λi j oi oj pi pj h1 h2 h3 h4 h5 h6 h7=>?_,λi o p h1 h2 h3=>?_,λi o p h1 h2 h3 h4=>?_,λid h1=>?_,λg vs hg=>?_⟩
  ·by_cases hid:id<H.length
   ·rw[qah hid]at h1
    obtain⟨p,h3,h4⟩:=hW.obj id o h1 h2
    exact⟨p,hmono _ _ h3,(qS (hkeep p.b) h4).mono hmono⟩
   ·obtain⟨k,vs,e,rfl,h3,hf,rfl⟩:=hbeh id o h1 hid h2
    obtain⟨p,h4,g1,g2,g3,c,e',fr,g4,g5,g6,g7⟩:=a2.obj _ _ h3 rfl
    refine⟨p,by rw[hnew];exact h4,g1,g2,g3,c,e',fr,g4,g5,g6,λi v hv=>?_⟩
    obtain⟨v',q1,q2⟩:=g7 i v hv
    have hfv:flat v=true:=qac.1 hf v (qad hv)
    refine⟨v',q1,?_⟩
    rw[cJ hfv q2]
    exact .of_flat hfv
  ·by_cases hi:i<H.length
   ·rw[qah hi]at h1
    rw[hold i hi]at h6
    by_cases hj:j<H.length
    ·rw[qah hj]at h2
     rw[hold j hj]at h7
     exact hW.inj i j oi oj pi pj h1 h2 h3 h4 h5 h6 h7
    ·obtain⟨k,vs,e,rfl,q1,hf,rfl⟩:=hbeh j oj h2 hj h4
     rw[hnew]at h7
     have hb2:=a2.own _ _ _ q1 rfl h7
     obtain⟨p,h8,h9⟩:=hW.obj i oi h1 (aK h3)
     rw[h6]at h8;cases h8
     have:=hin _ _ _ (aK h3) h9
     omega
   ·obtain⟨k,vs,e,rfl,q1,hf,rfl⟩:=hbeh i oi h1 hi (aK h3)
    rw[hnew]at h6
    have hb2:=a2.own _ _ _ q1 rfl h6
    by_cases hj:j<H.length
    ·rw[qah hj]at h2
     rw[hold j hj]at h7
     obtain⟨p,h8,h9⟩:=hW.obj j oj h2 h4
     rw[h7]at h8;cases h8
     have:=hin _ _ _ h4 h9
     omega
    ·obtain⟨k2,vs2,e2,rfl,q2,hf2,rfl⟩:=hbeh j oj h2 hj h4
     rw[hnew]at h7
     exact a2.inj _ _ _ _ _ _ q1 q2 rfl rfl (by omega) h6 h7
  ·by_cases hi:i<H.length
   ·rw[qah hi]at h1
    rw[hold i hi]at h3
    exact hW.own i o p h1 h2 h3
   ·obtain⟨k,vs,e,rfl,q1,hf,rfl⟩:=hbeh i o h1 hi (aK h2)
    rw[hnew]at h3
    have:=a2.own _ _ _ q1 rfl h3
    omega
  ·by_cases hi:i<H.length
   ·rw[qah hi]at h1
    rw[hold i hi]at h4
    exact hW.ro i o p h1 h2 h3 h4
   ·obtain⟨k,vs,e,rfl,q1,hf,rfl⟩:=hbeh i o h1 hi h2
    cases h3
  ·rw[qaB,List.length_mapIdx,qbE]at h1
   have:¬id<H.length:=by omega
   simp only[mu2,if_neg this]
   exact a2.dom _ (by omega)
  ·obtain⟨h1,h2,c,e,fr,h3,h4⟩:=hW.glob g vs hg
   exact⟨h1,h2,c,e,fr,hkeep _ _ h3,ku (hG g vs hg) h4⟩
 ·refine⟨by simp,λid hid=>hold id hid,a3.size,λb hb _=>a3.keep b hb (hno b),λb hb=>?_,a3.os,a3.tape,a3.output⟩
  obtain⟨id,o,p,q1,q2,q3,rfl⟩:=hb
  by_cases hid:id<H.length
  ·rw[qah hid]at q1
   rw[hold id hid]at q3
   exact .inr ⟨id,o,p,q1,q2,q3,rfl⟩
  ·obtain⟨k,vs,e,rfl,q4,hf,rfl⟩:=hbeh id o q1 hid (aK q2)
   rw[hnew]at q3
   exact .inl (a2.own _ _ _ q4 rfl q3)
theorem call_alI(kp:Nat->HObj->HObj)(hkp:∀k o,(kp k o).alive=true->∃vs e,o = .cells vs e true/\vs.all flat=true/\kp k o = .cells vs e true){C:Cfg}{N:FuncId->Option Nat}{Sg:FuncId->Option Sig}(hm:C.P.follows .mixedOrders=true)(hG:∀g vs,C.G g=some vs->vs.all gfl=true){g:FuncId}(hn:N g=none){ls0 rs:List Lf}{H0 H' H:List HObj}(σ:Nat->Nat)
  (h:let _:Kno:=KnoC C N;aI C Sg g ls0 H0 rs H')
  (h0:∀(j:Nat) (o:HObj),H0[j]? = some o->∃vs e rw,o = .cells vs e false/\vs.all flat=true/\H[σ j]? = some (.cells vs e rw))
  (hl:∀l∈ls0,OkL H0.length l) (hrl:∀l∈rs,OkL H'.length l):let _:Kno:=KnoC C N;aI C Sg g (ls0.map (renL σ)) H (rs.map (renL (jL H0.length H.length σ))) (H++(H'.drop H0.length).mapIdx kp):=by
 let _:Kno:=KnoC C N
 obtain⟨sg,xs,ys,c1,c2,c3,c4⟩:=h
 have hx:∀x∈xs,∀l∈x.cells,OkL H0.length l.lf:=λx hx l hl'=>hl _ (by rw[←c2.2.1];exact qH hx hl')
 have hy:∀x∈ys,∀l∈x.cells,OkL H'.length l.lf:=λx hx l hl'=>hrl _ (by rw[←c3.2.1];exact qH hx hl')
 have gd:∀(τ:Nat->Nat) (zs:List S0),(∀x∈zs,x.good)->∀x∈zs.map (renS τ),x.good:=by
  intro τ zs hz x hx'
  obtain⟨y,hy,rfl⟩:=qaK.1 hx'
  intro l hl'
  rw[qb]at hl'
  obtain⟨l',hl'',rfl⟩:=qaK.1 hl'
  exact good_ren (hz y hy l' hl'')
 refine⟨sg,xs.map (renS σ),ys.map (renS (jL H0.length H.length σ)),c1,⟨by rw[kJ];exact c2.1,by rw[lG,c2.2.1],gd _ _ c2.2.2⟩,⟨by rw[kJ];exact c3.1,by rw[lG,c3.2.1],gd _ _ c3.2.2⟩,⟨0,?_⟩⟩
 exact .inr ⟨.inl hn,frame_alI kp hkp hG σ (my hm c4) h0 (λmu mu0 cs hmu h=>vrs_ren hmu hx h) λmu' mu'' c hmu h=>vr_pack' hmu hy h⟩
theorem uT{α β:Type}(f:α->β)(l:List α):l.mapIdx (λ_=>f)=l.map f:=by
 apply qaP
 intro i
 rw[List.getElem?_mapIdx,qax]
theorem call_alK(kp:HObj->HObj)(hkp:∀o,(kp o).alive=true->∃vs e,o = .cells vs e true/\vs.all flat=true/\kp o = .cells vs e true){C:Cfg}{N:FuncId->Option Nat}{Sg:FuncId->Option Sig}(hm:C.P.follows .mixedOrders=true)(hG:∀g vs,C.G g=some vs->vs.all gfl=true){g:FuncId}(hn:N g=none){ls0 rs:List Lf}{H0 H' H:List HObj}(σ:Nat->Nat)
  (h:let _:Kno:=KnoC C N;aI C Sg g ls0 H0 rs H')
  (h0:∀(j:Nat) (o:HObj),H0[j]? = some o->∃vs e rw,o = .cells vs e false/\vs.all flat=true/\H[σ j]? = some (.cells vs e rw))
  (hl:∀l∈ls0,OkL H0.length l) (hrl:∀l∈rs,OkL H'.length l):let _:Kno:=KnoC C N;aI C Sg g (ls0.map (renL σ)) H (rs.map (renL (jL H0.length H.length σ))) (H++(H'.drop H0.length).map kp):=by
 have:=call_alI (λ_=>kp) (λ_=>hkp) hm hG hn σ h h0 hl hrl
 rwa [uT]at this
theorem call_al{C:Cfg}{N:FuncId->Option Nat}{Sg:FuncId->Option Sig}(hm:C.P.follows .mixedOrders=true)(hG:∀g vs,C.G g=some vs->vs.all gfl=true){g:FuncId}(hn:N g=none){ls0 rs:List Lf}{H0 H' H:List HObj}(σ:Nat->Nat)
  (h:let _:Kno:=KnoC C N;aI C Sg g ls0 H0 rs H')
  (h0:∀(j:Nat) (o:HObj),H0[j]? = some o->∃vs e rw,o = .cells vs e false/\vs.all flat=true/\H[σ j]? = some (.cells vs e rw))
  (hl:∀l∈ls0,OkL H0.length l) (hrl:∀l∈rs,OkL H'.length l):let _:Kno:=KnoC C N;aI C Sg g (ls0.map (renL σ)) H (rs.map (renL (jL H0.length H.length σ))) (H++(H'.drop H0.length).map uM):=
 call_alK uM (λ_ h=>rS h) hm hG hn σ h h0 hl hrl
end
end Sx
end Go.Am

/-
 WHAT RUNS OVER AN EMPTY HEAP TELL: answers,and lists that are made.
-/
set_option maxRecDepth 100000
namespace Go.Am
open Sx Go.Proofs
theorem known_val{g n:Nat}{ls rs:List Lf}{sg:Sig}(hs:ac g=some sg)(hp:sg.plain=true)(hg:fK ls=true)(h:runF n (.f g) ls .empty tell=some rs):∀H,aI cc ac g ls H rs H:=by
 obtain⟨rs',h',a1,a2⟩:=(pq n).f g ls .empty tell rs (dO hg) h
 rw[tell_eq]at a2
 cases a2
 exact tR g sg ls _ _ hs hp a1
def rR(rs':List Lf):Option (List Lf)->Bool:=λo=>@Option.rec _ (λ_=>Bool) false (λrs=>eqLs rs rs') o
theorem dQ{g n:Nat}{ls rs:List Lf}{sg:Sig}(hs:ac g=some sg)(hp:sg.plain=true)(hg:fK ls=true)(h:rR rs (runF n (.f g) ls .empty tell)=true):∀H,aI cc ac g ls H rs H:=by
 cases e:runF n (.f g) ls .empty tell with
 |none=>rw[e]at h;cases h
 |some rs'=>
  rw[e]at h
  have h:eqLs rs' rs=true:=h
  rw[iR h]at e
  exact known_val hs hp hg e
def eqCell(a b:Value):Bool:=match a,b with
 | .int k n,.int k' n'=>ez k k'&&eqZK n n'
 | .bool t,.bool t'=>eqBK t t'
 |_,_=>false
theorem eqCell_ok{a b:Value}(h:eqCell a b=true):a=b/\flat b=true:=by
 unfold eqCell at h
 split at h
 ·simp only[qaa]at h
  have h2:=h.2
  rw[oD,beq_iff_eq]at h2
  rw[cT h.1,h2]
  exact⟨rfl,rfl⟩
 ·rename_i a b
  cases a<;>cases b<;>first|exact⟨rfl,rfl⟩|cases h
 ·cases h
def oB(c:Tr Value):List Value->Nat->Bool
 | [],_=>true
 |v :: l,i=>eqCell ((bo i).get nilV c) v&&oB c l (i+1)
theorem mZ{c:Tr Value}:∀ {l:List Value} {i:Nat},oB c l i=true->(∀j (h:j<l.length),(bo (i+j)).get nilV c=l[j])/\l.all flat=true
 | [],i,_=>⟨λj h=>by simp at h,rfl⟩
 |v :: l,i,h=>by
  simp only[oB,qaa]at h
  obtain⟨h1,h2⟩:=eqCell_ok h.1
  obtain⟨h3,h4⟩:=mZ h.2
  refine⟨λj hj=>?_,by simp[h2,h4]⟩
  cases j with
  |zero=>exact h1
  |succ j=>
   have:=h3 j (by simpa using hj)
   rw[show i+(j+1)=i+1+j by omega]
   simpa using this
def isSl(h:HTr)(x:Value)(e n:Nat)(cells:List Value):Bool:=match x with
 | .slice none 0 0=>Nat.beq n 0&&Nat.beq cells.length 0
 | .slice (some a) len _=>Nat.beq len n&&Nat.beq a.off 0&&Nat.beq cells.length (n*e)&&tagB a.spot e&&(match h.at a.block with
  |some (.t m e' true c)=>Nat.beq m (n*e)&&Nat.beq e' e&&oB c cells 0
  |_=>false)
 |_=>false
theorem isSl_ok{h:HTr}{x:Value}{e n:Nat}{cells:List Value}(hx:isSl h x e n cells=true):cells.length=n*e/\cells.all flat=true/\((x = .slice none 0 0/\n=0)∨∃id cx,x = .slice (some ⟨id,0,tag e⟩) n cx/\id<h.n/\(toL h)[id]? = some (.o (.cells cells e true))):=by
 unfold isSl at hx
 split at hx
 ·simp only[qaa]at hx
  have h1:=qaf hx.1
  have h2:=qaf hx.2
  subst h1
  rw[qa7]at h2
  subst h2
  exact⟨by simp,rfl,.inl ⟨rfl,rfl⟩⟩
 ·rename_i a len cx
  simp only[qaa]at hx
  obtain⟨⟨⟨⟨h1,h2⟩,h3⟩,h4⟩,h5⟩:=hx
  have h1:=qaf h1
  have h2:=qaf h2
  have h3:=qaf h3
  have h4:=pH.1 h4
  subst h1
  split at h5
  ·rename_i m e' c hat
   simp only[qaa]at h5
   obtain⟨⟨g1,g2⟩,g3⟩:=h5
   have g1:=qaf g1
   have g2:=qaf g2
   subst g1 g2
   obtain⟨g4,g5⟩:=mZ g3
   have ha:a=⟨a.block,0,tag e'⟩:=by cases a;simp_all
   have hc:bI c (len*e')=cells:=by
    apply List.ext_getElem
    ·rw[aS,h3]
    ·intro i hi hi'
     have:=da c (i:=i) (n:=len*e') (by rw[aS]at hi;exact hi)
     rw[qaC hi]at this
     have:=qao this
     rw[this,←g4 i hi',qaW]
   refine⟨h3,g5,.inr ⟨a.block,cx,by rw[ha],?_,?_⟩⟩
   ·unfold HTr.at at hat
    split at hat
    ·rename_i hb;rw[qaF]at hb;exact hb
    ·cases hat
   ·rw[gV,hat]
    show some (HO.o (.cells (bI c (len*e')) e' true))=_
    rw[hc]
  ·cases h5
 ·cases hx
theorem absH_app(T:Nat->Site)(h G:HL):absH T (h++G)=absH T h++absH T G:=by simp[absH]
theorem absH_o(T:Nat->Site)(l:List HObj):absH T (l.map HO.o)=l:=by
 induction l with
 |nil=>rfl
 |cons a l ih=>show absO T (.o a) :: absH T (l.map HO.o)=_;rw[ih];rfl
theorem made{g n:Nat}{ls rest:List Lf}{e m:Nat}{cells:List Value}(hg:fK ls=true)(hno:neuN g=none)(hl:ls.all (λl=>match l with | .v _=>false|_=>true)=true)(hr:rest.all (λl=>match l with | .v _=>false|_=>true)=true)
  (h:runF n (.f g) ls .empty (λrs h=>match rs with
   | .v x :: r=>ans (eqLs r rest&&isSl h x e m cells)
   |_=>none)=yes) (H:HL):∃x G,aI cc ac g ls (absH ae H) (.v x :: rest) (absH ae (H++G))/\SlC (H++G) x e m cells:=by
 obtain⟨rs,h',a1,a2⟩:=(pq n).f g ls .empty _ [] (dO hg) h
 split at a2
 ·rename_i x r
  have a2:=ans_yes a2
  simp only[qaa]at a2
  obtain⟨a2,a3⟩:=a2
  have a2:=iR a2
  subst a2
  obtain⟨b1,b2,b3⟩:=isSl_ok a3
  have plainR:∀(l:List Lf) (σ:Nat->Nat),l.all (λl=>match l with | .v _=>false|_=>true)=true->l.map (renL σ)=l:=by
   intro l σ hl
   induction l with
   |nil=>rfl
   |cons a l ih=>
    simp only[qbv,qaa]at hl
    rw[qat,ih hl.2]
    cases a<;>first|rfl|(simp at hl)
  have plainOk:∀(l:List Lf) (n:Nat),l.all (λl=>match l with | .v _=>false|_=>true)=true->∀a∈l,OkL n a:=by
   intro l n hl a ha
   have:=qac.1 hl a ha
   cases a<;>first|trivial|cases this
  have e0:absH ae (toL HTr.empty)=[]:=rfl
  rw[e0]at a1
  have key:=call_al (N:=neuN) mixed oM hno (H:=absH ae H) id a1 (λj o hj=>by simp at hj) (plainOk ls _ hl) (λl hl'=>by
   rcases qap.1 hl' with rfl|hl'
   ·rcases b3 with⟨rfl,_⟩|⟨id,cx,rfl,hid,_⟩
    ·exact .inl ⟨rfl,λ_=>rfl⟩
    ·exact .inr ⟨id,0,m,cx,e,by rw[ej,eC];exact hid,rfl⟩
   ·exact plainOk _ _ hr l hl')
  rw[plainR ls id hl,qat,plainR _ _ hr,qcr,qbC]at key
  refine⟨renV (jL 0 (absH ae H).length id) x,((absH ae (toL h')).map uM).map .o,?_,b1,?_⟩
  ·rw[absH_app,absH_o];exact key
  ·rcases b3 with⟨rfl,hm⟩|⟨id',cx,rfl,hid,hb⟩
   ·exact .inl ⟨rfl,hm⟩
   ·refine .inr ⟨_,0,cx,cells,true,rfl,?_,Sx.cut_all b1⟩
    unfold jL
    rw[if_neg (qcq _),Nat.sub_zero,ej,qan (by omega),qbM,qax,qax]
    have:(absH ae (toL h'))[id']? = some (.cells cells e true):=by
     unfold absH
     rw[qax,hb];rfl
    rw[this]
    show some (HO.o (if cells.all flat=true then HObj.cells cells e true else .dead))=_
    rw[if_pos b2]
 ·cases a2
end Go.Am

/-
 UNITS: tables by the kernel: names,cells,the list of units.
-/
set_option maxRecDepth 100000
namespace Go.Am
open Sx Go.Proofs
def nbr(w v c e:Nat):Option Nat:=
 match e,c%4 with
 |0,0=>if 0<c / 4 / w then some (c+2 - 4*w)else none
 |0,1=>if c / 4%w+1<w then some (c+6)else none
 |0,2=>if c / 4 / w+1<v then some (c+4*w - 2)else none
 |0,_=>if 0<c / 4%w then some (c - 6)else none
 |1,0=>some (c+1)
 |1,1=>some (c - 1)
 |1,2=>some (c+1)
 |1,_=>some (c - 1)
 |2,0=>some (c+3)
 |2,1=>some (c+1)
 |2,2=>some (c - 1)
 |2,_=>some (c - 3)
 |_,_=>none
def nameN(w v c e:Nat):List Lf:=match nbr w v c e with
 |some n=>[.i (.ofNat (min c n)),.i (.ofNat e),.i 0]
 |none=>[.i 0,.i 0,.i 7]
def cellN(w c:Nat):List Lf:=[.i (.ofNat (c / 4%w)),.i (.ofNat (c / 4 / w)),.i (.ofNat (c%4)),.i 0]
def tabName(w v:Nat):Bool:=(List.range (4*w*v)).all λc=>(List.range 3).all λe=>rR (nameN w v c e) (runF 60 (.f 15) [.i (.ofNat w),.i (.ofNat v),.i (.ofNat c),.i (.ofNat e)] .empty tell)
def tabCell(w v:Nat):Bool:=(List.range (4*w*v)).all λc=>rR (cellN w c) (runF 60 (.f 13) [.i (.ofNat w),.i (.ofNat v),.i (.ofNat c)] .empty tell)
def bf(w v:Nat):List (Nat×Nat):=(List.range (4*w*v)).flatMap λc=>(List.range 3).filterMap λe=>match nbr w v c e with
 |some n=>if c<n then some (c,e)else none
 |none=>none
def encU(u:Nat×Nat):List Value:=[.int .i64 (.ofNat u.1),.int .u8 (.ofNat u.2)]
def pG(w v:Nat):Bool:=match runF 60 (.f 33) [.i (.ofNat w),.i (.ofNat v)] .empty (λrs h=>match rs with
   | .v x :: r=>ans (eqLs r []&&isSl h x 2 (bf w v).length ((bf w v).flatMap encU))
   |_=>none)with
 |some []=>true
 |_=>false
def ltN(a b:Nat×Nat):Bool:=Nat.blt a.1 b.1||(Nat.beq a.1 b.1&&Nat.blt a.2 b.2)
def ascN:List (Nat×Nat)->Bool
 |a :: b :: l=>ltN a b&&ascN (b :: l)
 |_=>true
def tab5(w v:Nat):Bool:=tabName w v&&(tabCell w v&&(pG w v&&(ascN (bf w v)&&Nat.ble (bf w v).length 1000)))
theorem jM:∀w v:Nat,1<=w->w<=5->1<=v->v<=5->tab5 w v=true:=by
 have key:((List.range 5).all λw=>(List.range 5).all λv=>tab5 (w+1) (v+1))=true:=by kernel_rfl
 intro w v h1 h2 h3 h4
 have h5:=qac.1 key (w - 1) (qak.2 (by omega))
 have h6:=qac.1 h5 (v - 1) (qak.2 (by omega))
 have e1:w - 1+1=w:=by omega
 have e2:v - 1+1=v:=by omega
 rw[e1,e2]at h6
 exact h6
end Go.Am

/-
 UNITS AND CREASES: names at whatever cell and edge;the test of patterns,told of lists.
-/
set_option maxRecDepth 100000
set_option maxHeartbeats 4000000
namespace Go.Am
open Sx Go.Proofs
theorem nbr_ne{w v c e n:Nat}(hw:1<=w)(h:nbr w v c e=some n):n≠c:=by
 have hx:c / 4%w<=c / 4:=Nat.mod_le _ _
 have hy:c / 4 / w<=c / 4:=Nat.div_le_self _ _
 have hq:c%4=0∨c%4=1∨c%4=2∨c%4=3:=by omega
 rcases e with _|_|_|e<;>rcases hq with h1|h1|h1|h1<;>simp only[nbr,h1]at h<;>
  first
  |(split at h<;>first|(simp only[qau]at h;omega)|(cases h;done))
  |(simp only[qau]at h;omega)
  |(cases h;done)
theorem js{w v:Nat}(h:tab5 w v=true):tabName w v=true/\tabCell w v=true/\pG w v=true/\ascN (bf w v)=true/\(bf w v).length<=1000:=by
 unfold tab5 at h
 simp only[qaa,qa4]at h
 exact h
theorem nameIn{w v:Nat}(ht:tab5 w v=true){c e:Nat}(hc:c<4*w*v)(he:e<3):Cc 15 [.i (.ofNat w),.i (.ofNat v),.i (.ofNat c),.i (.ofNat e)] (nameN w v c e):=by
 have h1:=qac.1 (js ht).1 c (qak.2 hc)
 exact dQ (n:=60) rfl (by kernel_rfl) rfl (qac.1 h1 e (qak.2 he))
theorem cellIn{w v:Nat}(ht:tab5 w v=true){c:Nat}(hc:c<4*w*v):Cc 13 [.i (.ofNat w),.i (.ofNat v),.i (.ofNat c)] (cellN w c):=
 dQ (n:=60) rfl (by kernel_rfl) rfl (qac.1 (js ht).2.1 c (qak.2 hc))
def valS(w v:Int):Prop:=1<=w/\1<=v/\w<=256/\v<=256/\w*v<=256
instance (w v : Int) : Decidable (valS w v) := by unfold valS; infer_instance
theorem tF{w v a b:Int}(h:0<=w/\w<=a/\0<=v/\v<=b):0<=w*v/\w*v<=a*b:=
 ⟨Int.mul_nonneg h.1 h.2.2.1,Int.mul_le_mul h.2.1 h.2.2.2 h.2.2.1 (by omega)⟩
theorem shCheck(w v:Int):Cc 34 [.i w,.i v] [.i (if valS w v then 0 else 1)]:=by
 refine q34 rfl ?_;unfold f34;simp only[qxh]
 by_cases h1:1<=w
 ·by_cases h2:1<=v
  ·by_cases h3:w<=256
   ·by_cases h4:v<=256
    ·have hm:=tF (w:=w) (v:=v) (a:=256) (b:=256) (by omega)
     by_cases h5:w*v<=256
     ·simp(disch:=omega)only[↓qXX];simp[valS,h1,h2,h3,h4,h5]
     ·simp(disch:=omega)only[↓qXX];simp[valS,h5]
    ·simp(disch:=omega)only[↓qXX];simp[valS,h4]
   ·simp(disch:=omega)only[↓qXX];simp[valS,h3]
  ·simp(disch:=omega)only[↓qXX];simp[valS,h2]
 ·simp(disch:=omega)only[↓qXX];simp[valS,h1]
theorem jr{w v:Int}(h:valS w v):Cc 34 [.i w,.i v] [.i 0]:=by
 have:=shCheck w v;rw[if_pos h]at this;exact this
def smS(w v:Int):Prop:=1<=w/\w<=5/\1<=v/\v<=5
theorem sz{w v:Int}(h:smS w v):valS w v:=by
 unfold smS at h;have:=tF (w:=w) (v:=v) (a:=5) (b:=5) (by omega);unfold valS;omega
theorem sm4{w v:Int}(h:smS w v):4<=4*w*v/\4*w*v<=100:=by
 unfold smS at h
 have h1:=tF (w:=4*w) (v:=v) (a:=20) (b:=5) (by omega)
 have h2:4*w<=4*w*v:=by
  have:=Int.mul_le_mul_of_nonneg_left h.2.2.1 (show 0<=4*w by omega)
  rw[Int.mul_one]at this;exact this
 omega
theorem has_c{w v:Int}(h:smS w v)(c:Int):Cc 35 [.i w,.i v,.i c] [.b (decide (0<=c)&&decide (c<4*w*v))]:=by
 have h4:=sm4 h
 unfold smS at h
 refine q35 rfl ?_;unfold f35;simp only[qxh]
 by_cases h1:0<=c
 ·by_cases h2:c<4*w*v
  ·simp(disch:=omega)only[↓qXX];simp[h1,h2]
  ·simp(disch:=omega)only[↓qXX];simp[h1,h2]
 ·simp(disch:=omega)only[↓qXX];simp[h1]
theorem vg{w v c:Int}(h:smS w v)(hc:¬(0<=c/\c<4*w*v)):Cc 13 [.i w,.i v,.i c] [.i 0,.i 0,.i 0,.i 7]:=by
 refine q13 rfl ?_;unfold f13;simp only[qxh]
 simp(disch:=omega)only[↓qXX]
 refine aT (jr (sz h)) ?_
 simp(disch:=omega)only[↓qXX]
 have e:(decide (0<=c)&&decide (c<4*w*v))=false:=by simp;omega
 refine aT (e▸has_c h c) ?_
 simp(disch:=omega)only[↓qXX,qbk]
theorem sy{w v c e:Int}(h:smS w v)(hc:¬(0<=c/\c<4*w*v)):Cc 38 [.i w,.i v,.i c,.i e] [.i 0,.i 7]:=by
 refine q38 rfl ?_;unfold f38;simp only[qxh]
 simp(disch:=omega)only[↓qXX]
 refine aT (vg h hc) ?_
 simp(disch:=omega)only[↓qXX]
theorem vh{w v c e:Int}(h:smS w v)(hc:¬(0<=c/\c<4*w*v)):Cc 15 [.i w,.i v,.i c,.i e] [.i 0,.i 0,.i 7]:=by
 refine q15 rfl ?_;unfold f15;simp only[qxh]
 simp(disch:=omega)only[↓qXX]
 refine aT (sy h hc) ?_
 simp(disch:=omega)only[↓qXX]
theorem pY{x y q:Int}(h:-4096<=x/\x<=4096/\-4096<=y/\y<=4096/\q<=3):Cc 37 [.i x,.i y,.i q] [.i 0]:=by
 refine q37 rfl ?_;unfold f37;simp only[qxh]
 simp(disch:=omega)only[↓qXX]
theorem mH{x y q e:Int}(h:-4096<=x/\x<=4096/\-4096<=y/\y<=4096/\q<=3)(he:2<e):Cc 49 [.i x,.i y,.i q,.i e] [.i 0,.i 0,.i 0,.i 1]:=by
 refine q49 rfl ?_;unfold f49;simp only[qxh]
 simp(disch:=omega)only[↓qXX]
 refine aT (pY h) ?_
 simp(disch:=omega)only[↓qXX]
theorem toNat2{w v:Int}(h:smS w v):∃a b:Nat,w = .ofNat a/\v = .ofNat b/\1<=a/\a<=5/\1<=b/\b<=5:=by
 unfold smS at h
 obtain⟨a,rfl⟩:=qaV (show 0<=w by omega)
 obtain⟨b,rfl⟩:=qaV (show 0<=v by omega)
 exact⟨a,b,rfl,rfl,by omega,by omega,by omega,by omega⟩
theorem lt_nat{a b c:Nat}(h:(c:Int)<4*(a:Int)*(b:Int)):c<4*a*b:=by
 have:(4*(a:Int)*(b:Int))=((4*a*b:Nat):Int):=by simp
 rw[this]at h;omega
theorem rm{w v c e:Int}(h:smS w v)(hc:0<=c/\c<4*w*v)(he:2<e):Cc 38 [.i w,.i v,.i c,.i e] [.i 0,.i 1]:=by
 have h4:=sm4 h
 obtain⟨a,b,rfl,rfl,ha⟩:=toNat2 h
 obtain⟨k,rfl⟩:=qaV hc.1
 have hk:k<4*a*b:=lt_nat hc.2
 have hk2:4*a*b<=100:=by
  have:(4*(a:Int)*(b:Int))=((4*a*b:Nat):Int):=by simp
  have h5:=h4.2
  change 4*(a:Int)*(b:Int)<=100 at h5
  rw[this]at h5;omega
 refine q38 rfl ?_;unfold f38;simp only[qxh]
 simp(disch:=omega)only[↓qXX]
 refine aT (cellIn (jM a b ha.1 ha.2.1 ha.2.2.1 ha.2.2.2) hk) ?_
 unfold cellN
 simp(disch:=omega)only[↓qXX]
 have h1:k / 4%a<=k / 4:=Nat.mod_le _ _
 have h2:k / 4 / a<=k / 4:=Nat.div_le_self _ _
 have h3:(0:Int)<=((k / 4 / a:Nat):Int):=qaR _
 have h5:(0:Int)<=((k / 4%a:Nat):Int):=qaR _
 refine aT (mH (x:=Int.ofNat (k / 4%a)) (y:=Int.ofNat (k / 4 / a)) (q:=Int.ofNat (k%4)) (by simp only[qab];omega) he) ?_
 simp(disch:=omega)only[↓qXX]
theorem sw{w v c e:Int}(h:smS w v)(hc:0<=c/\c<4*w*v)(he:2<e):Cc 15 [.i w,.i v,.i c,.i e] [.i 0,.i 0,.i 1]:=by
 refine q15 rfl ?_;unfold f15;simp only[qxh]
 simp(disch:=omega)only[↓qXX]
 refine aT (rm h hc he) ?_
 simp(disch:=omega)only[↓qXX]
def isUn(w v c e:Int):Bool:=decide (0<=c)&&decide (c<4*w*v)&&decide (e<=2)&&(match nbr w.toNat v.toNat c.toNat e.toNat with
 |some n=>Nat.blt c.toNat n
 |none=>false)
theorem name_c{w v c e:Int}(h:smS w v)(he:0<=e):∃a b r:Int,Cc 15 [.i w,.i v,.i c,.i e] [.i a,.i b,.i r]/\(isUn w v c e=true↔r=0/\a=c/\b=e):=by
 by_cases hc:0<=c/\c<4*w*v
 ·by_cases h2:e<=2
  ·obtain⟨a,b,rfl,rfl,ha⟩:=toNat2 h
   obtain⟨k,rfl⟩:=qaV hc.1
   obtain⟨j,rfl⟩:=qaV he
   have hk:k<4*a*b:=lt_nat hc.2
   have hn:=nameIn (jM a b ha.1 ha.2.1 ha.2.2.1 ha.2.2.2) hk (e:=j) (by omega)
   unfold nameN at hn
   cases e:nbr a b k j with
   |none=>
    rw[e]at hn
    refine⟨_,_,_,hn,?_⟩
    have:isUn (.ofNat a) (.ofNat b) (k:Int) (j:Int)=false:=by
     unfold isUn
     have e':nbr (Int.ofNat a).toNat (Int.ofNat b).toNat (k:Int).toNat (j:Int).toNat=none:=e
     rw[e'];simp
    rw[this]
    simp
   |some n=>
    rw[e]at hn
    refine⟨_,_,_,hn,?_⟩
    have hne:=nbr_ne ha.1 e
    have e':nbr (Int.ofNat a).toNat (Int.ofNat b).toNat (k:Int).toNat (j:Int).toNat=some n:=e
    unfold isUn
    rw[e']
    simp only[qaa,decide_eq_true_eq,qaF,qcv]
    constructor
    ·rintro⟨_,h3⟩
     exact⟨by trivial,by show((min k n:Nat):Int)=k;omega,by trivial⟩
    ·rintro⟨_,h3,_⟩
     have h3:((min k n:Nat):Int)=k:=h3
     exact⟨⟨⟨hc.1,hc.2⟩,h2⟩,by omega⟩
  ·refine⟨_,_,_,sw h hc (by omega),?_⟩
   have:isUn w v c e=false:=by unfold isUn;simp[h2]
   rw[this];simp
 ·refine⟨_,_,_,vh h hc,?_⟩
  have:isUn w v c e=false:=by
   unfold isUn
   have:(decide (0<=c)&&decide (c<4*w*v))=false:=by simp;omega
   rw[this];simp
  rw[this];simp
theorem tt{w v c e:Int}(h:isUn w v c e=true):0<=c/\c<4*w*v/\e<=2:=by
 unfold isUn at h
 simp only[qaa,decide_eq_true_eq]at h
 exact⟨h.1.1.1,h.1.1.2,h.1.2⟩
end Go.Am

/-
 RULES FOR NUMBERS THAT COUNT.
-/
set_option maxRecDepth 100000
namespace Go.Am
namespace Sx
section
variable [Val] [Kno] {C:Cfg} {Sg:FuncId->Option Sig} {T:Nat->Site}
theorem ch{j:Nat}{K:Int->Prop}(h:j<=4294967296):(PH C Sg T).ari .add .i64 (Int.ofNat j) 1 (@hid _ ⟨K⟩)=K (Int.ofNat j+1):=
 p_add (by show -9223372036854775808<=(j:Int)+1;omega) (by show(j:Int)+1<=9223372036854775807;omega)
theorem cD{j:Nat}{K:Int->Prop}(h1:1<=j)(h:j<=4294967296):(PH C Sg T).ari .sub .i64 (Int.ofNat j) 1 (@hid _ ⟨K⟩)=K (Int.ofNat (j - 1)):=by
 rw[p_sub (by show -9223372036854775808<=(j:Int) - 1;omega) (by show(j:Int) - 1<=9223372036854775807;omega)]
 congr 1
 show(j:Int) - 1=((j - 1:Nat):Int)
 omega
theorem bp{j n:Nat}{K:Bool->Prop}(h:j<n):(PH C Sg T).cmp .lss (Int.ofNat j) (Int.ofNat n) (@hid _ ⟨K⟩)=K true:=p_lss_t (by show(j:Int)<n;omega)
theorem bC{j n:Nat}{K:Bool->Prop}(h:n<=j):(PH C Sg T).cmp .lss (Int.ofNat j) (Int.ofNat n) (@hid _ ⟨K⟩)=K false:=p_lss_f (by show(n:Int)<=j;omega)
end
theorem bN{α:Type}{l:List α}{i:Nat}{a:α}(h:l[i]? = some a):i<l.length:=by
 rcases qaz i l.length with h1|h1
 ·exact h1
 ·rw[qag h1]at h;cases h
theorem aQ{α:Type}{l:List α}{i:Nat}(h:i<l.length):∃a,l[i]? = some a:=⟨_,qaC h⟩
end Sx
end Go.Am

/-
 THE TEST OF PATTERNS,told of lists.
-/
set_option maxRecDepth 100000
set_option maxHeartbeats 4000000
namespace Go.Am
open Sx Go.Proofs
def ltC(a b:Crs):Bool:=decide (a.1<b.1)||(decide (a.1=b.1)&&decide (a.2.1<b.2.1))
def ascC:List Crs->Bool
 |a :: b :: l=>ltC a b&&ascC (b :: l)
 |_=>true
theorem fX:∀ {l:List Crs},ascC l=true↔∀(i:Nat) a b,l[i]? = some a->l[i+1]? = some b->ltC a b=true
 | []=>by simp[ascC]
 | [a]=>by simp[ascC]
 |a :: b :: l=>by
  simp only[ascC,qaa]
  rw[fX (l:=b :: l)]
  constructor
  ·rintro⟨h1,h2⟩ i x y hx hy
   cases i with
   |zero=>
    simp only[qbd,qau,qbN]at hx hy
    subst hx hy;exact h1
   |succ i=>exact h2 i x y (by simpa using hx) (by simpa using hy)
  ·intro h
   exact⟨h 0 a b rfl rfl,λi x y hx hy=>h (i+1) x y (by simpa using hx) (by simpa using hy)⟩
def unC(w v:Int)(c:Crs):Bool:=isUn w v c.1 c.2.1
def chkC(w v:Int)(l:List Crs):Int:=if l.all isK=false then 1 else if l.all (unC w v)=false then 7 else if ascC l=true then 0 else 6
theorem nT(c:Crs):Cc 19 [.i c.1,.i c.2.1,.i c.2.2] [.i c.1,.i c.2.1]:=by
 refine q19 rfl ?_;unfold f19;simp only[qxh]
 simp(disch:=omega)only[↓qXX]
theorem order_c{a b:Crs}(h:0<=a.1/\a.1<=1000/\0<=b.1/\b.1<=1000/\0<=a.2.1/\a.2.1<=255/\0<=b.2.1/\b.2.1<=255):∃d:Int,Cc 18 [.i a.1,.i a.2.1,.i b.1,.i b.2.1] [.i d]/\(d<0↔ltC a b=true):=by
 by_cases h1:a.1=b.1
 ·refine⟨a.2.1 - b.2.1,?_,by simp only[ltC,qaG,qaa,decide_eq_true_eq];omega⟩
  refine q18 rfl ?_;unfold f18;simp only[qxh]
  simp(disch:=omega)only[↓qXX]
 ·refine⟨a.1 - b.1,?_,by simp only[ltC,qaG,qaa,decide_eq_true_eq];omega⟩
  refine q18 rfl ?_;unfold f18;simp only[qxh]
  simp(disch:=omega)only[↓qXX]
theorem check_c{w v:Int}(hs:smS w v){h:HL}{x:Value}{l:List Crs}(hl:LsH h x 3 encC l)(hk:∀c∈l,okC c)(hn:l.length<=4294967296) :
  aI cc ac 21 [.i w,.i v,.v x] (absH ae h) [.i (chkC w v l)] (absH ae h):=by
 obtain⟨rs,h',h3,rfl,rfl⟩:=x21 (K:=λrs h'=>rs=[.i (chkC w v l)]/\h'=h) (H:=h) (glsI (glsI (glsV hl.good gls0))) (by
  unfold f21;simp only[qxh]
  simp(disch:=omega)only[↓qXX]
  refine aT (jr (sz hs)) ?_
  simp(disch:=omega)only[↓qXX]
  refine aq (uC hl hn) ?_
  simp(disch:=omega)only[↓qXX]
  cases hb:l.all isK with
  |false=>
   simp(disch:=omega)only[↓qXX,qbk]
   exact⟨by simp[chkC,hb],by trivial⟩
  |true=>
   simp(disch:=omega)only[↓qXX,qaL]
   refine gu hl ?_
   refine oV l.length (λj=>∀i,i<j->∀c,l[i]? = some c->unC w v c=true) rfl (qbo _) (λi hi=>absurd hi (qcq _)) ?_
   intro j hj hi self hself
   simp(disch:=omega)only[↓qXX]
   by_cases hlt:j<l.length
   ·rw[bp hlt]
    simp(disch:=omega)only[↓qXX]
    obtain⟨c,hc⟩:=aQ hlt
    have hmem:=qad hc
    have hok:=hk c hmem
    unfold okC at hok
    have bad:unC w v c=false->chkC w v l=7:=λhu=>by
     have:l.all (unC w v)=false:=List.all_eq_false.2 ⟨c,hmem,by simp[hu]⟩
     simp[chkC,hb,this]
    refine aO hl rfl hc ?_
    unfold encC
    simp(disch:=omega)only[↓qXX]
    obtain⟨a,b,r,hnm,hiff⟩:=name_c (c:=c.1) (e:=c.2.1) hs (by omega)
    refine aT hnm ?_
    simp(disch:=omega)only[↓qXX]
    by_cases hr:r=0
    ·subst hr
     simp(disch:=omega)only[↓qXX]
     refine aT (nT c) ?_
     simp(disch:=omega)only[↓qXX]
     by_cases hab:a=c.1/\b=c.2.1
     ·have hu:unC w v c=true:=hiff.2 ⟨rfl,hab.1,hab.2⟩
      simp(disch:=omega)only[↓qXX,qaL]
      rw[ch (by omega)]
      refine hself hlt λi hi' c' hc'=>?_
      rcases qaz i j with h|h
      ·exact hi i h c' hc'
      ·obtain rfl:i=j:=by omega
       rw[hc]at hc';cases hc';exact hu
     ·have hu:unC w v c=false:=by
       rw[←qaJ];intro hu
       have:=hiff.1 hu
       exact hab ⟨this.2.1,this.2.2⟩
      rw[p_eqs2_f hab]
      simp(disch:=omega)only[↓qXX,qbk]
      exact⟨by rw[bad hu],by trivial⟩
    ·have hu:unC w v c=false:=by
      rw[←qaJ];intro hu
      exact hr (hiff.1 hu).1
     simp(disch:=omega)only[↓qXX]
     exact⟨by rw[bad hu],by trivial⟩
   ·obtain rfl:j=l.length:=by omega
    rw[bC (qal _)]
    simp(disch:=omega)only[↓qXX]
    have hu:l.all (unC w v)=true:=qac.2 λc hc=>by
     obtain⟨i,hi'⟩:=qaZ hc
     exact hi i (bN hi') c hi'
    refine oV (j0:=1) (max 1 l.length) (λj=>1<=j/\∀(i:Nat) a b,i+1<j->l[i]? = some a->l[i+1]? = some b->ltC a b=true) rfl (qcu _ _) ⟨qal _,λi a b hi=>by omega⟩ ?_
    intro j hj' ⟨h1,hi2⟩ self hself
    simp(disch:=omega)only[↓qXX]
    refine gu hl ?_
    by_cases hlt:j<l.length
    ·rw[bp hlt]
     simp(disch:=omega)only[↓qXX]
     rw[cD h1 (by omega)]
     obtain⟨c,hc⟩:=aQ (l:=l) (i:=j - 1) (by omega)
     obtain⟨d,hd⟩:=aQ hlt
     have hc1:=hk c (qad hc)
     have hd1:=hk d (qad hd)
     have hc2:=tt (qac.1 hu c (qad hc))
     have hd2:=tt (qac.1 hu d (qad hd))
     have h4:=sm4 hs
     unfold okC at hc1 hd1
     refine aO hl rfl hc ?_
     unfold encC
     simp(disch:=omega)only[↓qXX]
     refine aT (nT c) ?_
     simp(disch:=omega)only[↓qXX]
     refine aO hl rfl hd ?_
     unfold encC
     simp(disch:=omega)only[↓qXX]
     refine aT (nT d) ?_
     simp(disch:=omega)only[↓qXX]
     obtain⟨o,ho,hoi⟩:=order_c (a:=c) (b:=d) (by omega)
     refine aT ho ?_
     simp(disch:=omega)only[↓qXX]
     by_cases hlo:o<0
     ·simp(disch:=omega)only[↓qXX]
      rw[ch (by omega)]
      refine hself (by omega) ⟨by omega,λi a b hi' ha hb'=>?_⟩
      rcases qaz (i+1) j with h|h
      ·exact hi2 i a b h ha hb'
      ·have e1:i=j - 1:=by omega
       have e2:i+1=j:=by omega
       rw[e2,hd]at hb'
       rw[e1,hc]at ha
       cases ha;cases hb'
       exact hoi.1 hlo
     ·have hna:ascC l=false:=by
       rw[←qaJ,fX]
       intro hall
       have:=hall (j - 1) c d hc (by rw[show j - 1+1=j by omega];exact hd)
       exact hlo (hoi.2 this)
      simp(disch:=omega)only[↓qXX]
      exact⟨by simp[chkC,hb,hu,hna],by trivial⟩
    ·rw[bC (by omega)]
     simp(disch:=omega)only[↓qXX]
     have ha:ascC l=true:=fX.2 λi a b ha hb'=>hi2 i a b (by have:=bN hb';omega) ha hb'
     exact⟨by simp[chkC,hb,hu,ha],by trivial⟩)
 exact h3
end Go.Am

/-
 A CREASE AMONG OTHERS: binary search,told of lists;the kind across an edge.
-/
set_option maxRecDepth 100000
set_option maxHeartbeats 4000000
namespace Go.Am
open Sx Go.Proofs
def ltU(c:Crs)(a b:Int):Bool:=decide (c.1<a)||(decide (c.1=a)&&decide (c.2.1<b))
theorem gN{c:Crs}{a b:Int}:ltU c a b=true↔c.1<a∨(c.1=a/\c.2.1<b):=by
 simp only[ltU,qaG,qaa,decide_eq_true_eq]
theorem order_u{c:Crs}{a b:Int}(h:0<=c.1/\c.1<=1000/\0<=a/\a<=1000/\0<=c.2.1/\c.2.1<=255/\0<=b/\b<=255):∃d:Int,Cc 18 [.i c.1,.i c.2.1,.i a,.i b] [.i d]/\(d<0↔ltU c a b=true)/\(d=0↔c.1=a/\c.2.1=b):=by
 by_cases h1:c.1=a
 ·refine⟨c.2.1 - b,?_,by rw[gN];omega,by omega⟩
  refine q18 rfl ?_;unfold f18;simp only[qxh]
  simp(disch:=omega)only[↓qXX]
 ·refine⟨c.1 - a,?_,by rw[gN];omega,by omega⟩
  refine q18 rfl ?_;unfold f18;simp only[qxh]
  simp(disch:=omega)only[↓qXX]
theorem find1_c{c:Crs}{a b:Int}(h:0<=c.1/\c.1<=1000/\0<=a/\a<=1000/\0<=c.2.1/\c.2.1<=255/\0<=b/\b<=255):∃d:Int,Cc 97 [.i c.1,.i c.2.1,.i c.2.2,.i a,.i b] [.i d]/\(d<0↔ltU c a b=true)/\(d=0↔c.1=a/\c.2.1=b):=by
 obtain⟨d,hd,h1,h2⟩:=order_u h
 refine⟨d,?_,h1,h2⟩
 refine q97 rfl ?_;unfold f97;simp only[qxh]
 simp(disch:=omega)only[↓qXX]
 refine aT (nT c) ?_
 simp(disch:=omega)only[↓qXX]
 refine aT hd ?_
 simp(disch:=omega)only[↓qXX]
abbrev cloF:Value:=.func (.func 97) ⟨[]⟩ ⟨[]⟩
theorem goodF1:bg cloF=true:=rfl
theorem p_half{a:Int}{K:Int->Prop}(h0:0<=a)(hk:K (a / 2)):P1.shf .shr .u64 a .u64 1 (@hid _ ⟨K⟩):=by
 refine s_shf (pq 0) (K:=λn=>if n=a / 2 then yes else none) (λn hn=>?_) ?_
 ·by_cases e:n=a / 2
  ·rw[e];exact hk
  ·simp only[if_neg e]at hn;cases hn
 ·have e0:∀(K:Int->RT),(BA ac ae (runF 0)).shf .shr .u64 a .u64 1 K=shfB .shr .u64 a .u64 1 K:=λ_=>rfl
  rw[e0]
  have e1:leZ 0 1=true:=rfl
  unfold shfB
  rw[e1]
  simp only
  rw[ij]
  have:a.fdiv (2 ^ min (1:Int).toNat IntKind.u64.bits)=a / 2:=by
   show a.fdiv 2=a / 2
   exact qcN a (by omega)
  rw[this,if_pos rfl]
theorem lV{a:Int}{K:Int->Prop}(h1:0<=a)(h2:a<=9223372036854775807)(hk:K a):P1.conv .u64 a (@hid _ ⟨K⟩):=by
 show K (IntKind.wrap .u64 a)
 have:IntKind.wrap .u64 a=a:=by
  simp only[IntKind.wrap,IntKind.bits,IntKind.signed,qcy,qaq,if_false]
  omega
 rw[this];exact hk
def rngC(c:Crs):Prop:=0<=c.1/\c.1<=1000/\0<=c.2.1/\c.2.1<=255/\0<=c.2.2/\c.2.2<=255
def At(l:List Crs)(a b:Int)(i:Nat):Prop:=i<=l.length/\(∀(k:Nat) c,l[k]? = some c->k<i->ltU c a b=true)/\∀(k:Nat) c,l[k]? = some c->i<=k->ltU c a b=false
def isAt(l:List Crs)(a b:Int)(i:Nat):Bool:=match l[i]? with
 |some c=>decide (c.1=a)&&decide (c.2.1=b)
 |none=>false
theorem asc_le{l:List Crs}(h:ascC l=true):∀(n i:Nat) a b,l[i]? = some a->l[i+n+1]? = some b->ltC a b=true
 |0,i,a,b,ha,hb=>fX.1 h i a b ha hb
 |n+1,i,a,b,ha,hb=>by
  obtain⟨c,hc⟩:=aQ (l:=l) (i:=i+n+1) (by have:=bN hb;omega)
  have h1:=asc_le h n i a c ha hc
  have h2:=fX.1 h (i+n+1) c b hc (by rw[show i+n+1+1=i+(n+1)+1 by omega];exact hb)
  simp only[ltC,qaG,qaa,decide_eq_true_eq]at h1 h2 ⊢
  omega
theorem asc_lt{l:List Crs}(h:ascC l=true){i j:Nat}{a b:Crs}(hij:i<j)(ha:l[i]? = some a)(hb:l[j]? = some b):ltC a b=true:=
 asc_le h (j - i - 1) i a b ha (by rw[show i+(j - i - 1)+1=j by omega];exact hb)
theorem bin_c{h:HL}{x:Value}{l:List Crs}(hl:LsH h x 3 encC l)(hk:∀c∈l,rngC c)(hn:l.length<=1000)(hasc:ascC l=true){a b:Int}(hu:0<=a/\a<=1000/\0<=b/\b<=255) :
  ∃i:Nat,At l a b i/\aI cc ac 96 [.v x,.i a,.i b,.v cloF] (absH ae h) [.i (Int.ofNat i),.b (isAt l a b i)] (absH ae h):=by
 obtain⟨rs,h',h1,i,rfl,rfl,h2⟩:=x96 (K:=λrs h'=>∃i:Nat,rs=[.i (Int.ofNat i),.b (isAt l a b i)]/\h'=h/\At l a b i) (H:=h) (glsV hl.good (glsI (glsI (glsV goodF1 gls0)))) (by
  unfold f96;simp only[qxh]
  simp(disch:=omega)only[↓qXX]
  refine gu hl ?_
  refine aF (m:=l.length) (λm ls h'=>∃i j:Nat,ls=[.i (Int.ofNat i),.i (Int.ofNat j)]/\h'=h/\i<=j/\j<=l.length/\m=j - i/\(∀(k:Nat) c,l[k]? = some c->k<i->ltU c a b=true)/\∀(k:Nat) c,l[k]? = some c->j<=k->ltU c a b=false) ⟨0,l.length,rfl,rfl,by omega,by omega,by omega,λk c _ hk=>by omega,λk c hc hk=>by have:=bN hc;omega⟩ ?_
  rintro m ls h' ⟨i,j,rfl,rfl,hij,hj,rfl,hlo,hhi⟩ self hself
  refine hidL ?_
  simp(disch:=omega)only[↓qXX]
  by_cases hlt:i<j
  ·rw[bp hlt]
   simp(disch:=omega)only[↓qXX]
   rw[p_add (by show -9223372036854775808<=(i:Int)+j;omega) (by show(i:Int)+j<=9223372036854775807;omega)]
   refine lV (by show 0<=(i:Int)+j;omega) (by show(i:Int)+j<=9223372036854775807;omega) ?_
   refine p_half (by show 0<=(i:Int)+j;omega) ?_
   have hmid:(Int.ofNat i+Int.ofNat j) / 2=Int.ofNat ((i+j) / 2):=by simp
   rw[hmid]
   rw[p_conv (by show -9223372036854775808<=(((i+j) / 2:Nat):Int);omega) (by show(((i+j) / 2:Nat):Int)<=9223372036854775807;omega)]
   obtain⟨c,hc⟩:=aQ (l:=l) (i:=(i+j) / 2) (by omega)
   have hr:=hk c (qad hc)
   unfold rngC at hr
   refine aO hl rfl hc ?_
   unfold encC
   simp(disch:=omega)only[↓qXX]
   obtain⟨d,hd,d1,d2⟩:=find1_c (c:=c) (a:=a) (b:=b) (by omega)
   refine co (hQ (hd _) rfl [.agg [.i .i64 c.1,.i .u8 c.2.1,.i .u8 c.2.2],.agg [.i .i64 a,.i .u8 b]] rfl rfl) ?_
   simp(disch:=omega)only[↓qXX]
   by_cases hd0:d<0
   ·have ht:=d1.1 hd0
    simp(disch:=omega)only[↓qXX]
    rw[ch (by omega)]
    simp(disch:=omega)only[↓qXX]
    refine hself (j - ((i+j) / 2+1)) _ _ (by omega) ⟨(i+j) / 2+1,j,rfl,rfl,by omega,hj,rfl,λk e he hk'=>?_,hhi⟩
    rcases qaz k ((i+j) / 2)with q|q
    ·have:=asc_lt hasc q he hc
     rw[gN]at ht ⊢
     simp only[ltC,qaG,qaa,decide_eq_true_eq]at this
     omega
    ·obtain rfl:k=(i+j) / 2:=by omega
     rw[hc]at he;cases he;exact ht
   ·have hf:ltU c a b=false:=by
     rw[←qaJ];intro hh;exact hd0 (d1.2 hh)
    simp(disch:=omega)only[↓qXX]
    refine hself ((i+j) / 2 - i) _ _ (by omega) ⟨i,(i+j) / 2,rfl,rfl,by omega,by omega,rfl,hlo,λk e he hk'=>?_⟩
    rcases qaz ((i+j) / 2) k with q|q
    ·have:=asc_lt hasc q hc he
     rw[←qaJ,gN]at hf ⊢
     simp only[ltC,qaG,qaa,decide_eq_true_eq]at this
     omega
    ·obtain rfl:k=(i+j) / 2:=by omega
     rw[hc]at he;cases he;exact hf
  ·obtain rfl:i=j:=by omega
   rw[bC (qal _)]
   simp(disch:=omega)only[↓qXX]
   by_cases hi:i<l.length
   ·rw[bp hi]
    simp(disch:=omega)only[↓qXX]
    obtain⟨c,hc⟩:=aQ hi
    have hr:=hk c (qad hc)
    unfold rngC at hr
    refine aO hl rfl hc ?_
    unfold encC
    simp(disch:=omega)only[↓qXX]
    obtain⟨d,hd,d1,d2⟩:=find1_c (c:=c) (a:=a) (b:=b) (by omega)
    refine co (hQ (hd _) rfl [.agg [.i .i64 c.1,.i .u8 c.2.1,.i .u8 c.2.2],.agg [.i .i64 a,.i .u8 b]] rfl rfl) ?_
    simp(disch:=omega)only[↓qXX]
    by_cases hz:d=0
    ·have:=d2.1 hz
     rw[p_eql_t hz]
     simp(disch:=omega)only[↓qXX]
     exact⟨i,by simp[isAt,hc,this.1,this.2],by trivial,hj,hlo,hhi⟩
    ·have h3:¬(c.1=a/\c.2.1=b):=λq=>hz (d2.2 q)
     rw[p_eql_f hz]
     simp(disch:=omega)only[↓qXX]
     refine⟨i,?_,by trivial,hj,hlo,hhi⟩
     have:isAt l a b i=false:=by
      simp only[isAt,hc]
      rw[←qaJ]
      simpa using h3
     rw[this]
   ·rw[bC (by omega)]
    simp(disch:=omega)only[↓qXX]
    refine⟨i,?_,by trivial,hj,hlo,hhi⟩
    have:isAt l a b i=false:=by
     simp only[isAt,qag (qdd.1 hi)]
    rw[this])
 exact⟨i,h2,h1⟩
end Go.Am

/-
 THE KIND ACROSS AN EDGE,told of lists.
-/
set_option maxRecDepth 100000
set_option maxHeartbeats 4000000
namespace Go.Am
open Sx Go.Proofs
theorem find_c{h:HL}{x:Value}{l:List Crs}(hl:LsH h x 3 encC l)(hk:∀c∈l,rngC c)(hn:l.length<=1000)(hasc:ascC l=true){a b:Int}(hu:0<=a/\a<=1000/\0<=b/\b<=255) :
  ∃i:Nat,At l a b i/\aI cc ac 74 [.v x,.i a,.i b] (absH ae h) [.i (Int.ofNat i),.b (isAt l a b i)] (absH ae h):=by
 obtain⟨i,hi,hc⟩:=bin_c hl hk hn hasc hu
 obtain⟨rs,h',h1,rfl,rfl⟩:=x74 (K:=λrs h'=>rs=[.i (Int.ofNat i),.b (isAt l a b i)]/\h'=h) (H:=h) (glsV hl.good (glsI (glsI gls0))) (by
  unfold f74;simp only[qxh]
  simp(disch:=omega)only[↓qXX]
  refine aq hc ?_
  simp(disch:=omega)only[↓qXX]
  exact⟨by trivial,by trivial⟩)
 exact⟨i,hi,h1⟩
def eqU(a b:Int)(c:Crs):Bool:=decide (c.1=a)&&decide (c.2.1=b)
def eg(l:List Crs)(a b:Int):Int:=match l.find? (eqU a b)with
 |some c=>c.2.2
 |none=>0
theorem kind_at{l:List Crs}{a b:Int}{i:Nat}(h:At l a b i)(hasc:ascC l=true):(isAt l a b i=true->∃c,l[i]? = some c/\eg l a b=c.2.2)/\(isAt l a b i=false->eg l a b=0):=by
 obtain⟨h1,h2,h3⟩:=h
 have uniq:∀(k:Nat) c,l[k]? = some c->eqU a b c=true->k=i:=by
  intro k c hc he
  simp only[eqU,qaa,decide_eq_true_eq]at he
  rcases Nat.lt_trichotomy k i with q|q|q
  ·have:=h2 k c hc q
   rw[gN]at this
   omega
  ·exact q
  ·obtain⟨d,hd⟩:=aQ (l:=l) (i:=i) (by have:=bN hc;omega)
   have e1:=asc_lt hasc q hd hc
   have e2:=h3 i d hd (qal _)
   rw[←qaJ,gN]at e2
   simp only[ltC,qaG,qaa,decide_eq_true_eq]at e1
   omega
 have isA:isAt l a b i=true↔∃c,l[i]? = some c/\eqU a b c=true:=by
  unfold isAt eqU
  cases e:l[i]? with
  |none=>simp
  |some c=>simp
 unfold eg
 cases hf:l.find? (eqU a b)with
 |none=>
  have hno:=qcR.1 hf
  constructor
  ·intro ha
   obtain⟨c,hc,he⟩:=isA.1 ha
   exact absurd he (hno c (qad hc))
  ·intro _;rfl
 |some c=>
  have hp:=List.find?_some hf
  obtain⟨k,hk⟩:=qaZ (qce hf)
  have hki:=uniq k c hk hp
  subst hki
  constructor
  ·intro _;exact⟨c,hk,rfl⟩
  ·intro hn
   have:=isA.2 ⟨c,hk,hp⟩
   rw[hn]at this;cases this
structure Pat(w v:Nat)(l:List Crs):Prop where
 sheet:1<=w/\w<=5/\1<=v/\v<=5
 rng:∀c∈l,rngC c
 len:l.length<=1000
 ok:chkC (.ofNat w) (.ofNat v) l=0
theorem Pat.sm{w v:Nat}{l:List Crs}(h:Pat w v l):smS (.ofNat w) (.ofNat v):=by
 have:=h.sheet
 unfold smS
 simp only[qab]
 omega
theorem Pat.asc{w v:Nat}{l:List Crs}(h:Pat w v l):ascC l=true:=by
 have:=h.ok
 unfold chkC at this
 split at this
 ·cases this
 ·split at this
  ·cases this
  ·split at this
   ·assumption
   ·cases this
theorem Pat.check{w v:Nat}{l:List Crs}(h:Pat w v l){H:HL}{x:Value}(hl:LsH H x 3 encC l):aI cc ac 21 [.i (.ofNat w),.i (.ofNat v),.v x] (absH ae H) [.i 0] (absH ae H):=by
 have:=check_c h.sm hl (λc hc=>by
  have:=h.rng c hc
  unfold rngC at this
  unfold okC
  omega) (by have:=h.len;omega)
 rw[h.ok]at this
 exact this
theorem kind_c{w v:Nat}{l:List Crs}(hp:Pat w v l){H:HL}{x:Value}(hl:LsH H x 3 encC l){c e n:Nat}(hc:c<4*w*v)(he:e<3)(hn:nbr w v c e=some n)(hn2:n<=1000) :
  aI cc ac 24 [.i (.ofNat w),.i (.ofNat v),.v x,.i (.ofNat c),.i (.ofNat e)] (absH ae H) [.i (eg l (.ofNat (min c n)) (.ofNat e)),.i 0] (absH ae H):=by
 have hsh:=hp.sheet
 have hnm:=nameIn (jM w v hsh.1 hsh.2.1 hsh.2.2.1 hsh.2.2.2) hc he
 unfold nameN at hnm
 rw[hn]at hnm
 simp only at hnm
 obtain⟨i,hi,hfi⟩:=find_c hl hp.rng hp.len hp.asc (a:=.ofNat (min c n)) (b:=.ofNat e) (by simp only[qab];omega)
 obtain⟨k1,k2⟩:=kind_at hi hp.asc
 obtain⟨rs,h',h1,e1,e2⟩:=x50 (K:=λrs h'=>rs=[.i (.ofNat (min c n)),.i (.ofNat e),.i (.ofNat i),.b (isAt l (.ofNat (min c n)) (.ofNat e) i),.i 0]/\h'=H) (H:=H) (glsI (glsI (glsV hl.good (glsI (glsI gls0))))) (by
  unfold f50;simp only[qxh]
  simp(disch:=omega)only[↓qXX]
  refine aq (hp.check hl) ?_
  simp(disch:=omega)only[↓qXX]
  refine aT hnm ?_
  simp(disch:=omega)only[↓qXX]
  refine aq hfi ?_
  simp(disch:=omega)only[↓qXX]
  exact⟨by trivial,by trivial⟩)
 rw[e1,e2]at h1
 obtain⟨rs2,h2,h3,e3,e4⟩:=x24 (K:=λrs h'=>rs=[.i (eg l (.ofNat (min c n)) (.ofNat e)),.i 0]/\h'=H) (H:=H) (glsI (glsI (glsV hl.good (glsI (glsI gls0))))) (by
  unfold f24;simp only[qxh]
  simp(disch:=omega)only[↓qXX]
  refine aq h1 ?_
  simp(disch:=omega)only[↓qXX]
  cases hb:isAt l (.ofNat (min c n)) (.ofNat e) i with
  |false=>
   simp(disch:=omega)only[↓qXX,qbk]
   rw[k2 hb]
   exact⟨by trivial,by trivial⟩
  |true=>
   obtain⟨c',hc',hkk⟩:=k1 hb
   simp(disch:=omega)only[↓qXX,qaL]
   refine uX (o:=2) (k:=1) (cs:=[.int .u8 c'.2.2]) hl rfl hc' rfl (by omega) ?_
   simp(disch:=omega)only[↓qXX]
   rw[hkk]
   exact⟨by trivial,by trivial⟩)
 rw[e3,e4]at h3
 exact h3
end Go.Am

/-
 STORES INTO LISTS: a block that holds a list of elements,one of them written.
-/
namespace Go.Am
namespace Sx
section
variable [Val] [Kno]
variable {C:Cfg} {Sg:FuncId->Option Sig} {T:Nat->Site} {α:Type}
def putE(h:HL)(id e:Nat)(enc:α->List Value)(l:List α):HL:=h.set id (.o (.cells (l.flatMap enc) e true))
theorem tU{h:HL}{id e:Nat}{enc:α->List Value}{l:List α}(hlt:id<h.length):(putE h id e enc l)[id]? = some (.o (.cells (l.flatMap enc) e true)):=by
 unfold putE
 rw[qaD hlt]
theorem putE_put{h:HL}{id e:Nat}{enc:α->List Value}{l l':List α}:(putE h id e enc l).set id (.o (.cells (l'.flatMap enc) e true))=putE h id e enc l':=by
 unfold putE
 rw[qcP]
theorem fQ{h:HL}{id e cx:Nat}{enc:α->List Value}(henc:∀a,(enc a).length=e){l:List α}(hlt:id<h.length):LsH (putE h id e enc l) (.slice (some ⟨id,0,tag e⟩) l.length cx) e enc l:=by
 have hl:=dc (e:=e) (enc:=enc) (l:=l) λa _=>henc a
 exact⟨λa _=>henc a,hl,.inr ⟨id,0,cx,_,true,rfl,tU hlt,cut_all hl⟩⟩
theorem eP{e:Nat}{enc:α->List Value}(henc:∀a,(enc a).length=e):∀ {l:List α} {i:Nat} (a:α),i<l.length->(l.flatMap enc).take (i*e)++enc a++(l.flatMap enc).drop (i*e+e)=(l.set i a).flatMap enc
 | [],_,_,h=>by simp at h
 |b :: l,0,a,_=>by
  have hb:=henc b
  simp only[qbX,qcx,qbg,qaW,qb5,qbt]
  rw[qb3,qbT (by omega),qbg,show e - (enc b).length=0 by omega,qbC]
 |b :: l,i+1,a,h=>by
  have hb:=henc b
  have ih:=eP henc (l:=l) (i:=i) a (by simpa using h)
  simp only[List.set_cons_succ,qbt]
  rw[←ih,qbf,qb2,qcD,qb3]
  rw[qaU (by omega),qbT (by omega),qbg]
  rw[show i*e+e - (enc b).length=i*e by omega,show i*e+e+e - (enc b).length=i*e+e by omega]
  simp[qaA]
theorem cM{h:HL}{id e cx len:Nat}{enc:α->List Value}(henc:∀a,(enc a).length=e){l:List α}{i:Nat}{a:α}{n:Int}{new:List Value}{K:List Value->HL->Prop}(hlt:id<h.length)(hn:n=Int.ofNat i)(hi:i<l.length)(hlen:l.length=len)(hnew:new=enc a)
  (hk:K [] (putE h id e enc (l.set i a))):(PH C Sg T).opt (idS e (.slice (some ⟨id,0,tag e⟩) len cx) n) (@hid _ ⟨λx=>(PH C Sg T).heap (.st x new) (putE h id e enc l) (@hid _ ⟨K⟩)⟩):=by
 subst hn hlen hnew
 have hx:idS e (.slice (some ⟨id,0,tag e⟩) l.length cx) (Int.ofNat i)=some (.pointer (some ⟨id,i*e,none⟩)):=by
  rw[tn]
  have hh:0<=Int.ofNat i/\Int.ofNat i<(l.length:Int):=⟨qaR i,by show(i:Int)<l.length;omega⟩
  simp only[if_pos hh]
  have:¬(tag e=some 1):=by simp[tag]
  simp only[if_neg this,qaW]
  rfl
 refine aE hx ?_
 have hl:=dc (e:=e) (enc:=enc) (l:=l) λa _=>henc a
 have hle:i*e+e<=l.length*e:=by
  have:=qa6 e (show i+1<=l.length by omega)
  rw[qbf,qb2]at this;exact this
 have hrun:(Hp.st (.pointer (some ⟨id,i*e,none⟩)) (enc a)).run (getH T (putE h id e enc l)) (putE h id e enc l).length=some ([.set id (.cells ((l.set i a).flatMap enc) e true)],[]):=by
  show stP (.pointer (some ⟨id,i*e,none⟩)) (enc a) (getH T (putE h id e enc l)) (putE h id e enc l).length=_
  unfold stP
  simp only
  rw[dx (tU hlt)]
  simp only
  unfold splice
  rw[henc a,hl,if_pos hle,eP henc a hi]
  rfl
 refine cW hrun ?_
 show K [] (bk _ _)
 have:bk (putE h id e enc l) [.set id (.cells ((l.set i a).flatMap enc) e true)]=putE h id e enc (l.set i a):=putE_put
 rw[this]
 exact hk
end
end Sx
end Go.Am

/-
 LISTS THAT ARE MADE AND FILLED: a block of zeros behind the heap,written element by element.
-/
namespace Go.Am
namespace Sx
section
variable [Val] [Kno]
variable {C:Cfg} {Sg:FuncId->Option Sig} {T:Nat->Site} {α:Type}
theorem vn{enc:α->List Value}{z:α}{n:Nat}:ba (enc z) n=(List.replicate n z).flatMap enc:=by
 unfold ba
 rw[List.flatMap_def,List.map_replicate]
def iV(z:α)(A:List α)(k:Nat):List α:=A.take k++List.replicate (A.length - k) z
theorem fillZ_len{z:α}{A:List α}{k:Nat}(h:k<=A.length):(iV z A k).length=A.length:=by
 unfold iV
 rw[qaB,qaT,qcA];omega
theorem fillZ_0{z:α}{A:List α}:iV z A 0=List.replicate A.length z:=by simp[iV]
theorem fillZ_all{z:α}{A:List α}:iV z A A.length=A:=by simp[iV]
theorem fillZ_set{z a:α}{A:List α}{k:Nat}(ha:A[k]? = some a):(iV z A k).set k a=iV z A (k+1):=by
 have hk:=bN ha
 unfold iV
 obtain⟨m,hm⟩ : ∃m,A.length - k=m+1:=⟨A.length - k - 1,by omega⟩
 have hl:(A.take k).length=k:=by rw[qaT];omega
 rw[hm,qbR,qbA _ _ (by omega),hl,qbn,qb5,show A.length - (k+1)=m by omega]
 rw[show A.take (k+1)=A.take k++[a]by
  rw[qcw,ha];rfl]
 simp
def newE(h:HL)(e:Nat)(enc:α->List Value)(l:List α):HL:=h++[.o (.cells (l.flatMap enc) e true)]
theorem kB{h:HL}{e:Nat}{enc:α->List Value}{l:List α}:putE (h++[.o .dead]) h.length e enc l=newE h e enc l:=by
 unfold putE newE
 rw[qbA _ _ (qal _),qbn];rfl
theorem kA(h:HL)(e:Nat)(enc:α->List Value)(l:List α):Pre h (newE h e enc l):=⟨_,rfl⟩
theorem rW{h:HL}{e cx:Nat}{enc:α->List Value}(henc:∀a,(enc a).length=e){l:List α}{n:Nat}(hn:n=l.length):LsH (newE h e enc l) (.slice (some ⟨h.length,0,tag e⟩) n cx) e enc l:=by
 subst hn
 rw[←kB]
 exact fQ henc (by simp)
theorem r_setN{h:HL}{e cx len:Nat}{enc:α->List Value}(henc:∀a,(enc a).length=e){l:List α}{i:Nat}{a:α}{n:Int}{new:List Value}{K:List Value->HL->Prop}(hn:n=Int.ofNat i)(hi:i<l.length)(hlen:l.length=len)(hnew:new=enc a)
  (hk:K [] (newE h e enc (l.set i a))):(PH C Sg T).opt (idS e (.slice (some ⟨h.length,0,tag e⟩) len cx) n) (@hid _ ⟨λx=>(PH C Sg T).heap (.st x new) (newE h e enc l) (@hid _ ⟨K⟩)⟩):=by
 rw[←kB]at hk
 rw[←kB]
 exact cM henc (by simp) hn hi hlen hnew hk
theorem tE{n:Nat}(h:n<=1048576):mkOk (Int.ofNat n) (Int.ofNat n)=some ():=by
 unfold mkOk
 rw[if_pos]
 exact⟨qaR n,qcI _,by show(n:Int)<=1048576;omega⟩
theorem qQ{h:HL}{e:Nat}{enc:α->List Value}{z:α}{n:Nat}{v:List Value}(hv:v=enc z):h++[HO.o (.cells (ba v n) e true)]=newE h e enc (List.replicate n z):=by
 subst hv
 unfold newE
 rw[vn]
end
end Sx
end Go.Am

/-
 PATTERNS FROM PLAIN DATA: With,P.Of,told of lists.
-/
set_option maxRecDepth 100000
set_option maxHeartbeats 4000000
namespace Go.Am
open Sx Go.Proofs
theorem encU_len(u:Nat×Nat):(encU u).length=2:=rfl
theorem aA(c:Crs):(encC c).length=3:=rfl
def enc8(n:Int):List Value:=[.int .u8 n]
theorem sV(n:Int):(enc8 n).length=1:=rfl
theorem units_c{a b:Nat}(h1:1<=a)(h2:a<=5)(h3:1<=b)(h4:b<=5)(h:HL):∃s G,aI cc ac 33 [.i (.ofNat a),.i (.ofNat b)] (absH ae h) [.v s] (absH ae (h++G))/\LsH (h++G) s 2 encU (bf a b):=by
 have ht:=(js (jM a b h1 h2 h3 h4)).2.2.1
 unfold pG at ht
 split at ht
 ·rename_i e
  obtain⟨s,G,c1,c2⟩:=made (g:=33) (rest:=[]) rfl (by kernel_rfl) rfl rfl e h
  exact⟨s,G,c1,λu _=>encU_len u,c2⟩
 ·cases ht
def mI(z:(Nat×Nat)×Int):Option Crs:=if z.2=0 then none else some (.ofNat z.1.1,.ofNat z.1.2,z.2)
def patL(us:List (Nat×Nat))(ks:List Int):List Crs:=(us.zip ks).filterMap mI
theorem with_c{w v:Nat}(h1:1<=w)(h2:w<=5)(h3:1<=v)(h4:v<=5){H:HL}{kx:Value}{ks:List Int}(hk:LsH H kx 1 enc8 ks)(hn:ks.length<=100000) :
  ∃G rx,aI cc ac 11 [.i (.ofNat w),.i (.ofNat v),.v kx] (absH ae H) [.i (.ofNat w),.i (.ofNat v),.v rx] (absH ae (H++G))/\LsH (H++G) rx 3 encC (patL (bf w v) ks):=by
 obtain⟨sx,G1,hu,hux⟩:=units_c h1 h2 h3 h4 H
 have hul:=(js (jM w v h1 h2 h3 h4)).2.2.2.2
 obtain⟨rs,h',hc,rx,e1,⟨G,rfl⟩,hrx⟩:=x11 (ls:=[.i (.ofNat w),.i (.ofNat v),.v kx]) (K:=λrs h'=>∃rx,rs=[.i (.ofNat w),.i (.ofNat v),.v rx]/\Pre H h'/\LsH h' rx 3 encC (patL (bf w v) ks)) (H:=H) (glsI (glsI (glsV hk.good gls0))) (by
  unfold f11;simp only[qxh]
  simp(disch:=omega)only[↓qXX]
  refine aq hu ?_
  simp(disch:=omega)only[↓qXX]
  generalize hzz:(bf w v).zip ks=zz
  have hzl:zz.length=min (bf w v).length ks.length:=by rw[←hzz,qc0]
  refine fM zz.length (λj (s:Value×HL)=>[.i (Int.ofNat j),.i (.ofNat w),.i (.ofNat v),.v s.1]) (λ_ s=>s.2) (λj s=>Pre (H++G1) s.2/\MkL (H++G1).length s.2 s.1 3 encC ((zz.take j).filterMap mI)/\bg s.1=true) (j0:=0) (s0:=(.slice none 0 0,H++G1)) rfl rfl (qbo _) ⟨Pre.refl _,MkL.nil _ _ _ _,rfl⟩ ?_
  rintro j ⟨sv,sh⟩ hj ⟨hpre,hmk,hgv⟩ self hself
  simp only at hpre hmk hgv ⊢
  have hU:=hux.pre hpre
  have hK:=(hk.pre ⟨G1,rfl⟩).pre hpre
  simp(disch:=omega)only[↓qXX]
  have fin:∀K0:List Lf->HL->Prop,K0=(λrs h'=>∃rx,rs=[.i (.ofNat w),.i (.ofNat v),.v rx]/\Pre H h'/\LsH h' rx 3 encC (patL (bf w v) ks))->j=zz.length->K0 [.i (.ofNat w),.i (.ofNat v),.v sv] sh:=by
   rintro K0 rfl rfl
   refine⟨_,rfl,Pre.trans ⟨G1,rfl⟩ hpre,?_⟩
   have:=hmk.ls
   rw[qcZ,←hzz]at this
   exact this
  refine gu hU ?_
  by_cases hlt:j<zz.length
  ·rw[bp (by omega)]
   simp(disch:=omega)only[↓qXX]
   refine gu hK ?_
   rw[bp (by omega)]
   simp(disch:=omega)only[↓qXX]
   obtain⟨u,hu⟩:=aQ (l:=bf w v) (i:=j) (by omega)
   obtain⟨k,hkk⟩:=aQ (l:=ks) (i:=j) (by omega)
   have hz:zz[j]? = some (u,k):=by rw[←hzz,qcf];exact⟨hu,hkk⟩
   have htk:(zz.take (j+1)).filterMap mI=(zz.take j).filterMap mI++(mI (u,k)).toList:=by
    rw[qcw,hz,List.filterMap_append]
    congr 1
   refine aO hK rfl hkk ?_
   unfold enc8
   simp(disch:=omega)only[↓qXX]
   by_cases hk0:k=0
   ·rw[p_neq_f hk0]
    simp(disch:=omega)only[↓qXX]
    rw[ch (by omega)]
    refine hself (sv,sh) hlt ⟨hpre,?_,hgv⟩
    rw[htk,show mI (u,k)=none from if_pos hk0]
    simpa using hmk
   ·rw[p_neq_t hk0]
    simp(disch:=omega)only[↓qXX]
    refine uX (o:=0) (k:=1) (cs:=[.int .i64 (.ofNat u.1)]) hU rfl hu rfl (by omega) ?_
    simp(disch:=omega)only[↓qXX]
    refine uX (o:=1) (k:=1) (cs:=[.int .u8 (.ofNat u.2)]) hU rfl hu rfl (by omega) ?_
    simp(disch:=omega)only[↓qXX]
    refine aO hK rfl hkk ?_
    unfold enc8
    simp(disch:=omega)only[↓qXX]
    have hfl:((zz.take j).filterMap mI).length<=j:=qbP (qco _ _) (by rw[qaT];omega)
    refine p_app1 (h0:=H++G1) (a:=(.ofNat u.1,.ofNat u.2,k)) hpre hmk rfl rfl rfl rfl (by
     unfold cE
     rw[qaa,qa4,qa4]
     omega) λv' h' hp' hm' hg' _ _=>?_
    simp(disch:=omega)only[↓qXX]
    refine bc hg' ?_
    simp(disch:=omega)only[↓qXX]
    rw[ch (by omega)]
    refine hself (v',h') hlt ⟨hp',?_,hg'⟩
    rw[htk,show mI (u,k)=some (.ofNat u.1,.ofNat u.2,k)from if_neg hk0]
    exact hm'
  ·have hje:j=zz.length:=by omega
   by_cases hju:j<(bf w v).length
   ·rw[bp hju]
    simp(disch:=omega)only[↓qXX]
    refine gu hK ?_
    rw[bC (by omega)]
    simp(disch:=omega)only[↓qXX]
    exact fin _ rfl hje
   ·rw[bC (by omega)]
    simp(disch:=omega)only[↓qXX]
    exact fin _ rfl hje)
 rw[e1]at hc
 exact⟨G,rx,hc,hrx⟩
def kinL(N:Nat)(ks:List Int):List Int:=(List.range N).map λi=>ks.getD i 0%4
theorem eR(N:Nat)(ks:List Int):(kinL N ks).length=N:=by simp[kinL]
theorem tv{N:Nat}{ks:List Int}{i:Nat}(h:i<N):(kinL N ks)[i]? = some (ks.getD i 0%4):=by
 unfold kinL
 rw[qax,qcj h];rfl
theorem kinL_rng{N:Nat}{ks:List Int}{k:Int}(h:k∈kinL N ks):0<=k/\k<4:=by
 unfold kinL at h
 obtain⟨i,_,rfl⟩:=qaK.1 h
 omega
theorem uH{α:Type}{z:α}{A:List α}{i:Nat}(h:∀j a,i<=j->A[j]? = some a->a=z):iV z A i=A:=by
 unfold iV
 conv=>rhs;rw[←qbq i A]
 congr 1
 symm
 rw[List.eq_replicate_iff]
 refine⟨by rw[qbE],λb hb=>?_⟩
 obtain⟨j,hj⟩:=qaZ hb
 rw[qaO]at hj
 exact h (i+j) b (by omega) hj
theorem of_c{a b:Int}(ha:0<=a/\a<=255)(hb:0<=b/\b<=255){w v:Nat}(hw:Int.ofNat w=1+a%4)(hv:Int.ofNat v=1+b%4){H:HL}{kx:Value}{ks:List Int}(hk:LsH H kx 1 enc8 ks)(hr:∀k∈ks,0<=k/\k<=255) :
  ∃G rx,aI cc ac 4 [.i a,.i b,.v kx] (absH ae H) [.i (.ofNat w),.i (.ofNat v),.v rx] (absH ae (H++G))/\LsH (H++G) rx 3 encC (patL (bf w v) (kinL (6*w*v) ks)):=by
 have hw':(w:Int)=1+a%4:=hw
 have hv':(v:Int)=1+b%4:=hv
 obtain⟨rs,h',hc,rx,e1,⟨G,rfl⟩,hrx⟩:=x4 (ls:=[.i a,.i b,.v kx]) (K:=λrs h'=>∃rx,rs=[.i (.ofNat w),.i (.ofNat v),.v rx]/\Pre H h'/\LsH h' rx 3 encC (patL (bf w v) (kinL (6*w*v) ks))) (H:=H) (glsI (glsI (glsV hk.good gls0))) (by
  unfold f4;simp only[qxh]
  simp(disch:=omega)only[↓qXX]
  rw[←hw,←hv]
  have hm:=tF (w:=6*(w:Int)) (v:=(v:Int)) (a:=24) (b:=4) (by omega)
  have e6:6*Int.ofNat w=Int.ofNat (6*w):=by simp
  have e7:Int.ofNat (6*w)*Int.ofNat v=Int.ofNat (6*w*v):=by simp
  have hN:6*w*v<=96:=by
   have:((6*w*v:Nat):Int)<=96:=by
    simp only[qcL]
    exact hm.2
   omega
  rw[e6,p_mul (by rw[e7];show(-9223372036854775808:Int)<=((6*w*v:Nat):Int);omega) (by rw[e7];show((6*w*v:Nat):Int)<=9223372036854775807;omega),e7]
  refine aE (tE (by omega)) ?_
  simp(disch:=omega)only[↓qXX]
  show P1.loop _ _ (H++[HO.o (.cells (ba _ (6*w*v)) 1 true)])
  rw[qQ (v:=[.int .u8 0]) (enc:=enc8) (z:=0) rfl]
  obtain⟨G2,rx,hcW,hrx⟩:=with_c (w:=w) (v:=v) (by omega) (by omega) (by omega) (by omega) (rW (h:=H) (cx:=6*w*v+1) sV (l:=kinL (6*w*v) ks) (n:=6*w*v) (eR _ _).symm) (by rw[eR];omega)
  refine fM (6*w*v) (λj (_:Unit)=>[.i (Int.ofNat j)]) (λj _=>newE H 1 enc8 (iV 0 (kinL (6*w*v) ks) j)) (λ_ _=>True) (j0:=0) (s0:=()) rfl (by rw[fillZ_0,eR]) (qbo _) trivial ?_
  intro j _ hj _ self hself
  simp(disch:=omega)only[↓qXX]
  refine aE (x:=Int.ofNat (6*w*v)) rfl ?_
  have hK:=hk.pre (kA H 1 enc8 (iV 0 (kinL (6*w*v) ks) j))
  have hfl:=fillZ_len (z:=(0:Int)) (A:=kinL (6*w*v) ks) (k:=j) (by rw[eR];omega)
  rw[eR]at hfl
  by_cases hlt:j<6*w*v
  ·rw[bp hlt]
   simp(disch:=omega)only[↓qXX]
   refine gu hK ?_
   by_cases hlk:j<ks.length
   ·rw[bp hlk]
    simp(disch:=omega)only[↓qXX]
    obtain⟨k,hkk⟩:=aQ hlk
    have hkr:=hr k (qad hkk)
    refine aO hK rfl hkk ?_
    unfold enc8
    simp(disch:=omega)only[↓qXX]
    refine r_setN (enc:=enc8) sV (a:=k%4) rfl (by omega) hfl rfl ?_
    rw[ch (by omega),fillZ_set (by rw[tv hlt,List.getD_eq_getElem?_getD,hkk];rfl)]
    exact hself () hlt trivial
   ·rw[bC (by omega)]
    simp(disch:=omega)only[↓qXX]
    rw[uH λi a hi hia=>by
     have hiN:=bN hia
     rw[eR]at hiN
     rw[tv hiN,List.getD_eq_getElem?_getD,qag (by omega)]at hia
     exact(qao hia).symm]
    refine aq hcW ?_
    simp(disch:=omega)only[↓qXX]
    exact⟨rx,by trivial,(kA _ _ _ _).trans ⟨_,rfl⟩,hrx⟩
  ·obtain rfl:j=6*w*v:=by omega
   rw[bC (qal _)]
   simp(disch:=omega)only[↓qXX]
   have:=fillZ_all (z:=(0:Int)) (A:=kinL (6*w*v) ks)
   rw[eR]at this
   rw[this]
   refine aq hcW ?_
   simp(disch:=omega)only[↓qXX]
   exact⟨rx,by trivial,(kA _ _ _ _).trans ⟨_,rfl⟩,hrx⟩)
 rw[e1]at hc
 exact⟨G,rx,hc,hrx⟩
end Go.Am

/-
 PATTERNS FROM PLAIN DATA ARE VALID.
-/
set_option maxRecDepth 100000
set_option maxHeartbeats 4000000
namespace Go.Am
open Sx Go.Proofs
theorem ltN_iff{a b:Nat×Nat}:ltN a b=true↔a.1<b.1∨(a.1=b.1/\a.2<b.2):=by
 unfold ltN
 rw[qaG,qaa,qaF,qaF,qcH]
theorem eG{a b c e:Nat}:(c,e)∈bf a b↔c<4*a*b/\e<3/\∃n,nbr a b c e=some n/\c<n:=by
 unfold bf
 simp only[qbr,qak,qbm]
 constructor
 ·rintro⟨c',h1,e',h2,h3⟩
  split at h3
  ·rename_i n hn
   split at h3
   ·rename_i hlt
    cases h3
    exact⟨h1,h2,n,hn,hlt⟩
   ·cases h3
  ·cases h3
 ·rintro⟨h1,h2,n,h3,h4⟩
  refine⟨c,h1,e,h2,?_⟩
  rw[h3]
  simp only[if_pos h4]
theorem unC_of{a b x y:Nat}{k:Int}(hk:(x,y)∈bf a b):unC (.ofNat a) (.ofNat b) (.ofNat x,.ofNat y,k)=true:=by
 obtain⟨q1,q2,n,q3,q4⟩:=eG.1 hk
 unfold unC isUn
 have q3':nbr (Int.ofNat a).toNat (Int.ofNat b).toNat (Int.ofNat x).toNat (Int.ofNat y).toNat=some n:=q3
 simp only[qaa,decide_eq_true_eq]
 refine⟨⟨⟨qaR x,?_⟩,by show(y:Int)<=2;omega⟩,?_⟩
 ·show(x:Int)<4*(a:Int)*(b:Int)
  have:(4*(a:Int)*(b:Int))=((4*a*b:Nat):Int):=by simp
  rw[this];omega
 ·rw[q3']
  simpa[qaF]using q4
theorem kF{us:List (Nat×Nat)}{ks:List Int}{c:Crs}(h:c∈patL us ks):∃u k,u∈us/\k∈ks/\k≠0/\c=(.ofNat u.1,.ofNat u.2,k):=by
 unfold patL at h
 obtain⟨⟨u,k⟩,h1,h2⟩:=qbm.1 h
 unfold mI at h2
 split at h2
 ·cases h2
 ·rename_i hk
  cases h2
  have:=List.of_mem_zip h1
  exact⟨u,k,this.1,this.2,hk,rfl⟩
theorem kK:∀ {l:List (Nat×Nat)},ascN l=true->l.Pairwise λa b=>ltN a b=true
 | [],_=>.nil
 | [x],_=>qcX _ _
 |x :: y :: l,h=>by
  simp only[ascN,qaa]at h
  have ih:=kK h.2
  refine qbl.2 ⟨λz hz=>?_,ih⟩
  rcases qap.1 hz with rfl|hz
  ·exact h.1
  ·have h2:=(qbl.1 ih).1 z hz
   have h1:=h.1
   rw[ltN_iff]at h1 h2 ⊢
   omega
theorem kL:∀ {l:List Crs},(l.Pairwise λa b=>ltC a b=true)->ascC l=true
 | [],_=>rfl
 | [x],_=>rfl
 |x :: y :: l,h=>by
  obtain⟨h1,h2⟩:=qbl.1 h
  simp only[ascC,qaa]
  exact⟨h1 y qaE,kL h2⟩
theorem lW:∀ {us:List (Nat×Nat)} {ks:List Int},(us.Pairwise λa b=>ltN a b=true)->(patL us ks).Pairwise λa b=>ltC a b=true
 | [],ks,_=>by simp[patL]
 |u :: us,[],_=>by simp[patL]
 |u :: us,k :: ks,h=>by
  obtain⟨h1,h2⟩:=qbl.1 h
  have ih:=lW (ks:=ks) h2
  unfold patL at ih ⊢
  rw[qb6,List.filterMap_cons]
  split
  ·exact ih
  ·rename_i c hc
   refine qbl.2 ⟨λb hb=>?_,ih⟩
   obtain⟨u',k',m1,_,_,rfl⟩:=kF (us:=us) (ks:=ks) hb
   unfold mI at hc
   split at hc
   ·cases hc
   ·cases hc
    have:=ltN_iff.1 (h1 u' m1)
    simp only[ltC,qaG,qaa,decide_eq_true_eq,qab]
    omega
theorem pat_of{w v:Nat}(h1:1<=w)(h2:w<=5)(h3:1<=v)(h4:v<=5){ks:List Int}(hk:∀k∈ks,0<=k/\k<4):Pat w v (patL (bf w v) ks):=by
 have ht:=js (jM w v h1 h2 h3 h4)
 have hwv:4*w*v<=100:=by
  have:=qc8 (show 4*w<=20 by omega) h4
  omega
 have key:∀c∈patL (bf w v) ks,rngC c/\isK c=true/\unC (.ofNat w) (.ofNat v) c=true:=λc hc=>by
  obtain⟨⟨x,y⟩,k,m1,m2,m3,rfl⟩:=kF hc
  have hm:=eG.1 m1
  have:=hk k m2
  refine⟨?_,?_,unC_of m1⟩
  ·unfold rngC
   simp only[qab]
   omega
  ·unfold isK
   simp only[qaa,decide_eq_true_eq]
   omega
 refine⟨⟨h1,h2,h3,h4⟩,λc hc=>(key c hc).1,?_,?_⟩
 ·refine qbP (qco _ _) ?_
  rw[qc0]
  have:=ht.2.2.2.2
  omega
 ·unfold chkC
  have a1:(patL (bf w v) ks).all isK=true:=qac.2 λc hc=>(key c hc).2.1
  have a2:(patL (bf w v) ks).all (unC (.ofNat w) (.ofNat v))=true:=qac.2 λc hc=>(key c hc).2.2
  rw[a1,a2,kL (lW (kK ht.2.2.2.1))]
  rfl
end Go.Am

/-
 SORTING,plain lists: what is exchanged within a part of a list;when a part is sorted.
-/
set_option maxRecDepth 100000
namespace Go.Am
open Sx Go.Proofs
section
variable {α:Type} {key:α->Int}
def SP(a b:Nat)(l l':List α):Prop:=l'.Perm l/\∀i,(i<a∨b<=i)->l'[i]? = l[i]?
theorem SP.refl(a b:Nat)(l:List α):SP a b l l:=⟨List.Perm.refl _,λ_ _=>rfl⟩
theorem SP.len{a b:Nat}{l l':List α}(h:SP a b l l'):l'.length=l.length:=h.1.length_eq
theorem SP.trans{a b:Nat}{l l' l'':List α}(h:SP a b l l')(k:SP a b l' l''):SP a b l l'':=⟨k.1.trans h.1,λi hi=>(k.2 i hi).trans (h.2 i hi)⟩
theorem SP.mono{a b a' b':Nat}{l l':List α}(h:SP a b l l')(ha:a'<=a)(hb:b<=b'):SP a' b' l l':=⟨h.1,λi hi=>h.2 i (by omega)⟩
theorem get_eq{l:List α}{i:Nat}{x:α}(h:l[i]? = some x):∃hi:i<l.length,l[i]=x:=qaM.1 h
theorem SP.swap{a b i j:Nat}{l:List α}{x y:α}(hx:l[i]? = some x)(hy:l[j]? = some y)(hi:a<=i/\i<b)(hj:a<=j/\j<b):SP a b l ((l.set i y).set j x):=by
 obtain⟨h1,e1⟩:=get_eq hx
 obtain⟨h2,e2⟩:=get_eq hy
 refine⟨?_,λk hk=>?_⟩
 ·have:=@List.set_set_perm α l i j h1 h2
  rw[e1,e2]at this
  exact this
 ·rw[qaj (by omega),qaj (by omega)]
theorem fc{l:List α}{i j k:Nat}{x y:α}(hx:l[i]? = some x)(hy:l[j]? = some y):((l.set i y).set j x)[k]? = if k=j then some x else if k=i then some y else l[k]?:=by
 have h1:=bN hx
 have h2:=bN hy
 by_cases hj:k=j
 ·subst hj
  rw[if_pos rfl,qaD (by rw[qav];exact h2)]
 ·rw[if_neg hj,qaj (qbL hj)]
  by_cases hi:k=i
  ·subst hi
   rw[if_pos rfl,qaD h1]
  ·rw[if_neg hi,qaj (qbL hi)]
theorem seg_eq{a b:Nat}{l:List α}(hab:a<=b):l=l.take a++((l.drop a).take (b - a)++l.drop b):=by
 have h1:=qbq a l
 have h2:=qbq (b - a) (l.drop a)
 rw[qbB,show a+(b - a)=b by omega]at h2
 rw[h2,h1]
theorem SP.mem{a b:Nat}{l l':List α}(h:SP a b l l')(hab:a<=b)(hb:b<=l.length){i:Nat}{x:α}(hi:a<=i/\i<b)(hx:l'[i]? = some x):∃j,a<=j/\j<b/\l[j]? = some x:=by
 have e1:l'.take a=l.take a:=by
  apply qaP
  intro k
  rw[qaY,qaY]
  split
  ·exact h.2 k (.inl (by omega))
  ·rfl
 have e2:l'.drop b=l.drop b:=by
  apply qaP
  intro k
  rw[qaO,qaO]
  exact h.2 _ (.inr (by omega))
 have hp:=h.1
 rw[seg_eq (l:=l) hab,seg_eq (l:=l') hab,e1,e2,List.perm_append_left_iff,List.perm_append_right_iff]at hp
 have hm:x∈(l'.drop a).take (b - a):=by
  refine qad (i:=i - a) ?_
  rw[qaY,if_pos (by omega),qaO,show a+(i - a)=i by omega]
  exact hx
 obtain⟨k,hk⟩:=qaZ (hp.mem_iff.1 hm)
 rw[qaY]at hk
 split at hk
 ·rw[qaO]at hk
  exact⟨a+k,by omega,by omega,hk⟩
 ·cases hk
def SS(key:α->Int)(a b:Nat)(l:List α):Prop:=∀i j x y,a<=i->i<j->j<b->l[i]? = some x->l[j]? = some y->key x<=key y
theorem SS.one{a b:Nat}{l:List α}(h:b<=a+1):SS key a b l:=λi j x y h1 h2 h3=>by omega
def BL(key:α->Int)(a b c d:Nat)(l:List α):Prop:=∀i j x y,a<=i->i<b->c<=j->j<d->l[i]? = some x->l[j]? = some y->key x<=key y
theorem SS.join{a m b:Nat}{l:List α}(h1:SS key a m l)(h2:SS key m b l)(h:BL key a m m b l):SS key a b l:=by
 intro i j x y hi hij hj hx hy
 by_cases h3:j<m
 ·exact h1 i j x y hi hij h3 hx hy
 ·by_cases h4:m<=i
  ·exact h2 i j x y h4 hij hj hx hy
  ·exact h i j x y hi (by omega) (by omega) hj hx hy
theorem SS.keep{a b c d:Nat}{l l':List α}(h:SS key a b l)(hp:SP c d l l')(hd:b<=c∨d<=a):SS key a b l':=by
 intro i j x y hi hij hj hx hy
 rw[hp.2 i (by omega)]at hx
 rw[hp.2 j (by omega)]at hy
 exact h i j x y hi hij hj hx hy
theorem BL.keep{a b c d p q:Nat}{l l':List α}(h:BL key a b c d l)(hp:SP p q l l')(hpq:p<=q/\q<=l.length)(h1:(a<=p/\q<=b)∨b<=p∨q<=a)(h2:(c<=p/\q<=d)∨d<=p∨q<=c):BL key a b c d l':=by
 intro i j x y hi hib hj hjd hx hy
 have fx:∃i',a<=i'/\i'<b/\l[i']? = some x:=by
  by_cases hin:p<=i/\i<q
  ·obtain⟨k,k1,k2,k3⟩:=hp.mem hpq.1 hpq.2 hin hx
   exact⟨k,by omega,by omega,k3⟩
  ·rw[hp.2 i (by omega)]at hx
   exact⟨i,hi,hib,hx⟩
 have fy:∃j',c<=j'/\j'<d/\l[j']? = some y:=by
  by_cases hin:p<=j/\j<q
  ·obtain⟨k,k1,k2,k3⟩:=hp.mem hpq.1 hpq.2 hin hy
   exact⟨k,by omega,by omega,k3⟩
  ·rw[hp.2 j (by omega)]at hy
   exact⟨j,hj,hjd,hy⟩
 obtain⟨i',i1,i2,i3⟩:=fx
 obtain⟨j',j1,j2,j3⟩:=fy
 exact h i' j' x y i1 i2 j1 j2 i3 j3
structure InsI(key:α->Int)(a i j:Nat)(l:List α):Prop where
 srt:∀p q x y,a<=p->p<q->q<=i->p≠j->q≠j->l[p]? = some x->l[q]? = some y->key x<=key y
 low:∀q x y,j<q->q<=i->l[j]? = some x->l[q]? = some y->key x<=key y
theorem InsI.start{a i:Nat}{l:List α}(h:SS key a i l):InsI key a i i l:=⟨λp q x y h1 h2 h3 h4 h5=>h p q x y h1 h2 (by omega),λq x y h1 h2=>by omega⟩
theorem InsI.done{a i j:Nat}{l:List α}(h:InsI key a i j l)(hj:a<=j/\j<=i)(hl:j=a∨∃x y,l[j]? = some x/\l[j - 1]? = some y/\key y<=key x):SS key a (i+1) l:=by
 intro p q x y hp hpq hq hx hy
 by_cases h1:p=j
 ·subst h1
  exact h.low q x y hpq (by omega) hx hy
 ·by_cases h2:q=j
  ·subst h2
   rcases hl with hl|⟨u,v,hu,hv,huv⟩
   ·omega
   ·rw[hy]at hu
    cases hu
    by_cases h3:p=q - 1
    ·subst h3
     rw[hx]at hv
     cases hv
     exact huv
    ·have:=h.srt p (q - 1) x v hp (by omega) (by omega) h1 (by omega) hx hv
     omega
  ·exact h.srt p q x y hp hpq (by omega) h1 h2 hx hy
theorem InsI.step{a i j:Nat}{l:List α}{x y:α}(h:InsI key a i j l)(hj:a<j/\j<=i)(hx:l[j]? = some x)(hy:l[j - 1]? = some y)(hlt:key x<key y):InsI key a i (j - 1) ((l.set j y).set (j - 1) x):=by
 have g:∀k,((l.set j y).set (j - 1) x)[k]? = if k=j - 1 then some x else if k=j then some y else l[k]?:=λk=>fc hx hy
 refine⟨λp q u v hp hpq hq h1 h2 hu hv=>?_,λq u v hq hqi hu hv=>?_⟩
 ·rw[g,if_neg h1]at hu
  rw[g,if_neg h2]at hv
  by_cases hpj:p=j
  ·rw[if_pos hpj]at hu
   cases hu
   rw[if_neg (by omega)]at hv
   exact h.srt (j - 1) q y v (by omega) (by omega) hq (by omega) (by omega) hy hv
  ·rw[if_neg hpj]at hu
   by_cases hqj:q=j
   ·rw[if_pos hqj]at hv
    cases hv
    exact h.srt p (j - 1) u y hp (by omega) (by omega) (by omega) (by omega) hu hy
   ·rw[if_neg hqj]at hv
    exact h.srt p q u v hp hpq hq hpj hqj hu hv
 ·rw[g,if_pos rfl]at hu
  cases hu
  rw[g,if_neg (by omega)]at hv
  by_cases hqj:q=j
  ·rw[if_pos hqj]at hv
   cases hv
   omega
  ·rw[if_neg hqj]at hv
   exact h.low q x v (by omega) hqi hx hv
def HpX(key:α->Int)(lo hi f r:Nat)(l:List α):Prop:=∀k c x y,lo<=k->k≠r->(c=2*k+1∨c=2*k+2)->c<hi->l[f+k]? = some x->l[f+c]? = some y->key y<=key x
def Hp1(key:α->Int)(lo hi f:Nat)(l:List α):Prop:=∀k c x y,lo<=k->(c=2*k+1∨c=2*k+2)->c<hi->l[f+k]? = some x->l[f+c]? = some y->key y<=key x
def HpP(key:α->Int)(lo hi f r:Nat)(l:List α):Prop:=∀k c x y,lo<=k->(r=2*k+1∨r=2*k+2)->(c=2*r+1∨c=2*r+2)->c<hi->l[f+k]? = some x->l[f+c]? = some y->key y<=key x
theorem Hp1.max{hi f:Nat}{l:List α}(h:Hp1 key 0 hi f l)(hl:f+hi<=l.length){x:α}(hx:l[f]? = some x):∀(i:Nat) y,i<hi->l[f+i]? = some y->key y<=key x:=by
 intro i
 induction i using Nat.strongRecOn with
 |ind i ih=>
  intro y hi' hy
  by_cases h0:i=0
  ·subst h0
   rw[qcn,hx]at hy
   cases hy
   exact qcI _
  ·obtain⟨z,hz⟩:=aQ (l:=l) (i:=f+(i - 1) / 2) (by omega)
   have h1:=ih ((i - 1) / 2) (by omega) z (by omega) hz
   have h2:=h ((i - 1) / 2) i z y (qbo _) (by omega) hi' hz hy
   omega
theorem HpX.done{lo hi f r:Nat}{l:List α}(h:HpX key lo hi f r l)(hr:∀c x y,(c=2*r+1∨c=2*r+2)->c<hi->l[f+r]? = some x->l[f+c]? = some y->key y<=key x):Hp1 key lo hi f l:=by
 intro k c x y hk hc hch hx hy
 by_cases e:k=r
 ·subst e
  exact hr c x y hc hch hx hy
 ·exact h k c x y hk e hc hch hx hy
theorem HpX.step{lo hi f r c:Nat}{l:List α}{x y:α}(h:HpX key lo hi f r l)(hp:HpP key lo hi f r l)(hr:lo<=r)(hc:c=2*r+1∨c=2*r+2)(hch:c<hi)(hx:l[f+r]? = some x)(hy:l[f+c]? = some y)(hxy:key x<key y)
  (hmax:∀d z,(d=2*r+1∨d=2*r+2)->d<hi->l[f+d]? = some z->key z<=key y):HpX key lo hi f c ((l.set (f+r) y).set (f+c) x)/\HpP key lo hi f c ((l.set (f+r) y).set (f+c) x):=by
 have g:∀k,((l.set (f+r) y).set (f+c) x)[f+k]? = if k=c then some x else if k=r then some y else l[f+k]?:=λk=>by
  rw[fc hx hy]
  simp only[Nat.add_left_cancel_iff]
 refine⟨λk d u v hk hkc hd hdh hu hv=>?_,λk d u v hk hkc hd hdh hu hv=>?_⟩
 ·rw[g,if_neg hkc]at hu
  rw[g]at hv
  by_cases hkr:k=r
  ·rw[if_pos hkr]at hu
   cases hu
   by_cases hdc:d=c
   ·rw[if_pos hdc]at hv
    cases hv
    omega
   ·rw[if_neg hdc,if_neg (by omega)]at hv
    exact hmax d v (by omega) hdh hv
  ·rw[if_neg hkr]at hu
   by_cases hdc:d=c
   ·omega
   ·rw[if_neg hdc]at hv
    by_cases hdr:d=r
    ·rw[if_pos hdr]at hv
     cases hv
     exact hp k c u y hk (by omega) hc hch hu hy
    ·rw[if_neg hdr]at hv
     exact h k d u v hk hkr hd hdh hu hv
 ·rw[g]at hu hv
  have hkr:k=r:=by omega
  rw[if_neg (by omega),if_pos hkr]at hu
  cases hu
  rw[if_neg (by omega),if_neg (by omega)]at hv
  exact h c d y v (by omega) (by omega) hd hdh hy hv
end
end Go.Am

/-
 SORTING TOLD (creases): insertion,heaps.
-/
set_option maxRecDepth 100000
set_option maxHeartbeats 4000000
namespace Go.Am
open Sx Go.Proofs
theorem bZ{b:List Lf->HL->Prop}{m:(List Lf->HL->Prop)->Prop}(P:List Lf->HL->Prop)(h1:∀l h,P l h->b l h)(h2:∀j:List Lf->HL->Prop,(∀l h,P l h->j l h)->m j):P1.join (@hid _ ⟨b⟩) (@hid _ ⟨m⟩):=h2 _ h1
theorem p_lss_d{a b:Int}{K:Bool->Prop}:P1.cmp .lss a b (@hid _ ⟨K⟩)=K (decide (a<b)):=rfl
structure CmpK(cv:Value)(ok:Crs->Prop)(key:Crs->Int):Prop where
 good:bg cv=true
 cmp:∀x y,ok x->ok y->∃d:Int,(∀H,rA cc cv [.agg ⟨encC x⟩,.agg ⟨encC y⟩] [.leaf (.i .i64)] H [.i d] H)/\(d<0↔key x<key y)
abbrev slV(id n cx:Nat):Value:=.slice (some ⟨id,0,tag 3⟩) n cx
theorem cj(id n cx:Nat):bg (slV id n cx)=true:=by simp[bg,noLoc,bj,cw,bS,bd,aH,tag]
theorem okP{ok:Crs->Prop}{a b:Nat}{l l':List Crs}(h:∀x∈l,ok x)(hp:SP a b l l'):∀x∈l',ok x:=λx hx=>h x (hp.1.mem_iff.1 hx)
section
variable {cv:Value} {ok:Crs->Prop} {key:Crs->Int} (hc:CmpK cv ok key) {id cx len:Nat} (hL:len<=100000)
theorem lsE{h:HL}{l:List Crs}(hlt:id<h.length)(hn:l.length=len):LsH (putE h id 3 encC l) (slV id len cx) 3 encC l:=by
 subst hn
 exact fQ aA hlt
include hc hL
theorem insS_c{h:HL}(hlt:id<h.length){a b:Nat}{l:List Crs}(hab:a<=b)(hb:b<=len)(hn:l.length=len)(hok:∀x∈l,ok x) :
  ∃l',SP a b l l'/\SS key a b l'/\aI cc ac 59 [.v (slV id len cx),.i (.ofNat a),.i (.ofNat b),.v cv] (absH ae (putE h id 3 encC l)) [] (absH ae (putE h id 3 encC l')):=by
 obtain⟨rs,h',h1,l',rfl,rfl,e3,e4⟩:=x59 (ls:=[.v (slV id len cx),.i (.ofNat a),.i (.ofNat b),.v cv]) (K:=λrs h'=>∃l',rs=[]/\h'=putE h id 3 encC l'/\SP a b l l'/\SS key a b l') (H:=putE h id 3 encC l) (glsV (cj _ _ _) (glsI (glsI (glsV hc.good gls0)))) (by
  unfold f59;simp only[qxh]
  simp(disch:=omega)only[↓qXX]
  rw[ch (by omega)]
  refine fM (max (a+1) b) (λi (_:List Crs)=>[.i (Int.ofNat i)]) (λ_ l'=>putE h id 3 encC l') (λi l'=>a+1<=i/\SP a b l l'/\SS key a i l') (j0:=a+1) (s0:=l) rfl rfl (by omega) ⟨by omega,SP.refl _ _ _,SS.one (by omega)⟩ ?_
  rintro i l1 hi ⟨hi0,hp,hs⟩ self hself
  simp(disch:=omega)only[↓qXX]
  by_cases hib:i<b
  ·rw[bp hib]
   simp(disch:=omega)only[↓qXX]
   refine aF (m:=i) (λm ls h'=>∃j l',ls=[.i (Int.ofNat j)]/\h'=putE h id 3 encC l'/\j=m/\a<=j/\j<=i/\SP a b l l'/\InsI key a i j l') ⟨i,l1,rfl,rfl,rfl,by omega,by omega,hp,InsI.start hs⟩ ?_
   rintro m ls h' ⟨j,l2,rfl,rfl,rfl,hja,hji,hp2,hI⟩ self2 hself2
   refine hidL ?_
   have hn2:l2.length=len:=hp2.len.trans hn
   have fin:(j=a∨∃x y,l2[j]? = some x/\l2[j - 1]? = some y/\key y<=key x)->self [.i (Int.ofNat i+1)] (putE h id 3 encC l2):=λhd=>hself l2 (by omega) ⟨by omega,hp2,hI.done ⟨hja,hji⟩ hd⟩
   simp(disch:=omega)only[↓qXX]
   by_cases hj:a<j
   ·rw[p_gtr_t (show Int.ofNat a<Int.ofNat j by simp only[qab];omega)]
    simp(disch:=omega)only[↓qXX]
    obtain⟨x,hx⟩:=aQ (l:=l2) (i:=j) (by omega)
    obtain⟨y,hy⟩:=aQ (l:=l2) (i:=j - 1) (by omega)
    have ox:=okP hok hp2 x (qad hx)
    have oy:=okP hok hp2 y (qad hy)
    refine aO (lsE hlt hn2) rfl hx ?_
    unfold encC
    simp(disch:=omega)only[↓qXX]
    rw[cD (by omega) (by omega)]
    refine aO (lsE hlt hn2) rfl hy ?_
    unfold encC
    simp(disch:=omega)only[↓qXX]
    obtain⟨d,hd,hdk⟩:=hc.cmp x y ox oy
    refine co (hd _) ?_
    simp(disch:=omega)only[↓qXX]
    by_cases hk:key x<key y
    ·rw[p_lss_t (hdk.2 hk)]
     simp(disch:=omega)only[↓qXX]
     rw[cD (by omega) (by omega),cD (by omega) (by omega)]
     refine aO (lsE hlt hn2) rfl hy ?_
     unfold encC
     simp(disch:=omega)only[↓qXX]
     refine aO (lsE hlt hn2) rfl hx ?_
     unfold encC
     simp(disch:=omega)only[↓qXX]
     refine cM aA (a:=y) hlt rfl (by omega) hn2 rfl ?_
     refine cM aA (a:=x) hlt rfl (by rw[qav];omega) (by rw[qav];exact hn2) rfl ?_
     rw[cD (by omega) (by omega)]
     exact hself2 (j - 1) _ _ (by omega) ⟨j - 1,_,rfl,rfl,rfl,by omega,by omega,hp2.trans (SP.swap hx hy (by omega) (by omega)),hI.step (by omega) hx hy hk⟩
    ·rw[p_lss_f (show 0<=d by have:=mt hdk.1 hk;omega)]
     simp(disch:=omega)only[↓qXX]
     rw[ch (by omega)]
     exact fin (.inr ⟨x,y,hx,hy,by omega⟩)
   ·rw[p_gtr_f (show Int.ofNat j<=Int.ofNat a by simp only[qab];omega)]
    simp(disch:=omega)only[↓qXX]
    rw[ch (by omega)]
    exact fin (.inl (by omega))
  ·rw[bC (by omega)]
   simp(disch:=omega)only[↓qXX]
   refine⟨l1,by trivial,by trivial,hp,?_⟩
   intro p q x y h1 h2 h3
   exact hs p q x y h1 h2 (by omega))
 exact⟨l',e3,e4,h1⟩
theorem sift_c{h:HL}(hlt:id<h.length){lo hi f:Nat}{l:List Crs}(hf:f+hi<=len)(hlo:lo<=len)(hn:l.length=len)(hok:∀x∈l,ok x)(hX:HpX key lo hi f lo l) :
  ∃l',SP f (f+hi) l l'/\Hp1 key lo hi f l'/\aI cc ac 90 [.v (slV id len cx),.i (.ofNat lo),.i (.ofNat hi),.i (.ofNat f),.v cv] (absH ae (putE h id 3 encC l)) [] (absH ae (putE h id 3 encC l')):=by
 obtain⟨rs,h',h1,l',rfl,rfl,e3,e4⟩:=x90 (ls:=[.v (slV id len cx),.i (.ofNat lo),.i (.ofNat hi),.i (.ofNat f),.v cv]) (K:=λrs h'=>∃l',rs=[]/\h'=putE h id 3 encC l'/\SP f (f+hi) l l'/\Hp1 key lo hi f l') (H:=putE h id 3 encC l) (glsV (cj _ _ _) (glsI (glsI (glsI (glsV hc.good gls0))))) (by
  unfold f90;simp only[qxh]
  simp(disch:=omega)only[↓qXX]
  refine aF (m:=hi - lo) (λm ls h'=>∃r l',ls=[.i (Int.ofNat r)]/\h'=putE h id 3 encC l'/\hi - r=m/\lo<=r/\r<=len/\SP f (f+hi) l l'/\HpX key lo hi f r l'/\HpP key lo hi f r l') ⟨lo,l,rfl,rfl,rfl,by omega,hlo,SP.refl _ _ _,hX,λk c x y h1 h2=>by omega⟩ ?_
  rintro m ls h' ⟨r,l2,rfl,rfl,rfl,hr,hrl,hp2,hX2,hP2⟩ self hself
  refine hidL ?_
  have hn2:l2.length=len:=hp2.len.trans hn
  simp(disch:=omega)only[↓qXX]
  by_cases hov:2*r+1<hi
  ·rw[p_mul (by simp only[qab];omega) (by simp only[qab];omega),show(2:Int)*Int.ofNat r=Int.ofNat (2*r)by simp,ch (by omega),show Int.ofNat (2*r)+1=Int.ofNat (2*r+1)from rfl]
   rw[p_geq_f (show Int.ofNat (2*r+1)<Int.ofNat hi by simp only[qab];omega)]
   simp(disch:=omega)only[↓qXX]
   obtain⟨x,hx⟩:=aQ (l:=l2) (i:=f+r) (by omega)
   have ox:=okP hok hp2 x (qad hx)
   obtain⟨y,hy⟩:=aQ (l:=l2) (i:=f+(2*r+1)) (by omega)
   have oy:=okP hok hp2 y (qad hy)
   have ad:∀ {p q:Nat} {K:Int->Prop},p+q<=1000000->P1.ari .add .i64 (Int.ofNat p) (Int.ofNat q) (@hid _ ⟨K⟩)=K (Int.ofNat (p+q)):=λ{p q K} hpq=>by
    rw[p_add (by simp only[qab];omega) (by simp only[qab];omega)]
    rfl
   rw[ch (by omega),show Int.ofNat (2*r+1)+1=Int.ofNat (2*r+2)from rfl]
   by_cases h2:2*r+2<hi
   ·rw[bp h2]
    simp(disch:=omega)only[↓qXX]
    obtain⟨z,hz⟩:=aQ (l:=l2) (i:=f+(2*r+2)) (by omega)
    have oz:=okP hok hp2 z (qad hz)
    rw[ad (by omega)]
    refine aO (lsE hlt hn2) rfl hy ?_
    unfold encC
    simp(disch:=omega)only[↓qXX]
    rw[ad (by omega),ch (by omega),show Int.ofNat (f+(2*r+1))+1=Int.ofNat (f+(2*r+2))from rfl]
    refine aO (lsE hlt hn2) rfl hz ?_
    unfold encC
    simp(disch:=omega)only[↓qXX]
    obtain⟨d,hd,hdk⟩:=hc.cmp y z oy oz
    refine co (hd _) ?_
    rw[p_unI,p_un0,p_lss_d]
    refine bZ (λl' h'=>∃(c:Nat) (u:Crs),l'=[.i (Int.ofNat c)]/\h'=putE h id 3 encC l2/\(c=2*r+1∨c=2*r+2)/\c<hi/\l2[f+c]? = some u/\ok u/\∀d z,(d=2*r+1∨d=2*r+2)->d<hi->l2[f+d]? = some z->key z<=key u) ?_ ?_
    ·rintro _ _ ⟨c,u,rfl,rfl,hcc,hch,hu,ou,hmx⟩
     simp(disch:=omega)only[↓qXX]
     rw[ad (by omega)]
     refine aO (lsE hlt hn2) rfl hx ?_
     unfold encC
     simp(disch:=omega)only[↓qXX]
     rw[ad (by omega)]
     refine aO (lsE hlt hn2) rfl hu ?_
     unfold encC
     simp(disch:=omega)only[↓qXX]
     obtain⟨d2,hd2,hdk2⟩:=hc.cmp x u ox ou
     refine co (hd2 _) ?_
     simp(disch:=omega)only[↓qXX]
     by_cases hk:key x<key u
     ·rw[p_lss_t (hdk2.2 hk)]
      simp(disch:=omega)only[↓qXX,qaL]
      rw[ad (by omega),ad (by omega),ad (by omega)]
      refine aO (lsE hlt hn2) rfl hu ?_
      unfold encC
      simp(disch:=omega)only[↓qXX]
      rw[ad (by omega)]
      refine aO (lsE hlt hn2) rfl hx ?_
      unfold encC
      simp(disch:=omega)only[↓qXX]
      refine cM aA (a:=u) hlt rfl (by omega) hn2 rfl ?_
      refine cM aA (a:=x) hlt rfl (by rw[qav];omega) (by rw[qav];exact hn2) rfl ?_
      obtain⟨s1,s2⟩:=hX2.step hP2 hr hcc hch hx hu hk hmx
      exact hself (hi - c) _ _ (by omega) ⟨c,_,rfl,rfl,rfl,by omega,by omega,hp2.trans (SP.swap hx hu (by omega) (by omega)),s1,s2⟩
     ·rw[p_lss_f (show 0<=d2 by have:=mt hdk2.1 hk;omega)]
      simp(disch:=omega)only[↓qXX,qbk]
      exact⟨l2,by trivial,by trivial,hp2,hX2.done λe v w he heh hv hw=>by
       rw[hx]at hv
       cases hv
       have:=hmx e w he heh hw
       omega⟩
    ·intro jj hjj
     by_cases hk:key y<key z
     ·rw[show decide (d<0)=true from decide_eq_true (hdk.2 hk)]
      simp(disch:=omega)only[↓qXX]
      rw[ch (by omega)]
      exact hjj _ _ ⟨2*r+2,z,rfl,rfl,.inr rfl,h2,hz,oz,λe w he _ hw=>by
       rcases he with rfl|rfl
       ·rw[hy]at hw
        cases hw
        omega
       ·rw[hz]at hw
        cases hw
        exact qcI _⟩
     ·rw[show decide (d<0)=false from decide_eq_false (mt hdk.1 hk)]
      simp(disch:=omega)only[↓qXX]
      exact hjj _ _ ⟨2*r+1,y,rfl,rfl,.inl rfl,hov,hy,oy,λe w he _ hw=>by
       rcases he with rfl|rfl
       ·rw[hy]at hw
        cases hw
        exact qcI _
       ·rw[hz]at hw
        cases hw
        omega⟩
   ·rw[bC (by omega)]
    simp(disch:=omega)only[↓qXX]
    obtain⟨c,hcdef⟩ : ∃c,c=2*r+1:=⟨_,rfl⟩
    rw[←hcdef]at hov hy ⊢
    have hcc:c=2*r+1∨c=2*r+2:=.inl hcdef
    have hch:c<hi:=hov
    obtain⟨u,hu,ou⟩ : ∃u,l2[f+c]? = some u/\ok u:=⟨y,hy,oy⟩
    have hmx:∀d z,(d=2*r+1∨d=2*r+2)->d<hi->l2[f+d]? = some z->key z<=key u:=λe w he heh hw=>by
     obtain rfl:e=c:=by omega
     rw[hu]at hw
     cases hw
     exact qcI _
    rw[ad (by omega)]
    refine aO (lsE hlt hn2) rfl hx ?_
    unfold encC
    simp(disch:=omega)only[↓qXX]
    rw[ad (by omega)]
    refine aO (lsE hlt hn2) rfl hu ?_
    unfold encC
    simp(disch:=omega)only[↓qXX]
    obtain⟨d2,hd2,hdk2⟩:=hc.cmp x u ox ou
    refine co (hd2 _) ?_
    simp(disch:=omega)only[↓qXX]
    by_cases hk:key x<key u
    ·rw[p_lss_t (hdk2.2 hk)]
     simp(disch:=omega)only[↓qXX,qaL]
     rw[ad (by omega),ad (by omega),ad (by omega)]
     refine aO (lsE hlt hn2) rfl hu ?_
     unfold encC
     simp(disch:=omega)only[↓qXX]
     rw[ad (by omega)]
     refine aO (lsE hlt hn2) rfl hx ?_
     unfold encC
     simp(disch:=omega)only[↓qXX]
     refine cM aA (a:=u) hlt rfl (by omega) hn2 rfl ?_
     refine cM aA (a:=x) hlt rfl (by rw[qav];omega) (by rw[qav];exact hn2) rfl ?_
     obtain⟨s1,s2⟩:=hX2.step hP2 hr hcc hch hx hu hk hmx
     exact hself (hi - c) _ _ (by omega) ⟨c,_,rfl,rfl,rfl,by omega,by omega,hp2.trans (SP.swap hx hu (by omega) (by omega)),s1,s2⟩
    ·rw[p_lss_f (show 0<=d2 by have:=mt hdk2.1 hk;omega)]
     simp(disch:=omega)only[↓qXX,qbk]
     exact⟨l2,by trivial,by trivial,hp2,hX2.done λe v w he heh hv hw=>by
      rw[hx]at hv
      cases hv
      have:=hmx e w he heh hw
      omega⟩
  ·rw[p_mul (by simp only[qab];omega) (by simp only[qab];omega),show(2:Int)*Int.ofNat r=Int.ofNat (2*r)by simp,ch (by omega),show Int.ofNat (2*r)+1=Int.ofNat (2*r+1)from rfl]
   rw[p_geq_t (show Int.ofNat hi<=Int.ofNat (2*r+1)by simp only[qab];omega)]
   simp(disch:=omega)only[↓qXX]
   exact⟨l2,by trivial,by trivial,hp2,hX2.done λc x y hcc hch=>by omega⟩)
 exact⟨l',e3,e4,h1⟩
end
end Go.Am

/-
 RAYS ARE SORTED: insertion,told of lists.
-/
set_option maxRecDepth 100000
set_option maxHeartbeats 4000000
namespace Go.Am
open Sx Go.Proofs
abbrev Ray:=Int×Int
def encR(r:Ray):List Value:=[.int .i64 r.1,.int .u8 r.2]
theorem eN(r:Ray):(encR r).length=2:=rfl
def rngR(r:Ray):Prop:=0<=r.1/\r.1<=100/\0<=r.2/\r.2<=255
def insR(e:Ray):List Ray->List Ray
 | []=>[e]
 |p :: P=>if e.1<p.1 then p :: insR e P else e :: p :: P
def iF:List Ray->List Ray->List Ray
 | [],P=>P
 |e :: r,P=>iF r (insR e P)
def eY(l:List Ray):List Ray:=(iF l []).reverse
theorem ky(e:Ray):∀P,(insR e P).length=P.length+1
 | []=>rfl
 |p :: P=>by
  unfold insR
  split
  ·simp[ky e P]
  ·simp
theorem tr{e:Ray}:∀ {P:List Ray} {r:Ray},r∈insR e P->r=e∨r∈P
 | [],r,h=>by simpa[insR]using h
 |p :: P,r,h=>by
  unfold insR at h
  split at h
  ·rcases qap.1 h with h|h
   ·exact .inr (by simp[h])
   ·rcases tr h with h|h
    ·exact .inl h
    ·exact .inr (by simp[h])
  ·rcases qap.1 h with h|h
   ·exact .inl h
   ·exact .inr h
theorem get_mid{α:Type}(A:List α)(x:α)(R:List α):(A++x :: R)[A.length]? = some x:=by simp
theorem get_mid1{α:Type}(A:List α)(x y:α)(R:List α):(A++x :: y :: R)[A.length+1]? = some y:=by
 rw[qan (by omega)]
 simp
theorem set_mid{α:Type}(A:List α)(x y:α)(R:List α):(A++x :: R).set A.length y=A++y :: R:=by simp
theorem set_mid1{α:Type}(A:List α)(x y z:α)(R:List α):(A++x :: y :: R).set (A.length+1) z=A++x :: z :: R:=by
 rw[qbA _ _ (by omega)]
 simp
theorem cmpR_c{a b:Ray}(ha:rngR a)(hb:rngR b):Cc 26 [.i a.1,.i a.2,.i b.1,.i b.2] [.i (a.1 - b.1)]:=by
 unfold rngR at ha hb
 refine q26 rfl ?_;unfold f26;simp only[qxh]
 simp(disch:=omega)only[↓qXX]
abbrev cloR:Value:=.func (.func 26) ⟨[]⟩ ⟨[]⟩
theorem uK:bg cloR=true:=rfl
theorem ins_c{h:HL}{id cx:Nat}{l:List Ray}(hlt:id<h.length)(hr:∀r∈l,rngR r)(hn:l.length<=1000) :
  aI cc ac 75 [.v (.slice (some ⟨id,0,tag 2⟩) l.length cx),.i 0,.i (Int.ofNat l.length),.v cloR] (absH ae (putE h id 2 encR l)) [] (absH ae (putE h id 2 encR (eY l))):=by
 have hgood:bg (.slice (some ⟨id,0,tag 2⟩) l.length cx)=true:=(fQ (cx:=cx) eN hlt (l:=l)).good
 obtain⟨rs,h',h1,e1,e2⟩:=x75 (ls:=[.v (.slice (some ⟨id,0,tag 2⟩) l.length cx),.i 0,.i (Int.ofNat l.length),.v cloR]) (K:=λrs h'=>rs=[]/\h'=putE h id 2 encR (eY l)) (H:=putE h id 2 encR l) (glsV hgood (glsI (glsI (glsV uK gls0)))) (by
  unfold f75;simp only[qxh]
  simp(disch:=omega)only[↓qXX]
  cases hl:l with
  |nil=>
   refine aF (m:=0) (λ_ ls h'=>ls=[.i 1]/\h'=putE h id 2 encR []) ⟨rfl,rfl⟩ ?_
   rintro m ls h' ⟨rfl,rfl⟩ self hself
   refine hidL ?_
   simp(disch:=omega)only[↓qXX]
   rw[p_lss_f (by decide)]
   simp(disch:=omega)only[↓qXX]
   exact⟨by trivial,rfl⟩
  |cons e0 r0=>
   rw[hl]at hr hn hgood
   refine aF (m:=r0.length) (λm ls h'=>∃P rest,ls=[.i (Int.ofNat P.length)]/\h'=putE h id 2 encR (P.reverse++rest)/\P.length+rest.length=(e0 :: r0).length/\m=rest.length/\iF rest P=iF (e0 :: r0) []/\(∀r∈P,rngR r)/\∀r∈rest,rngR r)
    ⟨[e0],r0,rfl,rfl,by simp;omega,rfl,rfl,λr hr'=>hr r (by simp at hr';simp[hr']),λr hr'=>hr r (by simp[hr'])⟩ ?_
   rintro m ls h' ⟨P,rest,rfl,rfl,hlen,rfl,hs,hP,hR⟩ self hself
   refine hidL ?_
   simp(disch:=omega)only[↓qXX]
   cases hrest:rest with
   |nil=>
    rw[hrest]at hlen hs
    rw[bC (by simp only[qcr]at hlen;omega)]
    simp(disch:=omega)only[↓qXX]
    refine⟨by trivial,?_⟩
    show putE h id 2 encR (P.reverse++[])=putE h id 2 encR (eY (e0 :: r0))
    have:eY (e0 :: r0)=P.reverse:=by
     unfold eY
     rw[←hs]
     rfl
    rw[this,qaI]
   |cons e rest=>
    rw[hrest]at hlen hs hR hself
    have he:rngR e:=hR e qaE
    rw[bp (by simp only[qaX]at hlen ⊢;omega)]
    simp(disch:=omega)only[↓qXX]
    refine aF (m:=P.length) (λm ls h'=>∃A B,ls=[.i (Int.ofNat A.length)]/\h'=putE h id 2 encR (A.reverse++e :: (B++rest))/\m=A.length/\(insR e A).reverse++B=(insR e P).reverse/\(∀r∈A,rngR r)/\A.length+B.length=P.length)
     ⟨P,[],rfl,by simp,rfl,by simp,hP,by simp⟩ ?_
    rintro m ls h' ⟨A,B,rfl,rfl,rfl,hins,hA,hAB⟩ self2 hself2
    refine hidL ?_
    simp(disch:=omega)only[↓qXX]
    have fin:A.reverse++e :: B=(insR e P).reverse->self [.i (Int.ofNat P.length+1)] (putE h id 2 encR (A.reverse++e :: (B++rest))):=by
     intro hq
     refine hself rest.length _ _ (by simp) ⟨insR e P,rest,?_,?_,?_,rfl,hs,λr hr'=>?_,λr hr'=>hR r (by simp[hr'])⟩
     ·rw[ky];rfl
     ·rw[←hq];simp
     ·rw[ky];simp only[qaX]at hlen ⊢;omega
     ·rcases tr hr' with h|h
      ·rw[h];exact he
      ·exact hP r h
    have hPl:P.length<=1000:=by simp only[qaX]at hlen hn;omega
    cases hA':A with
    |nil=>
     rw[hA']at hins
     have hq:(A.reverse++e :: B)=(insR e P).reverse:=by rw[hA',←hins];rfl
     have:=fin hq
     rw[hA']at this
     rw[p_gtr_f (by simp)]
     simp(disch:=omega)only[↓qXX]
     rw[ch (by omega)]
     exact this
    |cons p A2=>
     rw[hA']at hins hA hAB
     have hp:rngR p:=hA p qaE
     have hL:∀R,(p :: A2).reverse++R=A2.reverse++p :: R:=λR=>by simp
     have hrl:A2.reverse.length=A2.length:=qcJ
     have hlenL:(A2.reverse++p :: e :: (B++rest)).length=(e0 :: r0).length:=by
      simp only[qaB,qaX,qcJ]at hlen hAB ⊢
      omega
     rw[p_gtr_t (by simp only[qaX,qab];omega)]
     simp(disch:=omega)only[↓qXX]
     rw[hL]
     have hls:LsH (putE h id 2 encR (A2.reverse++p :: e :: (B++rest))) (.slice (some ⟨id,0,tag 2⟩) (e0 :: r0).length cx) 2 encR (A2.reverse++p :: e :: (B++rest)):=by
      rw[←hlenL]
      exact fQ eN hlt
     have g1:(A2.reverse++p :: e :: (B++rest))[A2.length+1]? = some e:=by rw[←hrl];exact get_mid1 _ _ _ _
     have g0:(A2.reverse++p :: e :: (B++rest))[A2.length]? = some p:=by rw[←hrl];exact get_mid _ _ _
     refine aO hls (by simp) g1 ?_
     unfold encR
     simp(disch:=omega)only[↓qXX]
     rw[cD (by simp) (by simp only[qaX]at hAB ⊢;omega)]
     refine aO hls (by simp) g0 ?_
     unfold encR
     simp(disch:=omega)only[↓qXX]
     refine co (hQ (cmpR_c he hp _) rfl [.agg [.i .i64 e.1,.i .u8 e.2],.agg [.i .i64 p.1,.i .u8 p.2]] rfl rfl) ?_
     simp(disch:=omega)only[↓qXX]
     by_cases hcmp:e.1<p.1
     ·rw[p_lss_t (by omega)]
      simp(disch:=omega)only[↓qXX]
      have sub1:∀K:Int->Prop,P1.ari .sub .i64 (Int.ofNat (p :: A2).length) 1 (@hid _ ⟨K⟩)=K (Int.ofNat ((p :: A2).length - 1)):=λK=>cD (by simp) (by simp only[qaX]at hAB ⊢;omega)
      rw[sub1]
      rw[sub1]
      refine aO hls (by simp) g0 ?_
      unfold encR
      simp(disch:=omega)only[↓qXX]
      refine aO hls (by simp) g1 ?_
      unfold encR
      simp(disch:=omega)only[↓qXX]
      refine cM eN (a:=p) (i:=A2.length+1) hlt (by simp) (by simp) hlenL rfl ?_
      have s1:(A2.reverse++p :: e :: (B++rest)).set (A2.length+1) p=A2.reverse++p :: p :: (B++rest):=by rw[←hrl];exact set_mid1 _ _ _ _ _
      rw[s1]
      refine cM eN (a:=e) (i:=A2.length) hlt (by simp) (by simp) (by rw[←hlenL];simp) rfl ?_
      have s2:(A2.reverse++p :: p :: (B++rest)).set A2.length e=A2.reverse++e :: p :: (B++rest):=by rw[←hrl];exact set_mid _ _ _ _
      rw[s2]
      rw[sub1]
      refine hself2 A2.length _ _ (by rw[hA'];simp) ⟨A2,p :: B,by simp,by simp,rfl,?_,λr hr'=>hA r (by simp[hr']),by simp only[qaX]at hAB ⊢;omega⟩
      rw[←hins]
      have:insR e (p :: A2)=p :: insR e A2:=by
       show(if e.1<p.1 then p :: insR e A2 else e :: p :: A2)=_
       rw[if_pos hcmp]
      rw[this]
      simp
     ·rw[p_lss_f (by omega)]
      simp(disch:=omega)only[↓qXX]
      rw[ch (by omega)]
      have hq:(A.reverse++e :: B)=(insR e P).reverse:=by
       rw[hA',←hins]
       unfold insR
       rw[if_neg hcmp]
       simp
      have:=fin hq
      rw[hA',hL]at this
      exact this)
 rw[e1,e2]at h1
 exact h1
end Go.Am

/-
 RAYS ARE SORTED: slices.SortFunc,for at most twelve of them.
-/
set_option maxRecDepth 100000
set_option maxHeartbeats 4000000
namespace Go.Am
open Sx Go.Proofs
def lenB(n:Nat):Nat:=if n=0 then 0 else Nat.log2 n+1
theorem len_tab:((List.range 13).all λn=>rR [.i (.ofNat (lenB n))] (runF 60 (.f 40) [.i (.ofNat n)] .empty tell))=true:=by kernel_rfl
theorem len_c{n:Nat}(h:n<=12):Cc 40 [.i (.ofNat n)] [.i (.ofNat (lenB n))]:=
 dQ (n:=60) rfl (by kernel_rfl) rfl (qac.1 len_tab n (qak.2 (by omega)))
theorem pdq_c{h:HL}{id cx:Nat}{l:List Ray}(hlt:id<h.length)(hr:∀r∈l,rngR r)(hn:l.length<=12)(k:Int) :
  aI cc ac 51 [.v (.slice (some ⟨id,0,tag 2⟩) l.length cx),.i 0,.i (Int.ofNat l.length),.i k,.v cloR] (absH ae (putE h id 2 encR l)) [] (absH ae (putE h id 2 encR (eY l))):=by
 have hgood:bg (.slice (some ⟨id,0,tag 2⟩) l.length cx)=true:=(fQ (cx:=cx) eN hlt (l:=l)).good
 obtain⟨rs,h',h1,e1,e2⟩:=x51 (ls:=[.v (.slice (some ⟨id,0,tag 2⟩) l.length cx),.i 0,.i (Int.ofNat l.length),.i k,.v cloR]) (K:=λrs h'=>rs=[]/\h'=putE h id 2 encR (eY l)) (H:=putE h id 2 encR l) (glsV hgood (glsI (glsI (glsI (glsV uK gls0))))) (by
  unfold f51;simp only[qxh]
  simp(disch:=omega)only[↓qXX]
  refine⟨1,?_⟩
  refine hidL ?_
  simp(disch:=omega)only[↓qXX]
  have e:Int.ofNat l.length - 0=Int.ofNat l.length:=by omega
  rw[p_sub (by show -9223372036854775808<=(l.length:Int) - 0;omega) (by show(l.length:Int) - 0<=9223372036854775807;omega),e]
  rw[p_leq_t (by show(l.length:Int)<=12;omega)]
  simp(disch:=omega)only[↓qXX]
  refine aq (ins_c hlt hr (by omega)) ?_
  simp(disch:=omega)only[↓qXX]
  exact⟨by trivial,by trivial⟩)
 rw[e1,e2]at h1
 exact h1
theorem sort_c{h:HL}{id cx:Nat}{l:List Ray}(hlt:id<h.length)(hr:∀r∈l,rngR r)(hn:l.length<=12) :
  aI cc ac 25 [.v (.slice (some ⟨id,0,tag 2⟩) l.length cx),.v cloR] (absH ae (putE h id 2 encR l)) [] (absH ae (putE h id 2 encR (eY l))):=by
 have hls:=fQ (cx:=cx) eN hlt (l:=l)
 obtain⟨rs,h',h1,e1,e2⟩:=x25 (ls:=[.v (.slice (some ⟨id,0,tag 2⟩) l.length cx),.v cloR]) (K:=λrs h'=>rs=[]/\h'=putE h id 2 encR (eY l)) (H:=putE h id 2 encR l) (glsV hls.good (glsV uK gls0)) (by
  unfold f25;simp only[qxh]
  simp(disch:=omega)only[↓qXX]
  refine gu hls ?_
  refine lV (by show 0<=(l.length:Int);omega) (by show(l.length:Int)<=9223372036854775807;omega) ?_
  refine aT (len_c hn) ?_
  simp(disch:=omega)only[↓qXX]
  refine aq (pdq_c hlt hr hn _) ?_
  simp(disch:=omega)only[↓qXX]
  exact⟨by trivial,by trivial⟩)
 rw[e1,e2]at h1
 exact h1
theorem sort0_c(H:HL):aI cc ac 25 [.v (.slice none 0 0),.v cloR] (absH ae H) [] (absH ae H):=by
 obtain⟨rs,h',h1,e1,e2⟩:=x25 (ls:=[.v (.slice none 0 0),.v cloR]) (K:=λrs h'=>rs=[]/\h'=H) (H:=H) (glsV rfl (glsV uK gls0)) (by
  unfold f25;simp only[qxh]
  simp(disch:=omega)only[↓qXX]
  refine aE (x:=(0:Int)) rfl ?_
  refine lV (by omega) (by omega) ?_
  refine aT (len_c (n:=0) (by omega)) ?_
  simp(disch:=omega)only[↓qXX]
  obtain⟨rs,h',g1,g2,g3⟩:=x51 (ls:=[.v (.slice none 0 0),.i 0,.i 0,.i (.ofNat (lenB 0)),.v cloR]) (K:=λrs h'=>rs=[]/\h'=H) (H:=H) (glsV rfl (glsI (glsI (glsI (glsV uK gls0))))) (by
   unfold f51;simp only[qxh]
   simp(disch:=omega)only[↓qXX]
   refine⟨1,?_⟩
   refine hidL ?_
   simp(disch:=omega)only[↓qXX]
   obtain⟨rs,h',g1,g2,g3⟩:=x75 (ls:=[.v (.slice none 0 0),.i 0,.i 0,.v cloR]) (K:=λrs h'=>rs=[]/\h'=H) (H:=H) (glsV rfl (glsI (glsI (glsV uK gls0)))) (by
    unfold f75;simp only[qxh]
    simp(disch:=omega)only[↓qXX]
    refine⟨1,?_⟩
    refine hidL ?_
    simp(disch:=omega)only[↓qXX]
    exact⟨by trivial,by trivial⟩)
   rw[g2,g3]at g1
   refine aq g1 ?_
   simp(disch:=omega)only[↓qXX]
   exact⟨by trivial,by trivial⟩)
  rw[g2,g3]at g1
  refine aq g1 ?_
  simp(disch:=omega)only[↓qXX]
  exact⟨by trivial,by trivial⟩)
 rw[e1,e2]at h1
 exact h1
end Go.Am

/-
 AROUND A CORNER: tables by the kernel: the cells,the edges between them,the spokes.
-/
set_option maxRecDepth 100000
namespace Go.Am
open Sx Go.Proofs
abbrev Cel:=Nat×Nat×Nat
def ring(x y:Nat):List Cel:=
 if x%2=1 then [(x / 2,y / 2,2),(x / 2,y / 2,3),(x / 2,y / 2,0),(x / 2,y / 2,1)]
 else [(x / 2,y / 2,0),(x / 2,y / 2,3),(x / 2 - 1,y / 2,1),(x / 2 - 1,y / 2,0),(x / 2 - 1,y / 2 - 1,2),(x / 2 - 1,y / 2 - 1,1),(x / 2,y / 2 - 1,3),(x / 2,y / 2 - 1,2)]
def many(x:Nat):Nat:=if x%2=1 then 4 else 8
def aX(x y j:Nat):Cel:=(ring x y).getD (j%many x) (0,0,0)
def dt(x j:Nat):Nat:=if x%2=1 then(if j%2=0 then 1 else 2)else [2,0,1,0].getD (j%4) 0
def idOf(w:Nat)(c:Cel):Nat:=4*(c.2.1*w+c.1)+c.2.2
def oq(x j:Nat):Nat:=if x%2=1 then(2*j+3)%8 else(j+1)%8
def jR(x j:Nat):Nat:=if j=0 then 3 else dt x (j - 1)
def told(f:FuncId)(ls rs:List Lf):Bool:=rR rs (runF 60 (.f f) ls .empty tell)
def tchT(c:Cel)(e x y:Nat)(t:Bool):Bool:=told 46 [.i (.ofNat c.1),.i (.ofNat c.2.1),.i (.ofNat c.2.2),.i (.ofNat e),.i (.ofNat x),.i (.ofNat y)] [.b t]
def lvT(c:Cel)(e x y:Nat)(t:Bool):Bool:=told 47 [.i (.ofNat c.1),.i (.ofNat c.2.1),.i (.ofNat c.2.2),.i (.ofNat e),.i (.ofNat x),.i (.ofNat y)] [.b t]
def skipT(c:Cel)(l e x y:Nat):Bool:=tchT c e x y false||(tchT c e x y true&&(Nat.beq e l||(Nat.beq l 3&&lvT c e x y false)))
def takeT(c:Cel)(l e x y:Nat):Bool:=tchT c e x y true&&(!(Nat.beq e l)&&(!(Nat.beq l 3)||lvT c e x y true))
def stepT(w v x y j:Nat):Bool:=
 let c:=aX x y j
 let d:=aX x y (j+1)
 let e:=dt x j
 let u:=min (idOf w c) (idOf w d)
 told 14 [.i (.ofNat w),.i (.ofNat v),.i (.ofNat c.1),.i (.ofNat c.2.1),.i (.ofNat c.2.2)] [.i (.ofNat (idOf w c)),.i 0] &&
 ((List.range e).all (λk=>skipT c (jR x j) k x y)&&(takeT c (jR x j) e x y&&(Nat.ble e 2 &&
 (told 15 [.i (.ofNat w),.i (.ofNat v),.i (.ofNat (idOf w c)),.i (.ofNat e)] [.i (.ofNat u),.i (.ofNat e),.i 0] &&
 (told 48 [.i (.ofNat w),.i (.ofNat v),.i (.ofNat u),.i (.ofNat e),.i (.ofNat x),.i (.ofNat y)] [.i (.ofNat (oq x j))] &&
 told 49 [.i (.ofNat c.1),.i (.ofNat c.2.1),.i (.ofNat c.2.2),.i (.ofNat e)] [.i (.ofNat d.1),.i (.ofNat d.2.1),.i (.ofNat d.2.2),.i 0])))))
def ey(w v x y:Nat):Bool:=Nat.blt 0 x&&(Nat.blt 0 y&&(Nat.blt x (2*w)&&(Nat.blt y (2*v)&&Nat.beq (x%2) (y%2))))
def cornT(w v:Nat):Bool:=(List.range (2*w)).all λx=>(List.range (2*v)).all λy=>!(ey w v x y)||(List.range (many x)).all λj=>stepT w v x y j
theorem corn_all:∀w v:Nat,1<=w->w<=4->1<=v->v<=4->cornT w v=true:=by
 have key:((List.range 4).all λw=>(List.range 4).all λv=>cornT (w+1) (v+1))=true:=by kernel_rfl
 intro w v h1 h2 h3 h4
 have h5:=qac.1 key (w - 1) (qak.2 (by omega))
 have h6:=qac.1 h5 (v - 1) (qak.2 (by omega))
 have e1:w - 1+1=w:=by omega
 have e2:v - 1+1=v:=by omega
 rw[e1,e2]at h6
 exact h6
theorem fi{f:FuncId}{ls rs:List Lf}{sg:Sig}(h:told f ls rs=true)(hs:ac f=some sg)(hp:sg.plain=true)(hg:fK ls=true):Cc f ls rs:=dQ (n:=60) hs hp hg h
structure Step(w v x y j:Nat):Prop where
 id:Cc 14 [.i (.ofNat w),.i (.ofNat v),.i (.ofNat (aX x y j).1),.i (.ofNat (aX x y j).2.1),.i (.ofNat (aX x y j).2.2)] [.i (.ofNat (idOf w (aX x y j))),.i 0]
 skip:∀k,k<dt x j->Cc 46 [.i (.ofNat (aX x y j).1),.i (.ofNat (aX x y j).2.1),.i (.ofNat (aX x y j).2.2),.i (.ofNat k),.i (.ofNat x),.i (.ofNat y)] [.b false]∨
  (Cc 46 [.i (.ofNat (aX x y j).1),.i (.ofNat (aX x y j).2.1),.i (.ofNat (aX x y j).2.2),.i (.ofNat k),.i (.ofNat x),.i (.ofNat y)] [.b true]/\(k=jR x j∨
   (jR x j=3/\Cc 47 [.i (.ofNat (aX x y j).1),.i (.ofNat (aX x y j).2.1),.i (.ofNat (aX x y j).2.2),.i (.ofNat k),.i (.ofNat x),.i (.ofNat y)] [.b false])))
 take:Cc 46 [.i (.ofNat (aX x y j).1),.i (.ofNat (aX x y j).2.1),.i (.ofNat (aX x y j).2.2),.i (.ofNat (dt x j)),.i (.ofNat x),.i (.ofNat y)] [.b true]
 ne:dt x j≠jR x j
 lv:jR x j=3->Cc 47 [.i (.ofNat (aX x y j).1),.i (.ofNat (aX x y j).2.1),.i (.ofNat (aX x y j).2.2),.i (.ofNat (dt x j)),.i (.ofNat x),.i (.ofNat y)] [.b true]
 le:dt x j<=2
 name:Cc 15 [.i (.ofNat w),.i (.ofNat v),.i (.ofNat (idOf w (aX x y j))),.i (.ofNat (dt x j))] [.i (.ofNat (min (idOf w (aX x y j)) (idOf w (aX x y (j+1))))),.i (.ofNat (dt x j)),.i 0]
 dir:Cc 48 [.i (.ofNat w),.i (.ofNat v),.i (.ofNat (min (idOf w (aX x y j)) (idOf w (aX x y (j+1))))),.i (.ofNat (dt x j)),.i (.ofNat x),.i (.ofNat y)] [.i (.ofNat (oq x j))]
 next:Cc 49 [.i (.ofNat (aX x y j).1),.i (.ofNat (aX x y j).2.1),.i (.ofNat (aX x y j).2.2),.i (.ofNat (dt x j))] [.i (.ofNat (aX x y (j+1)).1),.i (.ofNat (aX x y (j+1)).2.1),.i (.ofNat (aX x y (j+1)).2.2),.i 0]
theorem step_of{w v x y j:Nat}(h:stepT w v x y j=true):Step w v x y j:=by
 unfold stepT at h
 simp only[qaa]at h
 obtain⟨h1,h2,h3,h4,h5,h6,h7⟩:=h
 unfold takeT at h3
 simp only[qaa,qaG,qbF,Nat.beq_eq_true_eq]at h3
 obtain⟨t1,t2,t3⟩:=h3
 refine⟨fi h1 rfl (by kernel_rfl) rfl,λk hk=>?_,fi t1 rfl (by kernel_rfl) rfl,?_,λhl=>?_,qcz h4,fi h5 rfl (by kernel_rfl) rfl,fi h6 rfl (by kernel_rfl) rfl,fi h7 rfl (by kernel_rfl) rfl⟩
 ·have hs:=qac.1 h2 k (qak.2 hk)
  unfold skipT at hs
  simp only[qaa,qaG]at hs
  rcases hs with hs|⟨q1,q2|⟨q2,q3⟩⟩
  ·exact .inl (fi hs rfl (by kernel_rfl) rfl)
  ·exact .inr ⟨fi q1 rfl (by kernel_rfl) rfl,.inl (qaf q2)⟩
  ·exact .inr ⟨fi q1 rfl (by kernel_rfl) rfl,.inr ⟨qaf q2,fi q3 rfl (by kernel_rfl) rfl⟩⟩
 ·intro e
  rw[e]at t2
  rw[qcm]at t2
  cases t2
 ·rcases t3 with t3|t3
  ·rw[hl]at t3;cases t3
  ·exact fi t3 rfl (by kernel_rfl) rfl
theorem ui{w v x y:Nat}(h1:1<=w/\w<=4/\1<=v/\v<=4)(h2:ey w v x y=true){j:Nat}(hj:j<many x):Step w v x y j:=by
 have h:=corn_all w v h1.1 h1.2.1 h1.2.2.1 h1.2.2.2
 have h3:=h2
 unfold ey at h3
 simp only[qaa,qaF]at h3
 have h4:=qac.1 (qac.1 h x (qak.2 (by omega))) y (qak.2 (by omega))
 rw[h2]at h4
 simp only[qaL,qca]at h4
 exact step_of (qac.1 h4 j (qak.2 hj))
end Go.Am

/-
 AROUND A CORNER: the iterator makes a round for each cell.
-/
set_option maxRecDepth 100000
set_option maxHeartbeats 4000000
namespace Go.Am
open Sx Go.Proofs
theorem bi{h:HL}{p:Value}{cs:List Value}{n:Nat}{K:List Value->Prop}(hp:Ptr h p cs)(hn:cs.length=n)(hk:K cs):P1.peek (.lg cc n p) h (@hid _ ⟨K⟩):=kE (hp.lg hn) hk
theorem fP{h:HL}{p:Value}{cs ds:List Value}{o k:Nat}{K:List Value->Prop}(hp:Ptr h p cs)(hok:o+k<=cs.length)(hd:ds=(cs.drop o).take k)(hk:K ds) :
  P1.opt (fdP o p) (@hid _ ⟨λy=>P1.chk y (@hid _ ⟨P1.peek (.lg cc k y) h (@hid _ ⟨K⟩)⟩)⟩):=by
 obtain⟨q,h3,h4⟩:=hp.fd o k hok
 subst hd
 have hlen:((cs.drop o).take k).length=k:=by rw[qaT,qbE];omega
 refine aE h3 ?_
 show bg q=true/\_
 exact⟨h4.good,kE (h4.lg hlen) hk⟩
theorem sM(x y:Nat):aX x y (many x)=aX x y 0:=by
 unfold aX
 rw[Nat.mod_self,Nat.zero_mod]
theorem ne8{j:Nat}(x y:Nat)(h1:0<j)(h2:j<many x)(hx:0<x)(hy:0<y)(hxy:x%2=y%2):aX x y j≠aX x y 0:=by
 unfold aX many ring at *
 by_cases hp:x%2=1
 ·simp only[hp,if_true]at h2 ⊢
  have:j=1∨j=2∨j=3:=by omega
  rcases this with rfl|rfl|rfl<;>simp
 ·simp only[hp,if_false]at h2 ⊢
  have:j=1∨j=2∨j=3∨j=4∨j=5∨j=6∨j=7:=by omega
  rcases this with rfl|rfl|rfl|rfl|rfl|rfl|rfl<;>simp<;>omega
abbrev spkL(w x y j:Nat):List S0:=[.leaf (.i .i64 (.ofNat (idOf w (aX x y j)))),.agg [.i .i64 (.ofNat (oq x j)),.i .i64 (.ofNat (min (idOf w (aX x y j)) (idOf w (aX x y (j+1))))),.i .u8 (.ofNat (dt x j))]]
theorem start_at{x y:Nat}:aX x y 0=(x / 2,y / 2,if x%2=1 then 2 else 0):=by
 unfold aX many ring
 by_cases hp:x%2=1<;>simp[hp]
theorem many_pos(x:Nat):0<many x:=by unfold many;split<;>omega
theorem eqs3_t{a b c:Int}{K:Bool->Prop}:P1.eqs [(.i a,.i a),(.i b,.i b),(.i c,.i c)] (@hid _ ⟨K⟩)=K true:=by
 show K (cm _)=K true
 simp[cm,gp]
theorem cel_ext{c d:Cel}(h:Int.ofNat c.1=Int.ofNat d.1/\Int.ofNat c.2.1=Int.ofNat d.2.1/\Int.ofNat c.2.2=Int.ofNat d.2.2):c=d:=by
 obtain⟨h1,h2,h3⟩:=h
 exact qde (qbO h1) (qde (qbO h2) (qbO h3))
theorem walk_c{w v x y:Nat}(hsh:1<=w/\w<=4/\1<=v/\v<=4)(hcor:ey w v x y=true){l:Nat}{pa ps:Value}(J:Nat->HL->Prop)
  (hP:∀j h,J j h->Ptr h pa [.int .i64 (.ofNat x),.int .i64 (.ofNat y)]/\Ptr h ps [.int .i64 (.ofNat w),.int .i64 (.ofNat v)])
  (hY:∀j,j<many x->∀h,J j h->∃h',eI cc l (ah (spkL w x y j)) (absH ae h) (.bool true) (absH ae h')/\J (j+1) h') {h0:HL} (h0J:J 0 h0) :
  ∃h',aI cc ac 45 [.v (.func (.yield l) #[] #[]),.v pa,.v ps] (absH ae h0) [] (absH ae h')/\J (many x) h':=by
 have hc2:=hcor
 unfold ey at hc2
 simp only[qaa,qaF]at hc2
 obtain⟨hx0,hy0,hx1,hy1,hxy⟩:=hc2
 have hxy:=qaf hxy
 obtain⟨rs,h',h1,rfl,hJ⟩:=x45 (ls:=[.v (.func (.yield l) #[] #[]),.v pa,.v ps]) (K:=λrs h'=>rs=[]/\J (many x) h') (H:=h0) (glsV rfl (glsV (hP 0 h0 h0J).1.good (glsV (hP 0 h0 h0J).2.good gls0))) (by
  unfold f45;simp only[qxh]
  have hpa:=(hP 0 h0 h0J).1
  simp(disch:=omega)only[↓qXX]
  refine fP hpa (o:=0) (k:=1) (ds:=[.int .i64 (.ofNat x)]) (by simp) rfl ?_
  simp(disch:=omega)only[↓qXX]
  rw[p_quo_nn (by simp) (by decide) (by simp only[qab];omega)]
  refine fP hpa (o:=1) (k:=1) (ds:=[.int .i64 (.ofNat y)]) (by simp) rfl ?_
  simp(disch:=omega)only[↓qXX]
  rw[p_quo_nn (by simp) (by decide) (by simp only[qab];omega)]
  refine fP hpa (o:=0) (k:=1) (ds:=[.int .i64 (.ofNat x)]) (by simp) rfl ?_
  simp(disch:=omega)only[↓qXX]
  rw[p_rem_nn (by simp) (by decide)]
  have key:∀B:List Lf->HL->Prop,B [.i (Int.ofNat (aX x y 0).1),.i (Int.ofNat (aX x y 0).2.1),.i (Int.ofNat (aX x y 0).2.2)] h0->P1.cmp .neq (Int.ofNat x%2) 0 (@hid _ ⟨λt27=>P1.join (@hid _ ⟨B⟩) (@hid _ ⟨λj191=>P1.cond t27 (@hid _ ⟨j191 [(.i (Int.ofNat x / 2)),(.i (Int.ofNat y / 2)),(.i 2)] h0⟩) (@hid _ ⟨j191 [(.i (Int.ofNat x / 2)),(.i (Int.ofNat y / 2)),(.i 0)] h0⟩)⟩)⟩):=by
   intro B hB
   rw[start_at]at hB
   by_cases hp:x%2=1
   ·rw[if_pos hp]at hB
    rw[p_neq_t (by simp only[qab];omega)]
    exact⟨λ_=>hB,λh=>by cases h⟩
   ·rw[if_neg hp]at hB
    rw[p_neq_f (by simp only[qab];omega)]
    exact⟨λh=>(by cases h),λ_=>hB⟩
  refine key _ ?_
  simp(disch:=omega)only[↓qXX]
  refine aF (m:=many x) (λm ls h=>∃j,j<many x/\m=many x - j/\ls=[.i (Int.ofNat (jR x j)),.i (Int.ofNat (aX x y j).1),.i (Int.ofNat (aX x y j).2.1),.i (Int.ofNat (aX x y j).2.2)]/\J j h) ⟨0,many_pos x,rfl,rfl,h0J⟩ ?_
  rintro m ls H ⟨j,hj,rfl,rfl,hJ⟩ self hself
  refine hidL ?_
  have st:=ui hsh hcor hj
  simp(disch:=omega)only[↓qXX]
  refine bi (hP j H hJ).2 rfl ?_
  simp(disch:=omega)only[↓qXX]
  refine aT st.id ?_
  simp(disch:=omega)only[↓qXX]
  refine aF (m:=dt x j) (λm ls h=>∃k,k<=dt x j/\m=dt x j - k/\ls=[.i (Int.ofNat (jR x j)),.i (Int.ofNat k),.i (Int.ofNat (aX x y j).1),.i (Int.ofNat (aX x y j).2.1),.i (Int.ofNat (aX x y j).2.2)]/\h=H) ⟨0,qbo _,rfl,rfl,rfl⟩ ?_
  rintro m2 ls2 h2 ⟨k,hk,rfl,rfl,rfl⟩ self2 hself2
  refine hidL ?_
  have hle:=st.le
  simp(disch:=omega)only[↓qXX]
  rw[p_lss_t (by simp only[qab];omega)]
  simp(disch:=omega)only[↓qXX]
  refine bi (hP j h2 hJ).1 rfl ?_
  simp(disch:=omega)only[↓qXX]
  by_cases hkl:k<dt x j
  ·have again:self2 [.i (Int.ofNat (jR x j)),.i (Int.ofNat k+1),.i (Int.ofNat (aX x y j).1),.i (Int.ofNat (aX x y j).2.1),.i (Int.ofNat (aX x y j).2.2)] h2:=hself2 (dt x j - (k+1)) _ _ (by omega) ⟨k+1,by omega,rfl,rfl,rfl⟩
   have add1:∀K:Int->Prop,P1.ari .add .u8 (Int.ofNat k) 1 (@hid _ ⟨K⟩)=K (Int.ofNat k+1):=λK=>p_add8 (by simp only[qab];omega) (by simp only[qab];omega)
   rcases st.skip k hkl with ht|⟨ht,hs⟩
   ·refine aT ht ?_
    simp(disch:=omega)only[↓qXX,qbk]
    rw[add1]
    exact again
   ·refine aT ht ?_
    simp(disch:=omega)only[↓qXX,qaL]
    by_cases hkk:k=jR x j
    ·rw[p_eql_t (by rw[hkk])]
     simp(disch:=omega)only[↓qXX]
     rw[add1]
     exact again
    ·have h3:jR x j=3/\Cc 47 [.i (.ofNat (aX x y j).1),.i (.ofNat (aX x y j).2.1),.i (.ofNat (aX x y j).2.2),.i (.ofNat k),.i (.ofNat x),.i (.ofNat y)] [.b false]:=by
      rcases hs with hs|hs
      ·exact absurd hs hkk
      ·exact hs
     rw[p_eql_f (by simp only[qab];omega)]
     simp(disch:=omega)only[↓qXX]
     rw[p_eql_t (by rw[h3.1];rfl)]
     simp(disch:=omega)only[↓qXX]
     refine bi (hP j h2 hJ).1 rfl ?_
     simp(disch:=omega)only[↓qXX]
     refine aT h3.2 ?_
     simp(disch:=omega)only[↓qXX,qbk]
     rw[add1]
     exact again
  ·obtain rfl:k=dt x j:=by omega
   refine aT st.take ?_
   simp(disch:=omega)only[↓qXX,qaL]
   have hne:=st.ne
   rw[p_eql_f (by simp only[qab];omega)]
   simp(disch:=omega)only[↓qXX]
   by_cases h3:jR x j=3
   ·rw[p_eql_t (by rw[h3];rfl)]
    simp(disch:=omega)only[↓qXX]
    refine bi (hP j h2 hJ).1 rfl ?_
    simp(disch:=omega)only[↓qXX]
    refine aT (st.lv h3) ?_
    simp(disch:=omega)only[↓qXX,qaL]
    refine bi (hP j h2 hJ).2 rfl ?_
    simp(disch:=omega)only[↓qXX]
    refine aT st.name ?_
    simp(disch:=omega)only[↓qXX]
    refine bi (hP j h2 hJ).2 rfl ?_
    simp(disch:=omega)only[↓qXX]
    refine bi (hP j h2 hJ).1 rfl ?_
    simp(disch:=omega)only[↓qXX]
    refine aT st.dir ?_
    simp(disch:=omega)only[↓qXX]
    obtain⟨H',hu,hJ'⟩:=hY j hj h2 hJ
    refine p_callY (ys:=spkL w x y j) hu ?_
    simp(disch:=omega)only[↓qXX,qaL]
    refine aT st.next ?_
    simp(disch:=omega)only[↓qXX]
    by_cases hlast:j+1=many x
    ·rw[hlast,sM]
     rw[eqs3_t]
     simp(disch:=omega)only[↓qXX]
     refine⟨by trivial,?_⟩
     rw[←hlast];exact hJ'
    ·have hne:aX x y (j+1)≠aX x y 0:=ne8 x y (by omega) (by omega) hx0 hy0 hxy
     rw[p_eqs3_f (λhq=>hne (cel_ext hq))]
     simp(disch:=omega)only[↓qXX]
     exact hself (many x - (j+1)) _ _ (by omega) ⟨j+1,by omega,rfl,rfl,hJ'⟩
   ·rw[p_eql_f (by simp only[qab];omega)]
    simp(disch:=omega)only[↓qXX]
    refine bi (hP j h2 hJ).2 rfl ?_
    simp(disch:=omega)only[↓qXX]
    refine aT st.name ?_
    simp(disch:=omega)only[↓qXX]
    refine bi (hP j h2 hJ).2 rfl ?_
    simp(disch:=omega)only[↓qXX]
    refine bi (hP j h2 hJ).1 rfl ?_
    simp(disch:=omega)only[↓qXX]
    refine aT st.dir ?_
    simp(disch:=omega)only[↓qXX]
    obtain⟨H',hu,hJ'⟩:=hY j hj h2 hJ
    refine p_callY (ys:=spkL w x y j) hu ?_
    simp(disch:=omega)only[↓qXX,qaL]
    refine aT st.next ?_
    simp(disch:=omega)only[↓qXX]
    by_cases hlast:j+1=many x
    ·rw[hlast,sM]
     rw[eqs3_t]
     simp(disch:=omega)only[↓qXX]
     refine⟨by trivial,?_⟩
     rw[←hlast];exact hJ'
    ·have hne:aX x y (j+1)≠aX x y 0:=ne8 x y (by omega) (by omega) hx0 hy0 hxy
     rw[p_eqs3_f (λhq=>hne (cel_ext hq))]
     simp(disch:=omega)only[↓qXX]
     exact hself (many x - (j+1)) _ _ (by omega) ⟨j+1,by omega,rfl,rfl,hJ'⟩ )
 exact⟨h',h1,hJ⟩
end Go.Am

/-
 A ROUND OF corners.Creases: the ray of a spoke,if there is a crease.
-/
set_option maxRecDepth 100000
set_option maxHeartbeats 4000000
namespace Go.Am
open Sx Go.Proofs
def gS(l:List Crs)(d u e:Nat):List Ray:=if eg l (.ofNat u) (.ofNat e)=0 then []else [(.ofNat d,eg l (.ofNat u) (.ofNat e))]
structure RF(H:HL)(n0 a b L w v:Nat)(x:Value)(l:List Crs):Prop where
 len:H.length=n0
 ha:H[a]? = some (.o (.cells [.int .i64 (.ofNat w),.int .i64 (.ofNat v),x] 3 true))
 hx:LsH H x 3 encC l
 xb:blk x≠some b
 xL:blk x≠some L
 ab:a≠b
 aL:a≠L
 bL:b≠L
 lt:a<n0/\b<n0/\L<n0
structure RS(H:HL)(n0 a b L:Nat)(R:List Ray)(h:HL):Prop where
 old:∀(i:Nat) o,i≠b->i≠L->H[i]? = some o->h[i]? = some o
 len:n0<=h.length
 out:∃xo,h[b]? = some (.o (.cells [xo] 1 true))/\MkL n0 h xo 2 encR R/\bg xo=true
 lp:h[L]? = some (.lp 112 .ready none [.pointer (some ⟨a,0,none⟩),.pointer (some ⟨b,0,none⟩)])
theorem bD{h:HL}{a:Nat}{cs:List Value}{e:Nat}{rw':Bool}(ha:h[a]? = some (.o (.cells cs e rw'))):Ptr h (.pointer (some ⟨a,0,none⟩)) cs:=
 ⟨a,0,cs,e,rw',rfl,ha,ie.2 ⟨by omega,by simp⟩⟩
theorem mp{h:HL}{id e:Nat}{cs new:List Value}(hg:h[id]? = some (.o (.cells cs e true)))(hl:new.length=cs.length):(Hp.st (.pointer (some ⟨id,0,none⟩)) new).run (getH ae h) h.length=some ([.set id (.cells new e true)],[]):=by
 show stP (.pointer (some ⟨id,0,none⟩)) new (getH ae h) h.length=_
 unfold stP
 simp only
 rw[dx hg]
 simp only
 unfold splice
 rw[if_pos (by omega)]
 simp[hl]
theorem round_c{H:HL}{n0 a b L w v:Nat}{x:Value}{l:List Crs}(hF:RF H n0 a b L w v x l)(hp:Pat w v l){R:List Ray}(hR:R.length<=100){h:HL}(hS:RS H n0 a b L R h){c d u e n:Nat}(hc:u<4*w*v)(he:e<3)(hn:nbr w v u e=some n)(hun:u<n)(hn2:n<=1000) :
  ∃h',eI cc L (ah [.leaf (.i .i64 (.ofNat c)),.agg [.i .i64 (.ofNat d),.i .i64 (.ofNat u),.i .u8 (.ofNat e)]]) (absH ae h) (.bool true) (absH ae h')/\RS H n0 a b L (R++gS l d u e) h':=by
 obtain⟨xo,hb,hmk,hgx⟩:=hS.out
 have hx2:bg x=true:=hF.hx.good
 obtain⟨bb,h',hu,hK1,hK2⟩:=xy112 (K:=λrs h'=>rs=[.b true]/\RS H n0 a b L (R++gS l d u e) h') (ys:=[.leaf (.i .i64 (.ofNat c)),.agg [.i .i64 (.ofNat d),.i .i64 (.ofNat u),.i .u8 (.ofNat e)]]) (ls:=[.i (.ofNat c),.i (.ofNat d),.i (.ofNat u),.i (.ofNat e)]) hS.lp ⟨rfl,rfl,by
   intro y hy z hz
   simp only[qap,qbJ,or_false]at hy
   rcases hy with rfl|rfl<;>simp only[S0.cells,qap,qbJ,or_false]at hz
   ·subst hz;trivial
   ·rcases hz with rfl|rfl|rfl<;>trivial⟩ (by
  unfold y112;simp only[qxh]
  simp(disch:=omega)only[↓qXX]
  refine bc rfl ?_
  simp(disch:=omega)only[↓qXX]
  refine bc rfl ?_
  simp(disch:=omega)only[↓qXX]
  have hnew:(h++[HO.o (.cells [.int .i64 0,.int .i64 0,.int .u8 0] 3 true)])[h.length]? = some (.o (.cells [.int .i64 0,.int .i64 0,.int .u8 0] 3 true)):=by simp
  refine cW (acts:=[.set h.length (.cells [.int .i64 (.ofNat d),.int .i64 (.ofNat u),.int .u8 (.ofNat e)] 3 true)]) (cs:=[]) (mp hnew rfl) ?_
  have e1:bk (h++[HO.o (.cells [.int .i64 0,.int .i64 0,.int .u8 0] 3 true)]) [.set h.length (.cells [.int .i64 (.ofNat d),.int .i64 (.ofNat u),.int .u8 (.ofNat e)] 3 true)]=h++[HO.o (.cells [.int .i64 (.ofNat d),.int .i64 (.ofNat u),.int .u8 (.ofNat e)] 3 true)]:=by
   show(h++[_]).set h.length _=_
   simp
  rw[e1]
  have hLlt:L<h.length:=bN hS.lp
  refine p_lp1 (κ:=112) (pd:=none) (vs:=[.pointer (some ⟨a,0,none⟩),.pointer (some ⟨b,0,none⟩)]) (by rw[qah hLlt];exact hS.lp) ?_
  have facts:∃h3,h3=(h++[HO.o (.cells [.int .i64 (.ofNat d),.int .i64 (.ofNat u),.int .u8 (.ofNat e)] 3 true)]).set L (.lp 112 .busy none [.pointer (some ⟨a,0,none⟩),.pointer (some ⟨b,0,none⟩)])/\(∀(i:Nat) o,i≠L->h[i]? = some o->h3[i]? = some o)/\h3[h.length]? = some (.o (.cells [.int .i64 (.ofNat d),.int .i64 (.ofNat u),.int .u8 (.ofNat e)] 3 true))/\h3[L]? = some (.lp 112 .busy none [.pointer (some ⟨a,0,none⟩),.pointer (some ⟨b,0,none⟩)])/\h3.length=h.length+1:=by
   refine⟨_,rfl,λi o hi ho=>?_,?_,?_,by simp⟩
   ·rw[qaj (qbL hi),qah (bN ho)];exact ho
   ·rw[qaj (by omega)];simp
   ·rw[qaD (by simp;omega)]
  obtain⟨h3,hh3,f1,f2,f3,f4⟩:=facts
  rw[←hh3]
  have ha3:=f1 a _ hF.aL (hS.old a _ hF.ab hF.aL hF.ha)
  refine bi (bD ha3) rfl ?_
  simp(disch:=omega)only[↓qXX]
  refine bc hx2 ?_
  simp(disch:=omega)only[↓qXX]
  obtain⟨q,q1,q2⟩:=(bD f2).fd 1 2 (by simp)
  refine aE q1 (bc q2.good ?_)
  refine fP q2 (o:=0) (k:=1) (ds:=[.int .i64 (.ofNat u)]) (by simp) rfl ?_
  simp(disch:=omega)only[↓qXX]
  refine aE q1 (bc q2.good ?_)
  refine fP q2 (o:=1) (k:=1) (ds:=[.int .u8 (.ofNat e)]) (by simp) rfl ?_
  simp(disch:=omega)only[↓qXX]
  have hls3:LsH h3 x 3 encC l:=hF.hx.keep λj o hj hbj=>f1 j o (λq=>hF.xL (by rw[hbj,q])) (hS.old j o (λq=>hF.xb (by rw[hbj,q])) (λq=>hF.xL (by rw[hbj,q])) hj)
  have hkd:=kind_c hp hls3 hc he hn hn2
  rw[qcs (by omega:u<=n)]at hkd
  refine aq hkd ?_
  simp(disch:=omega)only[↓qXX]
  by_cases hk0:eg l (.ofNat u) (.ofNat e)=0
  ·rw[p_neq_f hk0]
   simp(disch:=omega)only[↓qXX]
   refine p_lp2 f3 ?_
   refine⟨by trivial,?_⟩
   have hray:gS l d u e=[]:=if_pos hk0
   rw[hray,qaI]
   refine⟨λi o hi1 hi2 ho=>?_,by rw[qav,f4];have:=hS.len;omega,⟨xo,?_,hmk.keep λj o hj hbj=>?_,hgx⟩,?_⟩
   ·rw[qaj (qbL hi2)];exact f1 i o hi2 (hS.old i o hi1 hi2 ho)
   ·rw[qaj (qbL hF.bL)];exact f1 b _ hF.bL hb
   ·have:=(sK hmk.2 hbj).1
    have hLn:=hF.lt.2.2
    rw[qaj (by omega)];exact f1 j o (by omega) hj
   ·rw[qaD (by rw[f4];omega)]
  ·rw[p_neq_t hk0]
   simp(disch:=omega)only[↓qXX]
   have hb3:=f1 b _ hF.bL hb
   refine bi (bD hb3) rfl ?_
   simp(disch:=omega)only[↓qXX]
   refine bc hgx ?_
   simp(disch:=omega)only[↓qXX]
   refine fP (bD f2) (o:=0) (k:=1) (ds:=[.int .i64 (.ofNat d)]) (by simp) rfl ?_
   simp(disch:=omega)only[↓qXX]
   have hl0:(h3.take n0).length=n0:=by rw[qaT,f4];have:=hS.len;omega
   have hmk3:MkL (h3.take n0).length h3 xo 2 encR R:=by
    rw[hl0]
    exact hmk.keep λj o hj hbj=>f1 j o (by have:=(sK hmk.2 hbj).1;have:=hF.lt.2.2;omega) hj
   refine p_app1 (h0:=h3.take n0) (a:=(.ofNat d,eg l (.ofNat u) (.ofNat e))) ⟨h3.drop n0,by simp⟩ hmk3 rfl rfl rfl rfl (by
    unfold cE
    rw[qaa,qa4,qa4]
    omega) λv' h' hp' hm' hg' hold hblk=>?_
   have nb:∀i,i<n0->blk xo≠some i:=λi hi hq=>by have:=(sK hmk.2 hq).1;omega
   simp(disch:=omega)only[↓qXX]
   refine bc hg' ?_
   simp(disch:=omega)only[↓qXX]
   have hb':=hold b _ hb3 (nb b hF.lt.2.1)
   refine cW (mp hb' rfl) ?_
   have e2:bk h' [.set b (.cells [v'] 1 true)]=h'.set b (.o (.cells [v'] 1 true)):=rfl
   rw[e2]
   simp(disch:=omega)only[↓qXX]
   have hL':=hold L _ f3 (nb L hF.lt.2.2)
   refine p_lp2 (by rw[qaj hF.bL];exact hL') ?_
   refine⟨by trivial,?_⟩
   have hray:gS l d u e=[(.ofNat d,eg l (.ofNat u) (.ofNat e))]:=if_neg hk0
   rw[hray]
   rw[hl0]at hm'
   have hbl:=bN hb'
   have hLl:=bN hL'
   have hlen':n0<=h'.length:=by have:=hp'.len;rw[hl0]at this;exact this
   refine⟨λi o hi1 hi2 ho=>?_,by rw[qav,qav];exact hlen',⟨v',?_,hm'.keep λj o hj hbj=>?_,hg'⟩,?_⟩
   ·rw[qaj (qbL hi2),qaj (qbL hi1)]
    have hin:i<n0:=by have:=bN ho;rw[hF.len]at this;exact this
    exact hold i o (f1 i o hi2 (hS.old i o hi1 hi2 ho)) (nb i hin)
   ·rw[qaj (qbL hF.bL),qaD hbl]
   ·have h5:=(sK hm'.2 hbj).1
    have h6:=hF.lt
    rw[qaj (by omega),qaj (by omega)];exact hj
   ·rw[qaD (by rw[qav];exact hLl)])
 cases hK1
 exact⟨h',hu,hK2⟩
end Go.Am

/-
 SORTING TOLD (creases): heap sort,turning around,the choice of a pivot.
-/
set_option maxRecDepth 100000
set_option maxHeartbeats 4000000
namespace Go.Am
open Sx Go.Proofs
section
variable {cv:Value} {ok:Crs->Prop} {key:Crs->Int} (hc:CmpK cv ok key) {id cx len:Nat} (hL:len<=100000)
theorem n_ad{p q:Nat}{K:Int->Prop}(h:p+q<=1000000):P1.ari .add .i64 (Int.ofNat p) (Int.ofNat q) (@hid _ ⟨K⟩)=K (Int.ofNat (p+q)):=by
 rw[p_add (by simp only[qab];omega) (by simp only[qab];omega)]
 rfl
theorem n_sb{p q:Nat}{K:Int->Prop}(h:q<=p)(h2:p<=1000000):P1.ari .sub .i64 (Int.ofNat p) (Int.ofNat q) (@hid _ ⟨K⟩)=K (Int.ofNat (p - q)):=by
 rw[p_sub (by simp only[qab];omega) (by simp only[qab];omega)]
 congr 1
 simp only[qab];omega
theorem n_qu{p:Nat}{m:Int}(q:Nat)(hm:m=Int.ofNat q)(hq:0<q){K:Int->Prop}(h2:p<=1000000):P1.ari .quo .i64 (Int.ofNat p) m (@hid _ ⟨K⟩)=K (Int.ofNat (p / q)):=by
 subst hm
 rw[p_quo_nn (show 0<=Int.ofNat p from qaR p) (show(0:Int)<Int.ofNat q by simp only[qab];omega) (by simp only[qab];omega)]
 rfl
theorem n_ml{p:Nat}{m:Int}(q:Nat)(hm:m=Int.ofNat q){K:Int->Prop}(h2:p*q<=1000000):P1.ari .mul .i64 (Int.ofNat p) m (@hid _ ⟨K⟩)=K (Int.ofNat (p*q)):=by
 subst hm
 have e:Int.ofNat p*Int.ofNat q=Int.ofNat (p*q):=by simp
 rw[p_mul (by rw[e];simp only[qab];omega) (by rw[e];simp only[qab];omega),e]
include hc hL
theorem heap_c{h:HL}(hlt:id<h.length){a b:Nat}{l:List Crs}(hab:a<b)(hb:b<=len)(hn:l.length=len)(hok:∀x∈l,ok x) :
  ∃l',SP a b l l'/\SS key a b l'/\aI cc ac 60 [.v (slV id len cx),.i (.ofNat a),.i (.ofNat b),.v cv] (absH ae (putE h id 3 encC l)) [] (absH ae (putE h id 3 encC l')):=by
 obtain⟨rs,h',h1,l',rfl,rfl,e3,e4⟩:=x60 (ls:=[.v (slV id len cx),.i (.ofNat a),.i (.ofNat b),.v cv]) (K:=λrs h'=>∃l',rs=[]/\h'=putE h id 3 encC l'/\SP a b l l'/\SS key a b l') (H:=putE h id 3 encC l) (glsV (cj _ _ _) (glsI (glsI (glsV hc.good gls0)))) (by
  unfold f60;simp only[qxh]
  simp(disch:=omega)only[↓qXX]
  obtain⟨n,rfl⟩ : ∃n,b=a+n:=⟨b - a,by omega⟩
  rw[n_sb (by omega) (by omega),show a+n - a=n by omega,cD (by omega) (by omega),n_qu 2 (show(2:Int)=Int.ofNat 2 from rfl) (by omega) (by omega)]
  refine aF (m:=(n - 1) / 2+1) (λm ls h'=>∃l',ls=[.i ((m:Int) - 1)]/\h'=putE h id 3 encC l'/\m<=n/\SP a (a+n) l l'/\Hp1 key m n a l') ⟨l,by simp,rfl,by omega,SP.refl _ _ _,λk c x y h1 h2 h3=>by omega⟩ ?_
  rintro m ls h' ⟨l1,rfl,rfl,hm,hp,hH⟩ self hself
  refine hidL ?_
  have hn1:l1.length=len:=hp.len.trans hn
  simp(disch:=omega)only[↓qXX]
  rcases m with _|q
  ·rw[p_geq_f (by omega)]
   simp(disch:=omega)only[↓qXX]
   rw[cD (by omega) (by omega)]
   refine aF (m:=n) (λm ls h'=>∃l',ls=[.i ((m:Int) - 1)]/\h'=putE h id 3 encC l'/\m<=n/\SP a (a+n) l l'/\Hp1 key 0 m a l'/\SS key (a+m) (a+n) l'/\BL key a (a+m) (a+m) (a+n) l') ⟨l1,by rw[show Int.ofNat (n - 1)=(n:Int) - 1 by simp only[qab];omega],rfl,qal _,hp,hH,SS.one (by omega),λi j x y h1 h2 h3 h4=>by omega⟩ ?_
   rintro m ls h' ⟨l2,rfl,rfl,hm2,hp2,hH2,hS2,hB2⟩ self2 hself2
   refine hidL ?_
   have hn2:l2.length=len:=hp2.len.trans hn
   simp(disch:=omega)only[↓qXX]
   rcases m with _|q
   ·rw[p_geq_f (by omega)]
    simp(disch:=omega)only[↓qXX]
    exact⟨l2,by trivial,by trivial,hp2,by simpa using hS2⟩
   ·have eq1:(((q+1:Nat):Int) - 1)=Int.ofNat q:=by simp only[qab];omega
    rw[eq1,p_geq_t (show 0<=Int.ofNat q from qaR q)]
    simp(disch:=omega)only[↓qXX]
    obtain⟨x,hx⟩:=aQ (l:=l2) (i:=a) (by omega)
    obtain⟨y,hy⟩:=aQ (l:=l2) (i:=a+q) (by omega)
    rw[n_ad (by omega),n_ad (by omega)]
    refine aO (lsE hlt hn2) rfl hy ?_
    unfold encC
    simp(disch:=omega)only[↓qXX]
    refine aO (lsE hlt hn2) rfl hx ?_
    unfold encC
    simp(disch:=omega)only[↓qXX]
    refine cM aA (a:=y) hlt rfl (by omega) hn2 rfl ?_
    refine cM aA (a:=x) hlt rfl (by rw[qav];omega) (by rw[qav];exact hn2) rfl ?_
    have g:∀k,((l2.set a y).set (a+q) x)[k]? = if k=a+q then some x else if k=a then some y else l2[k]?:=λk=>fc hx hy
    have hsw:SP a (a+n) l2 ((l2.set a y).set (a+q) x):=SP.swap hx hy (by omega) (by omega)
    have hmax:=hH2.max (by omega) hx
    have hn3:((l2.set a y).set (a+q) x).length=len:=by rw[qav,qav];exact hn2
    obtain⟨l3,t1,t2,t3⟩:=sift_c hc hL (cx:=cx) hlt (lo:=0) (hi:=q) (f:=a) (l:=(l2.set a y).set (a+q) x) (by omega) (by omega) hn3 (okP hok (hp2.trans hsw)) (λk c u v _ hk0 hcc hch hu hv=>by
     rw[g,if_neg (by omega),if_neg (by omega)]at hu hv
     exact hH2 k c u v (qbo _) hcc (by omega) hu hv)
    refine aq t3 ?_
    simp(disch:=omega)only[↓qXX]
    have hsub:Int.ofNat q - 1=(q:Int) - 1:=rfl
    rw[hsub]
    refine hself2 q _ _ (by omega) ⟨l3,rfl,rfl,by omega,(hp2.trans hsw).trans (t1.mono (qal _) (by omega)),t2,?_,?_⟩
    ·refine SS.keep (c:=a) (d:=a+q) ?_ t1 (by omega)
     intro i j u v hi hij hj hu hv
     rw[g]at hu hv
     rw[if_neg (show ¬j=a+q by omega),if_neg (show ¬j=a by omega)]at hv
     by_cases hiq:i=a+q
     ·rw[if_pos hiq]at hu
      cases hu
      exact hB2 a j x v (qal _) (by omega) (by omega) hj hx hv
     ·rw[if_neg hiq,if_neg (by omega)]at hu
      exact hS2 i j u v (by omega) hij hj hu hv
    ·refine BL.keep (p:=a) (q:=a+q) ?_ t1 ⟨by omega,by omega⟩ (by omega) (by omega)
     intro i j u v hi hib hj hjd hu hv
     rw[g]at hu hv
     rw[if_neg (show ¬i=a+q by omega)]at hu
     have hul:∃i',i'<q+1/\l2[a+i']? = some u:=by
      by_cases hia:i=a
      ·rw[if_pos hia]at hu
       cases hu
       exact⟨q,by omega,hy⟩
      ·rw[if_neg hia]at hu
       exact⟨i - a,by omega,by rw[show a+(i - a)=i by omega];exact hu⟩
     obtain⟨i',i1,i2⟩:=hul
     by_cases hjq:j=a+q
     ·rw[if_pos hjq]at hv
      cases hv
      exact hmax i' u i1 i2
     ·rw[if_neg hjq,if_neg (by omega)]at hv
      exact hB2 (a+i') j u v (by omega) (by omega) (by omega) hjd i2 hv
  ·have eq1:(((q+1:Nat):Int) - 1)=Int.ofNat q:=by simp only[qab];omega
   rw[eq1,p_geq_t (show 0<=Int.ofNat q from qaR q)]
   simp(disch:=omega)only[↓qXX]
   obtain⟨l3,t1,t2,t3⟩:=sift_c hc hL (cx:=cx) hlt (lo:=q) (hi:=n) (f:=a) (l:=l1) (by omega) (by omega) hn1 (okP hok hp) (λk c u v hk0 hk1 hcc hch hu hv=>hH k c u v (by omega) hcc hch hu hv)
   refine aq t3 ?_
   simp(disch:=omega)only[↓qXX]
   have hsub:Int.ofNat q - 1=(q:Int) - 1:=rfl
   rw[hsub]
   exact hself q _ _ (by omega) ⟨l3,rfl,rfl,by omega,hp.trans t1,t2⟩)
 exact⟨l',e3,e4,h1⟩
omit hc in
theorem rev_c(hg:bg cv=true){h:HL}(hlt:id<h.length){a b:Nat}{l:List Crs}(hab:a<b)(hb:b<=len)(hn:l.length=len) :
  ∃l',SP a b l l'/\aI cc ac 63 [.v (slV id len cx),.i (.ofNat a),.i (.ofNat b),.v cv] (absH ae (putE h id 3 encC l)) [] (absH ae (putE h id 3 encC l')):=by
 obtain⟨rs,h',h1,l',rfl,rfl,e3⟩:=x63 (ls:=[.v (slV id len cx),.i (.ofNat a),.i (.ofNat b),.v cv]) (K:=λrs h'=>∃l',rs=[]/\h'=putE h id 3 encC l'/\SP a b l l') (H:=putE h id 3 encC l) (glsV (cj _ _ _) (glsI (glsI (glsV hg gls0)))) (by
  unfold f63;simp only[qxh]
  simp(disch:=omega)only[↓qXX]
  rw[cD (by omega) (by omega)]
  refine aF (m:=b) (λm ls h'=>∃i j l',ls=[.i (Int.ofNat i),.i (Int.ofNat j)]/\h'=putE h id 3 encC l'/\j+1=m/\a<=i/\j<b/\i<=j+1/\SP a b l l') ⟨a,b - 1,l,rfl,rfl,by omega,by omega,by omega,by omega,SP.refl _ _ _⟩ ?_
  rintro m ls h' ⟨i,j,l1,rfl,rfl,hm,hi,hj,hij,hp⟩ self hself
  refine hidL ?_
  have hn1:l1.length=len:=hp.len.trans hn
  simp(disch:=omega)only[↓qXX]
  by_cases hlt2:i<j
  ·rw[bp hlt2]
   simp(disch:=omega)only[↓qXX]
   obtain⟨x,hx⟩:=aQ (l:=l1) (i:=i) (by omega)
   obtain⟨y,hy⟩:=aQ (l:=l1) (i:=j) (by omega)
   refine aO (lsE hlt hn1) rfl hy ?_
   unfold encC
   simp(disch:=omega)only[↓qXX]
   refine aO (lsE hlt hn1) rfl hx ?_
   unfold encC
   simp(disch:=omega)only[↓qXX]
   refine cM aA (a:=y) hlt rfl (by omega) hn1 rfl ?_
   refine cM aA (a:=x) hlt rfl (by rw[qav];omega) (by rw[qav];exact hn1) rfl ?_
   rw[ch (by omega),cD (by omega) (by omega)]
   exact hself (j - 1+1) _ _ (by omega) ⟨i+1,j - 1,_,rfl,rfl,rfl,by omega,by omega,by omega,hp.trans (SP.swap hx hy (by omega) (by omega))⟩
  ·rw[bC (by omega)]
   simp(disch:=omega)only[↓qXX]
   exact⟨l1,by trivial,by trivial,hp⟩)
 exact⟨l',e3,h1⟩
omit hL in
theorem ord2_c{h:HL}(hlt:id<h.length){m i j:Nat}{s:Int}{l:List Crs}(hmi:m≠id)(hm:h[m]? = some (.o (.cells [.int .i64 s] 1 true)))(hs:0<=s/\s<=1000)(hi:i<len)(hj:j<len)(hn:l.length=len)(hok:∀x∈l,ok x) :
  ∃(i' j':Nat) (s':Int),((i'=i/\j'=j)∨(i'=j/\j'=i))/\0<=s'/\s'<=s+1/\aI cc ac 110 [.v (slV id len cx),.i (.ofNat i),.i (.ofNat j),.v (.pointer (some ⟨m,0,none⟩)),.v cv] (absH ae (putE h id 3 encC l)) [.i (.ofNat i'),.i (.ofNat j')] (absH ae (putE (h.set m (.o (.cells [.int .i64 s'] 1 true))) id 3 encC l)):=by
 have hput:∀s':Int,(putE h id 3 encC l).set m (.o (.cells [.int .i64 s'] 1 true))=putE (h.set m (.o (.cells [.int .i64 s'] 1 true))) id 3 encC l:=λs'=>by
  unfold putE
  rw[qcW _ _ hmi]
 have hself:h.set m (.o (.cells [.int .i64 s] 1 true))=h:=by
  apply qaP
  intro k
  by_cases hk:m=k
  ·subst hk
   rw[qaD (bN hm),hm]
  ·rw[qaj hk]
 have hm2:(putE h id 3 encC l)[m]? = some (.o (.cells [.int .i64 s] 1 true)):=by
  unfold putE
  rw[qaj (qbL hmi)];exact hm
 obtain⟨x,hx⟩:=aQ (l:=l) (i:=i) (by omega)
 obtain⟨y,hy⟩:=aQ (l:=l) (i:=j) (by omega)
 obtain⟨d,hd,hdk⟩:=hc.cmp y x (hok y (qad hy)) (hok x (qad hx))
 obtain⟨rs,h',h1,i',j',s',rfl,rfl,e1,e2,e3⟩:=x110 (ls:=[.v (slV id len cx),.i (.ofNat i),.i (.ofNat j),.v (.pointer (some ⟨m,0,none⟩)),.v cv]) (K:=λrs h'=>∃(i' j':Nat) (s':Int),rs=[.i (.ofNat i'),.i (.ofNat j')]/\h'=putE (h.set m (.o (.cells [.int .i64 s'] 1 true))) id 3 encC l/\((i'=i/\j'=j)∨(i'=j/\j'=i))/\0<=s'/\s'<=s+1) (H:=putE h id 3 encC l) (glsV (cj _ _ _) (glsI (glsI (glsV rfl (glsV hc.good gls0))))) (by
  unfold f110;simp only[qxh]
  simp(disch:=omega)only[↓qXX]
  refine aO (lsE hlt hn) rfl hy ?_
  unfold encC
  simp(disch:=omega)only[↓qXX]
  refine aO (lsE hlt hn) rfl hx ?_
  unfold encC
  simp(disch:=omega)only[↓qXX]
  refine co (hd _) ?_
  simp(disch:=omega)only[↓qXX]
  by_cases hk:d<0
  ·simp(disch:=omega)only[↓qXX]
   refine aE (x:=.pointer (some ⟨m,0,none⟩)) rfl ?_
   refine bc rfl ?_
   refine bi (bD hm2) rfl ?_
   simp(disch:=omega)only[↓qXX]
   refine aE (x:=.pointer (some ⟨m,0,none⟩)) rfl ?_
   refine bc rfl ?_
   refine cW (mp hm2 rfl) ?_
   refine⟨j,i,s+1,by trivial,hput (s+1),.inr ⟨rfl,rfl⟩,by omega,by omega⟩
  ·simp(disch:=omega)only[↓qXX]
   refine⟨i,j,s,by trivial,?_,.inl ⟨rfl,rfl⟩,hs.1,by omega⟩
   rw[hself])
 exact⟨i',j',s',e1,e2,e3,h1⟩
end
end Go.Am

/-
 SORTING TOLD (creases): medians,the choice of a pivot;patterns are broken.
-/
set_option maxRecDepth 100000
set_option maxHeartbeats 4000000
namespace Go.Am
open Sx Go.Proofs
theorem tT{α:Type}{h G:HL}{id e:Nat}{enc:α->List Value}{l:List α}(hlt:id<h.length):putE h id e enc l++G=putE (h++G) id e enc l:=by
 unfold putE
 rw[qcb _ _ hlt]
abbrev bM(k:IntKind)(s:Int):HO:=.o (.cells [.int k s] 1 true)
section
variable {cv:Value} {ok:Crs->Prop} {key:Crs->Int} (hc:CmpK cv ok key) {id cx len:Nat}
include hc
theorem med_c{h:HL}(hlt:id<h.length){m i j k:Nat}{s:Int}{l:List Crs}(hmi:m≠id)(hm:h[m]? = some (bM .i64 s))(hs:0<=s/\s<=500)(hi:i<len)(hj:j<len)(hk:k<len)(hn:l.length=len)(hok:∀x∈l,ok x) :
  ∃(r:Nat) (s':Int),(r=i∨r=j∨r=k)/\0<=s'/\s'<=s+3/\aI cc ac 94 [.v (slV id len cx),.i (.ofNat i),.i (.ofNat j),.i (.ofNat k),.v (.pointer (some ⟨m,0,none⟩)),.v cv] (absH ae (putE h id 3 encC l)) [.i (.ofNat r)] (absH ae (putE (h.set m (bM .i64 s')) id 3 encC l)):=by
 have hml:=bN hm
 obtain⟨p1,q1,s1,e1,b1,b2,c1⟩:=ord2_c hc (cx:=cx) hlt hmi hm (by omega) hi hj hn hok
 have h1m:(h.set m (bM .i64 s1))[m]? = some (bM .i64 s1):=by rw[qaD hml]
 obtain⟨p2,q2,s2,e2,b3,b4,c2⟩:=ord2_c hc (cx:=cx) (h:=h.set m (bM .i64 s1)) (by rw[qav];exact hlt) hmi h1m (by omega) (i:=q1) (j:=k) (by omega) hk hn hok
 rw[qcP]at c2
 have h2m:(h.set m (bM .i64 s2))[m]? = some (bM .i64 s2):=by rw[qaD hml]
 obtain⟨p3,q3,s3,e3,b5,b6,c3⟩:=ord2_c hc (cx:=cx) (h:=h.set m (bM .i64 s2)) (by rw[qav];exact hlt) hmi h2m (by omega) (i:=p1) (j:=p2) (by omega) (by omega) hn hok
 rw[qcP]at c3
 obtain⟨rs,h',h1,rfl,rfl⟩:=x94 (ls:=[.v (slV id len cx),.i (.ofNat i),.i (.ofNat j),.i (.ofNat k),.v (.pointer (some ⟨m,0,none⟩)),.v cv]) (K:=λrs h'=>rs=[.i (.ofNat q3)]/\h'=putE (h.set m (bM .i64 s3)) id 3 encC l) (H:=putE h id 3 encC l) (glsV (cj _ _ _) (glsI (glsI (glsI (glsV rfl (glsV hc.good gls0)))))) (by
  unfold f94;simp only[qxh]
  simp(disch:=omega)only[↓qXX]
  refine aq c1 ?_
  simp(disch:=omega)only[↓qXX]
  refine aq c2 ?_
  simp(disch:=omega)only[↓qXX]
  refine aq c3 ?_
  simp(disch:=omega)only[↓qXX]
  exact⟨by trivial,by trivial⟩)
 exact⟨q3,s3,by omega,by omega,by omega,h1⟩
theorem medA_c{h:HL}(hlt:id<h.length){m i:Nat}{s:Int}{l:List Crs}(hmi:m≠id)(hm:h[m]? = some (bM .i64 s))(hs:0<=s/\s<=500)(hi0:1<=i)(hi:i+1<len)(hL:len<=100000)(hn:l.length=len)(hok:∀x∈l,ok x) :
  ∃(r:Nat) (s':Int),(r=i - 1∨r=i∨r=i+1)/\0<=s'/\s'<=s+3/\aI cc ac 93 [.v (slV id len cx),.i (.ofNat i),.v (.pointer (some ⟨m,0,none⟩)),.v cv] (absH ae (putE h id 3 encC l)) [.i (.ofNat r)] (absH ae (putE (h.set m (bM .i64 s')) id 3 encC l)):=by
 obtain⟨r,s',e1,e2,e3,c1⟩:=med_c hc (cx:=cx) hlt hmi hm hs (i:=i - 1) (j:=i) (k:=i+1) (by omega) (by omega) hi hn hok
 obtain⟨rs,h',h1,rfl,rfl⟩:=x93 (ls:=[.v (slV id len cx),.i (.ofNat i),.v (.pointer (some ⟨m,0,none⟩)),.v cv]) (K:=λrs h'=>rs=[.i (.ofNat r)]/\h'=putE (h.set m (bM .i64 s')) id 3 encC l) (H:=putE h id 3 encC l) (glsV (cj _ _ _) (glsI (glsV rfl (glsV hc.good gls0)))) (by
  unfold f93;simp only[qxh]
  simp(disch:=omega)only[↓qXX]
  rw[cD (by omega) (by omega),ch (by omega)]
  refine aq c1 ?_
  simp(disch:=omega)only[↓qXX]
  exact⟨by trivial,by trivial⟩)
 exact⟨r,s',e1,e2,e3,h1⟩
theorem pivot_c{h:HL}(hlt:id<h.length){a b:Nat}{l:List Crs}(hab:a+13<=b)(hb:b<=len)(hL:len<=100000)(hn:l.length=len)(hok:∀x∈l,ok x) :
  ∃(r t:Nat) (G:HL),a<=r/\r<b/\t<=2/\aI cc ac 62 [.v (slV id len cx),.i (.ofNat a),.i (.ofNat b),.v cv] (absH ae (putE h id 3 encC l)) [.i (.ofNat r),.i (.ofNat t)] (absH ae (putE (h++G) id 3 encC l)):=by
 obtain⟨rs,h',h1,r,t,G,rfl,rfl,e1,e2,e3⟩:=x62 (ls:=[.v (slV id len cx),.i (.ofNat a),.i (.ofNat b),.v cv]) (K:=λrs h'=>∃(r t:Nat) (G:HL),rs=[.i (.ofNat r),.i (.ofNat t)]/\h'=putE (h++G) id 3 encC l/\a<=r/\r<b/\t<=2) (H:=putE h id 3 encC l) (glsV (cj _ _ _) (glsI (glsI (glsV hc.good gls0)))) (by
  unfold f62;simp only[qxh]
  simp(disch:=omega)only[↓qXX]
  obtain⟨n,rfl⟩ : ∃n,b=a+n:=⟨b - a,by omega⟩
  have hlp:(putE h id 3 encC l).length=h.length:=by unfold putE;rw[qav]
  rw[n_sb (by omega) (by omega),show a+n - a=n by omega,p_new,tT hlt,hlp]
  have hmi:h.length≠id:=by omega
  have hlt1:id<(h++[bM .i64 0]).length:=by simp;omega
  have hm0:(h++[bM .i64 0])[h.length]? = some (bM .i64 0):=by simp
  have hset:∀s s':Int,(h++[bM .i64 s]).set h.length (bM .i64 s')=h++[bM .i64 s']:=λs s'=>by simp
  rw[n_qu 4 (show(4:Int)=Int.ofNat 4 from rfl) (by omega) (by omega),n_ml 1 (show(1:Int)=Int.ofNat 1 from rfl) (by omega),n_ad (by omega)]
  rw[n_qu 4 (show(4:Int)=Int.ofNat 4 from rfl) (by omega) (by omega),n_ml 2 (show(2:Int)=Int.ofNat 2 from rfl) (by omega),n_ad (by omega)]
  rw[n_qu 4 (show(4:Int)=Int.ofNat 4 from rfl) (by omega) (by omega),n_ml 3 (show(3:Int)=Int.ofNat 3 from rfl) (by omega),n_ad (by omega)]
  rw[p_geq_t (show(8:Int)<=Int.ofNat n by simp only[qab];omega)]
  refine bZ (λl' h'=>∃(r:Nat) (s:Int),l'=[.i (Int.ofNat r)]/\h'=putE (h++[bM .i64 s]) id 3 encC l/\a<=r/\r<a+n) ?_ ?_
  ·rintro _ _ ⟨r,s,rfl,rfl,hr1,hr2⟩
   simp(disch:=omega)only[↓qXX]
   have hms:(putE (h++[bM .i64 s]) id 3 encC l)[h.length]? = some (bM .i64 s):=by
    unfold putE
    rw[qaj (qbL hmi)];simp
   refine bi (bD hms) rfl ?_
   simp(disch:=omega)only[↓qXX]
   by_cases h0:s=0
   ·rw[p_eql_t h0]
    simp(disch:=omega)only[↓qXX]
    exact⟨r,1,_,by trivial,rfl,hr1,hr2,by omega⟩
   ·rw[p_eql_f h0]
    simp(disch:=omega)only[↓qXX]
    by_cases h12:s=12
    ·rw[p_eql_t h12]
     simp(disch:=omega)only[↓qXX]
     exact⟨r,2,_,by trivial,rfl,hr1,hr2,by omega⟩
    ·rw[p_eql_f h12]
     simp(disch:=omega)only[↓qXX]
     exact⟨r,0,_,by trivial,rfl,hr1,hr2,by omega⟩
  ·intro jj hjj
   rw[p_cond_t]
   by_cases h50:50<=n
   ·rw[p_geq_t (show(50:Int)<=Int.ofNat n by simp only[qab];omega)]
    simp(disch:=omega)only[↓qXX]
    obtain⟨r1,s1,e1,b1,b2,c1⟩:=medA_c hc (cx:=cx) hlt1 hmi hm0 (by omega) (i:=a+n / 4*1) (by omega) (by omega) hL hn hok
    rw[hset]at c1
    refine aq c1 ?_
    simp(disch:=omega)only[↓qXX]
    have hlt2:∀s:Int,id<(h++[bM .i64 s]).length:=λs=>by simp;omega
    have hms:∀s:Int,(h++[bM .i64 s])[h.length]? = some (bM .i64 s):=λs=>by simp
    obtain⟨r2,s2,e2,b3,b4,c2⟩:=medA_c hc (cx:=cx) (hlt2 s1) hmi (hms s1) (by omega) (i:=a+n / 4*2) (by omega) (by omega) hL hn hok
    rw[hset]at c2
    refine aq c2 ?_
    simp(disch:=omega)only[↓qXX]
    obtain⟨r3,s3,e3,b5,b6,c3⟩:=medA_c hc (cx:=cx) (hlt2 s2) hmi (hms s2) (by omega) (i:=a+n / 4*3) (by omega) (by omega) hL hn hok
    rw[hset]at c3
    refine aq c3 ?_
    simp(disch:=omega)only[↓qXX]
    obtain⟨r4,s4,e4,b7,b8,c4⟩:=med_c hc (cx:=cx) (hlt2 s3) hmi (hms s3) (by omega) (i:=r1) (j:=r2) (k:=r3) (by omega) (by omega) (by omega) hn hok
    rw[hset]at c4
    refine aq c4 ?_
    simp(disch:=omega)only[↓qXX]
    exact hjj _ _ ⟨r4,s4,rfl,rfl,by omega,by omega⟩
   ·rw[p_geq_f (show Int.ofNat n<(50:Int)by simp only[qab];omega)]
    simp(disch:=omega)only[↓qXX]
    obtain⟨r4,s4,e4,b7,b8,c4⟩:=med_c hc (cx:=cx) hlt1 hmi hm0 (by omega) (i:=a+n / 4*1) (j:=a+n / 4*2) (k:=a+n / 4*3) (by omega) (by omega) (by omega) hn hok
    rw[hset]at c4
    refine aq c4 ?_
    simp(disch:=omega)only[↓qXX]
    exact hjj _ _ ⟨r4,s4,rfl,rfl,by omega,by omega⟩)
 exact⟨r,t,G,e1,e2,e3,h1⟩
end
theorem wrapU{x:Int}(h0:0<=x)(h1:x<18446744073709551616):IntKind.wrap .u64 x=x:=by
 simp only[IntKind.wrap,IntKind.bits,IntKind.signed,qcy,qaq,if_false]
 omega
theorem iI(x:Int):0<=IntKind.wrap .u64 x/\IntKind.wrap .u64 x<18446744073709551616:=by
 simp only[IntKind.wrap,IntKind.bits,IntKind.signed,qcy,qaq,if_false]
 omega
theorem shl_any{a:Int}{b:Nat}{m:Int}(hm:m=Int.ofNat b){K:Int->Prop}(hk:∀n,0<=n->n<18446744073709551616->K n):P1.shf .shl .u64 a .u64 m (@hid _ ⟨K⟩):=by
 subst hm
 refine⟨IntKind.wrap .u64 (a*2 ^ min (Int.ofNat b).toNat IntKind.u64.bits),λP t w=>?_,hk _ (iI _).1 (iI _).2⟩
 have hb:¬(Int.ofNat b<0):=by simp only[qab];omega
 simp only[binOp,Op.shift,hb,if_false]
 rfl
theorem shr_any{a:Int}{b:Nat}{m:Int}(hm:m=Int.ofNat b)(ha:0<=a/\a<18446744073709551616){K:Int->Prop}(hk:∀n,0<=n->n<18446744073709551616->K n):P1.shf .shr .u64 a .u64 m (@hid _ ⟨K⟩):=by
 subst hm
 refine⟨a.fdiv (2 ^ min (Int.ofNat b).toNat IntKind.u64.bits),λP t w=>?_,?_⟩
 ·have hb:¬(Int.ofNat b<0):=by simp only[qab];omega
  simp only[binOp,Op.shift,hb,if_false]
  rfl
 ·have hp:(0:Int)<2 ^ min (Int.ofNat b).toNat IntKind.u64.bits:=Int.pow_pos (by decide)
  have e:a.fdiv (2 ^ min (Int.ofNat b).toNat IntKind.u64.bits)=a / 2 ^ min (Int.ofNat b).toNat IntKind.u64.bits:=qcN a (by omega)
  rw[e]
  have h1:0<=a / 2 ^ min (Int.ofNat b).toNat IntKind.u64.bits:=Int.ediv_nonneg ha.1 (by omega)
  have h2:a / 2 ^ min (Int.ofNat b).toNat IntKind.u64.bits<=a:=Int.ediv_le_self _ ha.1
  exact hk _ h1 (by omega)
theorem sG{a b:Int}(ha:0<=a)(hb:0<=b){K:Int->Prop}(hk:∀n,0<=n->n<18446744073709551616->K n):P1.ari .xor .u64 a b (@hid _ ⟨K⟩):=by
 obtain⟨m,rfl⟩:=qaV ha
 obtain⟨n,rfl⟩:=qaV hb
 exact⟨_,mj m n,hk _ (iI _).1 (iI _).2⟩
theorem and_any{a b:Int}(ha:0<=a)(hb:1<b/\b<1000000){K:Int->Prop}(hk:∀n:Nat,(n:Int)<=b->K n):P1.ari .and .u64 a b (@hid _ ⟨K⟩):=by
 obtain⟨m,rfl⟩:=qaV ha
 obtain⟨n,rfl⟩:=qaV (show 0<=b by omega)
 refine .inr ⟨by omega,_,mg m n,?_⟩
 have h1:Nat.land m n<=n:=Nat.and_le_right
 rw[wrapU (qaR _) (by omega)]
 exact hk _ (by omega)
theorem next_c{h:HL}{m:Nat}{s:Int}(hs:0<=s/\s<18446744073709551616)(hm:h[m]? = some (bM .u64 s)) :
  ∃s':Int,0<=s'/\s'<18446744073709551616/\aI cc ac 92 [.v (.pointer (some ⟨m,0,none⟩))] (absH ae h) [.i s'] (absH ae (h.set m (bM .u64 s'))):=by
 have hml:=bN hm
 have hms:∀s':Int,(h.set m (bM .u64 s'))[m]? = some (bM .u64 s'):=λs'=>by rw[qaD hml]
 obtain⟨rs,h',h1,s',rfl,rfl,e1,e2⟩:=x92 (ls:=[.v (.pointer (some ⟨m,0,none⟩))]) (K:=λrs h'=>∃s':Int,rs=[.i s']/\h'=h.set m (bM .u64 s')/\0<=s'/\s'<18446744073709551616) (H:=h) (glsV rfl gls0) (by
  unfold f92;simp only[qxh]
  simp(disch:=omega)only[↓qXX]
  refine aE (x:=.pointer (some ⟨m,0,none⟩)) rfl (bc rfl (bi (bD hm) rfl ?_))
  simp(disch:=omega)only[↓qXX]
  refine aE (x:=.pointer (some ⟨m,0,none⟩)) rfl (bc rfl (bi (bD hm) rfl ?_))
  simp(disch:=omega)only[↓qXX]
  refine shl_any (b:=13) rfl λn1 a1 a2=>?_
  refine sG hs.1 a1 λn2 b1 b2=>?_
  refine aE (x:=.pointer (some ⟨m,0,none⟩)) rfl (bc rfl (cW (mp (new:=[.int .u64 n2]) hm rfl) ?_))
  show P1.opt _ _
  have e1:bk h [.set m (.cells [.int .u64 n2] 1 true)]=h.set m (bM .u64 n2):=rfl
  rw[e1]
  refine aE (x:=.pointer (some ⟨m,0,none⟩)) rfl (bc rfl (bi (bD (hms n2)) rfl ?_))
  simp(disch:=omega)only[↓qXX]
  refine aE (x:=.pointer (some ⟨m,0,none⟩)) rfl (bc rfl (bi (bD (hms n2)) rfl ?_))
  simp(disch:=omega)only[↓qXX]
  refine shr_any (b:=7) rfl ⟨b1,b2⟩ λn3 c1 c2=>?_
  refine sG b1 c1 λn4 d1 d2=>?_
  refine aE (x:=.pointer (some ⟨m,0,none⟩)) rfl (bc rfl (cW (mp (new:=[.int .u64 n4]) (hms n2) rfl) ?_))
  have e2:bk (h.set m (bM .u64 n2)) [.set m (.cells [.int .u64 n4] 1 true)]=h.set m (bM .u64 n4):=by
   show(h.set m _).set m _=_
   rw[qcP]
  rw[e2]
  refine aE (x:=.pointer (some ⟨m,0,none⟩)) rfl (bc rfl (bi (bD (hms n4)) rfl ?_))
  simp(disch:=omega)only[↓qXX]
  refine aE (x:=.pointer (some ⟨m,0,none⟩)) rfl (bc rfl (bi (bD (hms n4)) rfl ?_))
  simp(disch:=omega)only[↓qXX]
  refine shl_any (b:=17) rfl λn5 f1 f2=>?_
  refine sG d1 f1 λn6 g1 g2=>?_
  refine aE (x:=.pointer (some ⟨m,0,none⟩)) rfl (bc rfl (cW (mp (new:=[.int .u64 n6]) (hms n4) rfl) ?_))
  have e3:bk (h.set m (bM .u64 n4)) [.set m (.cells [.int .u64 n6] 1 true)]=h.set m (bM .u64 n6):=by
   show(h.set m _).set m _=_
   rw[qcP]
  rw[e3]
  refine aE (x:=.pointer (some ⟨m,0,none⟩)) rfl (bc rfl (bi (bD (hms n6)) rfl ?_))
  simp(disch:=omega)only[↓qXX]
  exact⟨n6,by trivial,rfl,g1,g2⟩)
 exact⟨s',e1,e2,h1⟩
def npow(n:Nat):Nat:=2 ^ (Nat.log2 n+1)
def npT(n:Nat):Bool:=Nat.beq n 0||(rR [.i (.ofNat (npow n))] (runF 60 (.f 91) [.i (.ofNat n)] .empty tell)&&(Nat.ble (npow n) (2*n)&&Nat.blt n (npow n)))
theorem np_all:((List.range 129).all npT)=true:=by kernel_rfl
theorem np_c{n:Nat}(h:1<=n/\n<=128):Cc 91 [.i (.ofNat n)] [.i (.ofNat (npow n))]/\npow n<=2*n/\n<npow n:=by
 have h1:=qac.1 np_all n (qak.2 (by omega))
 unfold npT at h1
 rw[qaG,qcH]at h1
 rcases h1 with h1|h1
 ·omega
 ·simp only[qaa,qa4,qaF]at h1
  exact⟨dQ (n:=60) rfl (by kernel_rfl) rfl h1.1,h1.2.1,h1.2.2⟩
end Go.Am

/-
 SORTING TOLD (creases): patterns are broken;a part is parted;short insertions.
-/
set_option maxRecDepth 100000
set_option maxHeartbeats 8000000
namespace Go.Am
open Sx Go.Proofs
theorem qY{h:HL}{id:Nat}{l:List Crs}{c c':HO}(hlt:id<h.length):(putE (h++[c]) id 3 encC l).set h.length c'=putE (h++[c']) id 3 encC l:=by
 unfold putE
 rw[qcW _ _ (by omega)]
 simp
theorem p_subU{p:Nat}{K:Int->Prop}(h:1<=p)(h2:p<=1000000):P1.ari .sub .u64 (Int.ofNat p) 1 (@hid _ ⟨K⟩)=K (Int.ofNat p - 1):=by
 show K (IntKind.wrap .u64 (Int.ofNat p - 1))=_
 rw[wrapU (by simp only[qab];omega) (by simp only[qab];omega)]
theorem break_c{cv:Value}(hg:bg cv=true){id cx len:Nat}(hL:len<=100000){h:HL}(hlt:id<h.length){a b:Nat}{l:List Crs}(hab:a+13<=b)(hb:b<=len)(hn128:b<=a+128)(hn:l.length=len) :
  ∃(l':List Crs) (G:HL),SP a b l l'/\aI cc ac 61 [.v (slV id len cx),.i (.ofNat a),.i (.ofNat b),.v cv] (absH ae (putE h id 3 encC l)) [] (absH ae (putE (h++G) id 3 encC l')):=by
 obtain⟨rs,h',h1,l',G,rfl,rfl,e3⟩:=x61 (ls:=[.v (slV id len cx),.i (.ofNat a),.i (.ofNat b),.v cv]) (K:=λrs h'=>∃(l':List Crs) (G:HL),rs=[]/\h'=putE (h++G) id 3 encC l'/\SP a b l l') (H:=putE h id 3 encC l) (glsV (cj _ _ _) (glsI (glsI (glsV hg gls0)))) (by
  unfold f61;simp only[qxh]
  simp(disch:=omega)only[↓qXX]
  obtain⟨n,rfl⟩ : ∃n,b=a+n:=⟨b - a,by omega⟩
  have hlp:(putE h id 3 encC l).length=h.length:=by unfold putE;rw[qav]
  have hmi:h.length≠id:=by omega
  obtain⟨np1,np2,np3⟩:=np_c (n:=n) (by omega)
  rw[n_sb (by omega) (by omega),show a+n - a=n by omega,p_geq_t (show(8:Int)<=Int.ofNat n by simp only[qab];omega)]
  simp(disch:=omega)only[↓qXX]
  refine lV (by simp only[qab];omega) (by simp only[qab];omega) ?_
  rw[p_new,tT hlt,hlp]
  have hcm:∀(s:Int) (l':List Crs),(putE (h++[bM .u64 s]) id 3 encC l')[h.length]? = some (bM .u64 s):=λs l'=>by
   unfold putE
   rw[qaj (qbL hmi)];simp
  refine cW (mp (hcm 0 l) rfl) ?_
  have e0:bk (putE (h++[bM .u64 0]) id 3 encC l) [.set h.length (.cells [.int .u64 (Int.ofNat n)] 1 true)]=putE (h++[bM .u64 (Int.ofNat n)]) id 3 encC l:=qY hlt
  rw[e0]
  refine aT np1 ?_
  simp(disch:=omega)only[↓qXX]
  rw[n_qu 4 (show(4:Int)=Int.ofNat 4 from rfl) (by omega) (by omega),n_ml 2 (show(2:Int)=Int.ofNat 2 from rfl) (by omega),n_ad (by omega),cD (by omega) (by omega)]
  refine aF (m:=3) (λm ls h'=>∃(i:Nat) (s:Int) (l':List Crs),ls=[.i (Int.ofNat i)]/\h'=putE (h++[bM .u64 s]) id 3 encC l'/\a+n / 4*2+2 - i=m/\a<=i/\0<=s/\s<18446744073709551616/\SP a (a+n) l l') ⟨a+n / 4*2 - 1,Int.ofNat n,l,rfl,rfl,by omega,by omega,by simp only[qab];omega,by simp only[qab];omega,SP.refl _ _ _⟩ ?_
  rintro m ls h' ⟨i,s,l1,rfl,rfl,hm,hi,hs0,hs1,hp⟩ self hself
  refine hidL ?_
  have hn1:l1.length=len:=hp.len.trans hn
  simp(disch:=omega)only[↓qXX]
  rw[n_qu 4 (show(4:Int)=Int.ofNat 4 from rfl) (by omega) (by omega),n_ml 2 (show(2:Int)=Int.ofNat 2 from rfl) (by omega),n_ad (by omega),ch (by omega)]
  by_cases hle:i<=a+n / 4*2+1
  ·rw[p_leq_t (show Int.ofNat i<=Int.ofNat (a+n / 4*2)+1 by simp only[qab];omega)]
   simp(disch:=omega)only[↓qXX]
   obtain⟨s',t1,t2,t3⟩:=next_c ⟨hs0,hs1⟩ (hcm s l1)
   rw[qY hlt]at t3
   refine aq t3 ?_
   simp(disch:=omega)only[↓qXX]
   rw[p_subU (by omega) (by omega)]
   refine and_any t1 (by simp only[qab];omega) λq hq=>?_
   simp only[qab]at hq
   rw[p_conv (by omega) (by omega)]
   have hlt1:id<(h++[bM .u64 s']).length:=by simp;omega
   have geqd:∀ {K:Bool->Prop},P1.cmp .geq (q:Int) (Int.ofNat n) (@hid _ ⟨K⟩)=K (decide (n<=q)):=λ{K}=>by
    show K (decide ((q:Int) ≥ Int.ofNat n))=_
    congr 1
    rw[decide_eq_decide]
    simp only[qab]
    omega
   rw[geqd]
   refine bZ (λl' h'=>∃o:Nat,l'=[.i (Int.ofNat o)]/\h'=putE (h++[bM .u64 s']) id 3 encC l1/\o<n) ?_ ?_
   ·rintro _ _ ⟨o,rfl,rfl,ho⟩
    simp(disch:=omega)only[↓qXX]
    obtain⟨x,hx⟩:=aQ (l:=l1) (i:=i) (by omega)
    obtain⟨y,hy⟩:=aQ (l:=l1) (i:=a+o) (by omega)
    rw[n_ad (by omega),n_ad (by omega)]
    refine aO (lsE hlt1 hn1) rfl hy ?_
    unfold encC
    simp(disch:=omega)only[↓qXX]
    refine aO (lsE hlt1 hn1) rfl hx ?_
    unfold encC
    simp(disch:=omega)only[↓qXX]
    refine cM aA (a:=y) hlt1 rfl (by omega) hn1 rfl ?_
    refine cM aA (a:=x) hlt1 rfl (by rw[qav];omega) (by rw[qav];exact hn1) rfl ?_
    rw[ch (by omega)]
    exact hself (m - 1) _ _ (by omega) ⟨i+1,s',_,rfl,rfl,by omega,by omega,t1,t2,hp.trans (SP.swap hx hy (by omega) (by omega))⟩
   ·intro jj hjj
    by_cases hq2:n<=q
    ·rw[decide_eq_true hq2]
     simp(disch:=omega)only[↓qXX]
     have e5:∀ {K:Int->Prop},P1.ari .sub .i64 (q:Int) (Int.ofNat n) (@hid _ ⟨K⟩)=K (Int.ofNat (q - n)):=λ{K}=>n_sb (p:=q) hq2 (by omega)
     rw[e5]
     exact hjj _ _ ⟨q - n,rfl,rfl,by omega⟩
    ·rw[decide_eq_false hq2]
     simp(disch:=omega)only[↓qXX]
     exact hjj _ _ ⟨q,rfl,rfl,by omega⟩
  ·rw[p_leq_f (show Int.ofNat (a+n / 4*2)+1<Int.ofNat i by simp only[qab];omega)]
   simp(disch:=omega)only[↓qXX]
   exact⟨l1,_,by trivial,rfl,hp⟩)
 exact⟨l',G,e3,h1⟩
theorem dec_m{i j i0 j0 m:Nat}(h1:i0<=i)(h2:j<=j0)(h3:j0+1 - i0=m)(h4:¬j<i):j - 1+1 - (i+1)<m:=by omega
structure PI(key:Crs->Int)(a b i j:Nat)(pv:Crs)(l0 l:List Crs):Prop where
 sp:SP a b l0 l
 piv:l[a]? = some pv
 lo:∀k x,a<k->k<i->l[k]? = some x->key x<key pv
 hi:∀k x,j<k->k<b->l[k]? = some x->key pv<=key x
 rng:a+1<=i/\j<b/\a<=j/\i<=j+1
def PO(key:Crs->Int)(a b m:Nat)(l:List Crs):Prop:=∃pv,l[m]? = some pv/\(∀k x,a<=k->k<m->l[k]? = some x->key x<key pv)/\∀k x,m<k->k<b->l[k]? = some x->key pv<=key x
theorem PI.up{key:Crs->Int}{a b i j:Nat}{pv:Crs}{l0 l:List Crs}(h:PI key a b i j pv l0 l){x:Crs}(hx:l[i]? = some x)(hij:i<=j)(hk:key x<key pv):PI key a b (i+1) j pv l0 l:=
 ⟨h.sp,h.piv,λk y h1 h2 hy=>by
  by_cases e:k=i
  ·subst e
   rw[hx]at hy
   cases hy
   exact hk
  ·exact h.lo k y h1 (by omega) hy,h.hi,by have:=h.rng;omega⟩
theorem PI.down{key:Crs->Int}{a b i j:Nat}{pv:Crs}{l0 l:List Crs}(h:PI key a b i j pv l0 l){x:Crs}(hx:l[j]? = some x)(hij:i<=j)(hk:key pv<=key x):PI key a b i (j - 1) pv l0 l:=
 ⟨h.sp,h.piv,h.lo,λk y h1 h2 hy=>by
  by_cases e:k=j
  ·subst e
   rw[hx]at hy
   cases hy
   exact hk
  ·exact h.hi k y (by omega) h2 hy,by have:=h.rng;omega⟩
theorem PI.swp{key:Crs->Int}{a b i j:Nat}{pv:Crs}{l0 l:List Crs}(h:PI key a b i j pv l0 l){x y:Crs}(hx:l[i]? = some x)(hy:l[j]? = some y)(hij:i<=j)(hkx:key pv<=key x)(hky:key y<key pv):PI key a b (i+1) (j - 1) pv l0 ((l.set i y).set j x):=by
 have hr:=h.rng
 have hne:i≠j:=λe=>by
  subst e
  rw[hx]at hy
  cases hy
  omega
 have g:∀k,((l.set i y).set j x)[k]? = if k=j then some x else if k=i then some y else l[k]?:=λk=>fc hx hy
 refine⟨h.sp.trans (SP.swap hx hy (by omega) (by omega)),?_,λk z h1 h2 hz=>?_,λk z h1 h2 hz=>?_,by omega⟩
 ·rw[g,if_neg (by omega),if_neg (by omega)];exact h.piv
 ·rw[g,if_neg (by omega)]at hz
  by_cases e:k=i
  ·rw[if_pos e]at hz
   cases hz
   exact hky
  ·rw[if_neg e]at hz
   exact h.lo k z h1 (by omega) hz
 ·rw[g]at hz
  by_cases e:k=j
  ·rw[if_pos e]at hz
   cases hz
   exact hkx
  ·rw[if_neg e,if_neg (by omega)]at hz
   exact h.hi k z (by omega) h2 hz
theorem PI.fin{key:Crs->Int}{a b i j:Nat}{pv:Crs}{l0 l:List Crs}(h:PI key a b i j pv l0 l){y:Crs}(hy:l[j]? = some y)(hij:j<i):SP a b l0 ((l.set j pv).set a y)/\PO key a b j ((l.set j pv).set a y):=by
 have hr:=h.rng
 have g:∀k,((l.set j pv).set a y)[k]? = if k=a then some y else if k=j then some pv else l[k]?:=λk=>fc hy h.piv
 refine⟨h.sp.trans (SP.swap hy h.piv (by omega) (by omega)),pv,?_,λk z h1 h2 hz=>?_,λk z h1 h2 hz=>?_⟩
 ·rw[g]
  by_cases e:j=a
  ·rw[if_pos e]
   subst e
   rw[h.piv]at hy
   cases hy
   rfl
  ·rw[if_neg e,if_pos rfl]
 ·rw[g]at hz
  by_cases e:k=a
  ·rw[if_pos e]at hz
   cases hz
   exact h.lo j y (by omega) (by omega) hy
  ·rw[if_neg e,if_neg (by omega)]at hz
   exact h.lo k z (by omega) (by omega) hz
 ·rw[g,if_neg (by omega),if_neg (by omega)]at hz
  exact h.hi k z h1 h2 hz
section
variable {cv:Value} {ok:Crs->Prop} {key:Crs->Int} (hc:CmpK cv ok key) {id cx len:Nat} (hL:len<=100000)
include hc hL
theorem part_c{h:HL}(hlt:id<h.length){a b p:Nat}{l:List Crs}(hab:a+2<=b)(hb:b<=len)(hpv:a<=p/\p<b)(hn:l.length=len)(hok:∀x∈l,ok x) :
  ∃(l':List Crs) (m:Nat) (t:Bool),a<=m/\m<b/\SP a b l l'/\PO key a b m l'/\aI cc ac 66 [.v (slV id len cx),.i (.ofNat a),.i (.ofNat b),.i (.ofNat p),.v cv] (absH ae (putE h id 3 encC l)) [.i (.ofNat m),.b t] (absH ae (putE h id 3 encC l')):=by
 obtain⟨rs,h',h1,l',m,t,rfl,rfl,e1,e2,e3,e4⟩:=x66 (ls:=[.v (slV id len cx),.i (.ofNat a),.i (.ofNat b),.i (.ofNat p),.v cv]) (K:=λrs h'=>∃(l':List Crs) (m:Nat) (t:Bool),rs=[.i (.ofNat m),.b t]/\h'=putE h id 3 encC l'/\a<=m/\m<b/\SP a b l l'/\PO key a b m l') (H:=putE h id 3 encC l) (glsV (cj _ _ _) (glsI (glsI (glsI (glsV hc.good gls0))))) (by
  unfold f66;simp only[qxh]
  simp(disch:=omega)only[↓qXX]
  obtain⟨pv,hpv1⟩:=aQ (l:=l) (i:=p) (by omega)
  obtain⟨x0,hx0⟩:=aQ (l:=l) (i:=a) (by omega)
  refine aO (lsE hlt hn) rfl hpv1 ?_
  unfold encC
  simp(disch:=omega)only[↓qXX]
  refine aO (lsE hlt hn) rfl hx0 ?_
  unfold encC
  simp(disch:=omega)only[↓qXX]
  refine cM aA (a:=pv) hlt rfl (by omega) hn rfl ?_
  refine cM aA (a:=x0) hlt rfl (by rw[qav];omega) (by rw[qav];exact hn) rfl ?_
  rw[ch (by omega),cD (by omega) (by omega)]
  have g:((l.set a pv).set p x0)[a]? = some pv:=by
   rw[fc hx0 hpv1]
   by_cases e:a=p
   ·subst e
    rw[if_pos rfl]
    rw[hx0]at hpv1
    exact hpv1
   ·rw[if_neg e,if_pos rfl]
  have hPI0:PI key a b (a+1) (b - 1) pv l ((l.set a pv).set p x0):=⟨SP.swap hx0 hpv1 (by omega) hpv,g,λk x h1 h2=>by omega,λk x h1 h2=>by omega,by omega⟩
  rw[show Int.ofNat a+1=Int.ofNat (a+1)from rfl]
  generalize hi0:a+1=i0 at hPI0 ⊢
  generalize hj0:b - 1=j0 at hPI0 ⊢
  generalize (l.set a pv).set p x0=l1 at hPI0 ⊢
  refine bZ (λl' h'=>∃i,l'=[.i (Int.ofNat i)]/\h'=putE h id 3 encC l1/\i0<=i/\PI key a b i j0 pv l l1/\(i<=j0->∃x,l1[i]? = some x/\key pv<=key x)) ?_ ?_
  ·rintro _ _ ⟨i,rfl,rfl,hi0i,hPI,hup⟩
   rw[p_unI,p_un0]
   refine bZ (λl' h'=>∃j,l'=[.i (Int.ofNat j)]/\h'=putE h id 3 encC l1/\PI key a b i j pv l l1/\j<=j0/\(i<=j->∃x,l1[j]? = some x/\key x<key pv)) ?_ ?_
   ·rintro _ _ ⟨j,rfl,rfl,hPI,hjj0,hdn⟩
    have hr:=hPI.rng
    have hn1:l1.length=len:=hPI.sp.len.trans hn
    simp(disch:=omega)only[↓qXX]
    obtain⟨y,hy⟩:=aQ (l:=l1) (i:=j) (by omega)
    by_cases hij:j<i
    ·rw[p_gtr_t (show Int.ofNat j<Int.ofNat i by simp only[qab];omega)]
     simp(disch:=omega)only[↓qXX]
     refine aO (lsE hlt hn1) rfl hPI.piv ?_
     unfold encC
     simp(disch:=omega)only[↓qXX]
     refine aO (lsE hlt hn1) rfl hy ?_
     unfold encC
     simp(disch:=omega)only[↓qXX]
     refine cM aA (a:=pv) hlt rfl (by omega) hn1 rfl ?_
     refine cM aA (a:=y) hlt rfl (by rw[qav];omega) (by rw[qav];exact hn1) rfl ?_
     obtain⟨f1,f2⟩:=hPI.fin hy hij
     exact⟨_,j,true,by trivial,rfl,by omega,by omega,f1,f2⟩
    ·rw[p_gtr_f (show Int.ofNat i<=Int.ofNat j by simp only[qab];omega)]
     simp(disch:=omega)only[↓qXX]
     obtain⟨x,hx,hkx⟩:=hup (by omega)
     obtain⟨y',hy',hky⟩:=hdn (by omega)
     rw[hy]at hy'
     cases hy'
     refine aO (lsE hlt hn1) rfl hy ?_
     unfold encC
     simp(disch:=omega)only[↓qXX]
     refine aO (lsE hlt hn1) rfl hx ?_
     unfold encC
     simp(disch:=omega)only[↓qXX]
     refine cM aA (a:=y) hlt rfl (by omega) hn1 rfl ?_
     refine cM aA (a:=x) hlt rfl (by rw[qav];omega) (by rw[qav];exact hn1) rfl ?_
     rw[ch (by omega),cD (by omega) (by omega)]
     have hPI2:=hPI.swp hx hy (by omega) hkx hky
     refine aF (m:=j - 1+1 - (i+1)) (λm ls h'=>∃i0 j0 l1,ls=[.i (Int.ofNat i0),.i (Int.ofNat j0)]/\h'=putE h id 3 encC l1/\j0+1 - i0=m/\PI key a b i0 j0 pv l l1) ⟨i+1,j - 1,_,rfl,rfl,rfl,hPI2⟩ ?_
     clear hPI2 hPI hup hdn hPI0
     rintro m ls h' ⟨i0,j0,l1,rfl,rfl,hm,hPI0⟩ self hself
     refine hidL ?_
     rw[p_unI,p_unI,p_un0]
     refine bZ (λl' h'=>∃i,l'=[.i (Int.ofNat i)]/\h'=putE h id 3 encC l1/\i0<=i/\PI key a b i j0 pv l l1/\(i<=j0->∃x,l1[i]? = some x/\key pv<=key x)) ?_ ?_
     ·rintro _ _ ⟨i,rfl,rfl,hi0i,hPI,hup⟩
      rw[p_unI,p_un0]
      refine bZ (λl' h'=>∃j,l'=[.i (Int.ofNat j)]/\h'=putE h id 3 encC l1/\PI key a b i j pv l l1/\j<=j0/\(i<=j->∃x,l1[j]? = some x/\key x<key pv)) ?_ ?_
      ·rintro _ _ ⟨j,rfl,rfl,hPI,hjj0,hdn⟩
       have hr:=hPI.rng
       have hn1:l1.length=len:=hPI.sp.len.trans hn
       simp(disch:=omega)only[↓qXX]
       obtain⟨y,hy⟩:=aQ (l:=l1) (i:=j) (by omega)
       by_cases hij:j<i
       ·rw[p_gtr_t (show Int.ofNat j<Int.ofNat i by simp only[qab];omega)]
        simp(disch:=omega)only[↓qXX]
        refine aO (lsE hlt hn1) rfl hPI.piv ?_
        unfold encC
        simp(disch:=omega)only[↓qXX]
        refine aO (lsE hlt hn1) rfl hy ?_
        unfold encC
        simp(disch:=omega)only[↓qXX]
        refine cM aA (a:=pv) hlt rfl (by omega) hn1 rfl ?_
        refine cM aA (a:=y) hlt rfl (by rw[qav];omega) (by rw[qav];exact hn1) rfl ?_
        obtain⟨f1,f2⟩:=hPI.fin hy hij
        exact⟨_,j,false,by trivial,rfl,by omega,by omega,f1,f2⟩
       ·rw[p_gtr_f (show Int.ofNat i<=Int.ofNat j by simp only[qab];omega)]
        simp(disch:=omega)only[↓qXX]
        obtain⟨x,hx,hkx⟩:=hup (by omega)
        obtain⟨y',hy',hky⟩:=hdn (by omega)
        rw[hy]at hy'
        cases hy'
        refine aO (lsE hlt hn1) rfl hy ?_
        unfold encC
        simp(disch:=omega)only[↓qXX]
        refine aO (lsE hlt hn1) rfl hx ?_
        unfold encC
        simp(disch:=omega)only[↓qXX]
        refine cM aA (a:=y) hlt rfl (by omega) hn1 rfl ?_
        refine cM aA (a:=x) hlt rfl (by rw[qav];omega) (by rw[qav];exact hn1) rfl ?_
        rw[ch (by omega),cD (by omega) (by omega)]
        have hPI2:=hPI.swp hx hy (by omega) hkx hky
        exact hself (j - 1+1 - (i+1)) _ _ (dec_m hi0i hjj0 hm hij) ⟨i+1,j - 1,_,rfl,rfl,rfl,hPI2⟩
      ·intro jj hjj
       refine aF (m:=j0) (λm ls h'=>∃j,ls=[.i (Int.ofNat j)]/\h'=putE h id 3 encC l1/\j=m/\PI key a b i j pv l l1/\j<=j0) ⟨j0,rfl,rfl,rfl,hPI,qal _⟩ ?_
       rintro m ls h' ⟨j,rfl,rfl,rfl,hPJ,hjj0⟩ self2 hself2
       refine hidL ?_
       have hr:=hPJ.rng
       have hn1:l1.length=len:=hPJ.sp.len.trans hn
       simp(disch:=omega)only[↓qXX]
       by_cases hij:i<=j
       ·rw[p_leq_t (show Int.ofNat i<=Int.ofNat j by simp only[qab];omega)]
        simp(disch:=omega)only[↓qXX]
        obtain⟨x,hx⟩:=aQ (l:=l1) (i:=j) (by omega)
        refine aO (lsE hlt hn1) rfl hx ?_
        unfold encC
        simp(disch:=omega)only[↓qXX]
        refine aO (lsE hlt hn1) rfl hPJ.piv ?_
        unfold encC
        simp(disch:=omega)only[↓qXX]
        obtain⟨d,hd,hdk⟩:=hc.cmp x pv (okP hok hPJ.sp x (qad hx)) (okP hok hPJ.sp pv (qad hPJ.piv))
        refine co (hd _) ?_
        simp(disch:=omega)only[↓qXX]
        by_cases hk:key x<key pv
        ·rw[p_lss_t (hdk.2 hk)]
         simp(disch:=omega)only[↓qXX,qaL]
         exact hjj _ _ ⟨j,rfl,rfl,hPJ,hjj0,λ_=>⟨x,hx,hk⟩⟩
        ·rw[p_lss_f (show 0<=d by have:=mt hdk.1 hk;omega)]
         simp(disch:=omega)only[↓qXX,qbk]
         rw[cD (by omega) (by omega)]
         exact hself2 (j - 1) _ _ (by omega) ⟨j - 1,rfl,rfl,rfl,hPJ.down hx hij (by omega),by omega⟩
       ·rw[p_leq_f (show Int.ofNat j<Int.ofNat i by simp only[qab];omega)]
        simp(disch:=omega)only[↓qXX]
        exact hjj _ _ ⟨j,rfl,rfl,hPJ,hjj0,λq=>by omega⟩
     ·intro jj hjj
      refine aF (m:=j0+1 - i0) (λm ls h'=>∃i,ls=[.i (Int.ofNat i)]/\h'=putE h id 3 encC l1/\j0+1 - i=m/\i0<=i/\PI key a b i j0 pv l l1) ⟨i0,rfl,rfl,rfl,qal _,hPI0⟩ ?_
      rintro m ls h' ⟨i,rfl,rfl,rfl,hi0i,hPJ⟩ self2 hself2
      refine hidL ?_
      have hr:=hPJ.rng
      have hn1:l1.length=len:=hPJ.sp.len.trans hn
      simp(disch:=omega)only[↓qXX]
      by_cases hij:i<=j0
      ·rw[p_leq_t (show Int.ofNat i<=Int.ofNat j0 by simp only[qab];omega)]
       simp(disch:=omega)only[↓qXX]
       obtain⟨x,hx⟩:=aQ (l:=l1) (i:=i) (by omega)
       refine aO (lsE hlt hn1) rfl hx ?_
       unfold encC
       simp(disch:=omega)only[↓qXX]
       refine aO (lsE hlt hn1) rfl hPJ.piv ?_
       unfold encC
       simp(disch:=omega)only[↓qXX]
       obtain⟨d,hd,hdk⟩:=hc.cmp x pv (okP hok hPJ.sp x (qad hx)) (okP hok hPJ.sp pv (qad hPJ.piv))
       refine co (hd _) ?_
       simp(disch:=omega)only[↓qXX]
       by_cases hk:key x<key pv
       ·rw[p_lss_t (hdk.2 hk)]
        simp(disch:=omega)only[↓qXX]
        rw[ch (by omega)]
        exact hself2 (j0+1 - (i+1)) _ _ (by omega) ⟨i+1,rfl,rfl,rfl,by omega,hPJ.up hx hij hk⟩
       ·rw[p_lss_f (show 0<=d by have:=mt hdk.1 hk;omega)]
        simp(disch:=omega)only[↓qXX]
        exact hjj _ _ ⟨i,rfl,rfl,hi0i,hPJ,λ_=>⟨x,hx,by omega⟩⟩
      ·rw[p_leq_f (show Int.ofNat j0<Int.ofNat i by simp only[qab];omega)]
       simp(disch:=omega)only[↓qXX]
       exact hjj _ _ ⟨i,rfl,rfl,hi0i,hPJ,λq=>by omega⟩
   ·intro jj hjj
    refine aF (m:=j0) (λm ls h'=>∃j,ls=[.i (Int.ofNat j)]/\h'=putE h id 3 encC l1/\j=m/\PI key a b i j pv l l1/\j<=j0) ⟨j0,rfl,rfl,rfl,hPI,qal _⟩ ?_
    rintro m ls h' ⟨j,rfl,rfl,rfl,hPJ,hjj0⟩ self2 hself2
    refine hidL ?_
    have hr:=hPJ.rng
    have hn1:l1.length=len:=hPJ.sp.len.trans hn
    simp(disch:=omega)only[↓qXX]
    by_cases hij:i<=j
    ·rw[p_leq_t (show Int.ofNat i<=Int.ofNat j by simp only[qab];omega)]
     simp(disch:=omega)only[↓qXX]
     obtain⟨x,hx⟩:=aQ (l:=l1) (i:=j) (by omega)
     refine aO (lsE hlt hn1) rfl hx ?_
     unfold encC
     simp(disch:=omega)only[↓qXX]
     refine aO (lsE hlt hn1) rfl hPJ.piv ?_
     unfold encC
     simp(disch:=omega)only[↓qXX]
     obtain⟨d,hd,hdk⟩:=hc.cmp x pv (okP hok hPJ.sp x (qad hx)) (okP hok hPJ.sp pv (qad hPJ.piv))
     refine co (hd _) ?_
     simp(disch:=omega)only[↓qXX]
     by_cases hk:key x<key pv
     ·rw[p_lss_t (hdk.2 hk)]
      simp(disch:=omega)only[↓qXX,qaL]
      exact hjj _ _ ⟨j,rfl,rfl,hPJ,hjj0,λ_=>⟨x,hx,hk⟩⟩
     ·rw[p_lss_f (show 0<=d by have:=mt hdk.1 hk;omega)]
      simp(disch:=omega)only[↓qXX,qbk]
      rw[cD (by omega) (by omega)]
      exact hself2 (j - 1) _ _ (by omega) ⟨j - 1,rfl,rfl,rfl,hPJ.down hx hij (by omega),by omega⟩
    ·rw[p_leq_f (show Int.ofNat j<Int.ofNat i by simp only[qab];omega)]
     simp(disch:=omega)only[↓qXX]
     exact hjj _ _ ⟨j,rfl,rfl,hPJ,hjj0,λq=>by omega⟩
  ·intro jj hjj
   refine aF (m:=j0+1 - i0) (λm ls h'=>∃i,ls=[.i (Int.ofNat i)]/\h'=putE h id 3 encC l1/\j0+1 - i=m/\i0<=i/\PI key a b i j0 pv l l1) ⟨i0,rfl,rfl,rfl,qal _,hPI0⟩ ?_
   rintro m ls h' ⟨i,rfl,rfl,rfl,hi0i,hPJ⟩ self2 hself2
   refine hidL ?_
   have hr:=hPJ.rng
   have hn1:l1.length=len:=hPJ.sp.len.trans hn
   simp(disch:=omega)only[↓qXX]
   by_cases hij:i<=j0
   ·rw[p_leq_t (show Int.ofNat i<=Int.ofNat j0 by simp only[qab];omega)]
    simp(disch:=omega)only[↓qXX]
    obtain⟨x,hx⟩:=aQ (l:=l1) (i:=i) (by omega)
    refine aO (lsE hlt hn1) rfl hx ?_
    unfold encC
    simp(disch:=omega)only[↓qXX]
    refine aO (lsE hlt hn1) rfl hPJ.piv ?_
    unfold encC
    simp(disch:=omega)only[↓qXX]
    obtain⟨d,hd,hdk⟩:=hc.cmp x pv (okP hok hPJ.sp x (qad hx)) (okP hok hPJ.sp pv (qad hPJ.piv))
    refine co (hd _) ?_
    simp(disch:=omega)only[↓qXX]
    by_cases hk:key x<key pv
    ·rw[p_lss_t (hdk.2 hk)]
     simp(disch:=omega)only[↓qXX]
     rw[ch (by omega)]
     exact hself2 (j0+1 - (i+1)) _ _ (by omega) ⟨i+1,rfl,rfl,rfl,by omega,hPJ.up hx hij hk⟩
    ·rw[p_lss_f (show 0<=d by have:=mt hdk.1 hk;omega)]
     simp(disch:=omega)only[↓qXX]
     exact hjj _ _ ⟨i,rfl,rfl,hi0i,hPJ,λ_=>⟨x,hx,by omega⟩⟩
   ·rw[p_leq_f (show Int.ofNat j0<Int.ofNat i by simp only[qab];omega)]
    simp(disch:=omega)only[↓qXX]
    exact hjj _ _ ⟨i,rfl,rfl,hi0i,hPJ,λq=>by omega⟩)
 exact⟨l',m,t,e1,e2,e3,e4,h1⟩
end
end Go.Am

end

/-
  PART 6 OF THE PROOF: Ph2 Ph3 Hx7 Pq Gp Hx1 Hx2 Hx3 Hx4 Hx5 Hx6 E10 E11 Sx15 E0 E9 Cd1 Cs1 Cs2 Cs3 Cs4 Cs5 E12 E13 Cd2 (no conditions).
-/
import Derived.Test.YtdafccenakomlaaGreatDoorOC5
import Derived.SevenTiedAt
import Derived.Test.YtdafccenakomlaaGreatDoorCards
import Derived.Test.YtdafccenakomlaaGreatDoorTie
set_option linter.unusedSectionVars false
set_option linter.unusedSimpArgs false
set_option linter.unusedVariables false
set_option linter.constructorNameAsVariable false
set_option linter.defProp false
noncomputable section
/-
 THE ALGEBRA OF PROPOSITIONS,its rules as equations: a step each.
-/
namespace Go.Am
namespace Sx
class Bx (α:Sort _) where
 v:α
def hid{α:Sort _} [b:Bx α]:α:=b.v
section
variable [Val] [Kno] {C:Cfg} {Sg:FuncId->Option Sig} {T:Nat->Site}
theorem b_unI{n:Int}{r:List Lf}{K:Int->List Lf->Prop}:(PH C Sg T).unI (.i n :: r) K=K n r:=rfl
theorem b_unB{n:Bool}{r:List Lf}{K:Bool->List Lf->Prop}:(PH C Sg T).unB (.b n :: r) K=K n r:=rfl
theorem b_unV{n:Value}{r:List Lf}{K:Value->List Lf->Prop}:(PH C Sg T).unV (.v n :: r) K=K n r:=rfl
theorem b_un0{K:Prop}:(PH C Sg T).un0 [] K=K:=rfl
theorem b_ucI{k:IntKind}{n:Int}{r:List Value}{K:Int->List Value->Prop}:(PH C Sg T).ucI k (.int k n :: r) K=K n r:=by
 show(k=k/\K n r)=K n r
 simp
theorem b_ucB{n:Bool}{r:List Value}{K:Bool->List Value->Prop}:(PH C Sg T).ucB (.bool n :: r) K=K n r:=rfl
theorem b_ucV{n:Value}{r:List Value}{K:Value->List Value->Prop}:(PH C Sg T).ucV (n :: r) K=K n r:=rfl
theorem b_uc0{K:Prop}:(PH C Sg T).uc0 [] K=K:=rfl
theorem b_cond_t{X Y:Prop}:(PH C Sg T).cond true X Y=X:=by
 show((true=true->X)/\(true=false->Y))=X
 simp
theorem b_cond_f{X Y:Prop}:(PH C Sg T).cond false X Y=Y:=by
 show((false=true->X)/\(false=false->Y))=Y
 simp
theorem b_lss_t{a b:Int}{K:Bool->Prop}(h:a<b):(PH C Sg T).cmp .lss a b K=K true:=by
 show K (decide (a<b))=_;rw[decide_eq_true h]
theorem b_lss_f{a b:Int}{K:Bool->Prop}(h:b<=a):(PH C Sg T).cmp .lss a b K=K false:=by
 show K (decide (a<b))=_;rw[decide_eq_false (by omega)]
theorem b_leq_t{a b:Int}{K:Bool->Prop}(h:a<=b):(PH C Sg T).cmp .leq a b K=K true:=by
 show K (decide (a<=b))=_;rw[decide_eq_true h]
theorem b_leq_f{a b:Int}{K:Bool->Prop}(h:b<a):(PH C Sg T).cmp .leq a b K=K false:=by
 show K (decide (a<=b))=_;rw[decide_eq_false (by omega)]
theorem b_gtr_t{a b:Int}{K:Bool->Prop}(h:b<a):(PH C Sg T).cmp .gtr a b K=K true:=by
 show K (decide (a > b))=_;rw[decide_eq_true h]
theorem b_gtr_f{a b:Int}{K:Bool->Prop}(h:a<=b):(PH C Sg T).cmp .gtr a b K=K false:=by
 show K (decide (a > b))=_;rw[decide_eq_false (by omega)]
theorem b_geq_t{a b:Int}{K:Bool->Prop}(h:b<=a):(PH C Sg T).cmp .geq a b K=K true:=by
 show K (decide (a ≥ b))=_;rw[decide_eq_true h]
theorem b_geq_f{a b:Int}{K:Bool->Prop}(h:a<b):(PH C Sg T).cmp .geq a b K=K false:=by
 show K (decide (a ≥ b))=_;rw[decide_eq_false (by omega)]
theorem b_eql_t{a b:Int}{K:Bool->Prop}(h:a=b):(PH C Sg T).cmp .eql a b K=K true:=by
 show K (a==b)=_;rw[beq_iff_eq.2 h]
theorem b_eql_f{a b:Int}{K:Bool->Prop}(h:a≠b):(PH C Sg T).cmp .eql a b K=K false:=by
 show K (a==b)=_;rw[beq_false_of_ne h]
theorem b_neq_t{a b:Int}{K:Bool->Prop}(h:a≠b):(PH C Sg T).cmp .neq a b K=K true:=by
 show K (a != b)=_;rw[bne_iff_ne.2 h]
theorem b_neq_f{a b:Int}{K:Bool->Prop}(h:a=b):(PH C Sg T).cmp .neq a b K=K false:=by
 show K (a != b)=_;subst h;simp
theorem b_add{a b:Int}{K:Int->Prop}(h1:-9223372036854775808<=a+b)(h2:a+b<=9223372036854775807):(PH C Sg T).ari .add .i64 a b K=K (a+b):=by
 show K (IntKind.wrap .i64 (a+b))=_;rw[bT h1 h2]
theorem b_sub{a b:Int}{K:Int->Prop}(h1:-9223372036854775808<=a - b)(h2:a - b<=9223372036854775807):(PH C Sg T).ari .sub .i64 a b K=K (a - b):=by
 show K (IntKind.wrap .i64 (a - b))=_;rw[bT h1 h2]
theorem b_mul{a b:Int}{K:Int->Prop}(h1:-9223372036854775808<=a*b)(h2:a*b<=9223372036854775807):(PH C Sg T).ari .mul .i64 a b K=K (a*b):=by
 show K (IntKind.wrap .i64 (a*b))=_;rw[bT h1 h2]
theorem b_add8{a b:Int}{K:Int->Prop}(h1:0<=a+b)(h2:a+b<=255):(PH C Sg T).ari .add .u8 a b K=K (a+b):=by
 show K (IntKind.wrap .u8 (a+b))=_;rw[kX h1 h2]
theorem b_sub8{a b:Int}{K:Int->Prop}(h1:0<=a - b)(h2:a - b<=255):(PH C Sg T).ari .sub .u8 a b K=K (a - b):=by
 show K (IntKind.wrap .u8 (a - b))=_;rw[kX h1 h2]
theorem b_mul8{a b:Int}{K:Int->Prop}(h1:0<=a*b)(h2:a*b<=255):(PH C Sg T).ari .mul .u8 a b K=K (a*b):=by
 show K (IntKind.wrap .u8 (a*b))=_;rw[kX h1 h2]
theorem tdiv_nn{a b:Int}(h:0<=a):a.tdiv b=a / b:=Int.tdiv_eq_ediv_of_nonneg h
theorem b_quo_nn{a b:Int}{K:Int->Prop}(h:0<=a)(hb:0<b)(h2:a<=9223372036854775807):(PH C Sg T).ari .quo .i64 a b K=K (a / b):=by
 show(b≠0/\K (IntKind.wrap .i64 (a.tdiv b)))=_
 have h3:a / b<=a:=Int.ediv_le_self b h
 have h4:0<=a / b:=Int.ediv_nonneg h (by omega)
 rw[tdiv_nn h,bT (by omega) (by omega)]
 simp;intro _ h;omega
theorem b_quo_dv{a b:Int}{K:Int->Prop}(h:a%b=0)(hb:0<b)(h1:-9223372036854775808<=a)(h2:a<=9223372036854775807):(PH C Sg T).ari .quo .i64 a b K=K (a / b):=by
 show(b≠0/\K (IntKind.wrap .i64 (a.tdiv b)))=_
 obtain⟨q,rfl⟩:=Int.dvd_of_emod_eq_zero h
 rw[Int.mul_tdiv_cancel_left q (by omega),Int.mul_ediv_cancel_left q (by omega)]
 have hq:-9223372036854775808<=q/\q<=9223372036854775807:=by
  rcases Int.le_total 0 q with hs|hs
  ·have:=qbP (show(1:Int)<=b by omega) hs
   omega
  ·have:=qbP (show(1:Int)<=b by omega) (show 0<=-q by omega)
   rw[Int.mul_neg b q]at this
   omega
 rw[bT hq.1 hq.2]
 simp;intro _ h;omega
theorem b_rem_nn{k:IntKind}{a b:Int}{K:Int->Prop}(h:0<=a)(hb:0<b):(PH C Sg T).ari .rem k a b K=K (a%b):=by
 show(b≠0/\K (a.tmod b))=_
 rw[qcx h]
 simp;intro _ h;omega
theorem b_rem_np{k:IntKind}{a b:Int}{K:Int->Prop}(h:a<=0)(hb:0<b):(PH C Sg T).ari .rem k a b K=K (-((-a)%b)):=by
 show(b≠0/\K (a.tmod b))=_
 have:a.tmod b = -((-a)%b):=by
  have h1:=Int.neg_tmod a b
  rw[qcx (a:=-a) (by omega)]at h1
  omega
 rw[this]
 simp;intro _ h;omega
theorem b_and1{a:Int}{K:Int->Prop}:(PH C Sg T).ari .and .i64 a 1 K=K (a%2):=by
 show(((1:Int)=1/\K (a%2))∨((1:Int)≠1/\∃n,mF .and .i64 a 1 n/\K n))=K (a%2)
 simp
theorem b_conv{a:Int}{K:Int->Prop}(h1:-9223372036854775808<=a)(h2:a<=9223372036854775807):(PH C Sg T).conv .i64 a K=K a:=by
 show K (IntKind.wrap .i64 a)=_;rw[bT h1 h2]
theorem b_conv8{a:Int}{K:Int->Prop}(h1:0<=a)(h2:a<=255):(PH C Sg T).conv .u8 a K=K a:=by
 show K (IntKind.wrap .u8 a)=_;rw[kX h1 h2]
theorem b_sel_t{a b:Int}{K:Int->Prop}:(PH C Sg T).sel true a b K=K a:=rfl
theorem b_sel_f{a b:Int}{K:Int->Prop}:(PH C Sg T).sel false a b K=K b:=rfl
theorem b_opt{α:Type}{x:α}{K:α->Prop}:(PH C Sg T).opt (some x) K=K x:=by
 show(∃y,some x=some y/\K y)=K x
 simp
theorem b_inB{n:Nat}{i:Int}{K:Unit->Prop}(h1:0<=i)(h2:i<(n:Int)):(PH C Sg T).opt (inB n i) K=K ():=by
 rw[show inB n i=some ()from(inB_eq n i).trans (if_pos ⟨h1,h2⟩),b_opt]
theorem b_join{b:List Lf->HL->Prop}{m:(List Lf->HL->Prop)->Prop}:(PH C Sg T).join b m=m b:=rfl
theorem b_eqs0{K:Bool->Prop}:(PH C Sg T).eqs [] K=K true:=rfl
theorem b_eqs_t{a b:Int}{l:List (Lf×Lf)}{K:Bool->Prop}(h:a=b):(PH C Sg T).eqs ((.i a,.i b) :: l) K=(PH C Sg T).eqs l K:=by
 show K (cb _)=K (cb l)
 subst h
 simp[cb,gp]
theorem b_eqs_f{a b:Int}{l:List (Lf×Lf)}{K:Bool->Prop}(h:a≠b):(PH C Sg T).eqs ((.i a,.i b) :: l) K=K false:=by
 show K (cb _)=K false
 have:(a==b)=false:=beq_false_of_ne h
 simp[cb,gp,this]
theorem b_it{F:(List Lf->HL->Prop)->List Lf->HL->Prop}{n:Nat}{ls:List Lf}{h:HL}:itH F (n+1) ls h=F (itH F n) ls h:=rfl
theorem dY{g:FuncId}{ls rs:List Lf}{h:HL}{K:List Lf->HL->Prop}(hc:∀H,bG C Sg g ls H rs H)(hk:K rs h):(PH C Sg T).call g ls h (@hid _ ⟨K⟩):=⟨rs,h,hc _,hk⟩
theorem b_eqsb_t{a b:Bool}{l:List (Lf×Lf)}{K:Bool->Prop}(h:a=b):(PH C Sg T).eqs ((.b a,.b b) :: l) K=(PH C Sg T).eqs l K:=by
 show K (cb _)=K (cb l)
 subst h
 simp[cb,gp]
theorem b_eqsb_tf{l:List (Lf×Lf)}{K:Bool->Prop}:(PH C Sg T).eqs ((.b true,.b false) :: l) K=K false:=rfl
theorem b_eqsb_ft{l:List (Lf×Lf)}{K:Bool->Prop}:(PH C Sg T).eqs ((.b false,.b true) :: l) K=K false:=rfl
theorem b_mul_1{b:Int}{K:Int->Prop}(h1:-9223372036854775808<=b)(h2:b<=9223372036854775807):(PH C Sg T).ari .mul .i64 1 b K=K b:=by
 show K (IntKind.wrap .i64 (1*b))=_;rw[Int.one_mul,bT h1 h2]
theorem b_mul_0{b:Int}{K:Int->Prop}:(PH C Sg T).ari .mul .i64 0 b K=K 0:=by
 show K (IntKind.wrap .i64 (0*b))=_;rw[Int.zero_mul];rfl
theorem b_mul_m{b:Int}{K:Int->Prop}(h1:-9223372036854775808<=-b)(h2:-b<=9223372036854775807):(PH C Sg T).ari .mul .i64 (-1) b K=K (-b):=by
 show K (IntKind.wrap .i64 (-1*b))=_
 have:(-1*b:Int) = -b:=by omega
 rw[this,bT h1 h2]
theorem b_mul_r1{b:Int}{K:Int->Prop}(h1:-9223372036854775808<=b)(h2:b<=9223372036854775807):(PH C Sg T).ari .mul .i64 b 1 K=K b:=by
 show K (IntKind.wrap .i64 (b*1))=_;rw[Int.mul_one,bT h1 h2]
theorem b_mul_r0{b:Int}{K:Int->Prop}:(PH C Sg T).ari .mul .i64 b 0 K=K 0:=by
 show K (IntKind.wrap .i64 (b*0))=_;rw[Int.mul_zero];rfl
theorem b_mul_rm{b:Int}{K:Int->Prop}(h1:-9223372036854775808<=-b)(h2:-b<=9223372036854775807):(PH C Sg T).ari .mul .i64 b (-1) K=K (-b):=by
 show K (IntKind.wrap .i64 (b * -1))=_
 have:(b * -1:Int) = -b:=by omega
 rw[this,bT h1 h2]
theorem b_add_0{b:Int}{K:Int->Prop}(h1:-9223372036854775808<=b)(h2:b<=9223372036854775807):(PH C Sg T).ari .add .i64 0 b K=K b:=by
 show K (IntKind.wrap .i64 (0+b))=_;rw[Int.zero_add,bT h1 h2]
theorem b_add_r0{b:Int}{K:Int->Prop}(h1:-9223372036854775808<=b)(h2:b<=9223372036854775807):(PH C Sg T).ari .add .i64 b 0 K=K b:=by
 show K (IntKind.wrap .i64 (b+0))=_;rw[Int.add_zero,bT h1 h2]
theorem b_add_11{K:Int->Prop}:(PH C Sg T).ari .add .i64 1 1 K=K 2:=by
 show K (IntKind.wrap .i64 (1+1))=_;rfl
theorem b_quo_1{a:Int}{K:Int->Prop}(h1:-9223372036854775808<=a)(h2:a<=9223372036854775807):(PH C Sg T).ari .quo .i64 a 1 K=K a:=by
 show((1:Int)≠0/\K (IntKind.wrap .i64 (a.tdiv 1)))=_
 rw[Int.tdiv_one,bT h1 h2];simp
theorem dM{α:Type}{o:Option α}{x:α}{K:α->Prop}(h:o=some x)(hk:K x):(PH C Sg T).opt o (@hid _ ⟨K⟩):=⟨x,h,hk⟩
theorem p_unI{n:Int}{r:List Lf}{K:Int->List Lf->Prop}:(PH C Sg T).unI (.i n :: r) (@hid _ ⟨K⟩)=K n r:=b_unI
theorem p_unB{n:Bool}{r:List Lf}{K:Bool->List Lf->Prop}:(PH C Sg T).unB (.b n :: r) (@hid _ ⟨K⟩)=K n r:=b_unB
theorem p_unV{n:Value}{r:List Lf}{K:Value->List Lf->Prop}:(PH C Sg T).unV (.v n :: r) (@hid _ ⟨K⟩)=K n r:=b_unV
theorem p_un0{K:Prop}:(PH C Sg T).un0 [] (@hid _ ⟨K⟩)=K:=b_un0
theorem p_ucI{k:IntKind}{n:Int}{r:List Value}{K:Int->List Value->Prop}:(PH C Sg T).ucI k (.int k n :: r) (@hid _ ⟨K⟩)=K n r:=b_ucI
theorem p_ucB{n:Bool}{r:List Value}{K:Bool->List Value->Prop}:(PH C Sg T).ucB (.bool n :: r) (@hid _ ⟨K⟩)=K n r:=b_ucB
theorem p_ucV{n:Value}{r:List Value}{K:Value->List Value->Prop}:(PH C Sg T).ucV (n :: r) (@hid _ ⟨K⟩)=K n r:=b_ucV
theorem p_uc0{K:Prop}:(PH C Sg T).uc0 [] (@hid _ ⟨K⟩)=K:=b_uc0
theorem p_cond_t{X Y:Prop}:(PH C Sg T).cond true (@hid _ ⟨X⟩) Y=X:=b_cond_t
theorem p_cond_f{X Y:Prop}:(PH C Sg T).cond false X (@hid _ ⟨Y⟩)=Y:=b_cond_f
theorem p_lss_t{a b:Int}{K:Bool->Prop}(h:a<b):(PH C Sg T).cmp .lss a b (@hid _ ⟨K⟩)=K true:=b_lss_t h
theorem p_lss_f{a b:Int}{K:Bool->Prop}(h:b<=a):(PH C Sg T).cmp .lss a b (@hid _ ⟨K⟩)=K false:=b_lss_f h
theorem p_leq_t{a b:Int}{K:Bool->Prop}(h:a<=b):(PH C Sg T).cmp .leq a b (@hid _ ⟨K⟩)=K true:=b_leq_t h
theorem p_leq_f{a b:Int}{K:Bool->Prop}(h:b<a):(PH C Sg T).cmp .leq a b (@hid _ ⟨K⟩)=K false:=b_leq_f h
theorem p_gtr_t{a b:Int}{K:Bool->Prop}(h:b<a):(PH C Sg T).cmp .gtr a b (@hid _ ⟨K⟩)=K true:=b_gtr_t h
theorem p_gtr_f{a b:Int}{K:Bool->Prop}(h:a<=b):(PH C Sg T).cmp .gtr a b (@hid _ ⟨K⟩)=K false:=b_gtr_f h
theorem p_geq_t{a b:Int}{K:Bool->Prop}(h:b<=a):(PH C Sg T).cmp .geq a b (@hid _ ⟨K⟩)=K true:=b_geq_t h
theorem p_geq_f{a b:Int}{K:Bool->Prop}(h:a<b):(PH C Sg T).cmp .geq a b (@hid _ ⟨K⟩)=K false:=b_geq_f h
theorem p_eql_t{a b:Int}{K:Bool->Prop}(h:a=b):(PH C Sg T).cmp .eql a b (@hid _ ⟨K⟩)=K true:=b_eql_t h
theorem p_eql_f{a b:Int}{K:Bool->Prop}(h:a≠b):(PH C Sg T).cmp .eql a b (@hid _ ⟨K⟩)=K false:=b_eql_f h
theorem p_neq_t{a b:Int}{K:Bool->Prop}(h:a≠b):(PH C Sg T).cmp .neq a b (@hid _ ⟨K⟩)=K true:=b_neq_t h
theorem p_neq_f{a b:Int}{K:Bool->Prop}(h:a=b):(PH C Sg T).cmp .neq a b (@hid _ ⟨K⟩)=K false:=b_neq_f h
theorem p_add{a b:Int}{K:Int->Prop}(h1:-9223372036854775808<=a+b)(h2:a+b<=9223372036854775807):(PH C Sg T).ari .add .i64 a b (@hid _ ⟨K⟩)=K (a+b):=b_add h1 h2
theorem p_sub{a b:Int}{K:Int->Prop}(h1:-9223372036854775808<=a - b)(h2:a - b<=9223372036854775807):(PH C Sg T).ari .sub .i64 a b (@hid _ ⟨K⟩)=K (a - b):=b_sub h1 h2
theorem p_mul{a b:Int}{K:Int->Prop}(h1:-9223372036854775808<=a*b)(h2:a*b<=9223372036854775807):(PH C Sg T).ari .mul .i64 a b (@hid _ ⟨K⟩)=K (a*b):=b_mul h1 h2
theorem p_add8{a b:Int}{K:Int->Prop}(h1:0<=a+b)(h2:a+b<=255):(PH C Sg T).ari .add .u8 a b (@hid _ ⟨K⟩)=K (a+b):=b_add8 h1 h2
theorem p_sub8{a b:Int}{K:Int->Prop}(h1:0<=a - b)(h2:a - b<=255):(PH C Sg T).ari .sub .u8 a b (@hid _ ⟨K⟩)=K (a - b):=b_sub8 h1 h2
theorem p_mul8{a b:Int}{K:Int->Prop}(h1:0<=a*b)(h2:a*b<=255):(PH C Sg T).ari .mul .u8 a b (@hid _ ⟨K⟩)=K (a*b):=b_mul8 h1 h2
theorem p_quo_nn{a b:Int}{K:Int->Prop}(h:0<=a)(hb:0<b)(h2:a<=9223372036854775807):(PH C Sg T).ari .quo .i64 a b (@hid _ ⟨K⟩)=K (a / b):=b_quo_nn h hb h2
theorem p_quo_dv{a b:Int}{K:Int->Prop}(h:a%b=0)(hb:0<b)(h1:-9223372036854775808<=a)(h2:a<=9223372036854775807):(PH C Sg T).ari .quo .i64 a b (@hid _ ⟨K⟩)=K (a / b):=b_quo_dv h hb h1 h2
theorem p_rem_nn{k:IntKind}{a b:Int}{K:Int->Prop}(h:0<=a)(hb:0<b):(PH C Sg T).ari .rem k a b (@hid _ ⟨K⟩)=K (a%b):=b_rem_nn h hb
theorem p_rem_np{k:IntKind}{a b:Int}{K:Int->Prop}(h:a<=0)(hb:0<b):(PH C Sg T).ari .rem k a b (@hid _ ⟨K⟩)=K (-((-a)%b)):=b_rem_np h hb
theorem p_and1{a:Int}{K:Int->Prop}:(PH C Sg T).ari .and .i64 a 1 (@hid _ ⟨K⟩)=K (a%2):=b_and1
theorem p_conv{a:Int}{K:Int->Prop}(h1:-9223372036854775808<=a)(h2:a<=9223372036854775807):(PH C Sg T).conv .i64 a (@hid _ ⟨K⟩)=K a:=b_conv h1 h2
theorem p_conv8{a:Int}{K:Int->Prop}(h1:0<=a)(h2:a<=255):(PH C Sg T).conv .u8 a (@hid _ ⟨K⟩)=K a:=b_conv8 h1 h2
theorem p_sel_t{a b:Int}{K:Int->Prop}:(PH C Sg T).sel true a b (@hid _ ⟨K⟩)=K a:=b_sel_t
theorem p_sel_f{a b:Int}{K:Int->Prop}:(PH C Sg T).sel false a b (@hid _ ⟨K⟩)=K b:=b_sel_f
theorem p_opt{α:Type}{x:α}{K:α->Prop}:(PH C Sg T).opt (some x) (@hid _ ⟨K⟩)=K x:=b_opt
theorem p_inB{n:Nat}{i:Int}{K:Unit->Prop}(h1:0<=i)(h2:i<(n:Int)):(PH C Sg T).opt (inB n i) (@hid _ ⟨K⟩)=K ():=b_inB h1 h2
theorem p_join{b:List Lf->HL->Prop}{m:(List Lf->HL->Prop)->Prop}:(PH C Sg T).join (@hid _ ⟨b⟩) (@hid _ ⟨m⟩)=m (@hid _ ⟨b⟩):=b_join
theorem p_eqs0{K:Bool->Prop}:(PH C Sg T).eqs [] (@hid _ ⟨K⟩)=K true:=b_eqs0
theorem p_eqs_t{a b:Int}{l:List (Lf×Lf)}{K:Bool->Prop}(h:a=b):(PH C Sg T).eqs ((.i a,.i b) :: l) (@hid _ ⟨K⟩)=(PH C Sg T).eqs l (@hid _ ⟨K⟩):=b_eqs_t h
theorem p_eqs_f{a b:Int}{l:List (Lf×Lf)}{K:Bool->Prop}(h:a≠b):(PH C Sg T).eqs ((.i a,.i b) :: l) (@hid _ ⟨K⟩)=K false:=b_eqs_f h
theorem p_it{F:(List Lf->HL->Prop)->List Lf->HL->Prop}{n:Nat}{ls:List Lf}{h:HL}:itH (@hid _ ⟨F⟩) (n+1) ls h=F (itH (@hid _ ⟨F⟩) n) ls h:=b_it
theorem p_eqsb_t{a b:Bool}{l:List (Lf×Lf)}{K:Bool->Prop}(h:a=b):(PH C Sg T).eqs ((.b a,.b b) :: l) (@hid _ ⟨K⟩)=(PH C Sg T).eqs l (@hid _ ⟨K⟩):=b_eqsb_t h
theorem p_eqsb_tf{l:List (Lf×Lf)}{K:Bool->Prop}:(PH C Sg T).eqs ((.b true,.b false) :: l) (@hid _ ⟨K⟩)=K false:=b_eqsb_tf
theorem p_eqsb_ft{l:List (Lf×Lf)}{K:Bool->Prop}:(PH C Sg T).eqs ((.b false,.b true) :: l) (@hid _ ⟨K⟩)=K false:=b_eqsb_ft
theorem p_mul_1{b:Int}{K:Int->Prop}(h1:-9223372036854775808<=b)(h2:b<=9223372036854775807):(PH C Sg T).ari .mul .i64 1 b (@hid _ ⟨K⟩)=K b:=b_mul_1 h1 h2
theorem p_mul_0{b:Int}{K:Int->Prop}:(PH C Sg T).ari .mul .i64 0 b (@hid _ ⟨K⟩)=K 0:=b_mul_0
theorem p_mul_m{b:Int}{K:Int->Prop}(h1:-9223372036854775808<=-b)(h2:-b<=9223372036854775807):(PH C Sg T).ari .mul .i64 (-1) b (@hid _ ⟨K⟩)=K (-b):=b_mul_m h1 h2
theorem p_mul_r1{b:Int}{K:Int->Prop}(h1:-9223372036854775808<=b)(h2:b<=9223372036854775807):(PH C Sg T).ari .mul .i64 b 1 (@hid _ ⟨K⟩)=K b:=b_mul_r1 h1 h2
theorem p_mul_r0{b:Int}{K:Int->Prop}:(PH C Sg T).ari .mul .i64 b 0 (@hid _ ⟨K⟩)=K 0:=b_mul_r0
theorem p_mul_rm{b:Int}{K:Int->Prop}(h1:-9223372036854775808<=-b)(h2:-b<=9223372036854775807):(PH C Sg T).ari .mul .i64 b (-1) (@hid _ ⟨K⟩)=K (-b):=b_mul_rm h1 h2
theorem p_add_0{b:Int}{K:Int->Prop}(h1:-9223372036854775808<=b)(h2:b<=9223372036854775807):(PH C Sg T).ari .add .i64 0 b (@hid _ ⟨K⟩)=K b:=b_add_0 h1 h2
theorem p_add_r0{b:Int}{K:Int->Prop}(h1:-9223372036854775808<=b)(h2:b<=9223372036854775807):(PH C Sg T).ari .add .i64 b 0 (@hid _ ⟨K⟩)=K b:=b_add_r0 h1 h2
theorem p_add_11{K:Int->Prop}:(PH C Sg T).ari .add .i64 1 1 (@hid _ ⟨K⟩)=K 2:=b_add_11
theorem p_quo_1{a:Int}{K:Int->Prop}(h1:-9223372036854775808<=a)(h2:a<=9223372036854775807):(PH C Sg T).ari .quo .i64 a 1 (@hid _ ⟨K⟩)=K a:=b_quo_1 h1 h2
theorem p_hid2{f:List Lf->HL->Prop}{a:List Lf}{b:HL}:@hid _ ⟨f⟩ a b=f a b:=rfl
theorem p_eqs2_f{a b c d:Int}{K:Bool->Prop}(h:¬(a=c/\b=d)):(PH C Sg T).eqs [(.i a,.i c),(.i b,.i d)] (@hid _ ⟨K⟩)=K false:=by
 show K (cb _)=K false
 have:cb [(.i a,.i c),(.i b,.i d)]=false:=by
  rw[Bool.eq_false_iff]
  simpa[cb,gp]using h
 rw[this]
theorem p_eqs3_f{a b c d e f:Int}{K:Bool->Prop}(h:¬(a=d/\b=e/\c=f)):(PH C Sg T).eqs [(.i a,.i d),(.i b,.i e),(.i c,.i f)] (@hid _ ⟨K⟩)=K false:=by
 show K (cb _)=K false
 have:cb [(.i a,.i d),(.i b,.i e),(.i c,.i f)]=false:=by
  rw[Bool.eq_false_iff]
  simpa[cb,gp]using h
 rw[this]
theorem cH{g:FuncId}{ls rs:List Lf}{h h':HL}{K:List Lf->HL->Prop}(hc:bG C Sg g ls (absH T h) rs (absH T h'))(hk:K rs h'):(PH C Sg T).call g ls h (@hid _ ⟨K⟩):=⟨rs,h',hc,hk⟩
theorem callv_ct{g:FuncId}{sg:Sig}{ls rs:List Lf}{H H':List HObj}(hc:bG C Sg g ls H rs H')(hs:Sg g=some sg)(xs:List S0)(h1:bD xs sg.ps=true)(h2:bH xs=ls) :
  rS C (.func (.func g) #[] #[]) (af xs) sg.rs H rs H':=by
 obtain⟨sg',xs',ys,c1,c2,c3,c4⟩:=hc
 rw[hs]at c1
 cases c1
 obtain⟨w1,_⟩:=cp c2.1 h1 (c2.2.1.trans h2.symm)
 rw[w1]at c4
 exact⟨ys,c3,.inl ⟨g,#[],#[],rfl,by simpa using c4⟩⟩
theorem p_callv{v:Value}{args:List Value}{hs:List SK}{rs:List Lf}{h h':HL}{K:List Lf->HL->Prop}(hc:rS C v args hs (absH T h) rs (absH T h'))(hk:K rs h'):(PH C Sg T).callv v args hs h (@hid _ ⟨K⟩):=⟨rs,h',hc,hk⟩
theorem p_new{o:HObj}{h:HL}{K:Nat->HL->Prop}:(PH C Sg T).new o h (@hid _ ⟨K⟩)=K h.length (h++[.o o]):=rfl
theorem cf{v:Value}{K:Prop}(h:bk v=true)(hk:K):(PH C Sg T).chk v (@hid _ ⟨K⟩):=⟨h,hk⟩
theorem jr{f:Hp}{h:HL}{K:List Value->HL->Prop}{acts:List Act1}{cs:List Value}(e:f.run (getH T h) h.length=some (acts,cs))(hk:K cs (bO h acts)):(PH C Sg T).heap f h (@hid _ ⟨K⟩):=⟨acts,cs,e,hk⟩
theorem js{f:Pk}{h:HL}{K:List Value->Prop}{cs:List Value}(e:f.run (getH T h)=some cs)(hk:K cs):(PH C Sg T).peek f h (@hid _ ⟨K⟩):=⟨cs,e,hk⟩
def pxs(C:Cfg)(Sg:FuncId->Option Sig)(T:Nat->Site):=And.intro @p_hid2 (And.intro (@p_new _ _ C Sg T) (And.intro (@p_unI _ _ C Sg T) (And.intro (@p_unB _ _ C Sg T) (And.intro (@p_unV _ _ C Sg T) (And.intro (@p_un0 _ _ C Sg T) (And.intro (@p_ucI _ _ C Sg T) (And.intro (@p_ucB _ _ C Sg T) (And.intro (@p_ucV _ _ C Sg T) (And.intro (@p_uc0 _ _ C Sg T) (And.intro (@p_cond_t _ _ C Sg T) (And.intro (@p_cond_f _ _ C Sg T) (And.intro (@p_opt _ _ C Sg T) (And.intro (@p_inB _ _ C Sg T) (And.intro (@p_join _ _ C Sg T) (And.intro (@p_sel_t _ _ C Sg T) (And.intro (@p_sel_f _ _ C Sg T) ((@p_it))))))))))))))))))
def pxc(C:Cfg)(Sg:FuncId->Option Sig)(T:Nat->Site):=And.intro (@p_lss_t _ _ C Sg T) (And.intro (@p_lss_f _ _ C Sg T) (And.intro (@p_leq_t _ _ C Sg T) (And.intro (@p_leq_f _ _ C Sg T) (And.intro (@p_gtr_t _ _ C Sg T) (And.intro (@p_gtr_f _ _ C Sg T) (And.intro (@p_geq_t _ _ C Sg T) (And.intro (@p_geq_f _ _ C Sg T) (And.intro (@p_eql_t _ _ C Sg T) (And.intro (@p_eql_f _ _ C Sg T) (And.intro (@p_neq_t _ _ C Sg T) (And.intro (@p_neq_f _ _ C Sg T) (And.intro (@p_eqs0 _ _ C Sg T) (And.intro (@p_eqs_t _ _ C Sg T) (And.intro (@p_eqs_f _ _ C Sg T) (And.intro (@p_eqs2_f _ _ C Sg T) (And.intro (@p_eqs3_f _ _ C Sg T) (And.intro (@p_eqsb_t _ _ C Sg T) (And.intro (@p_eqsb_tf _ _ C Sg T) ((@p_eqsb_ft _ _ C Sg T))))))))))))))))))))
def pxa(C:Cfg)(Sg:FuncId->Option Sig)(T:Nat->Site):=And.intro (@p_mul_1 _ _ C Sg T) (And.intro (@p_mul_0 _ _ C Sg T) (And.intro (@p_mul_m _ _ C Sg T) (And.intro (@p_mul_r1 _ _ C Sg T) (And.intro (@p_mul_r0 _ _ C Sg T) (And.intro (@p_mul_rm _ _ C Sg T) (And.intro (@p_add_0 _ _ C Sg T) (And.intro (@p_add_r0 _ _ C Sg T) (And.intro (@p_add_11 _ _ C Sg T) (And.intro (@p_quo_1 _ _ C Sg T) (And.intro (@p_add _ _ C Sg T) (And.intro (@p_sub _ _ C Sg T) (And.intro (@p_mul _ _ C Sg T) (And.intro (@p_add8 _ _ C Sg T) (And.intro (@p_sub8 _ _ C Sg T) (And.intro (@p_mul8 _ _ C Sg T) (And.intro (@p_quo_nn _ _ C Sg T) (And.intro (@p_quo_dv _ _ C Sg T) (And.intro (@p_rem_nn _ _ C Sg T) (And.intro (@p_rem_np _ _ C Sg T) (And.intro (@p_and1 _ _ C Sg T) (And.intro (@p_conv _ _ C Sg T) ((@p_conv8 _ _ C Sg T)))))))))))))))))))))))
end
end Sx
end Go.Am

/-
 LOOPS OVER ITERATORS IN THE ALGEBRA OF PROPOSITIONS: the call of the iterator;a round.
-/
namespace Go.Am
namespace Sx
section
variable [Val] [Kno]
variable {C:Cfg} {Sg:FuncId->Option Sig} {T:Nat->Site}
end
end Sx
end Go.Am

/-
 THE ALGEBRA OF PROPOSITIONS WITH WHAT COMES BEHIND PUT AWAY.
-/
namespace Go.Am
namespace Sx
open Go.Proofs
def hA(A:Alg Prop HL):Alg Prop HL where
 fail:=A.fail
 cond b x y:=A.cond b (@hid _ ⟨x⟩) (@hid _ ⟨y⟩)
 ari o k a b K:=A.ari o k a b (@hid _ ⟨K⟩)
 shf o k a l b K:=A.shf o k a l b (@hid _ ⟨K⟩)
 cmp o a b K:=A.cmp o a b (@hid _ ⟨K⟩)
 eqs l K:=A.eqs l (@hid _ ⟨K⟩)
 conv k a K:=A.conv k a (@hid _ ⟨K⟩)
 sel t a b K:=A.sel t a b (@hid _ ⟨K⟩)
 opt o K:=A.opt o (@hid _ ⟨K⟩)
 chk v x:=A.chk v (@hid _ ⟨x⟩)
 unI l K:=A.unI l (@hid _ ⟨K⟩)
 unB l K:=A.unB l (@hid _ ⟨K⟩)
 unV l K:=A.unV l (@hid _ ⟨K⟩)
 un0 l x:=A.un0 l (@hid _ ⟨x⟩)
 ucI k l K:=A.ucI k l (@hid _ ⟨K⟩)
 ucB l K:=A.ucB l (@hid _ ⟨K⟩)
 ucV l K:=A.ucV l (@hid _ ⟨K⟩)
 uc0 l x:=A.uc0 l (@hid _ ⟨x⟩)
 peek f h K:=A.peek f h (@hid _ ⟨K⟩)
 heap f h K:=A.heap f h (@hid _ ⟨K⟩)
 new o h K:=A.new o h (@hid _ ⟨K⟩)
 call g l h K:=A.call g l h (@hid _ ⟨K⟩)
 callv v a s h K:=A.callv v a s h (@hid _ ⟨K⟩)
 join b m:=A.join (@hid _ ⟨b⟩) (@hid _ ⟨m⟩)
 loop F l h:=A.loop (@hid _ ⟨F⟩) l h
 rfun n v a h K:=A.rfun n v a h (@hid _ ⟨K⟩)
 pend o x y l:=A.pend o (@hid _ ⟨x⟩) (@hid _ ⟨y⟩) l
 lp1 n h K:=A.lp1 n h (@hid _ ⟨K⟩)
 lp2 n o h K:=A.lp2 n o h (@hid _ ⟨K⟩)
theorem hA_eq(A:Alg Prop HL):hA A=A:=rfl
section
variable {A:Alg Prop HL}
theorem h_cond{b:Bool}{x y:Prop}:(hA A).cond b x y=A.cond b (@hid _ ⟨x⟩) (@hid _ ⟨y⟩):=rfl
theorem h_ari{o:BinOp}{k:IntKind}{a b:Int}{K:Int->Prop}:(hA A).ari o k a b K=A.ari o k a b (@hid _ ⟨K⟩):=rfl
theorem h_shf{o:BinOp}{k l:IntKind}{a b:Int}{K:Int->Prop}:(hA A).shf o k a l b K=A.shf o k a l b (@hid _ ⟨K⟩):=rfl
theorem h_cmp{o:BinOp}{a b:Int}{K:Bool->Prop}:(hA A).cmp o a b K=A.cmp o a b (@hid _ ⟨K⟩):=rfl
theorem h_eqs{l:List (Lf×Lf)}{K:Bool->Prop}:(hA A).eqs l K=A.eqs l (@hid _ ⟨K⟩):=rfl
theorem h_conv{k:IntKind}{a:Int}{K:Int->Prop}:(hA A).conv k a K=A.conv k a (@hid _ ⟨K⟩):=rfl
theorem h_sel{t:Bool}{a b:Int}{K:Int->Prop}:(hA A).sel t a b K=A.sel t a b (@hid _ ⟨K⟩):=rfl
theorem h_opt{α:Type}{o:Option α}{K:α->Prop}:(hA A).opt o K=A.opt o (@hid _ ⟨K⟩):=rfl
theorem h_chk{v:Value}{x:Prop}:(hA A).chk v x=A.chk v (@hid _ ⟨x⟩):=rfl
theorem h_unI{l:List Lf}{K:Int->List Lf->Prop}:(hA A).unI l K=A.unI l (@hid _ ⟨K⟩):=rfl
theorem h_unB{l:List Lf}{K:Bool->List Lf->Prop}:(hA A).unB l K=A.unB l (@hid _ ⟨K⟩):=rfl
theorem h_unV{l:List Lf}{K:Value->List Lf->Prop}:(hA A).unV l K=A.unV l (@hid _ ⟨K⟩):=rfl
theorem h_un0{l:List Lf}{x:Prop}:(hA A).un0 l x=A.un0 l (@hid _ ⟨x⟩):=rfl
theorem h_ucI{k:IntKind}{l:List Value}{K:Int->List Value->Prop}:(hA A).ucI k l K=A.ucI k l (@hid _ ⟨K⟩):=rfl
theorem h_ucB{l:List Value}{K:Bool->List Value->Prop}:(hA A).ucB l K=A.ucB l (@hid _ ⟨K⟩):=rfl
theorem h_ucV{l:List Value}{K:Value->List Value->Prop}:(hA A).ucV l K=A.ucV l (@hid _ ⟨K⟩):=rfl
theorem h_uc0{l:List Value}{x:Prop}:(hA A).uc0 l x=A.uc0 l (@hid _ ⟨x⟩):=rfl
theorem h_peek{f:Pk}{h:HL}{K:List Value->Prop}:(hA A).peek f h K=A.peek f h (@hid _ ⟨K⟩):=rfl
theorem h_heap{f:Hp}{h:HL}{K:List Value->HL->Prop}:(hA A).heap f h K=A.heap f h (@hid _ ⟨K⟩):=rfl
theorem h_new{o:HObj}{h:HL}{K:Nat->HL->Prop}:(hA A).new o h K=A.new o h (@hid _ ⟨K⟩):=rfl
theorem h_call{g:FuncId}{l:List Lf}{h:HL}{K:List Lf->HL->Prop}:(hA A).call g l h K=A.call g l h (@hid _ ⟨K⟩):=rfl
theorem h_callv{v:Value}{a:List Value}{s:List SK}{h:HL}{K:List Lf->HL->Prop}:(hA A).callv v a s h K=A.callv v a s h (@hid _ ⟨K⟩):=rfl
theorem h_join{b:List Lf->HL->Prop}{m:(List Lf->HL->Prop)->Prop}:(hA A).join b m=A.join (@hid _ ⟨b⟩) (@hid _ ⟨m⟩):=rfl
theorem h_loop{F:(List Lf->HL->Prop)->List Lf->HL->Prop}{l:List Lf}{h:HL}:(hA A).loop F l h=A.loop (@hid _ ⟨F⟩) l h:=rfl
theorem h_rfun{n:Nat}{v:Value}{a:List Value}{h:HL}{K:Option Code->HL->Prop}:(hA A).rfun n v a h K=A.rfun n v a h (@hid _ ⟨K⟩):=rfl
theorem h_pend{o:Option Code}{x y:Prop}{l:List (Nat×Prop)}:(hA A).pend o x y l=A.pend o (@hid _ ⟨x⟩) (@hid _ ⟨y⟩) l:=rfl
theorem h_lp1{n:Nat}{h:HL}{K:HL->Prop}:(hA A).lp1 n h K=A.lp1 n h (@hid _ ⟨K⟩):=rfl
theorem h_lp2{n:Nat}{o:Option Code}{h:HL}{K:HL->Prop}:(hA A).lp2 n o h K=A.lp2 n o h (@hid _ ⟨K⟩):=rfl
end
def pxh(A:Alg Prop HL):=And.intro (@h_cond A) (And.intro (@h_ari A) (And.intro (@h_shf A) (And.intro (@h_cmp A) (And.intro (@h_eqs A) (And.intro (@h_conv A) (And.intro (@h_sel A) (And.intro (@h_opt A) (And.intro (@h_chk A) (And.intro (@h_unI A) (And.intro (@h_unB A) (And.intro (@h_unV A) (And.intro (@h_un0 A) (And.intro (@h_ucI A) (And.intro (@h_ucB A) (And.intro (@h_ucV A) (And.intro (@h_uc0 A) (And.intro (@h_peek A) (And.intro (@h_heap A) (And.intro (@h_new A) (And.intro (@h_call A) (And.intro (@h_callv A) (And.intro (@h_join A) (And.intro (@h_loop A) (And.intro (@h_rfun A) (And.intro (@h_pend A) (And.intro (@h_lp1 A) ((@h_lp2 A))))))))))))))))))))))))))))
end Sx
end Go.Am

/-
 THE SEAT'S CALLS: what is known of them,and how it is shown (over the heaps of runs).
-/
set_option maxRecDepth 100000
namespace Go.Am
open Sx Go.Proofs
theorem gl_cell(g:Nat)(vs:List Value)(h:cc.G g=some vs):vs.all aA=true:=by
 unfold cc at h
 simp only at h
 split at h<;>first|(cases h;done)|(obtain rfl:=qai h;kernel_rfl)
abbrev P1:Alg Prop HL:=PH cc ab ac
abbrev Cc(g:FuncId)(ls rs:List Lf):Prop:=∀H,bG cc ab g ls H rs H
theorem fn_ok{f:FuncId}{fn:Fn1}(hi:FnIs (xc f) ab f fn){ls:List Lf}{H:HL}{K:List Lf->HL->Prop}(hls:gw ls=true)
  (h:ao P1 (xc f) ab drN fn ls H K):∃rs H',bG cc ab f ls (absH ac H) rs (absH ac H')/\K rs H':=by
 obtain⟨rs,h',a1,_,a3⟩:=mY (X:=xc f) (holds:=id) (abs:=absH ac) (PH_ok cc ab ac) qG hi (dV hls) h
 exact⟨rs,h',a1,a3⟩
theorem fn_okG{f:FuncId}{fn:Fn1}(hi:FnIs (xc f) ab f fn){ls:List Lf}{H:HL}{K:List Lf->HL->Prop}(hls:cL ls)
  (h:ao P1 (xc f) ab drN fn ls H K):∃rs H',bG cc ab f ls (absH ac H) rs (absH ac H')/\K rs H':=by
 obtain⟨rs,h',a1,_,a3⟩:=mY (X:=xc f) (holds:=id) (abs:=absH ac) (PH_ok cc ab ac) qG hi hls h
 exact⟨rs,h',a1,a3⟩
theorem gls0:cL []:=λ_ h=>by cases h
theorem glsI{n:Int}{ls:List Lf}(h:cL ls):cL (.i n :: ls):=λl hl=>by
 rcases qao.1 hl with rfl|hl
 ·trivial
 ·exact h l hl
theorem glsV{x:Value}{ls:List Lf}(hx:bk x=true)(h:cL ls):cL (.v x :: ls):=λl hl=>by
 rcases qao.1 hl with rfl|hl
 ·exact hx
 ·exact h l hl
abbrev FP:=List Lf->HL->(List Lf->HL->Prop)->Prop
abbrev UG(k:FuncId)(p:FP):Prop:=∀ {ls:List Lf} {H:HL} {K:List Lf->HL->Prop},gw ls=true->p ls H K->∃rs H',bG cc ab k ls (absH ac H) rs (absH ac H')/\K rs H'
abbrev XG(k:FuncId)(p:FP):Prop:=∀ {ls:List Lf} {H:HL} {K:List Lf->HL->Prop},cL ls->p ls H K->∃rs H',bG cc ab k ls (absH ac H) rs (absH ac H')/\K rs H'
abbrev QG(k:FuncId)(p:FP):Prop:=∀ {ls rs:List Lf},gw ls=true->p ls [] (λrs' _=>rs'=rs)->Cc k ls rs
theorem uu{k:FuncId}{fn:Fn1}{f:{R HT:Type}->Alg R HT->List Lf->HT->(List Lf->HT->R)->R}(hi:FnIs (xc k) ab k fn)(e:@f=λR HT A ls h K=>ao A (xc k) ab drN fn ls h K):UG k (f (hA P1)):=by
 intro ls H K hls h
 rw[hA_eq,e]at h
 exact fn_ok hi hls h
theorem xx{k:FuncId}{fn:Fn1}{f:{R HT:Type}->Alg R HT->List Lf->HT->(List Lf->HT->R)->R}(hi:FnIs (xc k) ab k fn)(e:@f=λR HT A ls h K=>ao A (xc k) ab drN fn ls h K):XG k (f (hA P1)):=by
 intro ls H K hls h
 rw[hA_eq,e]at h
 exact fn_okG hi hls h
theorem qq{k:FuncId}{sg:Sig}{p:FP}(hu:UG k p)(hs:ab k=some sg)(hf:sg.plain=true):QG k p:=λhls h=>by
 obtain⟨_,_,h1,rfl⟩:=hu hls h
 exact ct_of mixed pV hs hf h1
def qxs:=pxs cc ab ac
def qxh:=pxh P1
def qxc:=pxc cc ab ac
def qxa:=pxa cc ab ac
def qXX:=And.intro qxs (And.intro qxc qxa)
end Go.Am

/-
 THE FUNCTIONS OVER THE ALGEBRA OF PROPOSITIONS,BY PROGRAM.
-/
set_option maxRecDepth 100000
namespace Go.Am
open Sx Go.Proofs
/-- crimp/crimplaw26.OrdersCompare -/
theorem x3:XG 3 (f3 (hA P1)):=xx i3 e3
/-- crimp/crimplaw26.compared -/
theorem x5:XG 5 (f5 (hA P1)):=xx i5 e5
/-- crimp/orders.Compare -/
theorem x6:XG 6 (f6 (hA P1)):=xx i6 e6
/-- slices.CompareFunc[[]crimp/stacks.Stack,[]crimp/stacks.Stack,crimp/stacks.Stack,crimp/stacks.Stack] -/
theorem x11:XG 11 (f11 (hA P1)):=xx i11 e11
/-- crimp/orders.Compare$1 -/
theorem x12:XG 12 (f12 (hA P1)):=xx i12 e12
theorem x13:XG 13 (f13 (hA P1)):=xx i13 e13
/-- crimp/cells.Compare -/
theorem u14:UG 14 (f14 (hA P1)):=uu i14 e14
theorem q14:QG 14 (f14 (hA P1)):=qq u14 rfl (by kernel_rfl)
theorem x15:XG 15 (f15 (hA P1)):=xx i15 e15
/-- crimp/cells.order[int] -/
theorem x19:XG 19 (f19 (hA P1)):=xx i19 e19
theorem u20:UG 20 (f20 (hA P1)):=uu i20 e20
theorem q20:QG 20 (f20 (hA P1)):=qq u20 rfl (by kernel_rfl)
theorem u31:UG 31 (f31 (hA P1)):=uu i31 e31
theorem q31:QG 31 (f31 (hA P1)):=qq u31 rfl (by kernel_rfl)
end Go.Am

/-
 SLICES IN THE HEAP: what lies behind them,how they are read and lengthened.
-/
set_option maxRecDepth 100000
namespace Go.Am
namespace Sx
theorem jg{vs:List Value}{off n:Nat}{cs:List Value}:cut vs off n=some cs↔off+n<=vs.length/\(vs.drop off).take n=cs:=by
 unfold cut
 split
 ·rename_i h;simp[h]
 ·rename_i h;simp[h]
theorem cut_len{vs:List Value}{off n:Nat}{cs:List Value}(h:cut vs off n=some cs):cs.length=n:=by
 obtain⟨h1,rfl⟩:=jg.1 h
 rw[qbo,qbF];omega
theorem cut_cut{vs:List Value}{off n:Nat}{cs:List Value}(h:cut vs off n=some cs){o k:Nat}(hk:o+k<=n):cut vs (off+o) k=some ((cs.drop o).take k):=by
 obtain⟨h1,rfl⟩:=jg.1 h
 refine jg.2 ⟨by omega,?_⟩
 rw[List.drop_take,qba,List.take_take,qcN (by omega)]
theorem cut_all{vs:List Value}{n:Nat}(h:vs.length=n):cut vs 0 n=some vs:=jg.2 ⟨by omega,by rw[qbb,qaO (by omega)]⟩
def Pre(h0 h:HL):Prop:=∃G,h=h0++G
theorem Pre.refl(h:HL):Pre h h:=⟨[],by simp⟩
theorem Pre.trans{a b c:HL}(h:Pre a b)(k:Pre b c):Pre a c:=by
 obtain⟨G,rfl⟩:=h
 obtain⟨G',rfl⟩:=k
 exact⟨G++G',by simp⟩
theorem Pre.app{a b:HL}(h:Pre a b)(G:HL):Pre a (b++G):=h.trans ⟨G,rfl⟩
theorem Pre.len{a b:HL}(h:Pre a b):a.length<=b.length:=by obtain⟨G,rfl⟩:=h;simp
theorem Pre.get{a b:HL}(h:Pre a b){i:Nat}{o:HO}(hi:a[i]? = some o):b[i]? = some o:=by
 obtain⟨G,rfl⟩:=h
 have:i<a.length:=by
  rcases qaz i a.length with h|h
  ·exact h
  ·rw[qaf h]at hi;cases hi
 rw[qag this];exact hi
theorem Pre.set{a b:HL}(h:Pre a b){i:Nat}(hi:a.length<=i)(o:HO):Pre a (b.set i o):=by
 obtain⟨G,rfl⟩:=h
 rw[qch _ _ hi]
 exact⟨_,rfl⟩
def Ptr(h:HL)(p:Value)(cs:List Value):Prop:=∃id o vs e rw,p = .pointer (some ⟨id,o,none⟩)/\h[id]? = some (.o (.cells vs e rw))/\cut vs o cs.length=some cs
def SlC(h:HL)(v:Value)(e n:Nat)(cs:List Value):Prop:=
 cs.length=n*e/\((v = .slice none 0 0/\n=0)∨∃id off cx vs rw,v = .slice (some ⟨id,off,tag e⟩) n cx/\h[id]? = some (.o (.cells vs e rw))/\cut vs off (n*e)=some cs)
def LsH{α:Type}(h:HL)(v:Value)(e:Nat)(enc:α->List Value)(l:List α):Prop:=(∀a∈l,(enc a).length=e)/\SlC h v e l.length (l.flatMap enc)
def Mk(n0:Nat)(h:HL)(v:Value)(e n:Nat)(cs:List Value):Prop:=
 cs.length=n*e/\((v = .slice none 0 0/\n=0)∨∃id,n0<=id/\v = .slice (some ⟨id,0,tag e⟩) n 0/\h[id]? = some (.o (.cells cs e true)))
def MkL{α:Type}(n0:Nat)(h:HL)(v:Value)(e:Nat)(enc:α->List Value)(l:List α):Prop:=(∀a∈l,(enc a).length=e)/\Mk n0 h v e l.length (l.flatMap enc)
def blk:Value->Option Nat
 | .slice (some a) _ _=>some a.block
 |_=>none
theorem Ptr.keep{h h':HL}{p:Value}{cs:List Value}(hp:Ptr h p cs)(hk:∀(j:Nat) o,h[j]? = some o->h'[j]? = some o):Ptr h' p cs:=by
 obtain⟨id,o,vs,e,rw',h1,h2,h3⟩:=hp
 exact⟨id,o,vs,e,rw',h1,hk _ _ h2,h3⟩
theorem SlC.keep{h h':HL}{v:Value}{e n:Nat}{cs:List Value}(hs:SlC h v e n cs)(hk:∀(j:Nat) o,h[j]? = some o->blk v=some j->h'[j]? = some o):SlC h' v e n cs:=by
 obtain⟨h0,h1|⟨id,off,cx,vs,rw',rfl,h2,h3⟩⟩:=hs
 ·exact⟨h0,.inl h1⟩
 ·exact⟨h0,.inr ⟨id,off,cx,vs,rw',rfl,hk _ _ h2 rfl,h3⟩⟩
theorem SlC.pre{h h':HL}{v:Value}{e n:Nat}{cs:List Value}(hs:SlC h v e n cs)(hp:Pre h h'):SlC h' v e n cs:=hs.keep λ_ _ h _=>hp.get h
theorem LsH.keep{α:Type}{h h':HL}{v:Value}{e:Nat}{enc:α->List Value}{l:List α}(hs:LsH h v e enc l)(hk:∀(j:Nat) o,h[j]? = some o->blk v=some j->h'[j]? = some o):LsH h' v e enc l:=⟨hs.1,hs.2.keep hk⟩
theorem LsH.pre{α:Type}{h h':HL}{v:Value}{e:Nat}{enc:α->List Value}{l:List α}(hs:LsH h v e enc l)(hp:Pre h h'):LsH h' v e enc l:=⟨hs.1,hs.2.pre hp⟩
theorem SlC.len{h:HL}{v:Value}{e n:Nat}{cs:List Value}(hs:SlC h v e n cs):lenS v=some (.ofNat n):=by
 obtain⟨_,⟨rfl,rfl⟩|⟨id,off,cx,vs,rw',rfl,_⟩⟩:=hs<;>rfl
theorem LsH.len{α:Type}{h:HL}{v:Value}{e:Nat}{enc:α->List Value}{l:List α}(hs:LsH h v e enc l):lenS v=some (.ofNat l.length):=hs.2.len
theorem Mk.sl{n0:Nat}{h:HL}{v:Value}{e n:Nat}{cs:List Value}(hs:Mk n0 h v e n cs):SlC h v e n cs:=by
 obtain⟨h0,h1|⟨id,_,rfl,h2⟩⟩:=hs
 ·exact⟨h0,.inl h1⟩
 ·exact⟨h0,.inr ⟨id,0,0,cs,true,rfl,h2,cut_all h0⟩⟩
theorem MkL.ls{α:Type}{n0:Nat}{h:HL}{v:Value}{e:Nat}{enc:α->List Value}{l:List α}(hs:MkL n0 h v e enc l):LsH h v e enc l:=⟨hs.1,hs.2.sl⟩
theorem Mk.nil(n0:Nat)(h:HL)(e:Nat):Mk n0 h (.slice none 0 0) e 0 []:=⟨by simp,.inl ⟨rfl,rfl⟩⟩
theorem MkL.nil{α:Type}(n0:Nat)(h:HL)(e:Nat)(enc:α->List Value):MkL n0 h (.slice none 0 0) e enc []:=⟨by simp,Mk.nil n0 h e⟩
theorem LsH.nil{α:Type}(h:HL)(e:Nat)(enc:α->List Value):LsH h (.slice none 0 0) e enc []:=(MkL.nil 0 h e enc).ls
theorem Mk.keep{n0:Nat}{h h':HL}{v:Value}{e n:Nat}{cs:List Value}(hs:Mk n0 h v e n cs)(hk:∀(j:Nat) o,h[j]? = some o->blk v=some j->h'[j]? = some o):Mk n0 h' v e n cs:=by
 obtain⟨h0,h1|⟨id,h1,rfl,h2⟩⟩:=hs
 ·exact⟨h0,.inl h1⟩
 ·exact⟨h0,.inr ⟨id,h1,rfl,hk _ _ h2 rfl⟩⟩
theorem Mk.pre{n0:Nat}{h h':HL}{v:Value}{e n:Nat}{cs:List Value}(hs:Mk n0 h v e n cs)(hp:Pre h h'):Mk n0 h' v e n cs:=hs.keep λ_ _ h _=>hp.get h
theorem MkL.keep{α:Type}{n0:Nat}{h h':HL}{v:Value}{e:Nat}{enc:α->List Value}{l:List α}(hs:MkL n0 h v e enc l)(hk:∀(j:Nat) o,h[j]? = some o->blk v=some j->h'[j]? = some o):MkL n0 h' v e enc l:=⟨hs.1,hs.2.keep hk⟩
theorem MkL.pre{α:Type}{n0:Nat}{h h':HL}{v:Value}{e:Nat}{enc:α->List Value}{l:List α}(hs:MkL n0 h v e enc l)(hp:Pre h h'):MkL n0 h' v e enc l:=⟨hs.1,hs.2.pre hp⟩
theorem em{α:Type}{e:Nat}{enc:α->List Value}:∀ {l:List α},(∀a∈l,(enc a).length=e)->(l.flatMap enc).length=l.length*e
 | [],_=>by simp
 |a :: l,h=>by
  rw[qbt,qaw,h a qaM,em λb hb=>h b (qas _ hb),qaW,qa0,qbE,qcC]
theorem lM{α:Type}{e:Nat}{enc:α->List Value}:∀ {l:List α},(∀a∈l,(enc a).length=e)->∀ {i:Nat} {a:α},l[i]? = some a->((l.flatMap enc).drop (i*e)).take e=enc a
 |b :: l,h,0,a,hi=>by
  simp only[qa1,qam]at hi
  subst hi
  have:=h b qaM
  rw[qbl,qbb,qbt,List.take_append_of_le_length (by omega),qaO (by omega)]
 |b :: l,h,i+1,a,hi=>by
  simp only[qbR]at hi
  have hb:=h b qaM
  have:=lM (λb hb=>h b (qas _ hb)) hi
  rw[qbt,qa0,qbE,←this]
  have e1:i*e+e=(enc b).length+i*e:=by omega
  rw[e1,qck,qaC (by omega),qbg,qce]
 | [],_,_,_,hi=>by simp at hi
theorem SlC.at{h:HL}{v:Value}{e n:Nat}{cs:List Value}(hs:SlC h v e n cs){i:Nat}(hi:i<n):∃p,idS e v (.ofNat i)=some p/\Ptr h p ((cs.drop (i*e)).take e):=by
 obtain⟨h0,⟨rfl,rfl⟩|⟨id,off,cx,vs,rw',rfl,h2,h3⟩⟩:=hs
 ·omega
 ·have hle:i*e+e<=n*e:=by
   have:=qaG e (show i+1<=n by omega)
   rw[qa0,qbE]at this;exact this
  refine⟨.pointer (some ⟨id,off+i*e,none⟩),?_,id,off+i*e,vs,e,rw',rfl,h2,?_⟩
  ·rw[idS_eq]
   have hh:0<=Int.ofNat i/\Int.ofNat i<(n:Int):=⟨qbX i,by show(i:Int)<n;omega⟩
   simp only[if_pos hh]
   have:¬(tag e=some 1):=by simp[tag]
   simp only[if_neg this]
   rfl
  ·have hc:=cut_cut h3 hle
   have hl:=cut_len hc
   rw[hl];exact hc
theorem LsH.at{α:Type}{h:HL}{v:Value}{e:Nat}{enc:α->List Value}{l:List α}(hs:LsH h v e enc l){i:Nat}{a:α}(hi:l[i]? = some a):∃p,idS e v (.ofNat i)=some p/\Ptr h p (enc a):=by
 have hlt:i<l.length:=by
  rcases qaz i l.length with h|h
  ·exact h
  ·rw[qaf h]at hi;cases hi
 obtain⟨p,h1,h2⟩:=hs.2.at hlt
 rw[lM hs.1 hi]at h2
 exact⟨p,h1,h2⟩
theorem Ptr.fd{h:HL}{p:Value}{cs:List Value}(hp:Ptr h p cs)(o k:Nat)(hk:o+k<=cs.length):∃p',fdP o p=some p'/\Ptr h p' ((cs.drop o).take k):=by
 obtain⟨id,o',vs,e,rw',rfl,h2,h3⟩:=hp
 refine⟨_,rfl,id,o'+o,vs,e,rw',rfl,h2,?_⟩
 have hc:=cut_cut h3 hk
 rw[cut_len hc];exact hc
section
variable [Val] [Kno]
theorem dG{T:Nat->Site}{h:HL}{i:Nat}{o:HObj}(hi:h[i]? = some (.o o)):getH T h i=some o:=by
 unfold getH;rw[hi];rfl
theorem Ptr.ld{T:Nat->Site}{h:HL}{p:Value}{cs:List Value}(hp:Ptr h p cs){n:Nat}(hn:cs.length=n):(Pk.ld n p).run (getH T h)=some cs:=by
 obtain⟨id,o,vs,e,rw',rfl,h2,h3⟩:=hp
 subst hn
 show(match (none:Option Nat)with|none=>(eN (getH T h) id).bind λvs=>cut vs o cs.length|some _=>none)=_
 unfold eN
 rw[dG h2]
 exact h3
theorem Ptr.lg{C:Cfg}{T:Nat->Site}{h:HL}{p:Value}{cs:List Value}(hp:Ptr h p cs){n:Nat}(hn:cs.length=n):(Pk.lg C n p).run (getH T h)=some cs:=by
 obtain⟨id,o,vs,e,rw',rfl,h2,h3⟩:=hp
 subst hn
 show(eN (getH T h) id).bind (λvs=>cut vs o cs.length)=_
 unfold eN
 rw[dG h2]
 exact h3
theorem slG_sl{C:Cfg}{T:Nat->Site}{h:HL}{v:Value}{e n:Nat}{cs:List Value}(hs:SlC h v e n cs):slG C e (getH T h) v=some (cs,n):=by
 obtain⟨h0,⟨rfl,rfl⟩|⟨id,off,cx,vs,rw',rfl,h2,h3⟩⟩:=hs
 ·simp only[qbl,qbj]at h0
  subst h0;rfl
 ·unfold slG
  have:¬(tag e=some 1):=by simp[tag]
  simp only[if_neg this,if_true]
  rw[dG h2]
  simp only[if_true]
  rw[h3];rfl
variable {C:Cfg} {Sg:FuncId->Option Sig} {T:Nat->Site}
theorem ap_mk{n0:Nat}{h0 h:HL}{v x:Value}{e n k bytes:Nat}{cs new:List Value}(hp:Pre h0 h)(h0n:h0.length=n0)(hm:Mk n0 h v e n cs)(hx:SlC h x e k new)(hs:bP (n+k) bytes=true) :
  ∃acts v',(Hp.ap C e bytes v x).run (getH T h) h.length=some (acts,[v'])/\Pre h0 (bO h acts)/\Mk n0 (bO h acts) v' e (n+k) (cs++new)/\
   (∀(j:Nat) o,h[j]? = some o->blk v≠some j->(bO h acts)[j]? = some o)/\(blk v'=blk v∨blk v'=none∨∃j,blk v'=some j/\h.length<=j):=by
 obtain⟨c0,hm⟩:=hm
 have c1:=hx.1
 have c3:(cs++new).length=(n+k)*e:=by rw[qaw,c0,c1,qa0]
 have hslg:=slG_sl (C:=C) (T:=T) hx
 rcases hm with⟨rfl,rfl⟩|⟨id,hid,rfl,hg⟩
 ·simp only[qbl,qbj]at c0
  subst c0
  by_cases hk:k=0
  ·subst hk
   simp only[qbl,qbj]at c1
   subst c1
   refine⟨[],.slice none 0 0,?_,hp,Mk.nil _ _ _,λj o hj _=>hj,.inl rfl⟩
   show apG C e bytes (.slice none 0 0) x (getH T h) h.length=_
   unfold apG
   rw[hslg]
   rfl
  ·refine⟨[.push (.cells new e true)],.slice (some ⟨h.length,0,tag e⟩) k 0,?_,hp.app _,?_,λj o hj _=>?_,.inr (.inr ⟨h.length,rfl,qaA _⟩)⟩
   ·show apG C e bytes (.slice none 0 0) x (getH T h) h.length=_
    unfold apG
    rw[hslg]
    simp only[if_neg hk]
    rw[qaJ]at hs
    rw[if_pos hs]
   ·rw[qaJ,qbg]
    refine⟨by simpa using c1,.inr ⟨h.length,by have:=hp.len;omega,rfl,?_⟩⟩
    simp[bO,Act1.onH]
   ·exact Pre.get ⟨_,rfl⟩ hj
 ·by_cases hk:k=0
  ·subst hk
   simp only[qbl,qbj]at c1
   subst c1
   refine⟨[],.slice (some ⟨id,0,tag e⟩) n 0,?_,hp,⟨c3,.inr ⟨id,hid,rfl,by simpa[bO]using hg⟩⟩,λj o hj _=>hj,.inl rfl⟩
   show apG C e bytes (.slice (some ⟨id,0,tag e⟩) n 0) x (getH T h) h.length=_
   unfold apG
   rw[hslg]
   simp only[ne_eq,not_true_eq_false,if_false]
   rw[dG hg]
   simp only[ne_eq,not_true_eq_false,if_false]
   rw[cut_all c0]
   rfl
  ·have hlt:id<h.length:=by
    rcases qaz id h.length with h1|h1
    ·exact h1
    ·rw[qaf h1]at hg;cases hg
   refine⟨[.set id .dead,.push (.cells (cs++new) e true)],.slice (some ⟨h.length,0,tag e⟩) (n+k) 0,?_,?_,?_,λj o hj hb=>?_,.inr (.inr ⟨h.length,rfl,qaA _⟩)⟩
   ·show apG C e bytes (.slice (some ⟨id,0,tag e⟩) n 0) x (getH T h) h.length=_
    unfold apG
    rw[hslg]
    simp only[ne_eq,not_true_eq_false,if_false]
    rw[dG hg]
    simp only[ne_eq,not_true_eq_false,if_false]
    rw[cut_all c0]
    simp only[if_neg hk,qcW]
    rw[if_pos hs]
   ·exact(hp.set (by omega) _).app _
   ·refine⟨c3,.inr ⟨h.length,by have:=hp.len;omega,rfl,?_⟩⟩
    simp[bO,Act1.onH]
   ·have hne:id≠j:=λhh=>hb (by subst hh;rfl)
    refine Pre.get (a:=h.set id (.o .dead)) ⟨_,rfl⟩ ?_
    rw[qaE hne];exact hj
theorem blk_lt{n0:Nat}{h:HL}{v:Value}{e n:Nat}{cs:List Value}(hm:Mk n0 h v e n cs){j:Nat}(hb:blk v=some j):n0<=j/\j<h.length:=by
 obtain⟨_,⟨rfl,_⟩|⟨id,h1,rfl,hg⟩⟩:=hm
 ·cases hb
 ·cases hb
  refine⟨h1,?_⟩
  rcases qaz id h.length with h2|h2
  ·exact h2
  ·rw[qaf h2]at hg;cases hg
theorem p_app1{α:Type}{h0 h:HL}{v:Value}{e bytes:Nat}{enc:α->List Value}{l:List α}{a:α}{K:List Value->HL->Prop}{new:List Value}{m:Nat}{sp:Option Nat}(hp:Pre h0 h)(hm:MkL h0.length h v e enc l)(hn:new=enc a)(hl:(enc a).length=e)(hmm:m=h.length)(hsp:sp=some (e+10))
  (hs:bP (l.length+1) bytes=true)
  (hk:∀v' h',Pre h0 h'->MkL h0.length h' v' e enc (l++[a])->bk v'=true->(∀(j:Nat) o,h[j]? = some o->blk v≠some j->h'[j]? = some o)->(blk v'=blk v∨∃j,blk v'=some j/\h.length<=j)->K [v'] h') :
  (PH C Sg T).heap (.ap C e bytes v (.slice (some ⟨m,0,sp⟩) 1 2)) (h++[.o (.cells new e true)]) (@hid _ ⟨K⟩):=by
 subst hn hmm hsp
 have hx:SlC (h++[HO.o (.cells (enc a) e true)]) (.slice (some ⟨h.length,0,tag e⟩) 1 2) e 1 (enc a):=by
  refine⟨by omega,.inr ⟨h.length,0,2,enc a,true,rfl,by simp,cut_all (by omega)⟩⟩
 have hm':Mk h0.length (h++[HO.o (.cells (enc a) e true)]) v e l.length (l.flatMap enc):=hm.2.pre ⟨_,rfl⟩
 obtain⟨acts,v',a1,a2,a3,a4,a5⟩:=ap_mk (C:=C) (T:=T) (hp.app [HO.o (.cells (enc a) e true)]) rfl hm' hx hs
 refine jr a1 (hk v' _ a2 ⟨?_,?_⟩ ?_ ?_ ?_)
 ·intro b hb
  rcases qax.1 hb with hb|hb
  ·exact hm.1 b hb
  ·simp only[qat]at hb;subst hb;exact hl
 ·rw[List.flatMap_append,qaw]
  simpa using a3
 ·obtain⟨_,⟨rfl,_⟩|⟨id,_,rfl,_⟩⟩:=a3
  ·rfl
  ·simp[bk,noLoc,aR,bL,bb,aQ,az,tag]
 ·intro j o hj hb
  exact a4 j o (Pre.get ⟨_,rfl⟩ hj) hb
 ·rcases a5 with h1|h1|⟨j,h1,h2⟩
  ·exact .inl h1
  ·obtain⟨q1,⟨_,q2⟩|⟨id,_,rfl,_⟩⟩:=a3
   ·omega
   ·cases h1
  ·exact .inr ⟨j,h1,by simp at h2;omega⟩
end
end Sx
end Go.Am

/-
 RULES FOR LOOPS AND SLICES.
-/
set_option maxRecDepth 100000
namespace Go.Am
namespace Sx
theorem Ptr.good{h:HL}{p:Value}{cs:List Value}(hp:Ptr h p cs):bk p=true:=by
 obtain⟨id,o,vs,e,rw',rfl,_⟩:=hp
 simp[bk,noLoc,aR,bL,bb,aQ,az]
theorem SlC.good{h:HL}{v:Value}{e n:Nat}{cs:List Value}(hs:SlC h v e n cs):bk v=true:=by
 obtain⟨_,⟨rfl,_⟩|⟨id,off,cx,vs,rw',rfl,_⟩⟩:=hs
 ·rfl
 ·simp[bk,noLoc,aR,bL,bb,aQ,az,tag]
theorem LsH.good{α:Type}{h:HL}{v:Value}{e:Nat}{enc:α->List Value}{l:List α}(hs:LsH h v e enc l):bk v=true:=hs.2.good
section
variable [Val] [Kno] {C:Cfg} {Sg:FuncId->Option Sig} {T:Nat->Site}
theorem hidL{F:(List Lf->HL->Prop)->List Lf->HL->Prop}{s:List Lf->HL->Prop}{l:List Lf}{h:HL}(hf:F s l h):@hid _ ⟨F⟩ s l h:=hf
theorem nq{σ:Type}{F:(List Lf->HL->Prop)->List Lf->HL->Prop}(n:Nat)(S:Nat->σ->List Lf)(HP:Nat->σ->HL)(Inv:Nat->σ->Prop){j0:Nat}{s0:σ}{ls:List Lf}{h:HL}(hls:ls=S j0 s0)(hh:h=HP j0 s0)(hj:j0<=n)(hi:Inv j0 s0)
  (step:∀j s,j<=n->Inv j s->∀self:List Lf->HL->Prop,(∀s',j<n->Inv (j+1) s'->self (S (j+1) s') (HP (j+1) s'))->F self (S j s) (HP j s)):(PH C Sg T).loop (@hid _ ⟨F⟩) ls h:=by
 subst hls hh
 refine sB (m:=n - j0) (λm ls h=>∃j s,ls=S j s/\h=HP j s/\j<=n/\m=n - j/\Inv j s) ⟨j0,s0,rfl,rfl,hj,rfl,hi⟩ ?_
 rintro m ls h ⟨j,s,rfl,rfl,hj,rfl,hi⟩ self hself
 exact hidL (step j s hj hi self λs' hlt hi'=>hself (n - (j+1)) _ _ (by omega) ⟨j+1,s',rfl,rfl,by omega,rfl,hi'⟩)
theorem np{F:(List Lf->HL->Prop)->List Lf->HL->Prop}(n:Nat)(Inv:Nat->Prop){j0:Nat}{h:HL}{ls:List Lf}(hls:ls=[.i (Int.ofNat j0)])(hj:j0<=n)(hi:Inv j0)
  (step:∀j,j<=n->Inv j->∀self:List Lf->HL->Prop,(j<n->Inv (j+1)->self [.i (Int.ofNat j+1)] h)->F self [.i (Int.ofNat j)] h):(PH C Sg T).loop (@hid _ ⟨F⟩) ls h:=
 nq (σ:=Unit) n (λj _=>[.i (Int.ofNat j)]) (λ_ _=>h) (λj _=>Inv j) (s0:=()) hls rfl hj hi λj _ hj hi self hs=>step j hj hi self (λa b=>hs () a b)
theorem bW{α:Type}{h:HL}{v:Value}{e:Nat}{enc:α->List Value}{l:List α}{K:Int->Prop}(hs:LsH h v e enc l)(hk:K (Int.ofNat l.length)):(PH C Sg T).opt (lenS v) (@hid _ ⟨K⟩):=dM hs.len hk
theorem iX{α:Type}{h:HL}{v:Value}{e:Nat}{enc:α->List Value}{l:List α}{i:Nat}{a:α}{n:Int}{K:List Value->Prop}(hs:LsH h v e enc l)(hn:n=Int.ofNat i)(hi:l[i]? = some a)(hk:K (enc a)) :
  (PH C Sg T).opt (idS e v n) (@hid _ ⟨λx=>(PH C Sg T).peek (.lg C e x) h (@hid _ ⟨K⟩)⟩):=by
 subst hn
 obtain⟨p,h1,h2⟩:=hs.at hi
 exact dM h1 (js (h2.lg (hs.1 a (qar hi))) hk)
theorem r_fld{α:Type}{h:HL}{v:Value}{e:Nat}{enc:α->List Value}{l:List α}{i:Nat}{a:α}{n:Int}{o k:Nat}{cs:List Value}{K:List Value->Prop}(hs:LsH h v e enc l)(hn:n=Int.ofNat i)(hi:l[i]? = some a)(hcs:cs=((enc a).drop o).take k)(hok:o+k<=e)(hk:K cs) :
  (PH C Sg T).opt (idS e v n) (@hid _ ⟨λx=>(PH C Sg T).opt (fdP o x) (@hid _ ⟨λy=>(PH C Sg T).chk y (@hid _ ⟨(PH C Sg T).peek (.lg C k y) h (@hid _ ⟨K⟩)⟩)⟩)⟩):=by
 subst hn hcs
 obtain⟨p,h1,h2⟩:=hs.at hi
 have he:=hs.1 a (qar hi)
 have hok:o+k<=(enc a).length:=by omega
 have hlen:(((enc a).drop o).take k).length=k:=by rw[qbo,qbF];omega
 obtain⟨q,h3,h4⟩:=h2.fd o k hok
 refine dM h1 (dM h3 ?_)
 show bk q=true/\_
 exact⟨h4.good,js (h4.lg hlen) hk⟩
end
end Sx
end Go.Am

/-
 RULES FOR NUMBERS THAT COUNT.
-/
set_option maxRecDepth 100000
namespace Go.Am
namespace Sx
section
variable [Val] [Kno] {C:Cfg} {Sg:FuncId->Option Sig} {T:Nat->Site}
theorem qb{j:Nat}{K:Int->Prop}(h:j<=4294967296):(PH C Sg T).ari .add .i64 (Int.ofNat j) 1 (@hid _ ⟨K⟩)=K (Int.ofNat j+1):=
 p_add (by show -9223372036854775808<=(j:Int)+1;omega) (by show(j:Int)+1<=9223372036854775807;omega)
theorem cF{j n:Nat}{K:Bool->Prop}(h:j<n):(PH C Sg T).cmp .lss (Int.ofNat j) (Int.ofNat n) (@hid _ ⟨K⟩)=K true:=p_lss_t (by show(j:Int)<n;omega)
theorem cE{j n:Nat}{K:Bool->Prop}(h:n<=j):(PH C Sg T).cmp .lss (Int.ofNat j) (Int.ofNat n) (@hid _ ⟨K⟩)=K false:=p_lss_f (by show(n:Int)<=j;omega)
end
theorem aZ{α:Type}{l:List α}{i:Nat}{a:α}(h:l[i]? = some a):i<l.length:=by
 rcases qaz i l.length with h1|h1
 ·exact h1
 ·rw[qaf h1]at h;cases h
theorem dU{α:Type}{l:List α}{i:Nat}(h:i<l.length):∃a,l[i]? = some a:=⟨_,qaj h⟩
end Sx
end Go.Am

/-
 STORES INTO LISTS: a block that holds a list of elements,one of them written.
-/
namespace Go.Am
namespace Sx
section
variable [Val] [Kno]
variable {C:Cfg} {Sg:FuncId->Option Sig} {T:Nat->Site} {α:Type}
def putE(h:HL)(id e:Nat)(enc:α->List Value)(l:List α):HL:=h.set id (.o (.cells (l.flatMap enc) e true))
theorem rC{h:HL}{id e:Nat}{enc:α->List Value}{l:List α}(hlt:id<h.length):(putE h id e enc l)[id]? = some (.o (.cells (l.flatMap enc) e true)):=by
 unfold putE
 rw[qbf hlt]
theorem putE_put{h:HL}{id e:Nat}{enc:α->List Value}{l l':List α}:(putE h id e enc l).set id (.o (.cells (l'.flatMap enc) e true))=putE h id e enc l':=by
 unfold putE
 rw[List.set_set]
theorem putE_ls{h:HL}{id e cx:Nat}{enc:α->List Value}(henc:∀a,(enc a).length=e){l:List α}(hlt:id<h.length):LsH (putE h id e enc l) (.slice (some ⟨id,0,tag e⟩) l.length cx) e enc l:=by
 have hl:=em (e:=e) (enc:=enc) (l:=l) λa _=>henc a
 exact⟨λa _=>henc a,hl,.inr ⟨id,0,cx,_,true,rfl,rC hlt,cut_all hl⟩⟩
theorem jT{e:Nat}{enc:α->List Value}(henc:∀a,(enc a).length=e):∀ {l:List α} {i:Nat} (a:α),i<l.length->(l.flatMap enc).take (i*e)++enc a++(l.flatMap enc).drop (i*e+e)=(l.set i a).flatMap enc
 | [],_,_,h=>by simp at h
 |b :: l,0,a,_=>by
  have hb:=henc b
  simp only[qbl,qcV,qbg,qaJ,List.set_cons_zero,qbt]
  rw[qck,qaC (by omega),qbg,show e - (enc b).length=0 by omega,qbb]
 |b :: l,i+1,a,h=>by
  have hb:=henc b
  have ih:=jT henc (l:=l) (i:=i) a (by simpa using h)
  simp only[List.set_cons_succ,qbt]
  rw[←ih,qa0,qbE,List.take_append,qck]
  rw[qaO (by omega),qaC (by omega),qbg]
  rw[show i*e+e - (enc b).length=i*e by omega,show i*e+e+e - (enc b).length=i*e+e by omega]
  simp[qay]
theorem r_set{h:HL}{id e cx len:Nat}{enc:α->List Value}(henc:∀a,(enc a).length=e){l:List α}{i:Nat}{a:α}{n:Int}{new:List Value}{K:List Value->HL->Prop}(hlt:id<h.length)(hn:n=Int.ofNat i)(hi:i<l.length)(hlen:l.length=len)(hnew:new=enc a)
  (hk:K [] (putE h id e enc (l.set i a))):(PH C Sg T).opt (idS e (.slice (some ⟨id,0,tag e⟩) len cx) n) (@hid _ ⟨λx=>(PH C Sg T).heap (.st x new) (putE h id e enc l) (@hid _ ⟨K⟩)⟩):=by
 subst hn hlen hnew
 have hx:idS e (.slice (some ⟨id,0,tag e⟩) l.length cx) (Int.ofNat i)=some (.pointer (some ⟨id,i*e,none⟩)):=by
  rw[idS_eq]
  have hh:0<=Int.ofNat i/\Int.ofNat i<(l.length:Int):=⟨qbX i,by show(i:Int)<l.length;omega⟩
  simp only[if_pos hh]
  have:¬(tag e=some 1):=by simp[tag]
  simp only[if_neg this,qaJ]
  rfl
 refine dM hx ?_
 have hl:=em (e:=e) (enc:=enc) (l:=l) λa _=>henc a
 have hle:i*e+e<=l.length*e:=by
  have:=qaG e (show i+1<=l.length by omega)
  rw[qa0,qbE]at this;exact this
 have hrun:(Hp.st (.pointer (some ⟨id,i*e,none⟩)) (enc a)).run (getH T (putE h id e enc l)) (putE h id e enc l).length=some ([.set id (.cells ((l.set i a).flatMap enc) e true)],[]):=by
  show stP (.pointer (some ⟨id,i*e,none⟩)) (enc a) (getH T (putE h id e enc l)) (putE h id e enc l).length=_
  unfold stP
  simp only
  rw[dG (rC hlt)]
  simp only
  unfold splice
  rw[henc a,hl,if_pos hle,jT henc a hi]
  rfl
 refine jr hrun ?_
 show K [] (bO _ _)
 have:bO (putE h id e enc l) [.set id (.cells ((l.set i a).flatMap enc) e true)]=putE h id e enc (l.set i a):=putE_put
 rw[this]
 exact hk
end
end Sx
end Go.Am

/-
 LISTS THAT ARE MADE AND FILLED: a block of zeros behind the heap,written element by element.
-/
namespace Go.Am
namespace Sx
section
variable [Val] [Kno]
variable {C:Cfg} {Sg:FuncId->Option Sig} {T:Nat->Site} {α:Type}
def newE(h:HL)(e:Nat)(enc:α->List Value)(l:List α):HL:=h++[.o (.cells (l.flatMap enc) e true)]
theorem newE_put{h:HL}{e:Nat}{enc:α->List Value}{l:List α}:putE (h++[.o .dead]) h.length e enc l=newE h e enc l:=by
 unfold putE newE
 rw[qch _ _ (qaA _),qbA];rfl
theorem newE_ls{h:HL}{e cx:Nat}{enc:α->List Value}(henc:∀a,(enc a).length=e){l:List α}{n:Nat}(hn:n=l.length):LsH (newE h e enc l) (.slice (some ⟨h.length,0,tag e⟩) n cx) e enc l:=by
 subst hn
 rw[←newE_put]
 exact putE_ls henc (by simp)
end
end Sx
end Go.Am

/-
 LISTS THAT ARE FILLED,II: a part of an element is written;a list is copied.
-/
namespace Go.Am
namespace Sx
section
variable [Val] [Kno]
variable {C:Cfg} {Sg:FuncId->Option Sig} {T:Nat->Site} {α:Type}
theorem kO{l:List α}{i:Nat}{a:α}(h:l[i]? = some a):l.set i a=l:=by
 apply qaV
 intro k
 by_cases hk:i=k
 ·subst hk
  rw[qbf (aZ h),h]
 ·rw[qaE hk]
end
end Sx
end Go.Am

/-
 STATES COMPARED: numbers and lists of numbers.
-/
set_option maxRecDepth 100000
set_option maxHeartbeats 4000000
namespace Go.Am
open Sx Go.Proofs
def cmpI(a b:Int):Int:=if a<b then -1 else if b<a then 1 else 0
def lexI:List Int->List Int->Int
 | [],[]=>0
 | [],_ :: _=>-1
 |_ :: _,[]=>1
 |a :: l,b :: m=>if cmpI a b=0 then lexI l m else cmpI a b
def orI:List Int->Int
 | []=>0
 |a :: l=>if a=0 then orI l else a
theorem cmpI_neg(a b:Int):cmpI b a = -cmpI a b:=by
 unfold cmpI
 repeat' split
 all_goals omega
theorem cmpI_rng(a b:Int):cmpI a b = -1∨cmpI a b=0∨cmpI a b=1:=by
 unfold cmpI
 repeat' split
 all_goals omega
theorem qV:∀l m:List Int,lexI m l = -lexI l m
 | [],[]=>rfl
 | [],_ :: _=>rfl
 |_ :: _,[]=>rfl
 |a :: l,b :: m=>by
  simp only[lexI]
  rw[cmpI_neg a b,qV l m]
  by_cases h:cmpI a b=0
  ·rw[h];rfl
  ·rw[if_neg h,if_neg (by omega)]
theorem qW:∀l m:List Int,lexI l m = -1∨lexI l m=0∨lexI l m=1
 | [],[]=>.inr (.inl rfl)
 | [],_ :: _=>.inl rfl
 |_ :: _,[]=>.inr (.inr rfl)
 |a :: l,b :: m=>by
  simp only[lexI]
  split
  ·exact qW l m
  ·exact cmpI_rng a b
theorem oQ{l m:List Int}{j:Nat}{a b:Int}(ha:l[j]? = some a)(hb:m[j]? = some b):lexI (l.drop j) (m.drop j)=if cmpI a b=0 then lexI (l.drop (j+1)) (m.drop (j+1))else cmpI a b:=by
 rw[qaq (aZ ha),qaq (aZ hb)]
 have h1:l[j]'(aZ ha)=a:=by rw[qaj (aZ ha)]at ha;exact qai ha
 have h2:m[j]'(aZ hb)=b:=by rw[qaj (aZ hb)]at hb;exact qai hb
 rw[h1,h2]
 rfl
def encI(n:Int):List Value:=[.int .i64 n]
theorem fm(n:Int):(encI n).length=1:=rfl
def encQ(p:Int×Int):List Value:=[.int .i64 p.1,.int .i64 p.2]
theorem encQ_len(p:Int×Int):(encQ p).length=2:=rfl
theorem nan_c(a:Int):Cc 31 [.i a] [.b false]:=by
 refine q31 rfl ?_;unfold f31;simp only[qxh]
 simp(disch:=omega)only[↓qXX]
theorem cmp_c(a b:Int):Cc 20 [.i a,.i b] [.i (cmpI a b)]:=by
 refine q20 rfl ?_;unfold f20;simp only[qxh]
 simp(disch:=omega)only[↓qXX]
 refine dY (nan_c a) ?_
 simp(disch:=omega)only[↓qXX]
 refine dY (nan_c b) ?_
 simp(disch:=omega)only[↓qXX]
 unfold cmpI
 by_cases h1:a<b
 ·simp(disch:=omega)only[↓qXX]
  simp[h1]
 ·by_cases h2:b<a
  ·simp(disch:=omega)only[↓qXX]
   simp[h1,h2]
  ·simp(disch:=omega)only[↓qXX]
   simp[h1,h2]
theorem slc_c{h:HL}{x y:Value}{l m:List Int}(hl:LsH h x 1 encI l)(hm:LsH h y 1 encI m)(hb:l.length<=1000) :
  bG cc ab 15 [.v x,.v y] (absH ac h) [.i (lexI l m)] (absH ac h):=by
 obtain⟨rs,h',h1,rfl,rfl⟩:=x15 (K:=λrs h'=>rs=[.i (lexI l m)]/\h'=h) (H:=h) (glsV hl.good (glsV hm.good gls0)) (by
  unfold f15;simp only[qxh]
  simp(disch:=omega)only[↓qXX]
  refine bW hl ?_
  refine np l.length (λj=>j<=m.length/\lexI l m=lexI (l.drop j) (m.drop j)) (j0:=0) rfl (qaS _) ⟨qaS _,rfl⟩ ?_
  rintro j hj ⟨hjm,he⟩ self hself
  simp(disch:=omega)only[↓qXX]
  by_cases hlt:j<l.length
  ·rw[cF hlt]
   simp(disch:=omega)only[↓qXX]
   obtain⟨a,ha⟩:=dU hlt
   refine iX hl rfl ha ?_
   unfold encI
   simp(disch:=omega)only[↓qXX]
   refine bW hm ?_
   by_cases hlm:j<m.length
   ·rw[p_geq_f (by show(j:Int)<m.length;omega)]
    simp(disch:=omega)only[↓qXX]
    obtain⟨b,hb'⟩:=dU hlm
    refine iX hm rfl hb' ?_
    unfold encI
    simp(disch:=omega)only[↓qXX]
    refine dY (cmp_c a b) ?_
    simp(disch:=omega)only[↓qXX]
    rw[oQ ha hb']at he
    by_cases h0:cmpI a b=0
    ·rw[p_neq_f h0]
     simp(disch:=omega)only[↓qXX]
     rw[qb (by omega)]
     rw[if_pos h0]at he
     exact hself hlt ⟨by omega,he⟩
    ·rw[p_neq_t h0]
     simp(disch:=omega)only[↓qXX]
     rw[if_neg h0]at he
     exact⟨by rw[he],by trivial⟩
   ·rw[p_geq_t (by show(m.length:Int)<=j;omega)]
    simp(disch:=omega)only[↓qXX]
    refine⟨?_,by trivial⟩
    rw[he,qaC (show m.length<=j by omega),qaq hlt]
    rfl
  ·obtain rfl:j=l.length:=by omega
   rw[cE (qaA _)]
   simp(disch:=omega)only[↓qXX]
   refine bW hl ?_
   refine bW hm ?_
   rw[qb6]at he
   by_cases hlm:l.length<m.length
   ·rw[cF hlm]
    simp(disch:=omega)only[↓qXX]
    refine⟨?_,by trivial⟩
    rw[he,qaq hlm]
    rfl
   ·rw[cE (by omega)]
    simp(disch:=omega)only[↓qXX]
    refine⟨?_,by trivial⟩
    rw[he,qaC (by omega)]
    rfl)
 exact h1
theorem rm{l:List Int}{j:Nat}{a:Int}(ha:l[j]? = some a):orI (l.drop j)=if a=0 then orI (l.drop (j+1))else a:=by
 rw[qaq (aZ ha)]
 have h1:l[j]'(aZ ha)=a:=by rw[qaj (aZ ha)]at ha;exact qai ha
 rw[h1]
 rfl
theorem ord_c{h:HL}{x:Value}{l:List (Int×Int)}(hl:LsH h x 2 encQ l)(hb:l.length<=1000) :
  bG cc ab 19 [.v x] (absH ac h) [.i (orI (l.map λp=>cmpI p.1 p.2))] (absH ac h):=by
 obtain⟨rs,h',h1,rfl,rfl⟩:=x19 (K:=λrs h'=>rs=[.i (orI (l.map λp=>cmpI p.1 p.2))]/\h'=h) (H:=h) (glsV hl.good gls0) (by
  unfold f19;simp only[qxh]
  simp(disch:=omega)only[↓qXX]
  refine bW hl ?_
  refine np l.length (λj=>orI (l.map λp=>cmpI p.1 p.2)=orI ((l.map λp=>cmpI p.1 p.2).drop j)) (j0:=0) rfl (qaS _) rfl ?_
  intro j hj he self hself
  simp(disch:=omega)only[↓qXX]
  by_cases hlt:j<l.length
  ·rw[cF hlt]
   simp(disch:=omega)only[↓qXX]
   obtain⟨p,hp⟩:=dU hlt
   refine iX hl rfl hp ?_
   unfold encQ
   simp(disch:=omega)only[↓qXX]
   refine dY (cmp_c p.1 p.2) ?_
   simp(disch:=omega)only[↓qXX]
   rw[rm (a:=cmpI p.1 p.2) (by rw[qaF,hp];rfl)]at he
   by_cases h0:cmpI p.1 p.2=0
   ·rw[p_neq_f h0]
    simp(disch:=omega)only[↓qXX]
    rw[qb (by omega)]
    rw[if_pos h0]at he
    exact hself hlt he
   ·rw[p_neq_t h0]
    simp(disch:=omega)only[↓qXX]
    rw[if_neg h0]at he
    exact⟨by rw[he],by trivial⟩
  ·obtain rfl:j=l.length:=by omega
   rw[cE (qaA _)]
   simp(disch:=omega)only[↓qXX]
   refine⟨?_,by trivial⟩
   rw[he,qaC (by rw[qbB];exact qaA _)]
   rfl)
 exact h1
theorem or_c{h:HL}{x:Value}{l:List Int}(hl:LsH h x 1 encI l)(hb:l.length<=1000) :
  bG cc ab 13 [.v x] (absH ac h) [.i (orI l)] (absH ac h):=by
 obtain⟨rs,h',h1,rfl,rfl⟩:=x13 (K:=λrs h'=>rs=[.i (orI l)]/\h'=h) (H:=h) (glsV hl.good gls0) (by
  unfold f13;simp only[qxh]
  simp(disch:=omega)only[↓qXX]
  refine bW hl ?_
  refine np l.length (λj=>orI l=orI (l.drop j)) (j0:=0) rfl (qaS _) rfl ?_
  intro j hj he self hself
  simp(disch:=omega)only[↓qXX]
  by_cases hlt:j<l.length
  ·rw[cF hlt]
   simp(disch:=omega)only[↓qXX]
   obtain⟨a,ha⟩:=dU hlt
   refine iX hl rfl ha ?_
   unfold encI
   simp(disch:=omega)only[↓qXX]
   rw[rm ha]at he
   by_cases h0:a=0
   ·rw[p_neq_f h0]
    simp(disch:=omega)only[↓qXX]
    rw[qb (by omega)]
    rw[if_pos h0]at he
    exact hself hlt he
   ·rw[p_neq_t h0]
    simp(disch:=omega)only[↓qXX]
    rw[if_neg h0]at he
    exact⟨by rw[he],by trivial⟩
  ·obtain rfl:j=l.length:=by omega
   rw[cE (qaA _)]
   simp(disch:=omega)only[↓qXX]
   refine⟨?_,by trivial⟩
   rw[he,qb6]
   rfl)
 exact h1
theorem cell_c{x y q x' y' q':Int}(hq:0<=q/\q<=255)(hq':0<=q'/\q'<=255):Cc 14 [.i x,.i y,.i q,.i x',.i y',.i q'] [.i (orI [cmpI y y',cmpI x x',cmpI q q'])]:=by
 refine q14 rfl ?_;unfold f14;simp only[qxh]
 simp(disch:=omega)only[↓qXX]
 refine cH (h':=[]++[HO.o (.cells [.int .i64 y,.int .i64 y',.int .i64 x,.int .i64 x',.int .i64 q,.int .i64 q'] 2 true)]) (ord_c (l:=[(y,y'),(x,x'),(q,q')]) ?_ (by simp)) ?_
 ·exact newE_ls (h:=[]) (e:=2) (enc:=encQ) (l:=[(y,y'),(x,x'),(q,q')]) encQ_len (by rfl)
 ·simp(disch:=omega)only[↓qXX]
  rfl
end Go.Am

/-
 STATES COMPARED: stacks,and lists of stacks.
-/
set_option maxRecDepth 100000
set_option maxHeartbeats 8000000
namespace Go.Am
open Sx Go.Proofs
theorem nA{b:List Lf->HL->Prop}{m:(List Lf->HL->Prop)->Prop}(P:List Lf->HL->Prop)(h1:∀l h,P l h->b l h)(h2:∀j:List Lf->HL->Prop,(∀l h,P l h->j l h)->m j):P1.join (@hid _ ⟨b⟩) (@hid _ ⟨m⟩):=h2 _ h1
abbrev Stk:=(Int×Int×Int)×Value×List Int
def encS(s:Stk):List Value:=[.int .i64 s.1.1,.int .i64 s.1.2.1,.int .u8 s.1.2.2,s.2.1]
theorem qK(s:Stk):(encS s).length=4:=rfl
def SOk(h:HL)(s:Stk):Prop:=LsH h s.2.1 1 encI s.2.2/\(0<=s.1.2.2/\s.1.2.2<=255)/\s.2.2.length*8<=140737488351232
def StL(h:HL)(v:Value)(l:List Stk):Prop:=LsH h v 4 encS l/\∀s∈l,SOk h s
theorem SOk.pre{h h':HL}{s:Stk}(hs:SOk h s)(hp:Pre h h'):SOk h' s:=⟨hs.1.pre hp,hs.2⟩
theorem StL.pre{h h':HL}{v:Value}{l:List Stk}(hs:StL h v l)(hp:Pre h h'):StL h' v l:=⟨hs.1.pre hp,λs hm=>(hs.2 s hm).pre hp⟩
def keyS(s:Stk):List Int:=[s.1.2.1,s.1.1,s.1.2.2]++s.2.2
def cmpS(a b:Stk):Int:=lexI (keyS a) (keyS b)
theorem qD(a b:Stk):cmpS b a = -cmpS a b:=qV _ _
theorem cmpS_rng(a b:Stk):cmpS a b = -1∨cmpS a b=0∨cmpS a b=1:=qW _ _
theorem cmpS_or(a b:Stk):orI [orI [cmpI a.1.2.1 b.1.2.1,cmpI a.1.1 b.1.1,cmpI a.1.2.2 b.1.2.2],lexI a.2.2 b.2.2]=cmpS a b:=by
 unfold cmpS keyS
 simp only[qbD,qbg,lexI,orI]
 by_cases h1:cmpI a.1.2.1 b.1.2.1=0
 ·by_cases h2:cmpI a.1.1 b.1.1=0
  ·by_cases h3:cmpI a.1.2.2 b.1.2.2=0
   ·simp only[h1,h2,h3,if_true]
    split<;>simp_all
   ·simp[h1,h2,h3]
  ·simp[h1,h2]
 ·simp[h1]
def lexS:List Stk->List Stk->Int
 | [],[]=>0
 | [],_ :: _=>-1
 |_ :: _,[]=>1
 |a :: l,b :: m=>if cmpS a b=0 then lexS l m else cmpS a b
theorem gA:∀l m:List Stk,lexS m l = -lexS l m
 | [],[]=>rfl
 | [],_ :: _=>rfl
 |_ :: _,[]=>rfl
 |a :: l,b :: m=>by
  simp only[lexS]
  rw[qD a b,gA l m]
  by_cases h:cmpS a b=0
  ·rw[h];rfl
  ·rw[if_neg h,if_neg (by omega)]
theorem gC:∀l m:List Stk,lexS l m = -1∨lexS l m=0∨lexS l m=1
 | [],[]=>.inr (.inl rfl)
 | [],_ :: _=>.inl rfl
 |_ :: _,[]=>.inr (.inr rfl)
 |a :: l,b :: m=>by
  simp only[lexS]
  split
  ·exact gC l m
  ·exact cmpS_rng a b
theorem oR{l m:List Stk}{j:Nat}{a b:Stk}(ha:l[j]? = some a)(hb:m[j]? = some b):lexS (l.drop j) (m.drop j)=if cmpS a b=0 then lexS (l.drop (j+1)) (m.drop (j+1))else cmpS a b:=by
 rw[qaq (aZ ha),qaq (aZ hb)]
 have h1:l[j]'(aZ ha)=a:=by rw[qaj (aZ ha)]at ha;exact qai ha
 have h2:m[j]'(aZ hb)=b:=by rw[qaj (aZ hb)]at hb;exact qai hb
 rw[h1,h2]
 rfl
def Sml:List Stk->List Stk->Prop
 |a :: l,b :: m=>a.2.2.length<=5/\b.2.2.length<=5/\(cmpS a b=0->Sml l m)
 |_,_=>True
theorem Sml.symm:∀ {l m:List Stk},Sml l m->Sml m l
 | [],[],_=>trivial
 | [],_ :: _,_=>trivial
 |_ :: _,[],_=>trivial
 |a :: l,b :: m,h=>⟨h.2.1,h.1,λe=>Sml.symm (h.2.2 (by have:=qD a b;omega))⟩
theorem Sml.at{l m:List Stk}{j:Nat}{a b:Stk}(ha:l[j]? = some a)(hb:m[j]? = some b)(h:Sml (l.drop j) (m.drop j)):a.2.2.length<=5/\b.2.2.length<=5/\(cmpS a b=0->Sml (l.drop (j+1)) (m.drop (j+1))):=by
 rw[qaq (aZ ha),qaq (aZ hb)]at h
 have h1:l[j]'(aZ ha)=a:=by rw[qaj (aZ ha)]at ha;exact qai ha
 have h2:m[j]'(aZ hb)=b:=by rw[qaj (aZ hb)]at hb;exact qai hb
 rw[h1,h2]at h
 exact h
theorem cmp1_c{h:HL}{a b:Stk}(ha:SOk h a)(hb:SOk h b)(hl:a.2.2.length<=5) :
  ∃G,bG cc ab 12 [.i a.1.1,.i a.1.2.1,.i a.1.2.2,.v a.2.1,.i b.1.1,.i b.1.2.1,.i b.1.2.2,.v b.2.1] (absH ac h) [.i (cmpS a b)] (absH ac (h++G)):=by
 obtain⟨rs,h',h1,rfl,rfl⟩:=x12 (ls:=[.i a.1.1,.i a.1.2.1,.i a.1.2.2,.v a.2.1,.i b.1.1,.i b.1.2.1,.i b.1.2.2,.v b.2.1]) (K:=λrs h'=>rs=[.i (cmpS a b)]/\h'=h++[HO.o (.cells [.int .i64 (orI [cmpI a.1.2.1 b.1.2.1,cmpI a.1.1 b.1.1,cmpI a.1.2.2 b.1.2.2]),.int .i64 (lexI a.2.2 b.2.2)] 1 true)]) (H:=h) (glsI (glsI (glsI (glsV ha.1.good (glsI (glsI (glsI (glsV hb.1.good gls0)))))))) (by
  unfold f12;simp only[qxh]
  simp(disch:=omega)only[↓qXX]
  refine dY (cell_c ha.2.1 hb.2.1) ?_
  simp(disch:=omega)only[↓qXX]
  refine cH (slc_c ha.1 hb.1 (by omega)) ?_
  simp(disch:=omega)only[↓qXX]
  refine cH (or_c (l:=[orI [cmpI a.1.2.1 b.1.2.1,cmpI a.1.1 b.1.1,cmpI a.1.2.2 b.1.2.2],lexI a.2.2 b.2.2]) (newE_ls (h:=h) (e:=1) (enc:=encI) fm (by rfl)) (by simp)) ?_
  simp(disch:=omega)only[↓qXX]
  exact⟨by rw[cmpS_or],by trivial⟩)
 exact⟨_,h1⟩
abbrev cloC:Value:=.func (.func 12) ⟨[]⟩ ⟨[]⟩
theorem goodC1:bk cloC=true:=rfl
theorem cfn_c{h:HL}{x y:Value}{l m:List Stk}(hl:StL h x l)(hm:StL h y m)(hb:l.length<=6)(hs:Sml l m) :
  ∃G,bG cc ab 11 [.v x,.v y,.v cloC] (absH ac h) [.i (lexS l m)] (absH ac (h++G)):=by
 obtain⟨rs,h',h1,rfl,G,rfl⟩:=x11 (K:=λrs h'=>rs=[.i (lexS l m)]/\∃G,h'=h++G) (H:=h) (glsV hl.1.good (glsV hm.1.good (glsV goodC1 gls0))) (by
  unfold f11;simp only[qxh]
  simp(disch:=omega)only[↓qXX]
  refine bW hl.1 ?_
  refine nq (σ:=HL) l.length (λj _=>[.i (Int.ofNat j)]) (λ_ G=>h++G) (λj _=>j<=m.length/\lexS l m=lexS (l.drop j) (m.drop j)/\Sml (l.drop j) (m.drop j)) (j0:=0) (s0:=[]) rfl (by simp) (qaS _) ⟨qaS _,rfl,hs⟩ ?_
  rintro j G hj ⟨hjm,he,hsm⟩ self hself
  have hl':StL (h++G) x l:=hl.pre ⟨G,rfl⟩
  have hm':StL (h++G) y m:=hm.pre ⟨G,rfl⟩
  simp(disch:=omega)only[↓qXX]
  by_cases hlt:j<l.length
  ·rw[cF hlt]
   simp(disch:=omega)only[↓qXX]
   obtain⟨a,ha⟩:=dU hlt
   refine iX hl'.1 rfl ha ?_
   unfold encS
   simp(disch:=omega)only[↓qXX]
   have ga:=hl'.2 a (qar ha)
   refine cf ga.1.good ?_
   simp(disch:=omega)only[↓qXX]
   refine bW hm'.1 ?_
   by_cases hlm:j<m.length
   ·rw[p_geq_f (by show(j:Int)<m.length;omega)]
    simp(disch:=omega)only[↓qXX]
    obtain⟨b,hb'⟩:=dU hlm
    refine iX hm'.1 rfl hb' ?_
    unfold encS
    simp(disch:=omega)only[↓qXX]
    have gb:=hm'.2 b (qar hb')
    refine cf gb.1.good ?_
    simp(disch:=omega)only[↓qXX]
    obtain⟨s1,s2,s3⟩:=hsm.at ha hb'
    obtain⟨G',hc⟩:=cmp1_c ga gb s1
    refine p_callv (callv_ct hc rfl [.agg [.i .i64 a.1.1,.i .i64 a.1.2.1,.i .u8 a.1.2.2,.v a.2.1],.agg [.i .i64 b.1.1,.i .i64 b.1.2.1,.i .u8 b.1.2.2,.v b.2.1]] rfl rfl) ?_
    simp(disch:=omega)only[↓qXX]
    rw[oR ha hb']at he
    by_cases h0:cmpS a b=0
    ·rw[p_neq_f h0]
     simp(disch:=omega)only[↓qXX]
     rw[qb (by omega)]
     rw[if_pos h0]at he
     rw[qay]
     exact hself (G++G') hlt ⟨by omega,he,s3 h0⟩
    ·rw[p_neq_t h0]
     simp(disch:=omega)only[↓qXX]
     rw[if_neg h0]at he
     exact⟨by rw[he],G++G',by rw[qay]⟩
   ·rw[p_geq_t (by show(m.length:Int)<=j;omega)]
    simp(disch:=omega)only[↓qXX]
    refine⟨?_,G,rfl⟩
    rw[he,qaC (show m.length<=j by omega),qaq hlt]
    rfl
  ·obtain rfl:j=l.length:=by omega
   rw[cE (qaA _)]
   simp(disch:=omega)only[↓qXX]
   refine bW hl'.1 ?_
   refine bW hm'.1 ?_
   rw[qb6]at he
   by_cases hlm:l.length<m.length
   ·rw[cF hlm]
    simp(disch:=omega)only[↓qXX]
    refine⟨?_,G,rfl⟩
    rw[he,qaq hlm]
    rfl
   ·rw[cE (by omega)]
    simp(disch:=omega)only[↓qXX]
    refine⟨?_,G,rfl⟩
    rw[he,qaC (by omega)]
    rfl)
 exact⟨G,h1⟩
theorem glsZ{ls:List Lf}(h:cL ls):cL (.v (.slice none 0 0) :: ls):=glsV rfl h
theorem cM{h:HL}{x y:Value}{l m:List Stk}(hl:StL h x l)(hm:StL h y m)(hb:l.length<=6)(hs:Sml l m) :
  ∃G,bG cc ab 6 [.i 0,.i 0,.v (.slice none 0 0),.i 0,.i 0,.i 0,.v x,.i 0,.i 0,.v (.slice none 0 0),.i 0,.i 0,.i 0,.v y] (absH ac h) [.i (lexS l m)] (absH ac (h++G)):=by
 obtain⟨G,hc⟩:=cfn_c hl hm hb hs
 obtain⟨rs,h',h1,rfl,rfl⟩:=x6 (K:=λrs h'=>rs=[.i (lexS l m)]/\h'=h++G) (H:=h) (glsI (glsI (glsZ (glsI (glsI (glsI (glsV hl.1.good (glsI (glsI (glsZ (glsI (glsI (glsI (glsV hm.1.good gls0)))))))))))))) (by
  unfold f6;simp only[qxh]
  simp(disch:=omega)only[↓qXX]
  refine cH hc ?_
  simp(disch:=omega)only[↓qXX]
  exact⟨by trivial,by trivial⟩)
 exact⟨G,h1⟩
def OwI(h:HL)(v:Value)(cs:List Int):Prop:=∃id cx,v = .slice (some ⟨id,0,tag 1⟩) cs.length cx/\h[id]? = some (.o (.cells (cs.flatMap encI) 1 true))
theorem gr(cs:List Int):(cs.flatMap encI).length=cs.length:=by
 rw[em (e:=1) (enc:=encI) λa _=>fm a,qcq]
theorem OwI.ls{h:HL}{v:Value}{cs:List Int}(hs:OwI h v cs):LsH h v 1 encI cs:=by
 obtain⟨id,cx,rfl,h1⟩:=hs
 refine⟨λa _=>fm a,by rw[gr,qcq],.inr ⟨id,0,cx,_,true,rfl,h1,Sx.cut_all (by rw[gr,qcq])⟩⟩
theorem r_apF{h:HL}{x:Value}{old new:List Int}{K:List Value->HL->Prop}{m n c:Nat}(hg:h[m]? = some (.o (.cells (old.flatMap encI) 1 true)))(hn:n=old.length)(hcx:c=old.length+1)(hx:LsH h x 1 encI new)(hs:(old.length+new.length)*8<=140737488355328)
  (hk:∀v G,OwI (h++G) v (old++new)->bk v=true->(∀j,blk v=some j->j=m∨h.length<=j)->K [v] (h++G)) :
  P1.heap (.ap cc 1 8 (.slice (some ⟨m,0,tag 1⟩) n c) x) h (@hid _ ⟨K⟩):=by
 subst hn hcx
 have hcut:cut (old.flatMap encI) 0 (old.length*1)=some (old.flatMap encI):=Sx.cut_all (by rw[gr,qcq])
 have hsz:bP (old.length+new.length) 8=true:=by
  unfold bP
  rw[qbz (by omega),qbz hs];rfl
 have hrun0:∀acts cs,apG cc 1 8 (.slice (some ⟨m,0,tag 1⟩) old.length (old.length+1)) x (getH ac h) h.length=some (acts,cs)->
   (Hp.ap cc 1 8 (.slice (some ⟨m,0,tag 1⟩) old.length (old.length+1)) x).run (getH ac h) h.length=some (acts,cs):=λ_ _ h=>h
 by_cases h0:new.length=0
 ·obtain rfl:=qbG h0
  have hrun:apG cc 1 8 (.slice (some ⟨m,0,tag 1⟩) old.length (old.length+1)) x (getH ac h) h.length=some ([.set m (.cells (old.flatMap encI) 1 true)],[.slice (some ⟨m,0,tag 1⟩) old.length (old.length+1)]):=by
   unfold apG
   rw[slG_sl hx.2]
   simp only[ne_eq,not_true_eq_false,if_false,qbn,qcB,qaA,if_true]
   rw[dG hg]
   simp only[ne_eq,not_true_eq_false,if_false]
   rw[hcut]
   simp only[if_true,List.flatMap_nil]
   unfold splice
   rw[if_pos (by rw[gr];simp only[qbn];omega)]
   simp
  refine jr (hrun0 _ _ hrun) ?_
  have e:bO h [.set m (.cells (old.flatMap encI) 1 true)]=h++[]:=by
   show h.set m _=_
   rw[qaL]
   exact kO hg
  rw[e]
  refine hk _ [] ⟨m,old.length+1,by rw[qaL],by rw[qaL,qaL];exact hg⟩ (by simp[bk,noLoc,aR,bL,bb,aQ,az,tag]) (λj hj=>by cases hj;exact .inl rfl)
 ·have hrun:apG cc 1 8 (.slice (some ⟨m,0,tag 1⟩) old.length (old.length+1)) x (getH ac h) h.length=some ([.push (.cells (old.flatMap encI++new.flatMap encI) 1 true)],[.slice (some ⟨h.length,0,tag 1⟩) (old.length+new.length) 0]):=by
   unfold apG
   rw[slG_sl hx.2]
   simp only[ne_eq,not_true_eq_false,if_false]
   rw[dG hg]
   simp only[ne_eq,not_true_eq_false,if_false]
   rw[hcut]
   simp only
   rw[if_neg (by omega),if_pos hsz]
  refine jr (hrun0 _ _ hrun) ?_
  refine hk _ [HO.o (.cells (old.flatMap encI++new.flatMap encI) 1 true)] ⟨h.length,0,by rw[qaw],?_⟩ (by simp[bk,noLoc,aR,bL,bb,aQ,az,tag]) (λj hj=>by simp only[blk,qam]at hj;omega)
  rw[List.flatMap_append,qak (by simp)]
  simp
theorem cmpd_c{h:HL}{a b:Stk}(ha:SOk h a)(hb:SOk h b)(hl:a.2.2.length<=5)(hm:b.2.2.length<=5) :
  ∃G,bG cc ab 5 [.i a.1.1,.i a.1.2.1,.i a.1.2.2,.v a.2.1,.i b.1.1,.i b.1.2.1,.i b.1.2.2,.v b.2.1] (absH ac h) [.i (cmpS a b)] (absH ac (h++G)):=by
 obtain⟨rs,h',h1,rfl,G,rfl⟩:=x5 (ls:=[.i a.1.1,.i a.1.2.1,.i a.1.2.2,.v a.2.1,.i b.1.1,.i b.1.2.1,.i b.1.2.2,.v b.2.1]) (K:=λrs h'=>rs=[.i (cmpS a b)]/\∃G,h'=h++G) (H:=h) (glsI (glsI (glsI (glsV ha.1.good (glsI (glsI (glsI (glsV hb.1.good gls0)))))))) (by
  unfold f5;simp only[qxh]
  have q1:=ha.2.1
  have q2:=hb.2.1
  simp(disch:=omega)only[↓qXX]
  have r1:(h++[HO.o (.cells [.int .i64 a.1.2.1,.int .i64 a.1.1,.int .i64 a.1.2.2] 1 true)]++[HO.o (.cells [.int .i64 b.1.2.1,.int .i64 b.1.1,.int .i64 b.1.2.2] 1 true)])[h.length]? = some (HO.o (.cells (([a.1.2.1,a.1.1,a.1.2.2]:List Int).flatMap encI) 1 true)):=by simp[encI]
  have r2:(h++[HO.o (.cells [.int .i64 a.1.2.1,.int .i64 a.1.1,.int .i64 a.1.2.2] 1 true)]++[HO.o (.cells [.int .i64 b.1.2.1,.int .i64 b.1.1,.int .i64 b.1.2.2] 1 true)])[h.length+1]? = some (HO.o (.cells (([b.1.2.1,b.1.1,b.1.2.2]:List Int).flatMap encI) 1 true)):=by simp[encI]
  have e0:(h++[HO.o (.cells [.int .i64 a.1.2.1,.int .i64 a.1.1,.int .i64 a.1.2.2] 1 true)]).length=h.length+1:=by simp
  have pr:Pre h (h++[HO.o (.cells [.int .i64 a.1.2.1,.int .i64 a.1.1,.int .i64 a.1.2.2] 1 true)]++[HO.o (.cells [.int .i64 b.1.2.1,.int .i64 b.1.1,.int .i64 b.1.2.2] 1 true)]):=⟨_,qay ..⟩
  rw[e0]
  generalize h++[HO.o (.cells [.int .i64 a.1.2.1,.int .i64 a.1.1,.int .i64 a.1.2.2] 1 true)]++[HO.o (.cells [.int .i64 b.1.2.1,.int .i64 b.1.1,.int .i64 b.1.2.2] 1 true)]=H1 at *
  refine r_apF r1 rfl rfl (ha.1.pre pr) (by simp only[qaW,qbn];omega) ?_
  intro v1 G1 ho1 hv1 _
  simp(disch:=omega)only[↓qXX]
  refine cf hv1 ?_
  simp(disch:=omega)only[↓qXX]
  have r3:(H1++G1)[h.length+1]? = some (HO.o (.cells (([b.1.2.1,b.1.1,b.1.2.2]:List Int).flatMap encI) 1 true)):=Pre.get ⟨G1,rfl⟩ r2
  refine r_apF r3 rfl rfl (hb.1.pre (pr.trans ⟨G1,rfl⟩)) (by simp only[qaW,qbn];omega) ?_
  intro v2 G2 ho2 hv2 _
  rw[p_ucV]
  try simp only[qxh]
  refine cf hv2 ?_
  try simp only[qxh]
  rw[p_uc0]
  try simp only[qxh]
  have L1:LsH (H1++G1++G2) v1 1 encI (keyS a):=ho1.ls.pre ⟨G2,rfl⟩
  have L2:LsH (H1++G1++G2) v2 1 encI (keyS b):=ho2.ls
  have hpre:Pre h (H1++G1++G2):=(pr.trans ⟨G1,rfl⟩).trans ⟨G2,rfl⟩
  have n1:(keyS a).length<=8:=by unfold keyS;simp only[qaw,qaW,qbn];omega
  unfold cmpS
  generalize keyS a=l at *
  generalize keyS b=m at *
  generalize H1++G1++G2=H2 at *
  refine nA (P:=λls h'=>ls=[]/\h'=H2/\∃j,j<=l.length/\j<=m.length/\(j=l.length∨j=m.length)/\lexI l m=lexI (l.drop j) (m.drop j)) ?_ ?_
  ·rintro _ _ ⟨rfl,rfl,j,j1,j2,j3,he⟩
   simp(disch:=omega)only[↓qXX]
   refine bW L1 ?_
   refine bW L2 ?_
   by_cases hlm:l.length<m.length
   ·rw[cF hlm]
    simp(disch:=omega)only[↓qXX]
    refine⟨?_,hpre⟩
    obtain rfl:j=l.length:=by omega
    rw[he,qb6,qaq hlm]
    rfl
   ·rw[cE (by omega)]
    simp(disch:=omega)only[↓qXX]
    refine bW L1 ?_
    refine bW L2 ?_
    by_cases hlg:m.length<l.length
    ·rw[p_gtr_t (by show(m.length:Int)<l.length;omega)]
     simp(disch:=omega)only[↓qXX]
     refine⟨?_,hpre⟩
     obtain rfl:j=m.length:=by omega
     rw[he,qb6,qaq hlg]
     rfl
    ·rw[p_gtr_f (by show(l.length:Int)<=m.length;omega)]
     simp(disch:=omega)only[↓qXX]
     refine⟨?_,hpre⟩
     rw[he,qaC (show l.length<=j by omega),qaC (show m.length<=j by omega)]
     rfl
  ·intro jn hjn
   refine np l.length (λj=>j<=m.length/\lexI l m=lexI (l.drop j) (m.drop j)) (j0:=0) rfl (qaS _) ⟨qaS _,rfl⟩ ?_
   rintro j hj ⟨hjm,he⟩ self hself
   simp(disch:=omega)only[↓qXX]
   refine bW L1 ?_
   by_cases hlt:j<l.length
   ·rw[cF hlt]
    simp(disch:=omega)only[↓qXX]
    refine bW L2 ?_
    by_cases hlm:j<m.length
    ·rw[cF hlm]
     simp(disch:=omega)only[↓qXX]
     obtain⟨x,hx⟩:=dU hlt
     obtain⟨y,hy⟩:=dU hlm
     rw[oQ hx hy]at he
     refine iX L1 rfl hx ?_
     unfold encI
     simp(disch:=omega)only[↓qXX]
     refine iX L2 rfl hy ?_
     unfold encI
     simp(disch:=omega)only[↓qXX]
     by_cases q3:x<y
     ·simp(disch:=omega)only[↓qXX]
      refine⟨?_,hpre⟩
      have hc:cmpI x y = -1:=by unfold cmpI;rw[if_pos q3]
      rw[he,hc];rfl
     ·rw[p_lss_f (by omega)]
      simp(disch:=omega)only[↓qXX]
      refine iX L1 rfl hx ?_
      unfold encI
      simp(disch:=omega)only[↓qXX]
      refine iX L2 rfl hy ?_
      unfold encI
      simp(disch:=omega)only[↓qXX]
      by_cases q4:y<x
      ·simp(disch:=omega)only[↓qXX]
       refine⟨?_,hpre⟩
       have hc:cmpI x y=1:=by unfold cmpI;rw[if_neg q3,if_pos q4]
       rw[he,hc];rfl
      ·rw[p_gtr_f (by omega)]
       simp(disch:=omega)only[↓qXX]
       rw[qb (by omega)]
       have hc:cmpI x y=0:=by unfold cmpI;rw[if_neg q3,if_neg q4]
       rw[hc,if_pos rfl]at he
       exact hself hlt ⟨by omega,he⟩
    ·rw[cE (by omega)]
     simp(disch:=omega)only[↓qXX]
     exact hjn _ _ ⟨rfl,rfl,j,hj,hjm,.inr (by omega),he⟩
   ·rw[cE (by omega)]
    simp(disch:=omega)only[↓qXX]
    exact hjn _ _ ⟨rfl,rfl,j,hj,hjm,.inl (by omega),he⟩)
 exact⟨G,h1⟩
end Go.Am

/-
 CALLS THAT MAKE BLOCKS: what a run over some blocks alone answers and makes,holds whatever else there is: the new blocks come behind.
-/
namespace Go.Am
namespace Sx
section
variable [Val]
end
section
variable [Val]
end
end Sx
end Go.Am

/-
 WHAT RUNS OVER AN EMPTY HEAP TELL: answers,and lists that are made.
-/
set_option maxRecDepth 100000
namespace Go.Am
open Sx Go.Proofs
theorem known_val{g n:Nat}{ls rs:List Lf}{sg:Sig}(hs:ab g=some sg)(hp:sg.plain=true)(hg:gw ls=true)(h:runF n (.f g) ls .empty tell=some rs):∀H,bG cc ab g ls H rs H:=by
 obtain⟨rs',h',a1,a2⟩:=(runF_ok n).f g ls .empty tell rs (dV hg) h
 rw[tell_eq]at a2
 cases a2
 exact rA g sg ls _ _ hs hp a1
def isAns(rs':List Lf):Option (List Lf)->Bool:=λo=>@Option.rec _ (λ_=>Bool) false (λrs=>eqLs rs rs') o
theorem known_ans{g n:Nat}{ls rs:List Lf}{sg:Sig}(hs:ab g=some sg)(hp:sg.plain=true)(hg:gw ls=true)(h:isAns rs (runF n (.f g) ls .empty tell)=true):∀H,bG cc ab g ls H rs H:=by
 cases e:runF n (.f g) ls .empty tell with
 |none=>rw[e]at h;cases h
 |some rs'=>
  rw[e]at h
  have h:eqLs rs' rs=true:=h
  rw[lJ h]at e
  exact known_val hs hp hg e
end Go.Am

/-
 The examples of chapter 26.
-/
set_option maxRecDepth 100000
namespace Go.Am
open Sx Go.Proofs
theorem eZ:∀H,bG cc ab 4 [] H [.b true] H:=known_ans (n:=60) rfl (by kernel_rfl) rfl (by kernel_rfl)
end Go.Am

/-
 ARGUMENTS WITHOUT ADDRESSES,as the row reads them.
-/
namespace Go.Am
namespace Sx
open Go.ChangeShapes Go.WideShapes Go.ChangeAt Go.WideMaps Go.WideElems Go.RowKit
def FitC:List LK->List Value->Prop
 | [],[]=>True
 | .i k :: ks,v :: vs=>(∃n,v = .int k n/\(Lit.int k n).wf=true)/\FitC ks vs
 | .b :: ks,v :: vs=>(∃t,v = .bool t)/\FitC ks vs
 |_,_=>False
def FitL:List LK->List Lf->Prop
 | [],[]=>True
 | .i k :: ks,.i n :: ls=>(Lit.int k n).wf=true/\FitL ks ls
 | .b :: ks,.b _ :: ls=>FitL ks ls
 |_,_=>False
theorem FitC.len:∀ {ks:List LK} {vs:List Value},FitC ks vs->vs.length=ks.length
 | [],[],_=>rfl
 | .i k :: ks,v :: vs,h=>by simp[FitC.len h.2]
 | .b :: ks,v :: vs,h=>by simp[FitC.len h.2]
 | .v :: _,_,h=>by cases h
 | [],_ :: _,h=>by cases h
 | .i _ :: _,[],h=>by cases h
 | .b :: _,[],h=>by cases h
theorem FitC.app:∀ {ks ks':List LK} {vs vs':List Value},FitC ks vs->FitC ks' vs'->FitC (ks++ks') (vs++vs')
 | [],_,[],_,_,h=>h
 | .i k :: ks,_,v :: vs,_,h,h'=>⟨h.1,FitC.app h.2 h'⟩
 | .b :: ks,_,v :: vs,_,h,h'=>⟨h.1,FitC.app h.2 h'⟩
 | .v :: _,_,_,_,h,_=>by cases h
 | [],_,_ :: _,_,h,_=>by cases h
 | .i _ :: _,_,[],_,h,_=>by cases h
 | .b :: _,_,[],_,h,_=>by cases h
theorem FitL.app:∀ {ks ks':List LK} {vs vs':List Lf},FitL ks vs->FitL ks' vs'->FitL (ks++ks') (vs++vs')
 | [],_,[],_,_,h=>h
 | .i k :: ks,_,.i v :: vs,_,h,h'=>⟨h.1,FitL.app h.2 h'⟩
 | .b :: ks,_,.b v :: vs,_,h,h'=>FitL.app (ks:=ks) h h'
 | .v :: _,_,_,_,h,_=>by cases h
 | [],_,_ :: _,_,h,_=>by cases h
 | .i _ :: _,_,[],_,h,_=>by cases h
 | .b :: _,_,[],_,h,_=>by cases h
 | .i _ :: _,_,.b _ :: _,_,h,_=>by cases h
 | .i _ :: _,_,.v _ :: _,_,h,_=>by cases h
 | .b :: _,_,.i _ :: _,_,h,_=>by cases h
 | .b :: _,_,.v _ :: _,_,h,_=>by cases h
theorem FitC.sl:∀ {ks:List LK} {vs:List Value},FitC ks vs->∃xs:List SL,xs.map SL.val=vs/\aD xs ks=true/\(∀x∈xs,x.good)/\FitL ks (xs.map SL.lf)
 | [],[],_=>⟨[],rfl,rfl,λ_ h=>(by cases h),trivial⟩
 | .i k :: ks,v :: vs,h=>by
  obtain⟨⟨n,rfl,hw⟩,h2⟩:=h
  obtain⟨xs,a,b,c,d⟩:=FitC.sl h2
  exact⟨.i k n :: xs,by simp[a,SL.val],by simp[aD,b,SL.is,cC],λx hx=>by
   rcases qao.1 hx with rfl|hx
   ·trivial
   ·exact c x hx,hw,d⟩
 | .b :: ks,v :: vs,h=>by
  obtain⟨⟨n,rfl⟩,h2⟩:=h
  obtain⟨xs,a,b,c,d⟩:=FitC.sl h2
  exact⟨.b n :: xs,by simp[a,SL.val],by simp[aD,b,SL.is],λx hx=>by
   rcases qao.1 hx with rfl|hx
   ·trivial
   ·exact c x hx,d⟩
 | .v :: _,_,h=>by cases h
 | [],_ :: _,h=>by cases h
 | .i _ :: _,[],h=>by cases h
 | .b :: _,[],h=>by cases h
def flatF(F:TypeId->Option (List LK)):List Field->Nat->Option (List LK)
 | [],_=>some []
 |f :: fs,off=>match Nat.beq f.offset off,F f.type with
  |true,some ks=>(flatF F fs (off+ks.length)).map (ks ++ ·)
  |_,_=>none
def pT(P:Program):Nat->TypeId->Option (List LK)
 |0,_=>none
 |d+1,t=>match P.underlying t with
  |some (.int k)=>some [.i k]
  |some .bool=>some [.b]
  |some (.struct fs)=>match flatF (pT P d) fs.toList 0 with
   |some ks=>match Nat.beq ks.length (P.cellsOf t)with
    |true=>some ks
    |false=>none
   |none=>none
  |_=>none
section
variable {H:Type} {enc:TypeId×Value->H} {P:Program}
theorem eC{α:Type}(l:List α)(c:Nat):l.take (l.take c).length=l.take c:=by
 rw[qbo]
 rcases Nat.le_total c l.length with h|h
 ·rw[qcN h]
 ·rw[Nat.min_eq_right h,qaO h,qaO (qaA _)]
theorem qP{F:TypeId->Option (List LK)}{w:World}{base:Nat}{sp:Nat->Bool}{held:Bool}{fuel:Nat}
  (hF:∀t ks,F t=some ks->∀cs (x:DataW H×List MemPlace),DataW.trod enc P w base sp held fuel t cs=some x->x.2=[]/\FitC ks cs/\∀w' b' s' h',DataW.trod enc P w' b' s' h' fuel t cs=some x) (cs:List Value) :
  ∀(fs:List Field) (off:Nat) (ks:List LK) (xs:List (DataW H×List MemPlace)),flatF F fs off=some ks->fs.mapM (λf=>DataW.trod enc P w base sp held fuel f.type ((cs.drop f.offset).take (P.cellsOf f.type)))=some xs->
   xs.flatMap (·.2)=[]/\FitC ks ((cs.drop off).take ks.length)/\∀w' b' s' h',fs.mapM (λf=>DataW.trod enc P w' b' s' h' fuel f.type ((cs.drop f.offset).take (P.cellsOf f.type)))=some xs
 | [],off,ks,xs,h1,h2=>by
  simp only[flatF,qam]at h1
  subst h1
  simp only[qcH,qcs,qam]at h2
  subst h2
  refine⟨rfl,by simp[FitC],λ_ _ _ _=>by simp⟩
 |f :: fs,off,ks,xs,h1,h2=>by
  simp only[flatF]at h1
  split at h1
  ·rename_i k1 e1 e2
   obtain⟨k2,e3,rfl⟩:=qab.1 h1
   have e1:=qac e1
   rw[qbu]at h2
   obtain⟨x,h3,h2⟩:=qah.1 h2
   obtain⟨ys,h4,h2⟩:=qah.1 h2
   cases h2
   obtain⟨a1,a2,a3⟩:=hF _ _ e2 _ _ h3
   obtain⟨b1,b2,b3⟩:=qP hF cs fs _ k2 ys e3 h4
   refine⟨by simp[a1,b1],?_,λw' b' s' h'=>?_⟩
   ·rw[qaw,qcI]
    refine FitC.app ?_ (by rw[qba];exact b2)
    have hl:=FitC.len a2
    rw[e1]at a2 hl
    rw[←hl,eC]
    exact a2
   ·rw[qbu,a3 w' b' s' h',b3 w' b' s' h']
    rfl
  ·cases h1
theorem gt:∀(d:Nat) (t:TypeId) (ks:List LK),pT P d t=some ks->∀(w:World) (base:Nat) (sp:Nat->Bool) (held:Bool) (fuel:Nat) (cs:List Value) (x:DataW H×List MemPlace),DataW.trod enc P w base sp held fuel t cs=some x->
  x.2=[]/\FitC ks cs/\∀w' b' s' h',DataW.trod enc P w' b' s' h' fuel t cs=some x
 |0,_,_,h=>by cases h
 |d+1,t,ks,h=>by
  intro w base sp held fuel cs x hx
  simp only[pT]at h
  split at h
  ·rename_i k e
   cases h
   obtain⟨n,rfl,rfl,hw⟩:=DataW.trod_int e hx
   refine⟨rfl,⟨⟨n,rfl,hw⟩,trivial⟩,λw' b' s' h'=>?_⟩
   cases fuel with
   |zero=>simp[DataW.trod]at hx
   |succ m=>simp[DataW.trod,e,hw]
  ·rename_i e
   cases h
   obtain⟨n,rfl,rfl⟩:=DataW.trod_bool e hx
   refine⟨rfl,⟨⟨n,rfl⟩,trivial⟩,λw' b' s' h'=>?_⟩
   cases fuel with
   |zero=>simp[DataW.trod]at hx
   |succ m=>simp[DataW.trod,e]
  ·rename_i fs e
   split at h
   ·rename_i k2 e2
    split at h
    ·rename_i e3
     cases h
     have e3:=qac e3
     cases fuel with
     |zero=>simp[DataW.trod]at hx
     |succ m=>
      simp only[DataW.trod,e]at hx
      split at hx
      ·rename_i hl
       obtain⟨xs,h5,rfl⟩:=qab.1 hx
       obtain⟨a1,a2,a3⟩:=qP (λt ks h cs x hx=>gt d t ks h w base sp held m cs x hx) cs fs.toList 0 ks xs e2 h5
       rw[qbb,qaO (by omega)]at a2
       refine⟨a1,a2,λw' b' s' h'=>?_⟩
       simp only[DataW.trod,e,hl,if_true]
       rw[a3 w' b' s' h']
       rfl
      ·cases hx
    ·cases h
   ·cases h
  ·cases h
end
section
variable [Val]
end
end Sx
end Go.Am
namespace Go.Am
namespace Sx
theorem FitL.i{k:IntKind}{ks:List LK}{ls:List Lf}(h:FitL (.i k :: ks) ls):∃n r,ls = .i n :: r/\(Lit.int k n).wf=true/\FitL ks r:=by
 match ls,h with
 | .i n :: r,h=>exact⟨n,r,rfl,h.1,h.2⟩
theorem FitL.b{ks:List LK}{ls:List Lf}(h:FitL (.b :: ks) ls):∃n r,ls = .b n :: r/\FitL ks r:=by
 match ls,h with
 | .b n :: r,h=>exact⟨n,r,rfl,h⟩
theorem FitL.nil{ls:List Lf}(h:FitL [] ls):ls=[]:=by
 match ls,h with
 | [],_=>rfl
theorem wf_u8{n:Int}(h:(Lit.int .u8 n).wf=true):0<=n/\n<=255:=by
 simp only[Lit.wf,qaa,decide_eq_true_eq]at h
 exact h
theorem kT{H:Type}{enc:TypeId×Value->H}{P:Program}{w:World}{base:Nat}{sp:Nat->Bool}{held:Bool}:∀ {ts:List TypeId} {vs:List Value} {ds:List (DataW H)} {ps:List MemPlace},DataW.TrodAll enc P w base sp held ts vs ds ps->ds.length=ts.length
 | [],[],[],_,_=>rfl
 |_ :: _,_ :: _,_ :: _,_,h=>by
  obtain⟨p,q,_,h2,_⟩:=h
  simp[kT h2]
 | [],_ :: _,_,_,h=>by cases h
 | [],[],_ :: _,_,h=>by cases h
 |_ :: _,[],_,_,h=>by cases h
 |_ :: _,_ :: _,[],_,h=>by cases h
end Sx
end Go.Am

/-
 ARGUMENTS WITH SLICES,as the row reads them: what is known of them at first.
-/
set_option maxRecDepth 100000
namespace Go.Am
namespace Sx
open Go.ChangeShapes Go.WideShapes Go.ChangeAt Go.WideMaps Go.WideElems Go.RowKit
inductive CK2 where
 |i (k:IntKind)
 |b
 |s (ks:List LK)
def CK2.lk:CK2->LK
 | .i k=>.i k
 | .b=>.b
 | .s _=>.v
def SlFit(w:World)(ks:List LK)(v:Value):Prop:=
 v = .slice none 0 0∨∃(a:Addr) (len cap:Nat) (c:Array Value) (t:TypeId) (fr:Nat×Nat) (cells:List Value),v = .slice (some a) len cap/\a.spot=none/\len<=cap/\cap<=maxLen/\
  w.heap[a.block]? = some (.cells c t fr)/\(cap=0∨a.off+cap*ks.length<=c.size)/\cells.length=len*ks.length/\(∀(i:Nat) v,cells[i]? = some v->c[a.off+i]? = some v)/\
  ∀i,i<len->FitC ks ((cells.drop (i*ks.length)).take ks.length)
def CellFit(w:World):CK2->Value->Prop
 | .i k,v=>∃n,v = .int k n/\(Lit.int k n).wf=true
 | .b,v=>∃t,v = .bool t
 | .s ks,v=>SlFit w ks v
def cK(w:World):List CK2->List Value->Prop
 | [],[]=>True
 |k :: ks,v :: vs=>CellFit w k v/\cK w ks vs
 |_,_=>False
def aO(h:HL):List CK2->List Lf->Prop
 | [],[]=>True
 | .i k :: ks,.i n :: ls=>(Lit.int k n).wf=true/\aO h ks ls
 | .b :: ks,.b _ :: ls=>aO h ks ls
 | .s es :: ks,.v x :: ls=>(∃n cells,SlC h x es.length n cells/\n<=maxLen/\∀i,i<n->FitC es ((cells.drop (i*es.length)).take es.length))/\aO h ks ls
 |_,_=>False
theorem cK.len{w:World}:∀ {ks:List CK2} {vs:List Value},cK w ks vs->vs.length=ks.length
 | [],[],_=>rfl
 |_ :: _,_ :: _,h=>by simp[cK.len h.2]
 | [],_ :: _,h=>by cases h
 |_ :: _,[],h=>by cases h
theorem cK.app{w:World}:∀ {ks ks':List CK2} {vs vs':List Value},cK w ks vs->cK w ks' vs'->cK w (ks++ks') (vs++vs')
 | [],_,[],_,_,h=>h
 |_ :: _,_,_ :: _,_,h,h'=>⟨h.1,cK.app h.2 h'⟩
 | [],_,_ :: _,_,h,_=>by cases h
 |_ :: _,_,[],_,h,_=>by cases h
theorem aO.app{h:HL}:∀ {ks ks':List CK2} {vs vs':List Lf},aO h ks vs->aO h ks' vs'->aO h (ks++ks') (vs++vs')
 | [],_,[],_,_,h=>h
 | .i _ :: ks,_,.i _ :: _,_,h,h'=>⟨h.1,aO.app (ks:=ks) h.2 h'⟩
 | .b :: ks,_,.b _ :: _,_,h,h'=>aO.app (ks:=ks) h h'
 | .s _ :: ks,_,.v _ :: _,_,h,h'=>⟨h.1,aO.app (ks:=ks) h.2 h'⟩
 | [],_,_ :: _,_,h,_=>by cases h
 | .i _ :: _,_,[],_,h,_=>by cases h
 | .b :: _,_,[],_,h,_=>by cases h
 | .s _ :: _,_,[],_,h,_=>by cases h
 | .i _ :: _,_,.b _ :: _,_,h,_=>by cases h
 | .i _ :: _,_,.v _ :: _,_,h,_=>by cases h
 | .b :: _,_,.i _ :: _,_,h,_=>by cases h
 | .b :: _,_,.v _ :: _,_,h,_=>by cases h
 | .s _ :: _,_,.i _ :: _,_,h,_=>by cases h
 | .s _ :: _,_,.b _ :: _,_,h,_=>by cases h
def ckF(F:TypeId->Option (List CK2)):List Field->Nat->Option (List CK2)
 | [],_=>some []
 |f :: fs,off=>match Nat.beq f.offset off,F f.type with
  |true,some ks=>(ckF F fs (off+ks.length)).map (ks ++ ·)
  |_,_=>none
def kby:LK->Nat
 | .i .i64=>8
 |_=>0
def kbs:List LK->Nat
 | []=>0
 |k :: ks=>kby k+kbs ks
def ckT(P:Program):Nat->TypeId->Option (List CK2)
 |0,_=>none
 |d+1,t=>match P.underlying t with
  |some (.int k)=>some [.i k]
  |some .bool=>some [.b]
  |some (.slice e)=>match pT P 20 e with
   |some ks=>match Nat.beq (P.cellsOf e) ks.length&&Nat.blt 0 ks.length&&Nat.ble (kbs ks) (P.bytesOf e)with
    |true=>some [.s ks]
    |false=>none
   |none=>none
  |some (.struct fs)=>match ckF (ckT P d) fs.toList 0 with
   |some ks=>match Nat.beq ks.length (P.cellsOf t)with
    |true=>some ks
    |false=>none
   |none=>none
  |_=>none
section
variable {H:Type} {enc:TypeId×Value->H} {P:Program}
def Lies(w:World)(v:Value):Prop:=∀a len cap,v = .slice (some a) len cap->a.spot=none/\∃c t fr,w.heap[a.block]? = some (.cells c t fr)
theorem dp{α β:Type}{f g:α->Option β}:∀ {l:List α},(∀x∈l,f x=g x)->l.mapM f=l.mapM g
 | [],_=>rfl
 |a :: l,h=>by
  rw[qbu,qbu,h a qaM,dp λx hx=>h x (qas _ hx)]
theorem aP{a:Addr}(h:a.spot=none)(i:Nat):a.add i=⟨a.block,a.off+i,none⟩:=by
 obtain⟨b,o,s⟩:=a
 cases h
 unfold Addr.add
 simp
theorem slice_ok{w:World}{t e:TypeId}{ks:List LK}(ht:P.underlying t=some (.slice e))(he:pT P 20 e=some ks)(hc:P.cellsOf e=ks.length)(h0:0<ks.length){base:Nat}(hbase:base=0){held:Bool}{fuel:Nat}{cs:List Value}{x:DataW H×List MemPlace}
  (hx:DataW.trod enc P w base (λ_=>true) held fuel t cs=some x) (hl:∀v∈cs,Lies w v) :
  ∃v,cs=[v]/\SlFit w ks v/\∀(w':World) (s':Nat->Bool),(∀b,b<w.heap.size->w'.heap[b]? = w.heap[b]?)->(∀b,b<w.heap.size->s' b=true)->DataW.trod enc P w' base s' held fuel t cs=some x:=by
 subst hbase
 have hx0:=hx
 rcases DataW.trod_slice ht hx with⟨rfl,rfl⟩|⟨a,len,cap,elems,rest,n,rfl,rfl,rfl,hb,hlc,hm,hlen,hel,hsp,_⟩
 ·refine⟨_,rfl,.inl rfl,λw' s' _ _=>?_⟩
  cases fuel with
  |zero=>simp[DataW.trod]at hx
  |succ m=>simp[DataW.trod,ht]
 ·obtain⟨hs,c,t',fr,hblk⟩:=hl _ qaM a len cap rfl
  obtain⟨hrl,hr⟩:=hsp rfl
  rw[hc]at hel hr
  have hlt:a.block<w.heap.size:=by
   rcases qaz a.block w.heap.size with h|h
   ·exact h
   ·rw[qbe h]at hblk;cases hblk
  have each:∀i,i<cap->∃ci y,w.cells? 0 (a.add (i*ks.length)) ks.length=some ci/\DataW.trod enc P w 0 (λ_=>true) held n e ci=some y/\(elems++rest)[i]? = some y:=by
   intro i hi
   by_cases h1:i<len
   ·have h2:=hel i h1
    have h3:elems[i]? = some elems[i]:=qaj (by omega)
    rw[h3]at h2
    obtain⟨ci,h4,h5⟩:=qah.1 h2
    exact⟨ci,_,h4,h5,by rw[qag (by omega)];exact h3⟩
   ·have h2:=hr (i - len) (by omega)
    rw[show len+(i - len)=i by omega]at h2
    have h3:rest[i - len]? = some (rest[i - len]'(by omega)):=qaj (by omega)
    rw[h3]at h2
    obtain⟨ci,h4,h5⟩:=qah.1 h2
    exact⟨ci,_,h4,h5,by rw[qak (by omega),hlen];exact h3⟩
  have rd:∀i,i<cap->∀j,j<ks.length->∀ci,w.cells? 0 (a.add (i*ks.length)) ks.length=some ci->c[a.off+i*ks.length+j]? = ci[j]?:=by
   intro i hi j hj ci hci
   have h1:=(World.cells?_some hci).2.2 j hj
   rw[aP hs,aP rfl]at h1
   rw[←h1]
   unfold World.cell?
   simp[hblk]
  have hsz:cap=0∨a.off+cap*ks.length<=c.size:=by
   by_cases hcap:cap=0
   ·exact .inl hcap
   ·right
    obtain⟨ci,y,h1,_,_⟩:=each (cap - 1) (by omega)
    have h2:=rd (cap - 1) (by omega) (ks.length - 1) (by omega) ci h1
    have hcl:=(World.cells?_some h1).2.1
    rw[qaj (by omega)]at h2
    have h3:=(qav.1 h2).1
    have h4:cap*ks.length=(cap - 1)*ks.length+ks.length:=by
     rw[←Nat.succ_mul];congr 1;omega
    omega
  have hsz2:a.off+len*ks.length<=c.size∨len=0:=by
   rcases hsz with h|h
   ·right;omega
   ·left
    have:=qaG ks.length hlc
    omega
  refine⟨_,rfl,.inr ⟨a,len,cap,c,t',fr,(c.toList.drop a.off).take (len*ks.length),rfl,hs,hlc,hm,hblk,hsz,?_,?_,?_⟩,?_⟩
  ·rw[qbo,qbF]
   have hcz:c.toList.length=c.size:=qbT
   rcases hsz2 with h|h
   ·omega
   ·subst h;omega
  ·intro i v hv
   rw[qaX]at hv
   split at hv
   ·rw[qaZ]at hv
    simpa using hv
   ·cases hv
  ·intro i hi
   obtain⟨ci,y,h1,h2,_⟩:=each i (by omega)
   obtain⟨_,h3,_⟩:=gt 20 e ks he w 0 _ held n ci y h2
   have hcl:=(World.cells?_some h1).2.1
   have:(((c.toList.drop a.off).take (len*ks.length)).drop (i*ks.length)).take ks.length=ci:=by
    apply qaV
    intro j
    by_cases hj:j<ks.length
    ·have hle:i*ks.length+ks.length<=len*ks.length:=by
      have:=qaG ks.length (show i+1<=len by omega)
      rw[qa0,qbE]at this;exact this
     rw[qaX,if_pos hj,qaZ,qaX,if_pos (by omega),qaZ,←rd i (by omega) j hj ci h1]
     rw[qb1,qa7]
    ·rw[qaf (by rw[qbo];omega),qaf (by omega)]
   rw[this];exact h3
  ·intro w' s' hw hs'
   have hcell:∀i,i<cap->w'.cells? 0 (a.add (i*ks.length)) ks.length=w.cells? 0 (a.add (i*ks.length)) ks.length:=by
    intro i hi
    unfold World.cells?
    have:∀j,w'.cell? ((a.add (i*ks.length)).add j)=w.cell? ((a.add (i*ks.length)).add j):=by
     intro j
     rw[aP hs,aP rfl]
     unfold World.cell?
     rw[hw _ hlt]
    simp only[this]
   have el:∀i,i<cap->(w'.cells? 0 (a.add (i*P.cellsOf e)) (P.cellsOf e)).bind (DataW.trod enc P w' 0 s' held n e)=(elems++rest)[i]?:=by
    intro i hi
    rw[hc,hcell i hi]
    obtain⟨ci,y,h1,h2,h3⟩:=each i hi
    rw[h1,h3,qae]
    exact(gt 20 e ks he w 0 _ held n ci y h2).2.2 w' 0 s' held
   have el0:∀i,i<cap->(w.cells? 0 (a.add (i*P.cellsOf e)) (P.cellsOf e)).bind (DataW.trod enc P w 0 (λ_=>true) held n e)=(elems++rest)[i]?:=by
    intro i hi
    rw[hc]
    obtain⟨ci,y,h1,h2,h3⟩:=each i hi
    rw[h1,h3,qae]
    exact h2
   unfold DataW.trod at hx0 ⊢
   simp only[ht]at hx0 ⊢
   rw[if_pos ⟨qaS _,hlc,hm⟩]at hx0 ⊢
   rw[dp (λi hi=>(el i (by have:=qaB.1 hi;omega)).trans (el0 i (by have:=qaB.1 hi;omega)).symm)]
   rw[dp (l:=List.range (cap - len)) (λj hj=>(el (len+j) (by have:=qaB.1 hj;omega)).trans (el0 (len+j) (by have:=qaB.1 hj;omega)).symm)]
   rw[hs' _ hlt]
   exact hx0
theorem ckF_ok{F:TypeId->Option (List CK2)}{w:World}{held:Bool}{fuel:Nat}(cs:List Value)(hl:∀v∈cs,Lies w v)
  (hF:∀t ks,F t=some ks->∀cs (x:DataW H×List MemPlace),(∀v∈cs,Lies w v)->DataW.trod enc P w 0 (λ_=>true) held fuel t cs=some x->cK w ks cs/\∀(w':World) (s':Nat->Bool),(∀b,b<w.heap.size->w'.heap[b]? = w.heap[b]?)->(∀b,b<w.heap.size->s' b=true)->DataW.trod enc P w' 0 s' held fuel t cs=some x) :
  ∀(fs:List Field) (off:Nat) (ks:List CK2) (xs:List (DataW H×List MemPlace)),ckF F fs off=some ks->fs.mapM (λf=>DataW.trod enc P w 0 (λ_=>true) held fuel f.type ((cs.drop f.offset).take (P.cellsOf f.type)))=some xs->
   cK w ks ((cs.drop off).take ks.length)/\∀(w':World) (s':Nat->Bool),(∀b,b<w.heap.size->w'.heap[b]? = w.heap[b]?)->(∀b,b<w.heap.size->s' b=true)->fs.mapM (λf=>DataW.trod enc P w' 0 s' held fuel f.type ((cs.drop f.offset).take (P.cellsOf f.type)))=some xs
 | [],off,ks,xs,h1,h2=>by
  simp only[ckF,qam]at h1
  subst h1
  simp only[qcH,qcs,qam]at h2
  subst h2
  refine⟨by simp[cK],λ_ _ _ _=>by simp⟩
 |f :: fs,off,ks,xs,h1,h2=>by
  simp only[ckF]at h1
  split at h1
  ·rename_i k1 e1 e2
   obtain⟨k2,e3,rfl⟩:=qab.1 h1
   have e1:=qac e1
   rw[qbu]at h2
   obtain⟨x,h3,h2⟩:=qah.1 h2
   obtain⟨ys,h4,h2⟩:=qah.1 h2
   cases h2
   obtain⟨a2,a3⟩:=hF _ _ e2 _ _ (λv hv=>hl v (qbk (qbd hv))) h3
   obtain⟨b2,b3⟩:=ckF_ok cs hl hF fs _ k2 ys e3 h4
   refine⟨?_,λw' s' hw hs'=>?_⟩
   ·rw[qaw,qcI]
    refine cK.app ?_ (by rw[qba];exact b2)
    have hl:=cK.len a2
    rw[e1]at a2 hl
    rw[←hl,eC]
    exact a2
   ·rw[qbu,a3 w' s' hw hs',b3 w' s' hw hs']
    rfl
  ·cases h1
theorem ckT_ok:∀(d:Nat) (t:TypeId) (ks:List CK2),ckT P d t=some ks->∀(w:World) (held:Bool) (fuel:Nat) (cs:List Value) (x:DataW H×List MemPlace),(∀v∈cs,Lies w v)->DataW.trod enc P w 0 (λ_=>true) held fuel t cs=some x->
  cK w ks cs/\∀(w':World) (s':Nat->Bool),(∀b,b<w.heap.size->w'.heap[b]? = w.heap[b]?)->(∀b,b<w.heap.size->s' b=true)->DataW.trod enc P w' 0 s' held fuel t cs=some x
 |0,_,_,h=>by cases h
 |d+1,t,ks,h=>by
  intro w held fuel cs x hl hx
  simp only[ckT]at h
  split at h
  ·rename_i k e
   cases h
   obtain⟨n,rfl,rfl,hw⟩:=DataW.trod_int e hx
   refine⟨⟨⟨n,rfl,hw⟩,trivial⟩,λw' s' _ _=>?_⟩
   cases fuel with
   |zero=>simp[DataW.trod]at hx
   |succ m=>simp[DataW.trod,e,hw]
  ·rename_i e
   cases h
   obtain⟨n,rfl,rfl⟩:=DataW.trod_bool e hx
   refine⟨⟨⟨n,rfl⟩,trivial⟩,λw' s' _ _=>?_⟩
   cases fuel with
   |zero=>simp[DataW.trod]at hx
   |succ m=>simp[DataW.trod,e]
  ·rename_i e e0
   split at h
   ·rename_i k2 e2
    split at h
    ·rename_i e3
     cases h
     simp only[qaa,qaN]at e3
     obtain⟨v,rfl,a2,a3⟩:=slice_ok e0 e2 (qac e3.1.1) e3.1.2 rfl hx hl
     exact⟨⟨a2,trivial⟩,a3⟩
    ·cases h
   ·cases h
  ·rename_i fs e
   split at h
   ·rename_i k2 e2
    split at h
    ·rename_i e3
     cases h
     have e3:=qac e3
     cases fuel with
     |zero=>simp[DataW.trod]at hx
     |succ m=>
      simp only[DataW.trod,e]at hx
      split at hx
      ·rename_i hlen
       obtain⟨xs,h5,rfl⟩:=qab.1 hx
       obtain⟨a2,a3⟩:=ckF_ok cs hl (λt ks h cs x hl hx=>ckT_ok d t ks h w held m cs x hl hx) fs.toList 0 ks xs e2 h5
       rw[qbb,qaO (by omega)]at a2
       refine⟨a2,λw' s' hw hs'=>?_⟩
       simp only[DataW.trod,e,hlen,if_true]
       rw[a3 w' s' hw hs']
       rfl
      ·cases hx
    ·cases h
   ·cases h
  ·cases h
abbrev Blk2:=HObj×Option Pl
def kY(w:World)(b:Blk2):Prop:=b.1 = .dead∨∃vs e p c t fr,b.1 = .cells vs e false/\b.2=some p/\p.esz=e/\vs.all flat=true/\vs.all aA=true/\vs.length<=p.room/\w.heap[p.b]? = some (.cells c t fr)/\c.size=p.o+p.room/\∀(i:Nat) v,vs[i]? = some v->c[p.o+i]? = some v
theorem jP:∀ {ks:List LK} {vs:List Value},FitC ks vs->vs.all flat=true/\vs.all aA=true
 | [],[],_=>⟨rfl,rfl⟩
 | .i k :: ks,v :: vs,h=>by
  obtain⟨⟨n,rfl,_⟩,h2⟩:=h
  obtain⟨a,b⟩:=jP h2
  exact⟨by simp[a,flat,dA,scalar],by simp[b];rfl⟩
 | .b :: ks,v :: vs,h=>by
  obtain⟨⟨n,rfl⟩,h2⟩:=h
  obtain⟨a,b⟩:=jP h2
  exact⟨by simp[a,flat,dA,scalar],by simp[b];rfl⟩
 | .v :: _,_,h=>by cases h
 | [],_ :: _,h=>by cases h
 | .i _ :: _,[],h=>by cases h
 | .b :: _,[],h=>by cases h
theorem jE{ks:List LK}(hk:0<ks.length){cells:List Value}{n:Nat}(hl:cells.length=n*ks.length)(h:∀i,i<n->FitC ks ((cells.drop (i*ks.length)).take ks.length)):cells.all flat=true/\cells.all aA=true:=by
 have main:∀j,j<cells.length->∃v,cells[j]? = some v/\flat v=true/\aA v=true:=by
  intro j hj
  have h1:j / ks.length<n:=by
   rw[Nat.div_lt_iff_lt_mul hk];omega
  obtain⟨a,b⟩:=jP (h _ h1)
  have hm:=qbU j hk
  have hd:=Nat.div_add_mod j ks.length
  have hmem:((cells.drop (j / ks.length*ks.length)).take ks.length)[j%ks.length]? = some cells[j]:=by
   rw[qaX,if_pos hm,qaZ]
   rw[show j / ks.length*ks.length+j%ks.length=j by rw[Nat.mul_comm];exact hd]
   exact qaj hj
  exact⟨_,qaj hj,qad.1 a _ (qar hmem),qad.1 b _ (qar hmem)⟩
 constructor<;>
 ·rw[qad]
  intro v hv
  obtain⟨j,hj⟩:=qbw hv
  have hlt:j<cells.length:=by
   rcases qaz j cells.length with h|h
   ·exact h
   ·rw[qaf h]at hj;cases hj
  obtain⟨v',h1,h2,h3⟩:=main j hlt
  rw[hj]at h1
  cases h1
  first|exact h2|exact h3
section
variable [Val] [Glo]
theorem cell_abs{w:World}{ck:CK2}{v:Value}(hp:∀ks,ck = .s ks->0<ks.length)(h:CellFit w ck v)(n0:Nat):∃(x:SL) (bl:List Blk2),(∀b∈bl,kY w b)/\x.is ck.lk=true/\x.good/\
  (∀mu:HMap,(∀(i:Nat) b,bl[i]? = some b->mu (n0+i)=b.2)->VR noL mu x.val v)/\∀hp:HL,(∀(i:Nat) b,bl[i]? = some b->hp[n0+i]? = some (.o b.1))->aO hp [ck] [x.lf]:=by
 cases ck with
 |i k=>
  obtain⟨n,rfl,hw⟩:=h
  exact⟨.i k n,[],by simp,by simp[SL.is,CK2.lk,cC],trivial,λmu _=>.scalar rfl,λhp _=>⟨hw,trivial⟩⟩
 |b=>
  obtain⟨t,rfl⟩:=h
  exact⟨.b t,[],by simp,rfl,trivial,λmu _=>.scalar rfl,λhp _=>trivial⟩
 |s ks=>
  have hk:=hp ks rfl
  rcases h with rfl|⟨a,len,cap,c,t,fr,cells,rfl,hs,hlc,hm,hblk,hsz,hcl,hget,hfit⟩
  ·refine⟨.v (.slice none 0 0),[],by simp,rfl,rfl,λmu _=>.scalar rfl,λhp _=>⟨⟨0,[],⟨by simp,.inl ⟨rfl,rfl⟩⟩,qaS _,λi hi=>by omega⟩,trivial⟩⟩
  ·obtain⟨hf1,hf2⟩:=jE hk hcl hfit
   have gd:bk (.slice (some ⟨n0,0,tag ks.length⟩) len 0)=true:=by simp[bk,noLoc,aR,bL,bb,aQ,az,tag]
   have ha:a=⟨a.block,a.off,none⟩:=by cases a;cases hs;rfl
   have fit:∀hp:HL,hp[n0]? = some (.o (.cells cells ks.length false))->aO hp [.s ks] [.v (.slice (some ⟨n0,0,tag ks.length⟩) len 0)]:=λhp h1=>
    ⟨⟨len,cells,⟨hcl,.inr ⟨n0,0,0,cells,false,rfl,h1,cut_all hcl⟩⟩,by omega,hfit⟩,trivial⟩
   by_cases hcap:cap=0
   ·subst hcap
    obtain rfl:len=0:=by omega
    have hce:cells=[]:=qbG (by omega)
    subst hce
    refine⟨.v (.slice (some ⟨n0,0,tag ks.length⟩) 0 0),[(.cells [] ks.length false,some ⟨a.block,c.size,0,ks.length⟩)],λb hb=>?_,rfl,gd,λmu _=>.hslice0 (qaS _),λhp h1=>fit hp (h1 0 _ rfl)⟩
    simp only[qat]at hb
    subst hb
    exact .inr ⟨[],ks.length,_,c,t,fr,rfl,rfl,rfl,rfl,rfl,qaS _,hblk,by simp,λi v hv=>by simp at hv⟩
   ·have hsz:a.off+cap*ks.length<=c.size:=hsz.resolve_left hcap
    have hle:=qaG ks.length hlc
    refine⟨.v (.slice (some ⟨n0,0,tag ks.length⟩) len 0),[(.cells cells ks.length false,some ⟨a.block,a.off,c.size - a.off,ks.length⟩)],λb hb=>?_,rfl,gd,λmu h1=>?_,λhp h1=>fit hp (h1 0 _ rfl)⟩
    ·simp only[qat]at hb
     subst hb
     exact .inr ⟨cells,ks.length,_,c,t,fr,rfl,rfl,rfl,hf1,hf2,by show cells.length<=c.size - a.off;omega,hblk,by show c.size=a.off+(c.size - a.off);omega,hget⟩
    ·have h2:=h1 0 _ rfl
     rw[ha]
     have:=VR.hslice (la:=noL) (mu:=mu) (id:=n0) (off:=0) (len:=len) (cap:=cap) (cx:=0) h2 (by show 0+cap*ks.length<=c.size - a.off;omega) hlc (.inl rfl)
     exact this
theorem oh{w:World}:∀ {cks:List CK2} {vs:List Value},(∀ks,CK2.s ks∈cks->0<ks.length)->cK w cks vs->∀n0,∃(xs:List SL) (bl:List Blk2),(∀b∈bl,kY w b)/\aD xs (cks.map CK2.lk)=true/\(∀x∈xs,x.good)/\xs.length=vs.length/\
  (∀mu:HMap,(∀(i:Nat) b,bl[i]? = some b->mu (n0+i)=b.2)->VRs noL mu (xs.map SL.val) vs)/\∀hp:HL,(∀(i:Nat) b,bl[i]? = some b->hp[n0+i]? = some (.o b.1))->aO hp cks (xs.map SL.lf)
 | [],[],_,_,n0=>⟨[],[],by simp,rfl,by simp,rfl,λmu _=>⟨rfl,λi x y h=>by simp at h⟩,λhp _=>trivial⟩
 |ck :: cks,v :: vs,hp,h,n0=>by
  obtain⟨x,bl,a1,a2,a3,a4,a5⟩:=cell_abs (λks e=>hp ks (by rw[e];exact qaM)) h.1 n0
  obtain⟨xs,bl',b1,b2,b3,b4,b5,b6⟩:=oh (λks e=>hp ks (qas _ e)) h.2 (n0+bl.length)
  have g1:∀ {α:Type} {f:Nat->α} {g:Blk2->α},(∀(i:Nat) b,(bl++bl')[i]? = some b->f (n0+i)=g b)->(∀(i:Nat) b,bl[i]? = some b->f (n0+i)=g b)/\∀(i:Nat) b,bl'[i]? = some b->f (n0+bl.length+i)=g b:=by
   intro α f g h
   refine⟨λi b hb=>h i b ?_,λi b hb=>?_⟩
   ·rw[qag (by
     rcases qaz i bl.length with h|h
     ·exact h
     ·rw[qaf h]at hb;cases hb)];exact hb
   ·rw[qa7]
    refine h _ b ?_
    rw[qak (by omega),qce];exact hb
  refine⟨x :: xs,bl++bl',λb hb=>?_,by simp[aD,a2,b2],λy hy=>?_,by simp[b4],λmu hmu=>?_,λhp hh=>?_⟩
  ·rcases qax.1 hb with h|h
   ·exact a1 b h
   ·exact b1 b h
  ·rcases qao.1 hy with rfl|hy
   ·exact a3
   ·exact b3 y hy
  ·obtain⟨h1,h2⟩:=g1 (f:=mu) (g:=λb=>b.2) hmu
   have c1:=a4 mu h1
   obtain⟨c2,c3⟩:=b5 mu h2
   refine⟨by simpa using c2,λi p q hi hj=>?_⟩
   cases i with
   |zero=>
    simp only[qau,qa1,qam]at hi hj
    subst hi hj;exact c1
   |succ i=>exact c3 i p q (by simpa using hi) (by simpa using hj)
  ·obtain⟨h1,h2⟩:=g1 (f:=λi=>hp[i]?) (g:=λb=>some (HO.o b.1)) hh
   exact aO.app (a5 hp h1) (b6 hp h2)
 | [],_ :: _,_,h,_=>by cases h
 |_ :: _,[],_,h,_=>by cases h
end
end
end Sx
end Go.Am

/-
 ARGUMENTS WITH SLICES: from the row's arguments to the machine,and back.
-/
set_option maxRecDepth 100000
namespace Go.Am
namespace Sx
open Go.ChangeShapes Go.WideShapes Go.ChangeAt Go.WideMaps Go.WideElems Go.RowKit
section
variable {H:Type} {enc:TypeId×Value->H} {P:Program}
theorem kg{w:World}{r:Reach}{b0:Nat}{u:TypeId}{v:Value}(h:Cell.okWide P w r b0 u v):Lies w v:=by
 rintro a len cap rfl
 have h1:∃e,w.has P r b0 a e cap:=by
  unfold Cell.okWide at h
  split at h<;>first|(rename_i e1 e2;cases e2;done)|(rename_i e1;cases e1;done)|skip
  all_goals
   unfold Cell.ok at h
   split at h<;>first|(cases h;done)|(rename_i e1 e2;cases e2;done)|skip
   all_goals first|(rename_i heq;injection heq with q1 q2 q3;subst q2 q3;cases q1;exact⟨_,h.2.2⟩)|skip
 obtain⟨e,_,h2,row,cells,h3,_⟩:=h1
 refine⟨h2,?_⟩
 unfold World.shape? at h3
 split at h3
 ·rename_i c el fr e1
  exact⟨c,el,fr,e1⟩
 ·cases h3
theorem qX{w:World}{r:Reach}{b0:Nat}{t:TypeId}{v:Value}(h:Value.okWide P w r b0 t v):∀x∈v.cells.toList,Lies w x:=by
 intro x hx
 unfold Value.okWide at h
 split at h
 ·obtain⟨cs,rfl,_,ts,_,_,h2⟩:=h
  obtain⟨i,hi⟩:=qbw hx
  obtain⟨u,_,h3⟩:=h2 i x (by simpa[Value.cells]using hi)
  exact kg h3
 ·obtain⟨cs,rfl,_,ts,_,_,h2⟩:=h
  obtain⟨i,hi⟩:=qbw hx
  obtain⟨u,_,h3⟩:=h2 i x (by simpa[Value.cells]using hi)
  exact kg h3
 ·have:x=v∨∃cs,v = .agg cs:=by
   cases v<;>first|(right;exact⟨_,rfl⟩)|(left;simpa[Value.cells]using hx)
  rcases this with rfl|⟨cs,rfl⟩
  ·exact kg h
  ·exfalso
   unfold Cell.okWide at h
   split at h<;>first|(rename_i e1 e2;cases e2;done)|(rename_i e1;cases e1;done)|skip
   all_goals
    unfold Cell.ok at h
    split at h<;>first|(cases h;done)|(rename_i e1 e2;cases e2;done)|skip
def skC(P:Program)(t:TypeId)(cks:List CK2):Option SK:=
 match P.underlying t,cks with
 |some (.struct _),cks=>some (.agg (cks.map CK2.lk))
 |some (.int _),[k]=>some (.leaf k.lk)
 |some .bool,[k]=>some (.leaf k.lk)
 |some (.slice _),[k]=>some (.leaf k.lk)
 |_,_=>none
def posK(cks:List CK2):Bool:=cks.all λk=>match k with
 | .s ks=>Nat.blt 0 ks.length
 |_=>true
theorem posK_ok{cks:List CK2}(h:posK cks=true):∀ks,CK2.s ks∈cks->0<ks.length:=by
 intro ks hk
 have:=qad.1 h _ hk
 simpa[qaN]using this
section
variable [Val] [Glo]
structure Abs(W:World)(n0:Nat)(bl:List Blk2):Prop where
 ok:∀b∈bl,kY W b
abbrev MuAt(mu:HMap)(n0:Nat)(bl:List Blk2):Prop:=∀(i:Nat) b,bl[i]? = some b->mu (n0+i)=b.2
abbrev HpAt(hp:HL)(n0:Nat)(bl:List Blk2):Prop:=∀(i:Nat) b,bl[i]? = some b->hp[n0+i]? = some (.o b.1)
abbrev pG(W W':World):Prop:=∀b,b<W.heap.size->W'.heap[b]? = W.heap[b]?
theorem open_arg2{W:World}{r:Reach}{b0:Nat}{held:Bool}{t:TypeId}{cks:List CK2}{sk:SK}{v:Value}{d:DataW H}{ps:List MemPlace}(h:ckT P 20 t=some cks)(hsk:skC P t cks=some sk)(hpos:posK cks=true)(hval:Value.okWide P W r b0 t v)(hd:DataW.Trod enc P W 0 (λ_=>true) held t v d ps)(n0:Nat) :
  ∃(x:S0) (bl:List Blk2),(∀b∈bl,kY W b)/\x.is sk=true/\x.good/\(∀mu:HMap,MuAt mu n0 bl->VR noL mu x.val v)/\(∀hp:HL,HpAt hp n0 bl->aO hp cks (x.cells.map SL.lf))/\
   ∀(W':World) (s':Nat->Bool),pG W W'->(∀b,b<W.heap.size->s' b=true)->DataW.Trod enc P W' 0 s' held t v d ps:=by
 obtain⟨fuel,hf⟩:=hd
 obtain⟨a1,a2⟩:=ckT_ok 20 t cks h W held fuel _ _ (qX hval) hf
 obtain⟨xs,bl,b1,b2,b3,b4,b5,b6⟩:=oh (posK_ok hpos) a1 n0
 have close:∀(W':World) (s':Nat->Bool),pG W W'->(∀b,b<W.heap.size->s' b=true)->DataW.Trod enc P W' 0 s' held t v d ps:=λW' s' h1 h2=>⟨fuel,a2 W' s' h1 h2⟩
 have leaf:(∀fs,P.underlying t≠some (.struct fs))->(∀n e,P.underlying t≠some (.array n e))->∀k,cks=[k]->sk = .leaf k.lk->∃(x:S0) (bl:List Blk2),(∀b∈bl,kY W b)/\x.is sk=true/\x.good/\(∀mu:HMap,MuAt mu n0 bl->VR noL mu x.val v)/\(∀hp:HL,HpAt hp n0 bl->aO hp cks (x.cells.map SL.lf))/\
   ∀(W':World) (s':Nat->Bool),pG W W'->(∀b,b<W.heap.size->s' b=true)->DataW.Trod enc P W' 0 s' held t v d ps:=by
  rintro hs1 hs2 k rfl rfl
  have hv:v.cells.toList=[v]:=by
   have h1:=cK.len a1
   cases v with
   |agg cs=>
    exfalso
    unfold Value.okWide at hval
    split at hval
    ·rename_i e;exact hs1 _ e
    ·rename_i e;exact hs2 _ _ e
    ·unfold Cell.okWide at hval
     split at hval<;>first|(rename_i e1 e2;cases e2;done)|(rename_i e1;cases e1;done)|skip
     all_goals
      unfold Cell.ok at hval
      split at hval<;>first|(cases hval;done)|(rename_i e1 e2;cases e2;done)|skip
   |_=>simp[Value.cells]
  rw[hv]at a1 b4 b5
  obtain⟨x,rfl⟩ : ∃x,xs=[x]:=List.length_eq_one_iff.1 b4
  refine⟨.leaf x,bl,b1,?_,λl hl=>?_,λmu hmu=>?_,λhp hh=>b6 hp hh,close⟩
  ·show x.is k.lk=true
   simpa[aD]using b2
  ·simp only[S0.cells,qat]at hl
   subst hl;exact b3 _ qaM
  ·exact(b5 mu hmu).2 0 _ _ rfl rfl
 unfold skC at hsk
 split at hsk
 ·rename_i fs e
  cases hsk
  obtain⟨cs,rfl,_⟩:=okWide_struct e hval
  refine⟨.agg xs,bl,b1,b2,b3,λmu hmu=>?_,λhp hh=>b6 hp hh,close⟩
  obtain⟨c1,c2⟩:=b5 mu hmu
  refine .agg (by simpa[Value.cells]using c1) λi x y hx hy=>c2 i x y (by simpa using hx) (by simpa[Value.cells]using hy)
 ·rename_i k e;cases hsk;exact leaf (λ_ h=>by rw[e]at h;cases h) (λ_ _ h=>by rw[e]at h;cases h) _ rfl rfl
 ·rename_i e;cases hsk;exact leaf (λ_ h=>by rw[e]at h;cases h) (λ_ _ h=>by rw[e]at h;cases h) _ rfl rfl
 ·rename_i e' e;cases hsk;exact leaf (λ_ h=>by rw[e]at h;cases h) (λ_ _ h=>by rw[e]at h;cases h) _ rfl rfl
 ·cases hsk
theorem iC{α:Type}{bl bl':List Blk2}{f:Nat->α}{g:Blk2->α}{n0:Nat}(h:∀(i:Nat) b,(bl++bl')[i]? = some b->f (n0+i)=g b):(∀(i:Nat) b,bl[i]? = some b->f (n0+i)=g b)/\∀(i:Nat) b,bl'[i]? = some b->f (n0+bl.length+i)=g b:=by
 refine⟨λi b hb=>h i b ?_,λi b hb=>?_⟩
 ·rw[qag (by
   rcases qaz i bl.length with h|h
   ·exact h
   ·rw[qaf h]at hb;cases hb)];exact hb
 ·rw[qa7]
  refine h _ b ?_
  rw[qak (by omega),qce];exact hb
theorem post_sl{P:Program}{f:Func}{s:ChangeSpec}{apart fresh handsOn:Bool}{W W':World}{args:Array Value}{v:Value}{ds gs:List (DataW H)}{before pa:List MemPlace}
  (hW:DataW.Whole enc P f.params.toList s.vars apart W args.toList ds gs before)
  (hres:∀(b:Nat) (sp:Nat->Bool) (hd:Bool),DataW.TrodAll enc P W' b sp hd f.resultTypes.toList (v.resultList f.resultTypes.size) (s.fn H (ds++gs)).results [])
  (hargs:DataW.TrodAll enc P W' 0 (λb=>decide (b<W.heap.size)) true f.params.toList args.toList (s.fn H (ds++gs)).args pa)
  (hvars:∀sp:Nat->Bool,DataW.TrodVars enc P W' sp s.vars (s.fn H (ds++gs)).vars [])
  (h1:W'.os=W.os) (h2:W'.output=W.output) (h3:∀b,b<W.heap.size->W'.heap[b]? = W.heap[b]?) :
  s.post enc P f apart fresh handsOn false W args v W':=
 ⟨ds,gs,before,[],pa,[],hW,hres _ _ _,hargs,hvars _,kept_of h1 h2 h3 _,λh=>by cases h⟩
end
end
section
variable [Val]
theorem od{C:Cfg}{N:FuncId->Option Nat}{Sg:FuncId->Option Sig}(hm:C.P.follows .mixedOrders=true){g:FuncId}{sg:Sig}(hs:Sg g=some sg){ls rs:List Lf}{H H':List HObj}(hc:let _:Kno:=KnoC C N;bG C Sg g ls H rs H'){xs ys:List S0}(h1:bD xs sg.ps=true)(h2:bH xs=ls)(h3:bD ys sg.rs=true)(h4:bH ys=rs) :
  dP C g (af xs) H (dZ (af ys)) H':=by
 let _:Kno:=KnoC C N
 obtain⟨sg',xs',ys',c1,c2,c3,c4⟩:=hc
 rw[hs]at c1
 cases c1
 obtain⟨w1,_⟩:=cp c2.1 h1 (c2.2.1.trans h2.symm)
 obtain⟨w2,_⟩:=cp c3.1 h3 (c3.2.1.trans h4.symm)
 rw[w1,w2]at c4
 exact pD hm c4
end
end Sx
end Go.Am

/-
 ARGUMENTS WITH SLICES: lists of what lies behind them.
-/
set_option maxRecDepth 100000
namespace Go.Am
namespace Sx
theorem ol{α:Type}{ks:List LK}{enc:α->List Value}{ok:α->Prop}(dec:∀cs,FitC ks cs->∃a,enc a=cs/\ok a):∀(n:Nat) (cells:List Value),cells.length=n*ks.length->(∀i,i<n->FitC ks ((cells.drop (i*ks.length)).take ks.length))->∃l:List α,l.length=n/\l.flatMap enc=cells/\∀a∈l,ok a
 |0,cells,hl,_=>⟨[],rfl,by
   simp only[qbl,qbj]at hl
   rw[hl];rfl,λ_ h=>by cases h⟩
 |n+1,cells,hl,hf=>by
  obtain⟨a,h1,h2⟩:=dec _ (by have:=hf 0 (by omega);rw[qbl,qbb]at this;exact this)
  obtain⟨l,h3,h4,h5⟩:=ol dec n (cells.drop ks.length) (by rw[qbF,hl,qa0];omega) (λi hi=>by
   have:=hf (i+1) (by omega)
   rw[qba]
   rw[qa0,qbE,qcC]at this
   exact this)
  refine⟨a :: l,by simp[h3],?_,λb hb=>?_⟩
  ·rw[qbt,h1,h4,qbK]
  ·rcases qao.1 hb with rfl|hb
   ·exact h2
   ·exact h5 b hb
theorem ls_of{α:Type}{ks:List LK}{enc:α->List Value}{ok:α->Prop}(hlen:∀a,(enc a).length=ks.length)(dec:∀cs,FitC ks cs->∃a,enc a=cs/\ok a){h:HL}{x:Value}{n:Nat}{cells:List Value}(hs:SlC h x ks.length n cells)(hf:∀i,i<n->FitC ks ((cells.drop (i*ks.length)).take ks.length)) :
  ∃l:List α,LsH h x ks.length enc l/\l.length=n/\∀a∈l,ok a:=by
 obtain⟨l,h1,h2,h3⟩:=ol dec n cells hs.1 hf
 refine⟨l,⟨λa _=>hlen a,?_⟩,h1,h3⟩
 rw[h1,h2];exact hs
theorem aO.i{h:HL}{k:IntKind}{ks:List CK2}{ls:List Lf}(hf:aO h (.i k :: ks) ls):∃n r,ls = .i n :: r/\(Lit.int k n).wf=true/\aO h ks r:=by
 match ls,hf with
 | .i n :: r,hf=>exact⟨n,r,rfl,hf.1,hf.2⟩
theorem aO.b{h:HL}{ks:List CK2}{ls:List Lf}(hf:aO h (.b :: ks) ls):∃n r,ls = .b n :: r/\aO h ks r:=by
 match ls,hf with
 | .b n :: r,hf=>exact⟨n,r,rfl,hf⟩
theorem aO.s{h:HL}{es:List LK}{ks:List CK2}{ls:List Lf}(hf:aO h (.s es :: ks) ls):∃x r n cells,ls = .v x :: r/\SlC h x es.length n cells/\n<=maxLen/\(∀i,i<n->FitC es ((cells.drop (i*es.length)).take es.length))/\aO h ks r:=by
 match ls,hf with
 | .v x :: r,⟨⟨n,cells,h1,h2,h3⟩,h4⟩=>exact⟨x,r,n,cells,rfl,h1,h2,h3,h4⟩
theorem aO.nil{h:HL}{ls:List Lf}(hf:aO h [] ls):ls=[]:=by
 match ls,hf with
 | [],_=>rfl
theorem hp_at(bl:List Blk2):HpAt (bl.map λb=>HO.o b.1) 0 bl:=λi b hb=>by
 rw[qaJ,qaF,hb];rfl
theorem absH_bl(T:Nat->Site)(bl:List Blk2):absH T (bl.map λb=>HO.o b.1)=bl.map (·.1):=by
 induction bl with
 |nil=>rfl
 |cons b l ih=>show absO T (.o b.1) :: absH T (l.map λb=>HO.o b.1)=_;rw[ih];rfl
end Sx
end Go.Am

/-
 ARGUMENTS THAT ARE SLICES OF ELEMENTS WITH SLICES: what is known of them at first.
-/
set_option maxRecDepth 100000
namespace Go.Am
namespace Sx
open Go.ChangeShapes Go.WideShapes Go.ChangeAt Go.WideMaps Go.WideElems Go.RowKit
def Wt{H:Type}(P:Program)(t:TypeId)(d:DataW H):Prop:=∀n∈d.weights P t,n<=reachBytes
def SzOk(ks:List LK)(v:Value):Prop:=∀a len cap,v = .slice a len cap->cap*kbs ks<=reachBytes
theorem dO{H:Type}{P:Program}{e:TypeId}{n:Nat}:∀ {l:List (DataW H)} {d:DataW H},d∈l->n∈d.weights P e->n∈DataW.weightsAll P e l
 |x :: l,d,h,hn=>by
  simp only[DataW.weightsAll,qax]
  rcases qao.1 h with rfl|h
  ·exact .inl hn
  ·exact .inr (dO h hn)
def SlFitN(w:World)(ks:List LK)(v:Value):Prop:=(∃a,v = .slice (some a) 0 0)∨SlFit w ks v
def qz(w:World):CK2->Value->Prop
 | .s ks,v=>SlFitN w ks v/\SzOk ks v
 | .i k,v=>∃n,v = .int k n/\(Lit.int k n).wf=true
 | .b,v=>∃t,v = .bool t
def bK(w:World):List CK2->List Value->Prop
 | [],[]=>True
 |k :: ks,v :: vs=>qz w k v/\bK w ks vs
 |_,_=>False
theorem bK.len{w:World}:∀ {ks:List CK2} {vs:List Value},bK w ks vs->vs.length=ks.length
 | [],[],_=>rfl
 |_ :: _,_ :: _,h=>by simp[bK.len h.2]
 | [],_ :: _,h=>by cases h
 |_ :: _,[],h=>by cases h
theorem bK.app{w:World}:∀ {ks ks':List CK2} {vs vs':List Value},bK w ks vs->bK w ks' vs'->bK w (ks++ks') (vs++vs')
 | [],_,[],_,_,h=>h
 |_ :: _,_,_ :: _,_,h,h'=>⟨h.1,bK.app h.2 h'⟩
 | [],_,_ :: _,_,h,_=>by cases h
 |_ :: _,_,[],_,h,_=>by cases h
def SlQ(w:World)(m:Nat)(Q:List Value->Prop)(v:Value):Prop:=
 v = .slice none 0 0∨(∃a,v = .slice (some a) 0 0)∨∃(a:Addr) (len cap:Nat) (c:Array Value) (t:TypeId) (fr:Nat×Nat) (cells:List Value),v = .slice (some a) len cap/\0<cap/\a.spot=none/\len<=cap/\cap<=maxLen/\
  w.heap[a.block]? = some (.cells c t fr)/\a.off+cap*m<=c.size/\cells.length=len*m/\(∀(i:Nat) v,cells[i]? = some v->c[a.off+i]? = some v)/\
  ∀i,i<len->Q ((cells.drop (i*m)).take m)
section
variable {H:Type} {enc:TypeId×Value->H} {P:Program}
theorem cell_lies{w:World}{a:Addr}{v:Value}(h:w.cell? a=some v):a.spot=none/\∃c t fr,w.heap[a.block]? = some (.cells c t fr)/\c[a.off]? = some v:=by
 unfold World.cell? at h
 split at h<;>first|(cases h;done)|skip
 rename_i c t fr e2
 cases hs:a.spot with
 |none=>rw[hs]at h;exact⟨rfl,c,t,fr,e2,by simpa using h⟩
 |some s=>rw[hs]at h;simp at h
theorem sliceG{w:World}{t e:TypeId}{m:Nat}(ht:P.underlying t=some (.slice e))(hc:P.cellsOf e=m)(h0:0<m){Q:List Value->Prop}{held:Bool}{fuel:Nat}{cs:List Value}{x:DataW H×List MemPlace}
  (hE:∀n cs y,DataW.trod enc P w 0 (λ_=>true) held n e cs=some y->Wt P e y.1->Q cs/\∀(w':World) (s':Nat->Bool),(∀b,b<w.heap.size->w'.heap[b]? = w.heap[b]?)->(∀b,b<w.heap.size->s' b=true)->DataW.trod enc P w' 0 s' held n e cs=some y)
  (hx:DataW.trod enc P w 0 (λ_=>true) held fuel t cs=some x) (hwt:Wt P t x.1) :
  ∃v,cs=[v]/\(SlQ w m Q v/\∀a len cap,v = .slice a len cap->cap*P.bytesOf e<=reachBytes)/\∀(w':World) (s':Nat->Bool),(∀b,b<w.heap.size->w'.heap[b]? = w.heap[b]?)->(∀b,b<w.heap.size->s' b=true)->DataW.trod enc P w' 0 s' held fuel t cs=some x:=by
 have hx0:=hx
 rcases DataW.trod_slice ht hx with⟨rfl,rfl⟩|⟨a,len,cap,elems,rest,n,rfl,rfl,rfl,hb,hlc,hm,hlen,hel,hsp,_⟩
 ·refine⟨_,rfl,⟨.inl rfl,λa len cap h=>by cases h;simp⟩,λw' s' _ _=>?_⟩
  cases fuel with
  |zero=>simp[DataW.trod]at hx
  |succ m=>simp[DataW.trod,ht]
 ·obtain⟨hrl,hr⟩:=hsp rfl
  have hw0:cap*P.bytesOf e<=reachBytes:=by
   have:=hwt ((elems.length+rest.length)*P.bytesOf e) (by simp[DataW.weights,ht])
   rwa [hlen,hrl,Nat.add_sub_cancel' hlc]at this
  have hwe:∀y∈elems++rest,Wt P e y.1:=λy hy n hn=>hwt n (by
   simp only[DataW.weights,ht,qao,qax]
   right
   rcases qax.1 hy with h|h
   ·exact .inl (dO (List.mem_map_of_mem h) hn)
   ·exact .inr (dO (List.mem_map_of_mem h) hn))
  rw[hc]at hel hr
  have each:∀i,i<cap->∃ci y,w.cells? 0 (a.add (i*m)) m=some ci/\DataW.trod enc P w 0 (λ_=>true) held n e ci=some y/\(elems++rest)[i]? = some y:=by
   intro i hi
   by_cases h1:i<len
   ·have h2:=hel i h1
    have h3:elems[i]? = some elems[i]:=qaj (by omega)
    rw[h3]at h2
    obtain⟨ci,h4,h5⟩:=qah.1 h2
    exact⟨ci,_,h4,h5,by rw[qag (by omega)];exact h3⟩
   ·have h2:=hr (i - len) (by omega)
    rw[show len+(i - len)=i by omega]at h2
    have h3:rest[i - len]? = some (rest[i - len]'(by omega)):=qaj (by omega)
    rw[h3]at h2
    obtain⟨ci,h4,h5⟩:=qah.1 h2
    exact⟨ci,_,h4,h5,by rw[qak (by omega),hlen];exact h3⟩
  by_cases hcap:cap=0
  ·subst hcap
   obtain rfl:len=0:=by omega
   refine⟨_,rfl,⟨.inr (.inl ⟨a,rfl⟩),λa' len' cap' h=>by cases h;exact hw0⟩,λw' s' _ _=>?_⟩
   unfold DataW.trod at hx0 ⊢
   simp only[ht]at hx0 ⊢
   simpa using hx0
  obtain⟨hs,c,t',fr,hblk⟩ : a.spot=none/\∃c t fr,w.heap[a.block]? = some (.cells c t fr):=by
   obtain⟨ci,y,h1,_,_⟩:=each 0 (by omega)
   have h2:=(World.cells?_some h1).2.2 0 h0
   have hcl:=(World.cells?_some h1).2.1
   rw[qaj (by omega)]at h2
   rw[show(a.add (0*m)).add 0=a by simp[Addr.add]]at h2
   obtain⟨g1,c,t,fr,g2,_⟩:=cell_lies h2
   exact⟨g1,c,t,fr,g2⟩
  have hlt:a.block<w.heap.size:=by
   rcases qaz a.block w.heap.size with h|h
   ·exact h
   ·rw[qbe h]at hblk;cases hblk
  have rd:∀i,i<cap->∀j,j<m->∀ci,w.cells? 0 (a.add (i*m)) m=some ci->c[a.off+i*m+j]? = ci[j]?:=by
   intro i hi j hj ci hci
   have h1:=(World.cells?_some hci).2.2 j hj
   rw[aP hs,aP rfl]at h1
   rw[←h1]
   unfold World.cell?
   simp[hblk]
  have hsz:a.off+cap*m<=c.size:=by
   obtain⟨ci,y,h1,_,_⟩:=each (cap - 1) (by omega)
   have h2:=rd (cap - 1) (by omega) (m - 1) (by omega) ci h1
   have hcl:=(World.cells?_some h1).2.1
   rw[qaj (by omega)]at h2
   have h3:=(qav.1 h2).1
   have h4:cap*m=(cap - 1)*m+m:=by
    rw[←Nat.succ_mul];congr 1;omega
   omega
  have hle:=qaG m hlc
  refine⟨_,rfl,⟨.inr (.inr ⟨a,len,cap,c,t',fr,(c.toList.drop a.off).take (len*m),rfl,by omega,hs,hlc,hm,hblk,hsz,?_,?_,?_⟩),λa' len' cap' h=>by cases h;exact hw0⟩,?_⟩
  ·rw[qbo,qbF]
   have hcz:c.toList.length=c.size:=qbT
   omega
  ·intro i v hv
   rw[qaX]at hv
   split at hv
   ·rw[qaZ]at hv
    simpa using hv
   ·cases hv
  ·intro i hi
   obtain⟨ci,y,h1,h2,h4⟩:=each i (by omega)
   obtain⟨h3,_⟩:=hE n ci y h2 (hwe y (qar h4))
   have hcl:=(World.cells?_some h1).2.1
   have:(((c.toList.drop a.off).take (len*m)).drop (i*m)).take m=ci:=by
    apply qaV
    intro j
    by_cases hj:j<m
    ·have hle:i*m+m<=len*m:=by
      have:=qaG m (show i+1<=len by omega)
      rw[qa0,qbE]at this;exact this
     rw[qaX,if_pos hj,qaZ,qaX,if_pos (by omega),qaZ,←rd i (by omega) j hj ci h1]
     rw[qb1,qa7]
    ·rw[qaf (by rw[qbo];omega),qaf (by omega)]
   rw[this];exact h3
  ·intro w' s' hw hs'
   have hcell:∀i,i<cap->w'.cells? 0 (a.add (i*m)) m=w.cells? 0 (a.add (i*m)) m:=by
    intro i hi
    unfold World.cells?
    have:∀j,w'.cell? ((a.add (i*m)).add j)=w.cell? ((a.add (i*m)).add j):=by
     intro j
     rw[aP hs,aP rfl]
     unfold World.cell?
     rw[hw _ hlt]
    simp only[this]
   have el:∀i,i<cap->(w'.cells? 0 (a.add (i*P.cellsOf e)) (P.cellsOf e)).bind (DataW.trod enc P w' 0 s' held n e)=(elems++rest)[i]?:=by
    intro i hi
    rw[hc,hcell i hi]
    obtain⟨ci,y,h1,h2,h3⟩:=each i hi
    rw[h1,h3,qae]
    exact(hE n ci y h2 (hwe y (qar h3))).2 w' s' hw hs'
   have el0:∀i,i<cap->(w.cells? 0 (a.add (i*P.cellsOf e)) (P.cellsOf e)).bind (DataW.trod enc P w 0 (λ_=>true) held n e)=(elems++rest)[i]?:=by
    intro i hi
    rw[hc]
    obtain⟨ci,y,h1,h2,h3⟩:=each i hi
    rw[h1,h3,qae]
    exact h2
   unfold DataW.trod at hx0 ⊢
   simp only[ht]at hx0 ⊢
   rw[if_pos ⟨qaS _,hlc,hm⟩]at hx0 ⊢
   rw[dp (λi hi=>(el i (by have:=qaB.1 hi;omega)).trans (el0 i (by have:=qaB.1 hi;omega)).symm)]
   rw[dp (l:=List.range (cap - len)) (λj hj=>(el (len+j) (by have:=qaB.1 hj;omega)).trans (el0 (len+j) (by have:=qaB.1 hj;omega)).symm)]
   rw[hs' _ hlt]
   exact hx0
theorem slice_okN{w:World}{t e:TypeId}{ks:List LK}(ht:P.underlying t=some (.slice e))(he:pT P 20 e=some ks)(hc:P.cellsOf e=ks.length)(h0:0<ks.length)(hB:kbs ks<=P.bytesOf e){held:Bool}{fuel:Nat}{cs:List Value}{x:DataW H×List MemPlace}
  (hx:DataW.trod enc P w 0 (λ_=>true) held fuel t cs=some x) (hwt:Wt P t x.1) :
  ∃v,cs=[v]/\(SlFitN w ks v/\SzOk ks v)/\∀(w':World) (s':Nat->Bool),(∀b,b<w.heap.size->w'.heap[b]? = w.heap[b]?)->(∀b,b<w.heap.size->s' b=true)->DataW.trod enc P w' 0 s' held fuel t cs=some x:=by
 obtain⟨v,h1,⟨h2,h4⟩,h3⟩:=sliceG ht hc h0 (Q:=FitC ks) (λn cs y hy _=>⟨(gt 20 e ks he w 0 _ held n cs y hy).2.1,λw' s' _ _=>(gt 20 e ks he w 0 _ held n cs y hy).2.2 w' 0 s' held⟩) hx hwt
 refine⟨v,h1,⟨?_,λa len cap h=>qbL (Nat.mul_le_mul_left cap hB) (h4 a len cap h)⟩,h3⟩
 rcases h2 with rfl|⟨a,rfl⟩|⟨a,len,cap,c,t,fr,cells,rfl,_,hs,hlc,hm,hb,hz,hl,hg,hf⟩
 ·exact .inr (.inl rfl)
 ·exact .inl ⟨a,rfl⟩
 ·exact .inr (.inr ⟨a,len,cap,c,t,fr,cells,rfl,hs,hlc,hm,hb,.inr hz,hl,hg,hf⟩)
theorem ckF_okN{F:TypeId->Option (List CK2)}{w:World}{held:Bool}{fuel:Nat}(cs:List Value)
  (hF:∀t ks,F t=some ks->∀cs (x:DataW H×List MemPlace),DataW.trod enc P w 0 (λ_=>true) held fuel t cs=some x->Wt P t x.1->bK w ks cs/\∀(w':World) (s':Nat->Bool),(∀b,b<w.heap.size->w'.heap[b]? = w.heap[b]?)->(∀b,b<w.heap.size->s' b=true)->DataW.trod enc P w' 0 s' held fuel t cs=some x) :
  ∀(fs:List Field) (off:Nat) (ks:List CK2) (xs:List (DataW H×List MemPlace)),ckF F fs off=some ks->fs.mapM (λf=>DataW.trod enc P w 0 (λ_=>true) held fuel f.type ((cs.drop f.offset).take (P.cellsOf f.type)))=some xs->(∀n∈DataW.weightsEach P (fs.map (·.type)) (xs.map (·.1)),n<=reachBytes)->
   bK w ks ((cs.drop off).take ks.length)/\∀(w':World) (s':Nat->Bool),(∀b,b<w.heap.size->w'.heap[b]? = w.heap[b]?)->(∀b,b<w.heap.size->s' b=true)->fs.mapM (λf=>DataW.trod enc P w' 0 s' held fuel f.type ((cs.drop f.offset).take (P.cellsOf f.type)))=some xs
 | [],off,ks,xs,h1,h2,_=>by
  simp only[ckF,qam]at h1
  subst h1
  simp only[qcH,qcs,qam]at h2
  subst h2
  refine⟨by simp[bK],λ_ _ _ _=>by simp⟩
 |f :: fs,off,ks,xs,h1,h2,hw=>by
  simp only[ckF]at h1
  split at h1
  ·rename_i k1 e1 e2
   obtain⟨k2,e3,rfl⟩:=qab.1 h1
   have e1:=qac e1
   rw[qbu]at h2
   obtain⟨x,h3,h2⟩:=qah.1 h2
   obtain⟨ys,h4,h2⟩:=qah.1 h2
   cases h2
   simp only[qau,DataW.weightsEach,qax]at hw
   obtain⟨a2,a3⟩:=hF _ _ e2 _ _ h3 λn hn=>hw n (.inl hn)
   obtain⟨b2,b3⟩:=ckF_okN cs hF fs _ k2 ys e3 h4 λn hn=>hw n (.inr hn)
   refine⟨?_,λw' s' hw hs'=>?_⟩
   ·rw[qaw,qcI]
    refine bK.app ?_ (by rw[qba];exact b2)
    have hl:=bK.len a2
    rw[e1]at a2 hl
    rw[←hl,eC]
    exact a2
   ·rw[qbu,a3 w' s' hw hs',b3 w' s' hw hs']
    rfl
  ·cases h1
theorem ckT_okN:∀(d:Nat) (t:TypeId) (ks:List CK2),ckT P d t=some ks->∀(w:World) (held:Bool) (fuel:Nat) (cs:List Value) (x:DataW H×List MemPlace),DataW.trod enc P w 0 (λ_=>true) held fuel t cs=some x->Wt P t x.1->
  bK w ks cs/\∀(w':World) (s':Nat->Bool),(∀b,b<w.heap.size->w'.heap[b]? = w.heap[b]?)->(∀b,b<w.heap.size->s' b=true)->DataW.trod enc P w' 0 s' held fuel t cs=some x
 |0,_,_,h=>by cases h
 |d+1,t,ks,h=>by
  intro w held fuel cs x hx hwt
  simp only[ckT]at h
  split at h
  ·rename_i k e
   cases h
   obtain⟨n,rfl,rfl,hw⟩:=DataW.trod_int e hx
   refine⟨⟨⟨n,rfl,hw⟩,trivial⟩,λw' s' _ _=>?_⟩
   cases fuel with
   |zero=>simp[DataW.trod]at hx
   |succ m=>simp[DataW.trod,e,hw]
  ·rename_i e
   cases h
   obtain⟨n,rfl,rfl⟩:=DataW.trod_bool e hx
   refine⟨⟨⟨n,rfl⟩,trivial⟩,λw' s' _ _=>?_⟩
   cases fuel with
   |zero=>simp[DataW.trod]at hx
   |succ m=>simp[DataW.trod,e]
  ·rename_i e e0
   split at h
   ·rename_i k2 e2
    split at h
    ·rename_i e3
     cases h
     simp only[qaa,qaN]at e3
     obtain⟨v,rfl,a2,a3⟩:=slice_okN e0 e2 (qac e3.1.1) e3.1.2 (Nat.le_of_ble_eq_true e3.2) hx hwt
     exact⟨⟨a2,trivial⟩,a3⟩
    ·cases h
   ·cases h
  ·rename_i fs e
   split at h
   ·rename_i k2 e2
    split at h
    ·rename_i e3
     cases h
     have e3:=qac e3
     cases fuel with
     |zero=>simp[DataW.trod]at hx
     |succ m=>
      simp only[DataW.trod,e]at hx
      split at hx
      ·rename_i hlen
       obtain⟨xs,h5,rfl⟩:=qab.1 hx
       obtain⟨a2,a3⟩:=ckF_okN cs (λt ks h cs x hx=>ckT_okN d t ks h w held m cs x hx) fs.toList 0 ks xs e2 h5 (λn hn=>hwt n (by simpa[DataW.weights,e]using hn))
       rw[qbb,qaO (by omega)]at a2
       refine⟨a2,λw' s' hw hs'=>?_⟩
       simp only[DataW.trod,e,hlen,if_true]
       rw[a3 w' s' hw hs']
       rfl
      ·cases hx
    ·cases h
   ·cases h
  ·cases h
end
def cS(h:HL):List CK2->List Value->Prop
 | [],[]=>True
 | .i k :: ks,v :: vs=>(∃n,v = .int k n/\(Lit.int k n).wf=true)/\cS h ks vs
 | .b :: ks,v :: vs=>(∃t,v = .bool t)/\cS h ks vs
 | .s es :: ks,v :: vs=>(bk v=true/\∃n cells,SlC h v es.length n cells/\n*kbs es<=reachBytes/\∀i,i<n->FitC es ((cells.drop (i*es.length)).take es.length))/\cS h ks vs
 |_,_=>False
theorem cS.len{h:HL}:∀ {ks:List CK2} {vs:List Value},cS h ks vs->vs.length=ks.length
 | [],[],_=>rfl
 | .i _ :: _,_ :: _,h=>by simp[cS.len h.2]
 | .b :: _,_ :: _,h=>by simp[cS.len h.2]
 | .s _ :: _,_ :: _,h=>by simp[cS.len h.2]
 | [],_ :: _,h=>by cases h
 | .i _ :: _,[],h=>by cases h
 | .b :: _,[],h=>by cases h
 | .s _ :: _,[],h=>by cases h
section
variable [Val] [Glo]
def BlkM(w:World)(M:HMap->Prop)(b:Blk2):Prop:=b.1 = .dead∨∃vs e p c t fr,b.1 = .cells vs e false/\b.2=some p/\p.esz=e/\vs.all aA=true/\vs.length<=p.room/\w.heap[p.b]? = some (.cells c t fr)/\c.size=p.o+p.room/\∀mu,M mu->∀(i:Nat) v,vs[i]? = some v->∃cv,c[p.o+i]? = some cv/\VR noL mu v cv
theorem BlkM.mono{w:World}{M M':HMap->Prop}{b:Blk2}(h:BlkM w M b)(hm:∀mu,M' mu->M mu):BlkM w M' b:=by
 rcases h with h|⟨vs,e,p,c,t,fr,h1,h2,h3,h4,h5,h6,h7,h8⟩
 ·exact .inl h
 ·exact .inr ⟨vs,e,p,c,t,fr,h1,h2,h3,h4,h5,h6,h7,λmu hmu=>h8 mu (hm mu hmu)⟩
theorem BlkM.of{w:World}{M:HMap->Prop}{b:Blk2}(h:kY w b):BlkM w M b:=by
 rcases h with h|⟨vs,e,p,c,t,fr,h1,h2,h3,hf,h4,h5,h6,h7,h8⟩
 ·exact .inl h
 ·exact .inr ⟨vs,e,p,c,t,fr,h1,h2,h3,h4,h5,h6,h7,λmu _ i v hv=>⟨v,h8 i v hv,.of_flat (qad.1 hf v (qar hv))⟩⟩
theorem cell_absN{w:World}{ob:Nat}{oc:Array Value}{ot:TypeId}{ofr:Nat×Nat}(hob:w.heap[ob]? = some (.cells oc ot ofr)){ck:CK2}{v:Value}(hp:∀ks,ck = .s ks->0<ks.length)(h:qz w ck v)(n0:Nat):∃(x:Value) (bl:List Blk2),(∀b∈bl,kY w b)/\aA x=true/\
  (∀mu:HMap,MuAt mu n0 bl->VR noL mu x v)/\∀hp:HL,HpAt hp n0 bl->cS hp [ck] [x]:=by
 cases ck with
 |i k=>
  obtain⟨n,rfl,hw⟩:=h
  exact⟨.int k n,[],by simp,rfl,λmu _=>.scalar rfl,λhp _=>⟨⟨n,rfl,hw⟩,trivial⟩⟩
 |b=>
  obtain⟨t,rfl⟩:=h
  exact⟨.bool t,[],by simp,rfl,λmu _=>.scalar rfl,λhp _=>⟨⟨t,rfl⟩,trivial⟩⟩
 |s ks=>
  have hk:=hp ks rfl
  have gd:∀len,bk (.slice (some ⟨n0,0,tag ks.length⟩) len 0)=true:=λlen=>by simp[bk,noLoc,aR,bL,bb,aQ,az,tag]
  have ck:∀len,aA (.slice (some ⟨n0,0,tag ks.length⟩) len 0)=true:=λlen=>by simp[aA,noLoc,aR,bL,bb,aQ,az,tag]
  have dummy:∀(a:Addr) (b:Nat) (c:Array Value) (t:TypeId) (fr:Nat×Nat),w.heap[b]? = some (.cells c t fr)->∃(x:Value) (bl:List Blk2),(∀b∈bl,kY w b)/\aA x=true/\
    (∀mu:HMap,MuAt mu n0 bl->VR noL mu x (.slice (some a) 0 0))/\∀hp:HL,HpAt hp n0 bl->cS hp [.s ks] [x]:=λa b c t fr hb=>by
   refine⟨.slice (some ⟨n0,0,tag ks.length⟩) 0 0,[(.cells [] ks.length false,some ⟨b,c.size,0,ks.length⟩)],λb' hb'=>?_,ck 0,λmu _=>.hslice0 (qaS _),λhp h1=>⟨⟨gd 0,0,[],⟨by simp,.inr ⟨n0,0,0,[],false,rfl,h1 0 _ rfl,by simp[cut]⟩⟩,by rw[qbl];exact qaS _,λi hi=>by omega⟩,trivial⟩⟩
   simp only[qat]at hb'
   subst hb'
   exact .inr ⟨[],ks.length,_,c,t,fr,rfl,rfl,rfl,rfl,rfl,qaS _,hb,by simp,λi v hv=>by simp at hv⟩
  obtain⟨h,hsz0⟩:=h
  rcases h with⟨a,rfl⟩|rfl|⟨a,len,cap,c,t,fr,cells,rfl,hs,hlc,hm,hblk,hsz,hcl,hget,hfit⟩
  ·exact dummy a ob oc ot ofr hob
  ·exact⟨.slice none 0 0,[],by simp,rfl,λmu _=>.scalar rfl,λhp _=>⟨⟨rfl,0,[],⟨by simp,.inl ⟨rfl,rfl⟩⟩,by rw[qbl];exact qaS _,λi hi=>by omega⟩,trivial⟩⟩
  ·by_cases hcap:cap=0
   ·subst hcap
    obtain rfl:len=0:=by omega
    exact dummy a a.block c t fr hblk
   obtain⟨hf1,hf2⟩:=jE hk hcl hfit
   have ha:a=⟨a.block,a.off,none⟩:=by cases a;cases hs;rfl
   have hsz:a.off+cap*ks.length<=c.size:=hsz.resolve_left hcap
   have hle:=qaG ks.length hlc
   refine⟨.slice (some ⟨n0,0,tag ks.length⟩) len 0,[(.cells cells ks.length false,some ⟨a.block,a.off,c.size - a.off,ks.length⟩)],λb hb=>?_,ck len,λmu h1=>?_,λhp h1=>⟨⟨gd len,len,cells,⟨hcl,.inr ⟨n0,0,0,cells,false,rfl,h1 0 _ rfl,cut_all hcl⟩⟩,qbL (qaG _ hlc) (hsz0 _ len cap rfl),hfit⟩,trivial⟩⟩
   ·simp only[qat]at hb
    subst hb
    exact .inr ⟨cells,ks.length,_,c,t,fr,rfl,rfl,rfl,hf1,hf2,by show cells.length<=c.size - a.off;omega,hblk,by show c.size=a.off+(c.size - a.off);omega,hget⟩
   ·have h2:=h1 0 _ rfl
    rw[ha]
    have:=VR.hslice (la:=noL) (mu:=mu) (id:=n0) (off:=0) (len:=len) (cap:=cap) (cx:=0) h2 (by show 0+cap*ks.length<=c.size - a.off;omega) hlc (.inl rfl)
    exact this
theorem cS.app{h:HL}:∀ {ks ks':List CK2} {vs vs':List Value},cS h ks vs->cS h ks' vs'->cS h (ks++ks') (vs++vs')
 | [],_,[],_,_,h=>h
 | .i _ :: ks,_,_ :: _,_,h,h'=>⟨h.1,cS.app (ks:=ks) h.2 h'⟩
 | .b :: ks,_,_ :: _,_,h,h'=>⟨h.1,cS.app (ks:=ks) h.2 h'⟩
 | .s _ :: ks,_,_ :: _,_,h,h'=>⟨h.1,cS.app (ks:=ks) h.2 h'⟩
 | [],_,_ :: _,_,h,_=>by cases h
 | .i _ :: _,_,[],_,h,_=>by cases h
 | .b :: _,_,[],_,h,_=>by cases h
 | .s _ :: _,_,[],_,h,_=>by cases h
theorem lD{w:World}{ob:Nat}{oc:Array Value}{ot:TypeId}{ofr:Nat×Nat}(hob:w.heap[ob]? = some (.cells oc ot ofr)):∀ {cks:List CK2} {vs:List Value},(∀ks,CK2.s ks∈cks->0<ks.length)->bK w cks vs->∀n0,∃(xs:List Value) (bl:List Blk2),(∀b∈bl,kY w b)/\xs.all aA=true/\xs.length=vs.length/\
  (∀mu:HMap,MuAt mu n0 bl->VRs noL mu xs vs)/\∀hp:HL,HpAt hp n0 bl->cS hp cks xs
 | [],[],_,_,n0=>⟨[],[],by simp,rfl,rfl,λmu _=>⟨rfl,λi x y h=>by simp at h⟩,λhp _=>trivial⟩
 |ck :: cks,v :: vs,hp,h,n0=>by
  obtain⟨x,bl,a1,a2,a4,a5⟩:=cell_absN hob (λks e=>hp ks (by rw[e];exact qaM)) h.1 n0
  obtain⟨xs,bl',b1,b2,b4,b5,b6⟩:=lD hob (λks e=>hp ks (qas _ e)) h.2 (n0+bl.length)
  refine⟨x :: xs,bl++bl',λb hb=>?_,by simp[a2,b2],by simp[b4],λmu hmu=>?_,λhp hh=>?_⟩
  ·rcases qax.1 hb with h|h
   ·exact a1 b h
   ·exact b1 b h
  ·obtain⟨h1,h2⟩:=iC (f:=mu) (g:=λb=>b.2) hmu
   have c1:=a4 mu h1
   obtain⟨c2,c3⟩:=b5 mu h2
   refine⟨by simpa using c2,λi p q hi hj=>?_⟩
   cases i with
   |zero=>
    simp only[qa1,qam]at hi hj
    subst hi hj;exact c1
   |succ i=>exact c3 i p q (by simpa using hi) (by simpa using hj)
  ·obtain⟨h1,h2⟩:=iC (f:=λi=>hp[i]?) (g:=λb=>some (HO.o b.1)) hh
   exact cS.app (ks:=[ck]) (a5 hp h1) (b6 hp h2)
 | [],_ :: _,_,h,_=>by cases h
 |_ :: _,[],_,h,_=>by cases h
theorem pv{w:World}{ob:Nat}{oc:Array Value}{ot:TypeId}{ofr:Nat×Nat}(hob:w.heap[ob]? = some (.cells oc ot ofr)){cks:List CK2}(hp:∀ks,CK2.s ks∈cks->0<ks.length):∀(n:Nat) (vs:List Value),vs.length=n*cks.length->(∀i,i<n->bK w cks ((vs.drop (i*cks.length)).take cks.length))->∀n0,∃(xs:List Value) (bl:List Blk2),(∀b∈bl,kY w b)/\xs.all aA=true/\xs.length=vs.length/\
  (∀mu:HMap,MuAt mu n0 bl->VRs noL mu xs vs)/\∀hp:HL,HpAt hp n0 bl->∀i,i<n->cS hp cks ((xs.drop (i*cks.length)).take cks.length)
 |0,vs,hl,_,n0=>by
  have:vs=[]:=qbG (by omega)
  subst this
  exact⟨[],[],by simp,rfl,rfl,λmu _=>⟨rfl,λi x y h=>by simp at h⟩,λhp _ i hi=>by omega⟩
 |n+1,vs,hl,hf,n0=>by
  have hl':vs.length=n*cks.length+cks.length:=by rw[hl,qa0,qbE]
  have h0:=hf 0 (by omega)
  rw[qbl,qbb]at h0
  obtain⟨x,bl,a1,a2,a3,a4,a5⟩:=lD hob hp h0 n0
  obtain⟨xs,bl',b1,b2,b3,b4,b5⟩:=pv hob hp n (vs.drop cks.length) (by rw[qbF];omega) (λi hi=>by
   have:=hf (i+1) (by omega)
   rw[qba]
   rw[qa0,qbE,qcC]at this
   exact this) (n0+bl.length)
  have hx:x.length=cks.length:=by rw[a3,qbo];omega
  refine⟨x++xs,bl++bl',λb hb=>?_,by simp[a2,b2],by rw[qaw,hx,b3,qbF];omega,λmu hmu=>?_,λhp hh i hi=>?_⟩
  ·rcases qax.1 hb with h|h
   ·exact a1 b h
   ·exact b1 b h
  ·obtain⟨h1,h2⟩:=iC (f:=mu) (g:=λb=>b.2) hmu
   obtain⟨c1,c2⟩:=a4 mu h1
   obtain⟨c3,c4⟩:=b4 mu h2
   have:vs=vs.take cks.length++vs.drop cks.length:=(qbK _ _).symm
   rw[this]
   refine⟨by rw[qaw,qaw,c1,c3],λi p q hi hj=>?_⟩
   by_cases h:i<x.length
   ·rw[qag h]at hi
    rw[qag (by rw[←c1];exact h)]at hj
    exact c2 i p q hi hj
   ·rw[qak (by omega)]at hi
    rw[qak (by rw[←c1];omega),←c1]at hj
    exact c4 _ p q hi hj
  ·obtain⟨h1,h2⟩:=iC (f:=λi=>hp[i]?) (g:=λb=>some (HO.o b.1)) hh
   cases i with
   |zero=>
    rw[qbl,qbb,←hx,List.take_left]
    exact a5 hp h1
   |succ i=>
    have:=b5 hp h2 i (by omega)
    rw[qa0,qbE,qcC,←qba,←hx,List.drop_left,hx]
    exact this
end
section
end
end Sx
end Go.Am

/-
 ARGUMENTS THAT ARE SLICES OF ELEMENTS WITH SLICES: from the row's arguments to the machine,and back.
-/
set_option maxRecDepth 100000
namespace Go.Am
namespace Sx
open Go.ChangeShapes Go.WideShapes Go.ChangeAt Go.WideMaps Go.WideElems Go.RowKit
inductive AK3 where
 |pl (ks:List CK2)
 |ss (ks:List CK2)
def FitA(h:HL):AK3->List Lf->Prop
 | .pl ks,ls=>aO h ks ls
 | .ss ks,ls=>∃x n cells,ls=[.v x]/\SlC h x ks.length n cells/\n<=maxLen/\∀i,i<n->cS h ks ((cells.drop (i*ks.length)).take ks.length)
def FitAs(h:HL):List AK3->List Lf->Prop
 | [],ls=>ls=[]
 |k :: ks,ls=>∃l r,ls=l++r/\FitA h k l/\FitAs h ks r
def rt(P:Program)(t:TypeId):Option (AK3×SK):=match ckT P 20 t with
 |some cks=>match skC P t cks,posK cks with
  |some sk,true=>some (.pl cks,sk)
  |_,_=>none
 |none=>none
def ak3(P:Program)(t:TypeId):Option (AK3×SK):=match P.underlying t with
 |some (.slice e)=>match pT P 20 e with
  |some _=>rt P t
  |none=>match ckT P 20 e with
   |some ks=>match Nat.beq (P.cellsOf e) ks.length&&Nat.blt 0 ks.length&&posK ks with
    |true=>some (.ss ks,.leaf .v)
    |false=>none
   |none=>none
 |_=>rt P t
def argK3(P:Program):List TypeId->Option (List AK3×List SK)
 | []=>some ([],[])
 |t :: ts=>match ak3 P t,argK3 P ts with
  |some (k,sk),some (l,sks)=>some (k :: l,sk :: sks)
  |_,_=>none
section
variable {H:Type} {enc:TypeId×Value->H} {P:Program}
variable [Val] [Glo]
theorem mf{W:World}{r:Reach}{b0:Nat}{held:Bool}{t:TypeId}{k:AK3}{sk:SK}{v:Value}{d:DataW H}{ps:List MemPlace}(h:rt P t=some (k,sk))(hval:Value.okWide P W r b0 t v)(hd:DataW.Trod enc P W 0 (λ_=>true) held t v d ps)(n0:Nat) :
  ∃(x:S0) (bl:List Blk2),(∀b∈bl,BlkM W (λmu=>MuAt mu n0 bl) b)/\x.is sk=true/\x.good/\(∀mu:HMap,MuAt mu n0 bl->VR noL mu x.val v)/\(∀hp:HL,HpAt hp n0 bl->FitA hp k (x.cells.map SL.lf))/\
   ∀(W':World) (s':Nat->Bool),pG W W'->(∀b,b<W.heap.size->s' b=true)->DataW.Trod enc P W' 0 s' held t v d ps:=by
 unfold rt at h
 split at h
 ·rename_i cks e1
  split at h
  ·rename_i sk' e2 e3
   cases h
   obtain⟨x,bl,a1,a2,a3,a4,a5,a6⟩:=open_arg2 e1 e2 e3 hval hd n0
   exact⟨x,bl,λb hb=>.of (a1 b hb),a2,a3,a4,a5,a6⟩
  ·cases h
 ·cases h
theorem open_arg3{W:World}{r:Reach}{b0:Nat}{held:Bool}{t:TypeId}{k:AK3}{sk:SK}{v:Value}{d:DataW H}{ps:List MemPlace}(h:ak3 P t=some (k,sk))(hval:Value.okWide P W r b0 t v)(hd:DataW.Trod enc P W 0 (λ_=>true) held t v d ps)(hwt:Wt P t d)(n0:Nat) :
  ∃(x:S0) (bl:List Blk2),(∀b∈bl,BlkM W (λmu=>MuAt mu n0 bl) b)/\x.is sk=true/\x.good/\(∀mu:HMap,MuAt mu n0 bl->VR noL mu x.val v)/\(∀hp:HL,HpAt hp n0 bl->FitA hp k (x.cells.map SL.lf))/\
   ∀(W':World) (s':Nat->Bool),pG W W'->(∀b,b<W.heap.size->s' b=true)->DataW.Trod enc P W' 0 s' held t v d ps:=by
 unfold ak3 at h
 split at h
 ·rename_i e et
  split at h
  ·exact mf h hval hd n0
  ·split at h
   ·rename_i ks e2
    split at h
    ·rename_i e3
     cases h
     simp only[qaa,qaN]at e3
     obtain⟨⟨hc,h0⟩,hp⟩:=e3
     obtain⟨fuel,hf⟩:=hd
     obtain⟨v',hv',⟨hq,_⟩,hst⟩:=sliceG et (qac hc) h0 (Q:=bK W ks) (λn cs y hy hw=>ckT_okN 20 e ks e2 W held n cs y hy hw) hf hwt
     have hlies:=qX hval
     have hvv:v=v':=by
      have hcv:v.cells.toList=[v]:=by
       cases v with
       |agg cs=>
        exfalso
        unfold Value.okWide at hval
        rw[et]at hval
        simp only at hval
        unfold Cell.okWide at hval
        rw[et]at hval
        simp only at hval
        unfold Cell.ok at hval
        rw[et]at hval
        exact hval
       |_=>simp[Value.cells]
      rw[hcv]at hv'
      exact(List.cons.inj hv').1
     subst hvv
     have close:∀(W':World) (s':Nat->Bool),pG W W'->(∀b,b<W.heap.size->s' b=true)->DataW.Trod enc P W' 0 s' held t v d ps:=λW' s' h1 h2=>⟨fuel,hst W' s' h1 h2⟩
     have gd:∀len,bk (.slice (some ⟨n0,0,tag ks.length⟩) len 0)=true:=λlen=>by simp[bk,noLoc,aR,bL,bb,aQ,az,tag]
     rcases hq with rfl|⟨a,rfl⟩|⟨a,len,cap,c,ty,fr,cells,rfl,h1,hs,hlc,hm,hb,hz,hl,hg,hfit⟩
     ·exact⟨.leaf (.v (.slice none 0 0)),[],by simp,rfl,λl hl=>by simp only[S0.cells,qat]at hl;subst hl;rfl,λmu _=>.scalar rfl,λhp' _=>⟨_,0,[],rfl,⟨by simp,.inl ⟨rfl,rfl⟩⟩,qaS _,λi hi=>by omega⟩,close⟩
     ·obtain⟨hs,c,ty,fr,hb⟩:=hlies _ (by rw[hv'];exact qaM) a 0 0 rfl
      refine⟨.leaf (.v (.slice (some ⟨n0,0,tag ks.length⟩) 0 0)),[(.cells [] ks.length false,some ⟨a.block,c.size,0,ks.length⟩)],λb' hb'=>?_,rfl,λl hl=>by simp only[S0.cells,qat]at hl;subst hl;exact gd 0,λmu _=>.hslice0 (qaS _),λhp' hh=>⟨_,0,[],rfl,⟨by simp,.inr ⟨n0,0,0,[],false,rfl,hh 0 _ rfl,by simp[cut]⟩⟩,qaS _,λi hi=>by omega⟩,close⟩
      simp only[qat]at hb'
      subst hb'
      exact .inr ⟨[],ks.length,_,c,ty,fr,rfl,rfl,rfl,rfl,qaS _,hb,by simp,λmu _ i v hv=>by simp at hv⟩
     ·obtain⟨xs,bl,b1,b2,b3,b4,b5⟩:=pv hb (posK_ok hp) len cells hl hfit (n0+1)
      have hle:=qaG ks.length hlc
      have sh:∀ {α:Type} {f:Nat->α} {g:Blk2->α} {b0:Blk2},(∀(i:Nat) b,(b0 :: bl)[i]? = some b->f (n0+i)=g b)->∀(i:Nat) b,bl[i]? = some b->f (n0+1+i)=g b:=λh i b hb=>by
       rw[qa7,qcC 1 i]
       exact h (i+1) b (by simpa using hb)
      have ha:a=⟨a.block,a.off,none⟩:=by cases a;cases hs;rfl
      refine⟨.leaf (.v (.slice (some ⟨n0,0,tag ks.length⟩) len 0)),(.cells xs ks.length false,some ⟨a.block,a.off,c.size - a.off,ks.length⟩) :: bl,λb' hb'=>?_,rfl,λl hl=>by simp only[S0.cells,qat]at hl;subst hl;exact gd len,λmu hmu=>?_,λhp' hh=>?_,close⟩
      ·rcases qao.1 hb' with rfl|hb'
       ·refine .inr ⟨xs,ks.length,_,c,ty,fr,rfl,rfl,rfl,b2,by show xs.length<=c.size - a.off;omega,hb,by show c.size=a.off+(c.size - a.off);omega,λmu hmu i v hv=>?_⟩
        obtain⟨c1,c2⟩:=b4 mu (sh (f:=mu) (g:=λb=>b.2) hmu)
        have hlt:i<cells.length:=by
         rcases qaz i xs.length with h|h
         ·omega
         ·rw[qaf h]at hv;cases hv
        exact⟨cells[i],hg i _ (qaj hlt),c2 i v _ hv (qaj hlt)⟩
       ·exact .of (b1 b' hb')
      ·have h2:=hmu 0 _ rfl
       show VR noL mu (.slice (some ⟨n0,0,tag ks.length⟩) len 0) (.slice (some a) len cap)
       rw[ha]
       exact VR.hslice (la:=noL) (mu:=mu) (id:=n0) (off:=0) (len:=len) (cap:=cap) (cx:=0) h2 (by show 0+cap*ks.length<=c.size - a.off;omega) hlc (.inl rfl)
      ·exact⟨_,len,xs,rfl,⟨by omega,.inr ⟨n0,0,0,xs,false,rfl,hh 0 _ rfl,cut_all (by omega)⟩⟩,by omega,b5 hp' (sh (f:=λi=>hp'[i]?) (g:=λb=>some (HO.o b.1)) hh)⟩
    ·cases h
   ·cases h
 ·exact mf h hval hd n0
theorem me{W:World}{r:Reach}{b0:Nat}{held:Bool}:∀(ts:List TypeId) (l:List AK3) (sks:List SK) (vs:List Value) (ds:List (DataW H)) (ps:List MemPlace) (n0:Nat),argK3 P ts=some (l,sks)->
  (∀(j:Nat) t v,ts[j]? = some t->vs[j]? = some v->Value.okWide P W r b0 t v)->DataW.TrodAll enc P W 0 (λ_=>true) held ts vs ds ps->(∀n∈DataW.weightsEach P ts ds,n<=reachBytes)->
  ∃(xs:List S0) (bl:List Blk2),(∀b∈bl,BlkM W (λmu=>MuAt mu n0 bl) b)/\bD xs sks=true/\(∀x∈xs,x.good)/\(∀mu:HMap,MuAt mu n0 bl->VRs noL mu (af xs) vs)/\(∀hp:HL,HpAt hp n0 bl->FitAs hp l (bH xs))/\
   ∀(W':World) (s':Nat->Bool),pG W W'->(∀b,b<W.heap.size->s' b=true)->DataW.TrodAll enc P W' 0 s' held ts vs ds ps
 | [],l,sks,[],[],ps,n0,h,_,ht,_=>by
  cases h
  exact⟨[],[],by simp,rfl,by simp,λmu _=>⟨rfl,λi x y h=>by simp[af]at h⟩,λhp _=>rfl,λ_ _ _ _=>ht⟩
 |t :: ts,l,sks,v :: vs,d :: ds,ps,n0,h,hv,ht,hw=>by
  simp only[argK3]at h
  split at h
  ·rename_i k sk l' sks' e1 e2
   cases h
   obtain⟨p,q,h1,h2,rfl⟩:=ht
   simp only[DataW.weightsEach,qax]at hw
   obtain⟨x,bl,a1,a2,a3,a4,a5,a6⟩:=open_arg3 e1 (hv 0 t v rfl rfl) h1 (λn hn=>hw n (.inl hn)) n0
   obtain⟨xs,bl',b1,b2,b3,b4,b5,b6⟩:=me ts l' sks' vs ds q (n0+bl.length) e2 (λj t v h1 h2=>hv (j+1) t v h1 h2) h2 (λn hn=>hw n (.inr hn))
   refine⟨x :: xs,bl++bl',λb hb=>?_,by simp[bD,a2,b2],λy hy=>?_,λmu hmu=>?_,λhp hh=>?_,λW' s' h1 h2=>⟨p,q,a6 W' s' h1 h2,b6 W' s' h1 h2,rfl⟩⟩
   ·rcases qax.1 hb with h|h
    ·exact(a1 b h).mono λmu hmu=>(iC (f:=mu) (g:=λb=>b.2) hmu).1
    ·exact(b1 b h).mono λmu hmu=>(iC (f:=mu) (g:=λb=>b.2) hmu).2
   ·rcases qao.1 hy with rfl|hy
    ·exact a3
    ·exact b3 y hy
   ·obtain⟨h1,h2⟩:=iC (f:=mu) (g:=λb=>b.2) hmu
    have c1:=a4 mu h1
    obtain⟨c2,c3⟩:=b4 mu h2
    refine⟨by simpa[af]using c2,λi p q hi hj=>?_⟩
    cases i with
    |zero=>
     simp only[af,qau,qa1,qam]at hi hj
     subst hi hj;exact c1
    |succ i=>exact c3 i p q (by simpa[af]using hi) (by simpa using hj)
   ·obtain⟨h1,h2⟩:=iC (f:=λi=>hp[i]?) (g:=λb=>some (HO.o b.1)) hh
    exact⟨x.cells.map SL.lf,bH xs,rfl,a5 hp h1,b5 hp h2⟩
  ·cases h
 | [],_,_,_ :: _,_,_,_,_,_,ht,_=>by cases ht
 | [],_,_,[],_ :: _,_,_,_,_,ht,_=>by cases ht
 |_ :: _,_,_,[],_,_,_,_,_,ht,_=>by cases ht
 |_ :: _,_,_,_ :: _,[],_,_,_,_,ht,_=>by cases ht
theorem oe{C:Cfg}{f:FuncId}{args:List Value}{r:Value}{H':List HObj}{bl:List Blk2}{W:World}(hbl:∀b∈bl,BlkM W (λmu=>MuAt mu 0 bl) b)(h:dP C f args (bl.map (·.1)) r H'){args':Array Value}(hargs:∀mu:HMap,MuAt mu 0 bl->VRs noL mu args args'.toList)(hr:flat r=true)
  (hG:∀g vs,C.G g=some vs->gBlk g<W.heap.size/\vs.all aA=true/\∃c e fr,W.heap[gBlk g]? = some (.cells c e fr)/\bo (λ_=>none) vs c (gOff g)) (hf:∀g vs,C.G g=some vs->vs.all gfl=true) :
  Calls C.P f args' W λe W'=>e = .returned r/\W'.os=W.os/\W'.output=W.output/\W'.tape=W.tape/\∀b,b<W.heap.size->W'.heap[b]? = W.heap[b]?:=by
 let mu:HMap:=λid=>(bl[id]?).bind (·.2)
 have hmu:MuAt mu 0 bl:=λi b hb=>by simp only[mu,qaJ,hb,qae]
 have hob:∀(id:Nat) o,(bl.map (·.1))[id]? = some o->∃b,bl[id]? = some b/\o=b.1/\BlkM W (λmu=>MuAt mu 0 bl) b:=by
  intro id o ho
  rw[qaF]at ho
  obtain⟨b,h1,rfl⟩:=qab.1 ho
  exact⟨b,h1,rfl,hbl b (qar h1)⟩
 have hun:∀(id:Nat) o,(bl.map (·.1))[id]? = some o->o.owned=false:=by
  intro id o ho
  obtain⟨b,_,rfl,h3⟩:=hob id o ho
  rcases h3 with h3|⟨vs,e,p,c,t,fr,h3,_⟩<;>rw[h3]<;>rfl
 have hno:∀b,¬Own mu (bl.map (·.1)) b:=by
  rintro b ⟨id,o,p,h1,h2,_⟩
  rw[hun id o h1]at h2;cases h2
 have hW0:WR C W.heap.size mu (bl.map (·.1)) W:=by
  refine⟨λid o h1 h2=>?_,λi j oi oj pi pj h1 h2 h3=>?_,λi o p h1 h2=>?_,λi o p h1 h2 _ h4=>?_,λid h1=>?_,λg vs hg=>?_⟩
  ·obtain⟨b,q1,rfl,q3⟩:=hob id o h1
   rcases q3 with q3|⟨vs,e,p,c,t,fr,q3,q4,q5,q7,q8,q9,q10,q11⟩
   ·rw[q3]at h2;cases h2
   ·refine⟨p,by simp only[mu,q1,qae,q4],?_⟩
    rw[q3]
    refine⟨q5,q8,q7,c,t,fr,q9,q10,λh=>by(cases h),λi v hv=>q11 mu hmu i v hv⟩
  ·rw[hun i oi h1]at h3;cases h3
  ·rw[hun i o h1]at h2;cases h2
  ·obtain⟨b,q1,rfl,q3⟩:=hob i o h1
   rcases q3 with q3|⟨vs,e,p',c,t,fr,q3,q4,q5,q7,q8,q9,q10,q11⟩
   ·rw[q3]at h2;cases h2
   ·simp only[mu,q1,qae,q4,qam]at h4
    subst h4
    rcases qaz p'.b W.heap.size with h|h
    ·exact h
    ·rw[qbe h]at q9;cases q9
  ·simp only[mu]
   rw[qaf (by simpa using h1)];rfl
  ·obtain⟨h1,h2,c,e,fr,h4,h5⟩:=hG g vs hg
   exact⟨h1,h2,c,e,fr,h4,qQ (hf g vs hg) h5⟩
 intro cs
 obtain⟨v,mu',w',a1,a2,a3,_,a5⟩:=h _ W.heap.size mu W args' (qaA _) (hargs mu hmu) hW0 cs
 rw[nc hr a1]at a5
 obtain⟨fr,b1,b2,b3⟩:=a5
 exact⟨.returned r,w',fr,⟨rfl,a3.os,a3.output,a3.tape,λb hb=>a3.keep b hb (hno b)⟩,b1,b2,b3⟩
end
end Sx
end Go.Am

/-
 OrdersCompare: the law,at all lists of stacks.
-/
set_option maxRecDepth 100000
set_option maxHeartbeats 16000000
namespace Go.Am
open Sx Go.Proofs
theorem OwI.keep{h h':HL}{v:Value}{cs:List Int}(hs:OwI h v cs)(hk:∀(j:Nat) o,h[j]? = some o->blk v=some j->h'[j]? = some o):OwI h' v cs:=by
 obtain⟨id,cx,rfl,h1⟩:=hs
 exact⟨id,cx,rfl,hk _ _ h1 rfl⟩
theorem OwI.pre{h h':HL}{v:Value}{cs:List Int}(hs:OwI h v cs)(hp:Pre h h'):OwI h' v cs:=hs.keep λ_ _ h _=>hp.get h
theorem OwI.lt{h:HL}{v:Value}{cs:List Int}(hs:OwI h v cs){b:Nat}(hb:blk v=some b):b<h.length:=by
 obtain⟨id,cx,rfl,h1⟩:=hs
 cases hb
 rcases qaz id h.length with h|h
 ·exact h
 ·rw[qaf h]at h1;cases h1
theorem OwI.adr{h:HL}{v:Value}{cs:List Int}(hs:OwI h v cs):∃b,blk v=some b/\Sx.adr v=[b]:=by
 obtain⟨id,cx,rfl,h1⟩:=hs
 exact⟨id,rfl,rfl⟩
structure Cp(H h:HL)(v:Value)(cs ps:List Stk):Prop where
 pre:Pre H h
 mkl:MkL H.length h v 4 encS cs
 le:cs.length<=ps.length
 eq:∀(i:Nat) c p,cs[i]? = some c->ps[i]? = some p->c.1=p.1/\c.2.2=p.2.2
 own:∀(i:Nat) c,cs[i]? = some c->OwI h c.2.1 c.2.2
 hi:∀(i:Nat) c b,cs[i]? = some c->blk c.2.1=some b->H.length<=b
 low:∀(i:Nat) c b,cs[i]? = some c->blk c.2.1=some b->blk v≠some b
 ne:∀(i j:Nat) c d b,i≠j->cs[i]? = some c->cs[j]? = some d->blk c.2.1=some b->blk d.2.1≠some b
theorem Cp.ok{H h:HL}{v:Value}{cs ps:List Stk}(hC:Cp H h v cs ps){x:Value}(hp:StL H x ps){i:Nat}{c:Stk}(hc:cs[i]? = some c):(0<=c.1.2.2/\c.1.2.2<=255)/\c.2.2.length*8<=140737488351232:=by
 obtain⟨p,hpi⟩:=dU (l:=ps) (i:=i) (by have:=aZ hc;have:=hC.le;omega)
 obtain⟨e1,e2⟩:=hC.eq i c p hc hpi
 rw[e1,e2]
 exact(hp.2 p (qar hpi)).2
theorem Cp.st{H h:HL}{v:Value}{cs ps:List Stk}(hC:Cp H h v cs ps){x:Value}(hp:StL H x ps):StL h v cs:=by
 refine⟨hC.mkl.ls,λc hm=>?_⟩
 obtain⟨i,hi⟩:=qbw hm
 exact⟨(hC.own i c hi).ls,hC.ok hp hi⟩
theorem Cp.more{H h h2 h':HL}{v v' v1:Value}{cs ps:List Stk}{p:Stk}(hC:Cp H h v cs ps)(hpj:ps[cs.length]? = some p)(h12:Pre h h2)(hO:OwI h2 v1 p.2.2)(hB:∀b,blk v1=some b->h.length<=b)
  (hp':Pre H h') (hm':MkL H.length h' v' 4 encS (cs++[(p.1,v1,p.2.2)])) (hk:∀(j:Nat) o,h2[j]? = some o->blk v≠some j->h'[j]? = some o) (hb':blk v'=blk v∨∃j,blk v'=some j/\h2.length<=j):Cp H h' v' (cs++[(p.1,v1,p.2.2)]) ps:=by
 have hvlt:∀b,blk v=some b->b<h.length:=λb hb=>(blk_lt hC.mkl.2 hb).2
 have hlen:=h12.len
 have split:∀ {i:Nat} {c:Stk},(cs++[(p.1,v1,p.2.2)])[i]? = some c->(cs[i]? = some c/\i<cs.length)∨(i=cs.length/\c=(p.1,v1,p.2.2)):=by
  intro i c hc
  rcases qaz i cs.length with hlt|hge
  ·rw[qag hlt]at hc;exact .inl ⟨hc,hlt⟩
  ·have hlt:=aZ hc
   simp only[qaw,qaW,qbn]at hlt
   obtain rfl:i=cs.length:=by omega
   rw[qak (qaA _),qbA]at hc
   simp only[qa1,qam]at hc
   exact .inr ⟨rfl,hc.symm⟩
 have hO2:∀ {i:Nat} {c:Stk},(cs++[(p.1,v1,p.2.2)])[i]? = some c->OwI h2 c.2.1 c.2.2/\∀b,blk c.2.1=some b->blk v≠some b:=by
  intro i c hc
  rcases split hc with⟨hc,_⟩|⟨_,rfl⟩
  ·exact⟨(hC.own i c hc).pre h12,λb hb=>hC.low i c b hc hb⟩
  ·exact⟨hO,λb hb hv=>by have:=hB b hb;have:=hvlt b hv;omega⟩
 have hHh:=hC.pre.len
 refine⟨hp',hm',?_,?_,?_,?_,?_,?_⟩
 ·have:=aZ hpj
  simp only[qaw,qaW,qbn];omega
 ·intro i c q hc hq
  rcases split hc with⟨hc,_⟩|⟨rfl,rfl⟩
  ·exact hC.eq i c q hc hq
  ·rw[hpj]at hq;cases hq;exact⟨rfl,rfl⟩
 ·intro i c hc
  obtain⟨o1,o2⟩:=hO2 hc
  exact o1.keep λj o hj hb=>hk j o hj (o2 j hb)
 ·intro i c b hc hb
  rcases split hc with⟨hc,_⟩|⟨_,rfl⟩
  ·exact hC.hi i c b hc hb
  ·have:=hB b hb;omega
 ·intro i c b hc hb hv
  obtain⟨o1,o2⟩:=hO2 hc
  rcases hb' with e|⟨j,e,hj⟩
  ·rw[e]at hv;exact o2 b hb hv
  ·rw[e]at hv
   cases hv
   have:=o1.lt hb
   omega
 ·intro i j c d b hij hc hd hb hd'
  rcases split hc with⟨hc,hi⟩|⟨hi,rfl⟩<;>rcases split hd with⟨hd,hj⟩|⟨hj,rfl⟩
  ·exact hC.ne i j c d b hij hc hd hb hd'
  ·have:=(hC.own i c hc).lt hb
   have:=hB b hd'
   omega
  ·have:=(hC.own j d hd).lt hd'
   have:=hB b hb
   omega
  ·omega
theorem jv{u v:Value}{k:Nat}{l:List (Value×Nat×Value)}(h:Sx.disjN (Sx.adr u) (Sx.adrK k v)=true)(hl:Sx.sepL l=some ()):Sx.sepL ((u,(k,v)) :: l)=some ():=by
 show(match Sx.disjN (Sx.adr u) (Sx.adrK k v)with
  |true=>Sx.sepL l
  |false=>none)=_
 rw[h];exact hl
theorem disj1{a b:Nat}(h:a≠b):Sx.disjN [a] [b]=true:=by
 have:Sx.memN a [b]=false:=by
  unfold Sx.memN
  have:Nat.beq a b=false:=by
   cases hb:Nat.beq a b with
   |true=>exact absurd (qac hb) h
   |false=>rfl
  rw[this];rfl
 unfold Sx.disjN
 rw[this];rfl
theorem p_quo8{a b:Int}{K:Int->Prop}(h1:0<=a)(h2:a<=255)(hb:0<b):P1.ari .quo .u8 a b (@hid _ ⟨K⟩)=K (a / b):=by
 show(b≠0/\K (IntKind.wrap .u8 (a.tdiv b)))=_
 have h3:a / b<=a:=Int.ediv_le_self b h1
 have h4:0<=a / b:=Int.ediv_nonneg h1 (by omega)
 rw[tdiv_nn h1,kX (by omega) (by omega)]
 simp;intro _ h;omega
theorem r_setO{h:HL}{id cx:Nat}{l:List Int}{i:Nat}{a:Int}{new:List Value}{K:List Value->HL->Prop}(hg:h[id]? = some (.o (.cells (l.flatMap encI) 1 true)))(hi:i<l.length)(hnew:new=encI a)(hk:K [] (putE h id 1 encI (l.set i a))) :
  P1.opt (idS 1 (.slice (some ⟨id,0,tag 1⟩) l.length cx) (Int.ofNat i)) (@hid _ ⟨λx=>P1.heap (.st x new) h (@hid _ ⟨K⟩)⟩):=by
 have hp:putE h id 1 encI l=h:=kO hg
 have:=r_set (C:=cc) (Sg:=ab) (T:=ac) (h:=h) (id:=id) (cx:=cx) (l:=l) fm (aZ hg) rfl hi rfl hnew hk
 rw[hp]at this
 exact this
theorem flat_set{cs:List Stk}{k:Nat}{c c':Stk}(hc:cs[k]? = some c)(he:encS c'=encS c):(cs.set k c').flatMap encS=cs.flatMap encS:=by
 rw[List.flatMap_def,List.flatMap_def,List.map_set,he]
 congr 1
 exact kO (by rw[qaF,hc];rfl)
theorem StL.put{H h:HL}{v x:Value}{cs ps:List Stk}(hC:Cp H h v cs ps)(hp:StL H x ps){k:Nat}{c:Stk}(hc:cs[k]? = some c){id cx:Nat}(hv:c.2.1 = .slice (some ⟨id,0,tag 1⟩) c.2.2.length cx)(hlt:id<h.length){l:List Int}(hl:l.length=c.2.2.length) :
  StL (putE h id 1 encI l) v (cs.set k (c.1,c.2.1,l)):=by
 have hid:blk c.2.1=some id:=by rw[hv];rfl
 have keep:∀(j:Nat) o,h[j]? = some o->j≠id->(putE h id 1 encI l)[j]? = some o:=λj o hj hne=>by
  unfold putE
  rw[qaE (qcj hne)];exact hj
 have hlv:=hC.mkl.ls.keep (h':=putE h id 1 encI l) λj o hj hb=>keep j o hj λe=>hC.low k c id hc hid (e▸hb)
 refine⟨⟨λa _=>qK a,?_⟩,λs hs=>?_⟩
 ·rw[flat_set (c':=(c.1,c.2.1,l)) hc rfl,qcP]
  exact hlv.2
 ·obtain⟨i,hi⟩:=qbw hs
  rw[qaD]at hi
  split at hi
  ·rename_i hki
   split at hi
   ·cases hi
    have:=hC.ok hp hc
    refine⟨?_,this.1,by show l.length*8<=_;rw[hl];exact this.2⟩
    show LsH _ c.2.1 1 encI l
    rw[hv,←hl]
    exact putE_ls fm hlt
   ·cases hi
  ·rename_i hki
   refine⟨(((hC.own i s hi).keep (h':=putE h id 1 encI l) λj o hj hb=>keep j o hj λe=>?_).ls),hC.ok hp hi⟩
   subst e
   exact hC.ne k i c s j hki hc hi hid hb
def EndW(ps qs:List Stk)(w:Int):Prop:=Sml ps qs/\((w≠0/\w=lexS ps qs)∨(w=0/\lexS ps qs=if ps.length=qs.length then 0 else if ps.length<qs.length then -1 else 1))
theorem end_of{ps qs:List Stk}{j:Nat}(h1:lexS ps qs=lexS (ps.drop j) (qs.drop j))(h2:Sml (ps.drop j) (qs.drop j)->Sml ps qs)(hj:j<=ps.length)(hj':j<=qs.length)(h3:j=ps.length∨j=qs.length):EndW ps qs 0:=by
 have hs:Sml (ps.drop j) (qs.drop j):=by
  rcases h3 with h3|h3
  ·rw[qaC (show ps.length<=j by omega)]
   cases List.drop j qs<;>trivial
  ·rw[qaC (show qs.length<=j by omega)]
   cases List.drop j ps<;>trivial
 refine⟨h2 hs,.inr ⟨rfl,?_⟩⟩
 rw[h1]
 by_cases e:ps.length=qs.length
 ·rw[if_pos e,qaC (by omega),qaC (by omega)];rfl
 ·rw[if_neg e]
  by_cases hlt:ps.length<qs.length
  ·rw[if_pos hlt,qaC (show ps.length<=j by omega),qaq (show j<qs.length by omega)];rfl
  ·rw[if_neg hlt,qaC (show qs.length<=j by omega),qaq (show j<ps.length by omega)];rfl
theorem ig{n:Nat}(hn:n<=255){H:HL}{x y:Value}{ps qs0:List Stk}(hx:StL H x ps)(hy:StL H y qs0) :
  ∃h',bG cc ab 3 [.v x,.v y,.i (.ofNat n)] (absH ac H) [.b true] (absH ac h'):=by
 obtain⟨rs,h',hcl',rfl⟩:=x3 (K:=λrs h'=>rs=[.b true]) (H:=H) (glsV hx.1.good (glsV hy.1.good (glsI gls0))) (by
  unfold f3;simp only[qxh]
  simp(disch:=omega)only[↓qXX]
  refine bW hx.1 ?_
  by_cases h6:ps.length<=6
  case neg=>
   rw[p_gtr_t (by show(6:Int)<ps.length;omega)]
   simp(disch:=omega)only[↓qXX]
   refine dY eZ ?_
   simp(disch:=omega)only[↓qXX]
  rw[p_gtr_f (by show(ps.length:Int)<=6;omega)]
  simp(disch:=omega)only[↓qXX]
  refine bW hy.1 ?_
  by_cases h60:qs0.length<=6
  case neg=>
   rw[p_gtr_t (by show(6:Int)<qs0.length;omega)]
   simp(disch:=omega)only[↓qXX]
   refine dY eZ ?_
   simp(disch:=omega)only[↓qXX]
  rw[p_gtr_f (by show(qs0.length:Int)<=6;omega)]
  rw[p_cond_f]
  try simp only[qxh]
  obtain⟨t,ht,he⟩ : ∃t:Bool,(t=true↔0<n)/\∀K:Bool->Prop,P1.cmp .gtr (Int.ofNat n) 0 (@hid _ ⟨K⟩)=K t:=by
   by_cases h:0<n
   ·exact⟨true,by simp[h],λK=>p_gtr_t (by show(0:Int)<n;omega)⟩
   ·exact⟨false,by simp[h],λK=>p_gtr_f (by show(n:Int)<=0;omega)⟩
  rw[he]
  try simp only[qxh]
  refine nA (λl h'=>∃v qs,l=[.v v]/\Pre H h'/\StL h' v qs/\qs.length<=6) ?_ ?_
  ·rintro _ H1 ⟨v,qs,rfl,hpre,hq,h6'⟩
   rw[p_unV]
   try simp only[qxh]
   rw[p_un0]
   try simp only[qxh]
   refine nA (λl h'=>∃w G,l=[.i w]/\h'=H1++G/\EndW ps qs w) ?_ ?_
   ·rintro _ _ ⟨w,G,rfl,rfl,hsm,hE⟩
    have hx1:StL (H1++G) x ps:=(hx.pre hpre).pre ⟨G,rfl⟩
    have hy1:StL (H1++G) v qs:=hq.pre ⟨G,rfl⟩
    generalize H1++G=H2 at *
    simp(disch:=omega)only[↓qXX]
    by_cases hw0:w=0
    ·subst hw0
     have hL:=(hE.resolve_left λh=>h.1 rfl).2
     rw[p_eql_t rfl]
     simp(disch:=omega)only[↓qXX]
     refine bW hx1.1 ?_
     refine bW hy1.1 ?_
     by_cases e:ps.length=qs.length
     ·rw[if_pos e]at hL
      rw[p_neq_f (by show(ps.length:Int)=qs.length;omega)]
      simp(disch:=omega)only[↓qXX]
      have hrng:=gC ps qs
      obtain⟨G2,hc1⟩:=cM hx1 hy1 h6 hsm
      refine cH hc1 ?_
      simp(disch:=omega)only[↓qXX]
      try rw[p_eql_t (by omega)]
      try simp(disch:=omega)only[↓qXX]
      have hx2:=hx1.pre (h':=H2++G2) ⟨G2,rfl⟩
      have hy2:=hy1.pre (h':=H2++G2) ⟨G2,rfl⟩
      obtain⟨G3,hc2⟩:=cM hy2 hx2 h6' hsm.symm
      refine cH hc2 ?_
      simp(disch:=omega)only[↓qXX]
      try rw[p_sub (by omega) (by omega)]
      try rw[p_eql_t (by rw[gA ps qs];omega)]
      try simp(disch:=omega)only[↓qXX]
      refine dY eZ ?_
      simp(disch:=omega)only[↓qXX]
     ·rw[if_neg e]at hL
      rw[p_neq_t (by show(ps.length:Int)≠qs.length;omega)]
      simp(disch:=omega)only[↓qXX]
      refine bW hx1.1 ?_
      refine bW hy1.1 ?_
      by_cases hlt:ps.length<qs.length
      ·rw[if_pos hlt]at hL
       rw[cF hlt]
       simp(disch:=omega)only[↓qXX]
       have hrng:=gC ps qs
       obtain⟨G2,hc1⟩:=cM hx1 hy1 h6 hsm
       refine cH hc1 ?_
       simp(disch:=omega)only[↓qXX]
       try rw[p_eql_t (by omega)]
       try simp(disch:=omega)only[↓qXX]
       have hx2:=hx1.pre (h':=H2++G2) ⟨G2,rfl⟩
       have hy2:=hy1.pre (h':=H2++G2) ⟨G2,rfl⟩
       obtain⟨G3,hc2⟩:=cM hy2 hx2 h6' hsm.symm
       refine cH hc2 ?_
       simp(disch:=omega)only[↓qXX]
       try rw[p_sub (by omega) (by omega)]
       try rw[p_eql_t (by rw[gA ps qs];omega)]
       try simp(disch:=omega)only[↓qXX]
       refine dY eZ ?_
       simp(disch:=omega)only[↓qXX]
      ·rw[if_neg hlt]at hL
       rw[cE (by omega)]
       simp(disch:=omega)only[↓qXX]
       have hrng:=gC ps qs
       obtain⟨G2,hc1⟩:=cM hx1 hy1 h6 hsm
       refine cH hc1 ?_
       simp(disch:=omega)only[↓qXX]
       try rw[p_eql_t (by omega)]
       try simp(disch:=omega)only[↓qXX]
       have hx2:=hx1.pre (h':=H2++G2) ⟨G2,rfl⟩
       have hy2:=hy1.pre (h':=H2++G2) ⟨G2,rfl⟩
       obtain⟨G3,hc2⟩:=cM hy2 hx2 h6' hsm.symm
       refine cH hc2 ?_
       simp(disch:=omega)only[↓qXX]
       try rw[p_sub (by omega) (by omega)]
       try rw[p_eql_t (by rw[gA ps qs];omega)]
       try simp(disch:=omega)only[↓qXX]
       refine dY eZ ?_
       simp(disch:=omega)only[↓qXX]
    ·have hL:=(hE.resolve_right λh=>hw0 h.1).2
     rw[p_eql_f hw0]
     simp(disch:=omega)only[↓qXX]
     have hrng:=gC ps qs
     obtain⟨G2,hc1⟩:=cM hx1 hy1 h6 hsm
     refine cH hc1 ?_
     simp(disch:=omega)only[↓qXX]
     try rw[p_eql_t (by omega)]
     try simp(disch:=omega)only[↓qXX]
     have hx2:=hx1.pre (h':=H2++G2) ⟨G2,rfl⟩
     have hy2:=hy1.pre (h':=H2++G2) ⟨G2,rfl⟩
     obtain⟨G3,hc2⟩:=cM hy2 hx2 h6' hsm.symm
     refine cH hc2 ?_
     simp(disch:=omega)only[↓qXX]
     try rw[p_sub (by omega) (by omega)]
     try rw[p_eql_t (by rw[gA ps qs];omega)]
     try simp(disch:=omega)only[↓qXX]
     refine dY eZ ?_
     simp(disch:=omega)only[↓qXX]
   ·intro jn hjn
    try simp only[qxh]
    refine nq (σ:=Int×HL) ps.length (λj s=>[.i s.1,.i (Int.ofNat j)]) (λ_ s=>H1++s.2) (λj s=>j<=qs.length/\((s.1=0/\lexS ps qs=lexS (ps.drop j) (qs.drop j)/\(Sml (ps.drop j) (qs.drop j)->Sml ps qs))∨(s.1≠0/\s.1=lexS ps qs/\Sml ps qs))) (j0:=0) (s0:=(0,[])) rfl (by simp) (qaS _) ⟨qaS _,.inl ⟨rfl,rfl,id⟩⟩ ?_
    rintro j ⟨w,G⟩ hj ⟨hjq,hI⟩ self hself
    have hx1:StL (H1++G) x ps:=(hx.pre hpre).pre ⟨G,rfl⟩
    have hy1:StL (H1++G) v qs:=hq.pre ⟨G,rfl⟩
    have leave:j=ps.length∨j=qs.length->jn [.i w] (H1++G):=λhe=>hjn _ _ ⟨w,G,rfl,rfl,by
     rcases hI with⟨rfl,i1,i2⟩|⟨i0,i1,i2⟩
     ·exact end_of i1 i2 hj hjq he
     ·exact⟨i2,.inl ⟨i0,i1⟩⟩⟩
    simp(disch:=omega)only[↓qXX]
    refine bW hx1.1 ?_
    by_cases hlt:j<ps.length
    case neg=>
     rw[cE (by omega)]
     simp(disch:=omega)only[↓qXX]
     exact leave (.inl (by omega))
    rw[cF hlt]
    simp(disch:=omega)only[↓qXX]
    refine bW hy1.1 ?_
    by_cases hlq:j<qs.length
    case neg=>
     rw[cE (by omega)]
     simp(disch:=omega)only[↓qXX]
     exact leave (.inr (by omega))
    rw[cF hlq]
    simp(disch:=omega)only[↓qXX]
    by_cases hw0:w=0
    case neg=>
     rw[p_eql_f hw0]
     simp(disch:=omega)only[↓qXX]
     exact hjn _ _ ⟨w,G,rfl,rfl,(hI.resolve_left λh=>hw0 h.1).2.2,.inl ⟨hw0,(hI.resolve_left λh=>hw0 h.1).2.1⟩⟩
    subst hw0
    obtain⟨_,i1,i2⟩:=hI.resolve_right λh=>h.1 rfl
    rw[p_eql_t rfl]
    simp(disch:=omega)only[↓qXX]
    obtain⟨a,ha⟩:=dU hlt
    obtain⟨b,hb⟩:=dU hlq
    have sa:=hx1.2 a (qar ha)
    have sb:=hy1.2 b (qar hb)
    refine r_fld (o:=3) (k:=1) (cs:=[a.2.1]) hx1.1 rfl ha rfl (by omega) ?_
    simp(disch:=omega)only[↓qXX]
    refine cf sa.1.good ?_
    simp(disch:=omega)only[↓qXX]
    refine bW sa.1 ?_
    by_cases a5:a.2.2.length<=5
    case neg=>
     rw[p_gtr_t (by show(5:Int)<a.2.2.length;omega)]
     simp(disch:=omega)only[↓qXX]
     refine dY eZ ?_
     simp(disch:=omega)only[↓qXX]
    rw[p_gtr_f (by show(a.2.2.length:Int)<=5;omega)]
    simp(disch:=omega)only[↓qXX]
    refine r_fld (o:=3) (k:=1) (cs:=[b.2.1]) hy1.1 rfl hb rfl (by omega) ?_
    simp(disch:=omega)only[↓qXX]
    refine cf sb.1.good ?_
    simp(disch:=omega)only[↓qXX]
    refine bW sb.1 ?_
    by_cases b5:b.2.2.length<=5
    case neg=>
     rw[p_gtr_t (by show(5:Int)<b.2.2.length;omega)]
     simp(disch:=omega)only[↓qXX]
     refine dY eZ ?_
     simp(disch:=omega)only[↓qXX]
    rw[p_gtr_f (by show(b.2.2.length:Int)<=5;omega)]
    simp(disch:=omega)only[↓qXX]
    refine iX hx1.1 rfl ha ?_
    unfold encS
    simp(disch:=omega)only[↓qXX]
    refine cf sa.1.good ?_
    simp(disch:=omega)only[↓qXX]
    refine iX hy1.1 rfl hb ?_
    unfold encS
    simp(disch:=omega)only[↓qXX]
    refine cf sb.1.good ?_
    simp(disch:=omega)only[↓qXX]
    obtain⟨G',hc⟩:=cmpd_c sa sb a5 b5
    rw[qay]at hc
    refine cH hc ?_
    simp(disch:=omega)only[↓qXX]
    rw[qb (by omega)]
    rw[oR ha hb]at i1
    refine hself (cmpS a b,G++G') hlt ⟨by omega,?_⟩
    have hsml:Sml (ps.drop j) (qs.drop j)↔(a.2.2.length<=5/\b.2.2.length<=5/\(cmpS a b=0->Sml (ps.drop (j+1)) (qs.drop (j+1)))):=by
     rw[qaq hlt,qaq hlq]
     have q1:ps[j]=a:=by rw[qaj hlt]at ha;exact qai ha
     have q2:qs[j]=b:=by rw[qaj hlq]at hb;exact qai hb
     rw[q1,q2]
     exact Iff.rfl
    by_cases h0:cmpS a b=0
    ·rw[if_pos h0]at i1
     exact .inl ⟨h0,i1,λh=>i2 (hsml.2 ⟨a5,b5,λ_=>h⟩)⟩
    ·rw[if_neg h0]at i1
     exact .inr ⟨h0,i1.symm,i2 (hsml.2 ⟨a5,b5,λh=>absurd h h0⟩)⟩
  ·intro jn hjn
   cases t with
   |false=>
    simp(disch:=omega)only[↓qXX]
    exact hjn _ _ ⟨y,qs0,rfl,.refl _,hy,h60⟩
   |true=>
   simp(disch:=omega)only[↓qXX]
   refine nq (σ:=Value×HL) ps.length (λj s=>[.v s.1,.i (Int.ofNat j)]) (λ_ s=>s.2) (λj s=>∃cs,Cp H s.2 s.1 cs ps/\cs.length=j) (j0:=0) (s0:=(.slice none 0 0,H)) rfl rfl (qaS _) ⟨[],⟨.refl _,MkL.nil _ _ _ _,qaS _,λi c p h=>(by simp at h),λi c h=>(by simp at h),λi c b h=>(by simp at h),λi c b h=>(by simp at h),λi j c d b _ h=>(by simp at h)⟩,rfl⟩ ?_
   rintro j ⟨v,h⟩ hj ⟨cs,hC,rfl⟩ self hself
   have hp0:=hC.pre
   simp(disch:=omega)only[↓qXX]
   refine bW (hx.pre hp0).1 ?_
   by_cases hlt:cs.length<ps.length
   ·rw[cF hlt]
    simp(disch:=omega)only[↓qXX]
    obtain⟨p,hp⟩:=dU hlt
    obtain⟨pp,g1,g2⟩:=hx.1.at hp
    obtain⟨q0,f1,f2⟩:=g2.fd 0 3 (by simp[encS])
    obtain⟨q3,f3,f4⟩:=g2.fd 3 1 (by simp[encS])
    have sp:=hx.2 p (qar hp)
    refine dM g1 ?_
    refine dM f1 ?_
    refine cf f2.good ?_
    refine js (cs:=[.int .i64 p.1.1,.int .i64 p.1.2.1,.int .u8 p.1.2.2]) ((f2.keep λ_ _ h=>hp0.get h).lg (by simp[encS])) ?_
    simp(disch:=omega)only[↓qXX]
    refine dM g1 ?_
    refine dM f3 ?_
    refine cf f4.good ?_
    refine js (cs:=[p.2.1]) ((f4.keep λ_ _ h=>(hp0.app _).get h).lg (by simp[encS])) ?_
    simp(disch:=omega)only[↓qXX]
    refine cf sp.1.good ?_
    simp(disch:=omega)only[↓qXX]
    refine r_apF (h:=h++[HO.o (.cells [] 1 true)]) (m:=h.length) (old:=[]) (new:=p.2.2) (by simp) rfl rfl (sp.1.pre (hp0.app _)) (by have:=sp.2.2;simp only[qbn];omega) ?_
    intro v1 G1 hO hv1 hb1
    simp(disch:=omega)only[↓qXX]
    refine cf hv1 ?_
    simp(disch:=omega)only[↓qXX]
    have h12:Pre h (h++[HO.o (.cells [] 1 true)]++G1):=(Pre.refl h).app _ |>.app _
    have hblk:∀b,blk v1=some b->h.length<=b:=λb hb=>by
     rcases hb1 b hb with e|e
     ·omega
     ·simp only[qaw,qaW,qbn]at e;omega
    rw[qbg]at hO
    generalize h++[HO.o (.cells [] 1 true)]++G1=h2 at *
    have hsz:bP (cs.length+1) 48=true:=by
     unfold bP
     rw[qbz (by omega),qbz (by omega)];rfl
    refine p_app1 (a:=(p.1,v1,p.2.2)) (enc:=encS) (l:=cs) (hp0.trans h12) (hC.mkl.pre h12) (by rfl) (by rfl) rfl rfl hsz ?_
    intro v' h' q1 q2 q3 q4 q5
    simp(disch:=omega)only[↓qXX]
    refine cf q3 ?_
    simp(disch:=omega)only[↓qXX]
    obtain⟨b1,z1,z2⟩:=hO.adr
    obtain⟨i0,o0,_,_,_,rfl,y0,_⟩:=f2
    obtain⟨i3,o3,_,_,_,rfl,y3,_⟩:=f4
    have lt0:i0<H.length:=aZ y0
    have lt3:i3<H.length:=aZ y3
    have hHl:H.length<=h.length:=hp0.len
    have hb1':=hblk b1 z1
    refine dM (x:=()) ?_ ?_
    ·refine jv (disj1 (by show h.length≠i0;omega)) (jv (disj1 (by show h.length≠i3;omega)) (jv (disj1 (by show h.length≠i0;omega)) (jv ?_ rfl)))
     rw[z2]
     exact disj1 (by show b1≠i0;omega)
    rw[qb (by omega)]
    exact hself (v',h') hlt ⟨cs++[(p.1,v1,p.2.2)],hC.more hp h12 hO hblk q1 q2 q4 q5,by simp⟩
   ·have hj':cs.length=ps.length:=by omega
    rw[hj',cE (qaA _)]
    simp(disch:=omega)only[↓qXX]
    have hst:=hC.st hx
    refine bW hst.1 ?_
    by_cases hz:0<cs.length
    case neg=>
     rw[p_gtr_f (by show(cs.length:Int)<=0;omega)]
     simp(disch:=omega)only[↓qXX]
     exact hjn _ _ ⟨v,cs,rfl,hp0,hst,by omega⟩
    rw[p_gtr_t (by show(0:Int)<cs.length;omega)]
    simp(disch:=omega)only[↓qXX]
    rw[p_conv (by show(-9223372036854775808:Int)<=(n:Int);omega) (by show(n:Int)<=9223372036854775807;omega)]
    refine bW hst.1 ?_
    rw[p_rem_nn (by show(0:Int)<=(n:Int);omega) (by show(0:Int)<(cs.length:Int);omega),show Int.ofNat n%Int.ofNat cs.length=Int.ofNat (n%cs.length)from rfl]
    obtain⟨c,hc⟩:=dU (l:=cs) (i:=n%cs.length) (qbU _ hz)
    have hO:=hC.own _ c hc
    refine r_fld (o:=3) (k:=1) (cs:=[c.2.1]) hst.1 rfl hc rfl (by omega) ?_
    simp(disch:=omega)only[↓qXX]
    refine cf hO.ls.good ?_
    simp(disch:=omega)only[↓qXX]
    refine bW hO.ls ?_
    by_cases hz2:0<c.2.2.length
    case neg=>
     rw[p_gtr_f (by show(c.2.2.length:Int)<=0;omega)]
     simp(disch:=omega)only[↓qXX]
     exact hjn _ _ ⟨v,cs,rfl,hp0,hst,by omega⟩
    rw[p_gtr_t (by show(0:Int)<c.2.2.length;omega)]
    simp(disch:=omega)only[↓qXX]
    rw[p_conv (by show(-9223372036854775808:Int)<=(n:Int);omega) (by show(n:Int)<=9223372036854775807;omega)]
    refine bW hst.1 ?_
    rw[p_rem_nn (by show(0:Int)<=(n:Int);omega) (by show(0:Int)<(cs.length:Int);omega),show Int.ofNat n%Int.ofNat cs.length=Int.ofNat (n%cs.length)from rfl]
    refine r_fld (o:=3) (k:=1) (cs:=[c.2.1]) hst.1 rfl hc rfl (by omega) ?_
    simp(disch:=omega)only[↓qXX]
    refine cf hO.ls.good ?_
    simp(disch:=omega)only[↓qXX]
    rw[p_quo8 (by show(0:Int)<=(n:Int);omega) (by show(n:Int)<=255;omega) (by omega),show Int.ofNat n / 8=Int.ofNat (n / 8)from rfl]
    rw[p_conv (by show(-9223372036854775808:Int)<=((n / 8:Nat):Int);omega) (by show((n / 8:Nat):Int)<=9223372036854775807;omega)]
    refine bW hO.ls ?_
    rw[p_rem_nn (by show(0:Int)<=((n / 8:Nat):Int);omega) (by show(0:Int)<(c.2.2.length:Int);omega),show Int.ofNat (n / 8)%Int.ofNat c.2.2.length=Int.ofNat (n / 8%c.2.2.length)from rfl]
    rw[p_rem_nn (by show(0:Int)<=(n:Int);omega) (by omega),show Int.ofNat n%3=Int.ofNat (n%3)from rfl]
    rw[p_conv (by show(-9223372036854775808:Int)<=((n%3:Nat):Int);omega) (by show((n%3:Nat):Int)<=9223372036854775807;omega)]
    obtain⟨bi,cx,w1,w2⟩:=hO
    have hlt2:bi<h.length:=aZ w2
    have hfin:=StL.put hC hx hc w1 hlt2 (l:=c.2.2.set (n / 8%c.2.2.length) (Int.ofNat (n%3))) (by rw[qcP])
    have hpreF:Pre H (putE h bi 1 encI (c.2.2.set (n / 8%c.2.2.length) (Int.ofNat (n%3)))):=by
     exact hp0.set (hC.hi _ c bi hc (by rw[w1];rfl)) _
    rw[w1]
    refine r_setO w2 (qbU _ hz2) rfl ?_
    simp(disch:=omega)only[↓qXX]
    exact hjn _ _ ⟨v,_,rfl,hpreF,hfin,by rw[qcP];omega⟩)
 exact⟨h',hcl'⟩
end Go.Am

/-
 OrdersCompare: from the row's arguments.
-/
set_option maxRecDepth 100000
namespace Go.Am
open Sx Go.Proofs
theorem decI(cs:List Value)(h:FitC [.i .i64] cs):∃a:Int,encI a=cs/\True:=by
 obtain⟨v1,rfl⟩ : ∃v1,cs=[v1]:=by
  have hl:=FitC.len h
  match cs,hl with
  | [v1],_=>exact⟨v1,rfl⟩
 obtain⟨⟨a,rfl,ha⟩,_⟩:=h
 exact⟨a,rfl,trivial⟩
abbrev ksS:List CK2:=[.i .i64,.i .i64,.i .u8,.s [.i .i64]]
theorem stk_of{h:HL}{cs:List Value}(hf:cS h ksS cs):∃s:Stk,encS s=cs/\SOk h s:=by
 obtain⟨v1,v2,v3,v4,rfl⟩ : ∃v1 v2 v3 v4,cs=[v1,v2,v3,v4]:=by
  have hl:=cS.len hf
  match cs,hl with
  | [v1,v2,v3,v4],_=>exact⟨v1,v2,v3,v4,rfl⟩
 obtain⟨⟨a,rfl,_⟩,⟨b,rfl,_⟩,⟨q,rfl,hq⟩,⟨_,n,cells,h1,h2,h3⟩,_⟩:=hf
 obtain⟨l,hl,hn,_⟩:=ls_of (ks:=[.i .i64]) (enc:=encI) (ok:=λ_=>True) fm decI h1 h3
 have hq:=wf_u8 hq
 refine⟨((a,b,q),v4,l),rfl,hl,hq,?_⟩
 have h2:n*8<=140737488351232:=h2
 show l.length*8<=_
 rw[hn];exact h2
theorem stks_of{h:HL}:∀(n:Nat) (cells:List Value),cells.length=n*4->(∀i,i<n->cS h ksS ((cells.drop (i*4)).take 4))->∃l:List Stk,l.length=n/\l.flatMap encS=cells/\∀s∈l,SOk h s
 |0,cells,hl,_=>⟨[],rfl,(qbG (by omega)).symm,λs h=>(by cases h)⟩
 |n+1,cells,hl,hf=>by
  obtain⟨s,s1,s2⟩:=stk_of (hf 0 (by omega))
  obtain⟨l,l1,l2,l3⟩:=stks_of n (cells.drop 4) (by rw[qbF];omega) (λi hi=>by
   have:=hf (i+1) (by omega)
   rw[qba]
   rw[show(i+1)*4=4+i*4 by omega]at this
   exact this)
  refine⟨s :: l,by simp[l1],?_,λt ht=>?_⟩
  ·rw[qbt,l2,s1,qbl,qbb]
   exact qbK 4 cells
  ·rcases qao.1 ht with rfl|ht
   ·exact s2
   ·exact l3 t ht
theorem stl_of{h:HL}{ls:List Lf}(hf:FitA h (.ss ksS) ls):∃x l,ls=[.v x]/\StL h x l:=by
 obtain⟨x,n,cells,rfl,h1,_,h3⟩:=hf
 obtain⟨l,l1,l2,l3⟩:=stks_of n cells h1.1 h3
 exact⟨x,l,rfl,⟨λa _=>qK a,by rw[l1,l2];exact h1⟩,l3⟩
theorem fC(ls:List Lf)(h:HL)(hf:FitAs h [.ss ksS,.ss ksS,.pl [.i .u8]] ls):∃h',bG cc ab 3 ls (absH ac h) [.b true] (absH ac h'):=by
 obtain⟨l1,r1,rfl,f1,l2,r2,rfl,f2,l3,r3,rfl,f3,rfl⟩:=hf
 obtain⟨x,ps,rfl,hx⟩:=stl_of f1
 obtain⟨y,qs,rfl,hy⟩:=stl_of f2
 have f3:aO h [.i .u8] l3:=f3
 obtain⟨w,l,rfl,hw,f3⟩:=f3.i
 obtain rfl:=f3.nil
 have hw:=wf_u8 hw
 obtain⟨n,rfl⟩:=Int.eq_ofNat_of_zero_le hw.1
 exact ig (by omega) hx hy
end Go.Am

/-
 WHAT THE ROW SAYS OF THE LISTED VARIABLES.
-/
set_option maxRecDepth 100000
namespace Go.Proofs.YtdafccenakomlaaGreatDoor
open Go Go.Am Go.Am.Sx
open Go.ChangeShapes Go.WideShapes Go.ChangeAt Go.WideMaps Go.WideElems Go.RowKit
abbrev laidC:List (String×DataW Unit):= [("crimp/moves.turns",Rows.laid_crimp_moves_turns), ("crimp/cells.quarters",Rows.laid_crimp_cells_quarters)]
theorem name1 : Tryz.prog.globalNamed "crimp/moves.turns" = some 1:=by kernel_rfl
theorem name0 : Tryz.prog.globalNamed "crimp/cells.quarters" = some 0:=by kernel_rfl
theorem of_laid{W:World}(h:laidMetH Tryz.prog laidC W):∃_:Unit,∀(g:Nat) (vs:List Value),cc.G g=some vs->
  gBlk g<W.heap.size/\vs.all aA=true/\∃c e fr,W.heap[gBlk g]? = some (.cells c e fr)/\bo (λ_=>none) vs c (gOff g):=by
 rw[MakeChecks.laidMetH_plain _ _ _ (by kernel_rfl)]at h
 obtain⟨ps,h,_,_⟩:=h
 refine⟨(),λg vs hg=>?_⟩
 have hcell:=gl_cell g vs hg
 unfold cc at hg
 simp only at hg
 split at hg
 ·cases hg
  exact oH (by kernel_rfl) hcell (by kernel_rfl) (lS h "crimp/moves.turns" Rows.laid_crimp_moves_turns qaM 1 178 8 gl1 name1 (by kernel_rfl) (by kernel_rfl))
 ·cases hg
  exact oH (by kernel_rfl) hcell (by kernel_rfl) (lS h "crimp/cells.quarters" Rows.laid_crimp_cells_quarters (qas _ qaM) 0 150 8 gl0 name0 (by kernel_rfl) (by kernel_rfl))
 ·cases hg
theorem own:ownKnob Tryz.prog.godebug=none:=by kernel_rfl
theorem door_met(os:Os)(args:Array Value):laidMetH Tryz.prog laidC ((World.doorLaid Tryz.prog 400 os).forCall (λ_ _=>0) ⟨#[],args,[]⟩).memory:=
 laidMetH_of_parts3 (fuel:=8) (laidMet_of_run' 8 (by kernel_rfl) (by kernel_rfl)) (by kernel_rfl) (by kernel_rfl)
end Go.Proofs.YtdafccenakomlaaGreatDoor

end

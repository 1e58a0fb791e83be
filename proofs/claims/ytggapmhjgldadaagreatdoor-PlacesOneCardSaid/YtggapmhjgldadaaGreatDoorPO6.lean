/-
  PART 6 OF THE PROOF (no conditions).
-/
import Derived.Test.YtggapmhjgldadaaGreatDoorPO5
set_option linter.unusedSectionVars false
set_option linter.unusedSimpArgs false
set_option linter.unusedVariables false
set_option linter.constructorNameAsVariable false
set_option linter.defProp false
noncomputable section
namespace Go.Am
namespace Sx
class Bx (α:Sort _) where
 v:α
def hid{α:Sort _} [b:Bx α]:α:=b.v
section
variable [Val] [Kno] {C:Cfg} {Sg:FuncId->Option Sig} {T:Nat->Site}
theorem b_unI{n:Int}{r:List Lf}{K:Int->List Lf->Prop}:(PH C Sg T).unI (.i n :: r) K=K n r:=rfl
theorem b_unB{n:Bool}{r:List Lf}{K:Bool->List Lf->Prop}:(PH C Sg T).unB (.b n :: r) K=K n r:=rfl
theorem b_unV{n:Value}{r:List Lf}{K:Value->List Lf->Prop}:(PH C Sg T).unV (.v n :: r) K=K n r:=rfl
theorem b_un0{K:Prop}:(PH C Sg T).un0 [] K=K:=rfl
theorem b_ucI{k:IntKind}{n:Int}{r:List Value}{K:Int->List Value->Prop}:(PH C Sg T).ucI k (.int k n :: r) K=K n r:=by
 show(k=k/\K n r)=K n r
 simp
theorem b_ucB{n:Bool}{r:List Value}{K:Bool->List Value->Prop}:(PH C Sg T).ucB (.bool n :: r) K=K n r:=rfl
theorem b_ucV{n:Value}{r:List Value}{K:Value->List Value->Prop}:(PH C Sg T).ucV (n :: r) K=K n r:=rfl
theorem b_uc0{K:Prop}:(PH C Sg T).uc0 [] K=K:=rfl
theorem b_cond_t{X Y:Prop}:(PH C Sg T).cond true X Y=X:=by
 show((true=true->X)/\(true=false->Y))=X
 simp
theorem b_cond_f{X Y:Prop}:(PH C Sg T).cond false X Y=Y:=by
 show((false=true->X)/\(false=false->Y))=Y
 simp
theorem b_lss_t{a b:Int}{K:Bool->Prop}(h:a<b):(PH C Sg T).cmp .lss a b K=K true:=by
 show K (decide (a<b))=_;rw[decide_eq_true h]
theorem b_lss_f{a b:Int}{K:Bool->Prop}(h:b<=a):(PH C Sg T).cmp .lss a b K=K false:=by
 show K (decide (a<b))=_;rw[decide_eq_false (by omega)]
theorem b_leq_t{a b:Int}{K:Bool->Prop}(h:a<=b):(PH C Sg T).cmp .leq a b K=K true:=by
 show K (decide (a<=b))=_;rw[decide_eq_true h]
theorem b_leq_f{a b:Int}{K:Bool->Prop}(h:b<a):(PH C Sg T).cmp .leq a b K=K false:=by
 show K (decide (a<=b))=_;rw[decide_eq_false (by omega)]
theorem b_gtr_t{a b:Int}{K:Bool->Prop}(h:b<a):(PH C Sg T).cmp .gtr a b K=K true:=by
 show K (decide (a > b))=_;rw[decide_eq_true h]
theorem b_gtr_f{a b:Int}{K:Bool->Prop}(h:a<=b):(PH C Sg T).cmp .gtr a b K=K false:=by
 show K (decide (a > b))=_;rw[decide_eq_false (by omega)]
theorem b_geq_t{a b:Int}{K:Bool->Prop}(h:b<=a):(PH C Sg T).cmp .geq a b K=K true:=by
 show K (decide (a ≥ b))=_;rw[decide_eq_true h]
theorem b_geq_f{a b:Int}{K:Bool->Prop}(h:a<b):(PH C Sg T).cmp .geq a b K=K false:=by
 show K (decide (a ≥ b))=_;rw[decide_eq_false (by omega)]
theorem b_eql_t{a b:Int}{K:Bool->Prop}(h:a=b):(PH C Sg T).cmp .eql a b K=K true:=by
 show K (a==b)=_;rw[beq_iff_eq.2 h]
theorem b_eql_f{a b:Int}{K:Bool->Prop}(h:a≠b):(PH C Sg T).cmp .eql a b K=K false:=by
 show K (a==b)=_;rw[beq_false_of_ne h]
theorem b_neq_t{a b:Int}{K:Bool->Prop}(h:a≠b):(PH C Sg T).cmp .neq a b K=K true:=by
 show K (a != b)=_;rw[bne_iff_ne.2 h]
theorem b_neq_f{a b:Int}{K:Bool->Prop}(h:a=b):(PH C Sg T).cmp .neq a b K=K false:=by
 show K (a != b)=_;subst h;simp
theorem b_add{a b:Int}{K:Int->Prop}(h1:-9223372036854775808<=a+b)(h2:a+b<=9223372036854775807):(PH C Sg T).ari .add .i64 a b K=K (a+b):=by
 show K (IntKind.wrap .i64 (a+b))=_;rw[cQ h1 h2]
theorem b_sub{a b:Int}{K:Int->Prop}(h1:-9223372036854775808<=a - b)(h2:a - b<=9223372036854775807):(PH C Sg T).ari .sub .i64 a b K=K (a - b):=by
 show K (IntKind.wrap .i64 (a - b))=_;rw[cQ h1 h2]
theorem b_mul{a b:Int}{K:Int->Prop}(h1:-9223372036854775808<=a*b)(h2:a*b<=9223372036854775807):(PH C Sg T).ari .mul .i64 a b K=K (a*b):=by
 show K (IntKind.wrap .i64 (a*b))=_;rw[cQ h1 h2]
theorem b_add8{a b:Int}{K:Int->Prop}(h1:0<=a+b)(h2:a+b<=255):(PH C Sg T).ari .add .u8 a b K=K (a+b):=by
 show K (IntKind.wrap .u8 (a+b))=_;rw[sj h1 h2]
theorem b_sub8{a b:Int}{K:Int->Prop}(h1:0<=a - b)(h2:a - b<=255):(PH C Sg T).ari .sub .u8 a b K=K (a - b):=by
 show K (IntKind.wrap .u8 (a - b))=_;rw[sj h1 h2]
theorem b_mul8{a b:Int}{K:Int->Prop}(h1:0<=a*b)(h2:a*b<=255):(PH C Sg T).ari .mul .u8 a b K=K (a*b):=by
 show K (IntKind.wrap .u8 (a*b))=_;rw[sj h1 h2]
theorem tdiv_nn{a b:Int}(h:0<=a):a.tdiv b=a / b:=Int.tdiv_eq_ediv_of_nonneg h
theorem b_quo_nn{a b:Int}{K:Int->Prop}(h:0<=a)(hb:0<b)(h2:a<=9223372036854775807):(PH C Sg T).ari .quo .i64 a b K=K (a / b):=by
 show(b≠0/\K (IntKind.wrap .i64 (a.tdiv b)))=_
 have h3:a / b<=a:=Int.ediv_le_self b h
 have h4:0<=a / b:=Int.ediv_nonneg h (by omega)
 rw[tdiv_nn h,cQ (by omega) (by omega)]
 simp;intro _ h;omega
theorem b_quo_dv{a b:Int}{K:Int->Prop}(h:a%b=0)(hb:0<b)(h1:-9223372036854775808<=a)(h2:a<=9223372036854775807):(PH C Sg T).ari .quo .i64 a b K=K (a / b):=by
 show(b≠0/\K (IntKind.wrap .i64 (a.tdiv b)))=_
 obtain⟨q,rfl⟩:=Int.dvd_of_emod_eq_zero h
 rw[Int.mul_tdiv_cancel_left q (by omega),Int.mul_ediv_cancel_left q (by omega)]
 have hq:-9223372036854775808<=q/\q<=9223372036854775807:=by
  rcases qdc 0 q with hs|hs
  ·have:=qcp (show(1:Int)<=b by omega) hs
   omega
  ·have:=qcp (show(1:Int)<=b by omega) (show 0<=-q by omega)
   rw[Int.mul_neg b q]at this
   omega
 rw[cQ hq.1 hq.2]
 simp;intro _ h;omega
theorem b_rem_nn{k:IntKind}{a b:Int}{K:Int->Prop}(h:0<=a)(hb:0<b):(PH C Sg T).ari .rem k a b K=K (a%b):=by
 show(b≠0/\K (a.tmod b))=_
 rw[qdb h]
 simp;intro _ h;omega
theorem b_rem_np{k:IntKind}{a b:Int}{K:Int->Prop}(h:a<=0)(hb:0<b):(PH C Sg T).ari .rem k a b K=K (-((-a)%b)):=by
 show(b≠0/\K (a.tmod b))=_
 have:a.tmod b = -((-a)%b):=by
  have h1:=Int.neg_tmod a b
  rw[qdb (a:=-a) (by omega)]at h1
  omega
 rw[this]
 simp;intro _ h;omega
theorem b_and1{a:Int}{K:Int->Prop}:(PH C Sg T).ari .and .i64 a 1 K=K (a%2):=by
 show(((1:Int)=1/\K (a%2))∨((1:Int)≠1/\∃n,qr .and .i64 a 1 n/\K n))=K (a%2)
 simp
theorem b_conv{a:Int}{K:Int->Prop}(h1:-9223372036854775808<=a)(h2:a<=9223372036854775807):(PH C Sg T).conv .i64 a K=K a:=by
 show K (IntKind.wrap .i64 a)=_;rw[cQ h1 h2]
theorem b_conv8{a:Int}{K:Int->Prop}(h1:0<=a)(h2:a<=255):(PH C Sg T).conv .u8 a K=K a:=by
 show K (IntKind.wrap .u8 a)=_;rw[sj h1 h2]
theorem b_sel_t{a b:Int}{K:Int->Prop}:(PH C Sg T).sel true a b K=K a:=rfl
theorem b_sel_f{a b:Int}{K:Int->Prop}:(PH C Sg T).sel false a b K=K b:=rfl
theorem b_opt{α:Type}{x:α}{K:α->Prop}:(PH C Sg T).opt (some x) K=K x:=by
 show(∃y,some x=some y/\K y)=K x
 simp
theorem b_inB{n:Nat}{i:Int}{K:Unit->Prop}(h1:0<=i)(h2:i<(n:Int)):(PH C Sg T).opt (inB n i) K=K ():=by
 rw[show inB n i=some ()from(inB_eq n i).trans (if_pos ⟨h1,h2⟩),b_opt]
theorem b_join{b:List Lf->HL->Prop}{m:(List Lf->HL->Prop)->Prop}:(PH C Sg T).join b m=m b:=rfl
theorem b_eqs0{K:Bool->Prop}:(PH C Sg T).eqs [] K=K true:=rfl
theorem b_eqs_t{a b:Int}{l:List (Lf×Lf)}{K:Bool->Prop}(h:a=b):(PH C Sg T).eqs ((.i a,.i b) :: l) K=(PH C Sg T).eqs l K:=by
 show K (cm _)=K (cm l)
 subst h
 simp[cm,gP]
theorem b_eqs_f{a b:Int}{l:List (Lf×Lf)}{K:Bool->Prop}(h:a≠b):(PH C Sg T).eqs ((.i a,.i b) :: l) K=K false:=by
 show K (cm _)=K false
 have:(a==b)=false:=beq_false_of_ne h
 simp[cm,gP,this]
theorem p_loop{F:(List Lf->HL->Prop)->List Lf->HL->Prop}{ls:List Lf}{h:HL}(n:Nat)(hn:itH F n ls h):(PH C Sg T).loop F ls h:=⟨n,hn⟩
theorem b_it{F:(List Lf->HL->Prop)->List Lf->HL->Prop}{n:Nat}{ls:List Lf}{h:HL}:itH F (n+1) ls h=F (itH F n) ls h:=rfl
theorem ah{g:FuncId}{ls rs:List Lf}{h:HL}{K:List Lf->HL->Prop}(hc:∀H,aF C Sg g ls H rs H)(hk:K rs h):(PH C Sg T).call g ls h (@hid _ ⟨K⟩):=⟨rs,h,hc _,hk⟩
theorem b_eqsb_t{a b:Bool}{l:List (Lf×Lf)}{K:Bool->Prop}(h:a=b):(PH C Sg T).eqs ((.b a,.b b) :: l) K=(PH C Sg T).eqs l K:=by
 show K (cm _)=K (cm l)
 subst h
 simp[cm,gP]
theorem b_eqsb_tf{l:List (Lf×Lf)}{K:Bool->Prop}:(PH C Sg T).eqs ((.b true,.b false) :: l) K=K false:=rfl
theorem b_eqsb_ft{l:List (Lf×Lf)}{K:Bool->Prop}:(PH C Sg T).eqs ((.b false,.b true) :: l) K=K false:=rfl
theorem b_mul_1{b:Int}{K:Int->Prop}(h1:-9223372036854775808<=b)(h2:b<=9223372036854775807):(PH C Sg T).ari .mul .i64 1 b K=K b:=by
 show K (IntKind.wrap .i64 (1*b))=_;rw[Int.one_mul,cQ h1 h2]
theorem b_mul_0{b:Int}{K:Int->Prop}:(PH C Sg T).ari .mul .i64 0 b K=K 0:=by
 show K (IntKind.wrap .i64 (0*b))=_;rw[Int.zero_mul];rfl
theorem b_mul_m{b:Int}{K:Int->Prop}(h1:-9223372036854775808<=-b)(h2:-b<=9223372036854775807):(PH C Sg T).ari .mul .i64 (-1) b K=K (-b):=by
 show K (IntKind.wrap .i64 (-1*b))=_
 have:(-1*b:Int) = -b:=by omega
 rw[this,cQ h1 h2]
theorem b_mul_r1{b:Int}{K:Int->Prop}(h1:-9223372036854775808<=b)(h2:b<=9223372036854775807):(PH C Sg T).ari .mul .i64 b 1 K=K b:=by
 show K (IntKind.wrap .i64 (b*1))=_;rw[Int.mul_one,cQ h1 h2]
theorem b_mul_r0{b:Int}{K:Int->Prop}:(PH C Sg T).ari .mul .i64 b 0 K=K 0:=by
 show K (IntKind.wrap .i64 (b*0))=_;rw[Int.mul_zero];rfl
theorem b_mul_rm{b:Int}{K:Int->Prop}(h1:-9223372036854775808<=-b)(h2:-b<=9223372036854775807):(PH C Sg T).ari .mul .i64 b (-1) K=K (-b):=by
 show K (IntKind.wrap .i64 (b * -1))=_
 have:(b * -1:Int) = -b:=by omega
 rw[this,cQ h1 h2]
theorem b_add_0{b:Int}{K:Int->Prop}(h1:-9223372036854775808<=b)(h2:b<=9223372036854775807):(PH C Sg T).ari .add .i64 0 b K=K b:=by
 show K (IntKind.wrap .i64 (0+b))=_;rw[qcV,cQ h1 h2]
theorem b_add_r0{b:Int}{K:Int->Prop}(h1:-9223372036854775808<=b)(h2:b<=9223372036854775807):(PH C Sg T).ari .add .i64 b 0 K=K b:=by
 show K (IntKind.wrap .i64 (b+0))=_;rw[Int.add_zero,cQ h1 h2]
theorem b_add_11{K:Int->Prop}:(PH C Sg T).ari .add .i64 1 1 K=K 2:=by
 show K (IntKind.wrap .i64 (1+1))=_;rfl
theorem b_quo_1{a:Int}{K:Int->Prop}(h1:-9223372036854775808<=a)(h2:a<=9223372036854775807):(PH C Sg T).ari .quo .i64 a 1 K=K a:=by
 show((1:Int)≠0/\K (IntKind.wrap .i64 (a.tdiv 1)))=_
 rw[Int.tdiv_one,cQ h1 h2];simp
theorem p_ari_2{op:BinOp}{k:IntKind}{a b b':Int}{K:Int->Prop}(hb:b=b')(h:(PH C Sg T).ari op k a b' K):(PH C Sg T).ari op k a b K:=by rw[hb];exact h
theorem au{α:Type}{o:Option α}{x:α}{K:α->Prop}(h:o=some x)(hk:K x):(PH C Sg T).opt o (@hid _ ⟨K⟩):=⟨x,h,hk⟩
theorem p_unI{n:Int}{r:List Lf}{K:Int->List Lf->Prop}:(PH C Sg T).unI (.i n :: r) (@hid _ ⟨K⟩)=K n r:=b_unI
theorem p_unB{n:Bool}{r:List Lf}{K:Bool->List Lf->Prop}:(PH C Sg T).unB (.b n :: r) (@hid _ ⟨K⟩)=K n r:=b_unB
theorem p_unV{n:Value}{r:List Lf}{K:Value->List Lf->Prop}:(PH C Sg T).unV (.v n :: r) (@hid _ ⟨K⟩)=K n r:=b_unV
theorem p_un0{K:Prop}:(PH C Sg T).un0 [] (@hid _ ⟨K⟩)=K:=b_un0
theorem p_ucI{k:IntKind}{n:Int}{r:List Value}{K:Int->List Value->Prop}:(PH C Sg T).ucI k (.int k n :: r) (@hid _ ⟨K⟩)=K n r:=b_ucI
theorem p_ucB{n:Bool}{r:List Value}{K:Bool->List Value->Prop}:(PH C Sg T).ucB (.bool n :: r) (@hid _ ⟨K⟩)=K n r:=b_ucB
theorem p_ucV{n:Value}{r:List Value}{K:Value->List Value->Prop}:(PH C Sg T).ucV (n :: r) (@hid _ ⟨K⟩)=K n r:=b_ucV
theorem p_uc0{K:Prop}:(PH C Sg T).uc0 [] (@hid _ ⟨K⟩)=K:=b_uc0
theorem p_cond_t{X Y:Prop}:(PH C Sg T).cond true (@hid _ ⟨X⟩) Y=X:=b_cond_t
theorem p_cond_f{X Y:Prop}:(PH C Sg T).cond false X (@hid _ ⟨Y⟩)=Y:=b_cond_f
theorem p_lss_t{a b:Int}{K:Bool->Prop}(h:a<b):(PH C Sg T).cmp .lss a b (@hid _ ⟨K⟩)=K true:=b_lss_t h
theorem p_lss_f{a b:Int}{K:Bool->Prop}(h:b<=a):(PH C Sg T).cmp .lss a b (@hid _ ⟨K⟩)=K false:=b_lss_f h
theorem p_leq_t{a b:Int}{K:Bool->Prop}(h:a<=b):(PH C Sg T).cmp .leq a b (@hid _ ⟨K⟩)=K true:=b_leq_t h
theorem p_leq_f{a b:Int}{K:Bool->Prop}(h:b<a):(PH C Sg T).cmp .leq a b (@hid _ ⟨K⟩)=K false:=b_leq_f h
theorem p_gtr_t{a b:Int}{K:Bool->Prop}(h:b<a):(PH C Sg T).cmp .gtr a b (@hid _ ⟨K⟩)=K true:=b_gtr_t h
theorem p_gtr_f{a b:Int}{K:Bool->Prop}(h:a<=b):(PH C Sg T).cmp .gtr a b (@hid _ ⟨K⟩)=K false:=b_gtr_f h
theorem p_geq_t{a b:Int}{K:Bool->Prop}(h:b<=a):(PH C Sg T).cmp .geq a b (@hid _ ⟨K⟩)=K true:=b_geq_t h
theorem p_geq_f{a b:Int}{K:Bool->Prop}(h:a<b):(PH C Sg T).cmp .geq a b (@hid _ ⟨K⟩)=K false:=b_geq_f h
theorem p_eql_t{a b:Int}{K:Bool->Prop}(h:a=b):(PH C Sg T).cmp .eql a b (@hid _ ⟨K⟩)=K true:=b_eql_t h
theorem p_eql_f{a b:Int}{K:Bool->Prop}(h:a≠b):(PH C Sg T).cmp .eql a b (@hid _ ⟨K⟩)=K false:=b_eql_f h
theorem p_neq_t{a b:Int}{K:Bool->Prop}(h:a≠b):(PH C Sg T).cmp .neq a b (@hid _ ⟨K⟩)=K true:=b_neq_t h
theorem p_neq_f{a b:Int}{K:Bool->Prop}(h:a=b):(PH C Sg T).cmp .neq a b (@hid _ ⟨K⟩)=K false:=b_neq_f h
theorem p_add{a b:Int}{K:Int->Prop}(h1:-9223372036854775808<=a+b)(h2:a+b<=9223372036854775807):(PH C Sg T).ari .add .i64 a b (@hid _ ⟨K⟩)=K (a+b):=b_add h1 h2
theorem p_sub{a b:Int}{K:Int->Prop}(h1:-9223372036854775808<=a - b)(h2:a - b<=9223372036854775807):(PH C Sg T).ari .sub .i64 a b (@hid _ ⟨K⟩)=K (a - b):=b_sub h1 h2
theorem p_mul{a b:Int}{K:Int->Prop}(h1:-9223372036854775808<=a*b)(h2:a*b<=9223372036854775807):(PH C Sg T).ari .mul .i64 a b (@hid _ ⟨K⟩)=K (a*b):=b_mul h1 h2
theorem p_add8{a b:Int}{K:Int->Prop}(h1:0<=a+b)(h2:a+b<=255):(PH C Sg T).ari .add .u8 a b (@hid _ ⟨K⟩)=K (a+b):=b_add8 h1 h2
theorem p_sub8{a b:Int}{K:Int->Prop}(h1:0<=a - b)(h2:a - b<=255):(PH C Sg T).ari .sub .u8 a b (@hid _ ⟨K⟩)=K (a - b):=b_sub8 h1 h2
theorem p_mul8{a b:Int}{K:Int->Prop}(h1:0<=a*b)(h2:a*b<=255):(PH C Sg T).ari .mul .u8 a b (@hid _ ⟨K⟩)=K (a*b):=b_mul8 h1 h2
theorem p_quo_nn{a b:Int}{K:Int->Prop}(h:0<=a)(hb:0<b)(h2:a<=9223372036854775807):(PH C Sg T).ari .quo .i64 a b (@hid _ ⟨K⟩)=K (a / b):=b_quo_nn h hb h2
theorem p_quo_dv{a b:Int}{K:Int->Prop}(h:a%b=0)(hb:0<b)(h1:-9223372036854775808<=a)(h2:a<=9223372036854775807):(PH C Sg T).ari .quo .i64 a b (@hid _ ⟨K⟩)=K (a / b):=b_quo_dv h hb h1 h2
theorem p_rem_nn{k:IntKind}{a b:Int}{K:Int->Prop}(h:0<=a)(hb:0<b):(PH C Sg T).ari .rem k a b (@hid _ ⟨K⟩)=K (a%b):=b_rem_nn h hb
theorem p_rem_np{k:IntKind}{a b:Int}{K:Int->Prop}(h:a<=0)(hb:0<b):(PH C Sg T).ari .rem k a b (@hid _ ⟨K⟩)=K (-((-a)%b)):=b_rem_np h hb
theorem p_and1{a:Int}{K:Int->Prop}:(PH C Sg T).ari .and .i64 a 1 (@hid _ ⟨K⟩)=K (a%2):=b_and1
theorem p_conv{a:Int}{K:Int->Prop}(h1:-9223372036854775808<=a)(h2:a<=9223372036854775807):(PH C Sg T).conv .i64 a (@hid _ ⟨K⟩)=K a:=b_conv h1 h2
theorem p_conv8{a:Int}{K:Int->Prop}(h1:0<=a)(h2:a<=255):(PH C Sg T).conv .u8 a (@hid _ ⟨K⟩)=K a:=b_conv8 h1 h2
theorem p_sel_t{a b:Int}{K:Int->Prop}:(PH C Sg T).sel true a b (@hid _ ⟨K⟩)=K a:=b_sel_t
theorem p_sel_f{a b:Int}{K:Int->Prop}:(PH C Sg T).sel false a b (@hid _ ⟨K⟩)=K b:=b_sel_f
theorem p_opt{α:Type}{x:α}{K:α->Prop}:(PH C Sg T).opt (some x) (@hid _ ⟨K⟩)=K x:=b_opt
theorem p_inB{n:Nat}{i:Int}{K:Unit->Prop}(h1:0<=i)(h2:i<(n:Int)):(PH C Sg T).opt (inB n i) (@hid _ ⟨K⟩)=K ():=b_inB h1 h2
theorem p_join{b:List Lf->HL->Prop}{m:(List Lf->HL->Prop)->Prop}:(PH C Sg T).join (@hid _ ⟨b⟩) (@hid _ ⟨m⟩)=m (@hid _ ⟨b⟩):=b_join
theorem p_eqs0{K:Bool->Prop}:(PH C Sg T).eqs [] (@hid _ ⟨K⟩)=K true:=b_eqs0
theorem p_eqs_t{a b:Int}{l:List (Lf×Lf)}{K:Bool->Prop}(h:a=b):(PH C Sg T).eqs ((.i a,.i b) :: l) (@hid _ ⟨K⟩)=(PH C Sg T).eqs l (@hid _ ⟨K⟩):=b_eqs_t h
theorem p_eqs_f{a b:Int}{l:List (Lf×Lf)}{K:Bool->Prop}(h:a≠b):(PH C Sg T).eqs ((.i a,.i b) :: l) (@hid _ ⟨K⟩)=K false:=b_eqs_f h
theorem p_it{F:(List Lf->HL->Prop)->List Lf->HL->Prop}{n:Nat}{ls:List Lf}{h:HL}:itH (@hid _ ⟨F⟩) (n+1) ls h=F (itH (@hid _ ⟨F⟩) n) ls h:=b_it
theorem p_eqsb_t{a b:Bool}{l:List (Lf×Lf)}{K:Bool->Prop}(h:a=b):(PH C Sg T).eqs ((.b a,.b b) :: l) (@hid _ ⟨K⟩)=(PH C Sg T).eqs l (@hid _ ⟨K⟩):=b_eqsb_t h
theorem p_eqsb_tf{l:List (Lf×Lf)}{K:Bool->Prop}:(PH C Sg T).eqs ((.b true,.b false) :: l) (@hid _ ⟨K⟩)=K false:=b_eqsb_tf
theorem p_eqsb_ft{l:List (Lf×Lf)}{K:Bool->Prop}:(PH C Sg T).eqs ((.b false,.b true) :: l) (@hid _ ⟨K⟩)=K false:=b_eqsb_ft
theorem p_mul_1{b:Int}{K:Int->Prop}(h1:-9223372036854775808<=b)(h2:b<=9223372036854775807):(PH C Sg T).ari .mul .i64 1 b (@hid _ ⟨K⟩)=K b:=b_mul_1 h1 h2
theorem p_mul_0{b:Int}{K:Int->Prop}:(PH C Sg T).ari .mul .i64 0 b (@hid _ ⟨K⟩)=K 0:=b_mul_0
theorem p_mul_m{b:Int}{K:Int->Prop}(h1:-9223372036854775808<=-b)(h2:-b<=9223372036854775807):(PH C Sg T).ari .mul .i64 (-1) b (@hid _ ⟨K⟩)=K (-b):=b_mul_m h1 h2
theorem p_mul_r1{b:Int}{K:Int->Prop}(h1:-9223372036854775808<=b)(h2:b<=9223372036854775807):(PH C Sg T).ari .mul .i64 b 1 (@hid _ ⟨K⟩)=K b:=b_mul_r1 h1 h2
theorem p_mul_r0{b:Int}{K:Int->Prop}:(PH C Sg T).ari .mul .i64 b 0 (@hid _ ⟨K⟩)=K 0:=b_mul_r0
theorem p_mul_rm{b:Int}{K:Int->Prop}(h1:-9223372036854775808<=-b)(h2:-b<=9223372036854775807):(PH C Sg T).ari .mul .i64 b (-1) (@hid _ ⟨K⟩)=K (-b):=b_mul_rm h1 h2
theorem p_add_0{b:Int}{K:Int->Prop}(h1:-9223372036854775808<=b)(h2:b<=9223372036854775807):(PH C Sg T).ari .add .i64 0 b (@hid _ ⟨K⟩)=K b:=b_add_0 h1 h2
theorem p_add_r0{b:Int}{K:Int->Prop}(h1:-9223372036854775808<=b)(h2:b<=9223372036854775807):(PH C Sg T).ari .add .i64 b 0 (@hid _ ⟨K⟩)=K b:=b_add_r0 h1 h2
theorem p_add_11{K:Int->Prop}:(PH C Sg T).ari .add .i64 1 1 (@hid _ ⟨K⟩)=K 2:=b_add_11
theorem p_quo_1{a:Int}{K:Int->Prop}(h1:-9223372036854775808<=a)(h2:a<=9223372036854775807):(PH C Sg T).ari .quo .i64 a 1 (@hid _ ⟨K⟩)=K a:=b_quo_1 h1 h2
theorem p_hid2{f:List Lf->HL->Prop}{a:List Lf}{b:HL}:@hid _ ⟨f⟩ a b=f a b:=rfl
theorem p_eqs2_f{a b c d:Int}{K:Bool->Prop}(h:¬(a=c/\b=d)):(PH C Sg T).eqs [(.i a,.i c),(.i b,.i d)] (@hid _ ⟨K⟩)=K false:=by
 show K (cm _)=K false
 have:cm [(.i a,.i c),(.i b,.i d)]=false:=by
  rw[qcM]
  simpa[cm,gP]using h
 rw[this]
theorem p_eqs3_f{a b c d e f:Int}{K:Bool->Prop}(h:¬(a=d/\b=e/\c=f)):(PH C Sg T).eqs [(.i a,.i d),(.i b,.i e),(.i c,.i f)] (@hid _ ⟨K⟩)=K false:=by
 show K (cm _)=K false
 have:cm [(.i a,.i d),(.i b,.i e),(.i c,.i f)]=false:=by
  rw[qcM]
  simpa[cm,gP]using h
 rw[this]
theorem aE{g:FuncId}{ls rs:List Lf}{h h':HL}{K:List Lf->HL->Prop}(hc:aF C Sg g ls (absH T h) rs (absH T h'))(hk:K rs h'):(PH C Sg T).call g ls h (@hid _ ⟨K⟩):=⟨rs,h',hc,hk⟩
theorem mm{g:FuncId}{sg:Sig}{ls rs:List Lf}{H H':List HObj}(hc:aF C Sg g ls H rs H')(hs:Sg g=some sg)(xs:List S0)(h1:bA xs sg.ps=true)(h2:bC xs=ls) :
  sw C (.func (.func g) #[] #[]) (ai xs) sg.rs H rs H':=by
 obtain⟨sg',xs',ys,c1,c2,c3,c4⟩:=hc
 rw[hs]at c1
 cases c1
 obtain⟨w1,_⟩:=cz c2.1 h1 (c2.2.1.trans h2.symm)
 rw[w1]at c4
 exact⟨ys,c3,.inl ⟨g,#[],#[],rfl,by simpa using c4⟩⟩
theorem jh{v:Value}{args:List Value}{hs:List SK}{rs:List Lf}{h h':HL}{K:List Lf->HL->Prop}(hc:sw C v args hs (absH T h) rs (absH T h'))(hk:K rs h'):(PH C Sg T).callv v args hs h (@hid _ ⟨K⟩):=⟨rs,h',hc,hk⟩
theorem p_new{o:HObj}{h:HL}{K:Nat->HL->Prop}:(PH C Sg T).new o h (@hid _ ⟨K⟩)=K h.length (h++[.o o]):=rfl
theorem aK{v:Value}{K:Prop}(h:bf v=true)(hk:K):(PH C Sg T).chk v (@hid _ ⟨K⟩):=⟨h,hk⟩
theorem dw{f:Hp}{h:HL}{K:List Value->HL->Prop}{acts:List Act1}{cs:List Value}(e:f.run (getH T h) h.length=some (acts,cs))(hk:K cs (cg h acts)):(PH C Sg T).heap f h (@hid _ ⟨K⟩):=⟨acts,cs,e,hk⟩
theorem gf{f:Pk}{h:HL}{K:List Value->Prop}{cs:List Value}(e:f.run (getH T h)=some cs)(hk:K cs):(PH C Sg T).peek f h (@hid _ ⟨K⟩):=⟨cs,e,hk⟩
def pxs(C:Cfg)(Sg:FuncId->Option Sig)(T:Nat->Site):=And.intro @p_hid2 (And.intro (@p_new _ _ C Sg T) (And.intro (@p_unI _ _ C Sg T) (And.intro (@p_unB _ _ C Sg T) (And.intro (@p_unV _ _ C Sg T) (And.intro (@p_un0 _ _ C Sg T) (And.intro (@p_ucI _ _ C Sg T) (And.intro (@p_ucB _ _ C Sg T) (And.intro (@p_ucV _ _ C Sg T) (And.intro (@p_uc0 _ _ C Sg T) (And.intro (@p_cond_t _ _ C Sg T) (And.intro (@p_cond_f _ _ C Sg T) (And.intro (@p_opt _ _ C Sg T) (And.intro (@p_inB _ _ C Sg T) (And.intro (@p_join _ _ C Sg T) (And.intro (@p_sel_t _ _ C Sg T) (And.intro (@p_sel_f _ _ C Sg T) ((@p_it))))))))))))))))))
def pxc(C:Cfg)(Sg:FuncId->Option Sig)(T:Nat->Site):=And.intro (@p_lss_t _ _ C Sg T) (And.intro (@p_lss_f _ _ C Sg T) (And.intro (@p_leq_t _ _ C Sg T) (And.intro (@p_leq_f _ _ C Sg T) (And.intro (@p_gtr_t _ _ C Sg T) (And.intro (@p_gtr_f _ _ C Sg T) (And.intro (@p_geq_t _ _ C Sg T) (And.intro (@p_geq_f _ _ C Sg T) (And.intro (@p_eql_t _ _ C Sg T) (And.intro (@p_eql_f _ _ C Sg T) (And.intro (@p_neq_t _ _ C Sg T) (And.intro (@p_neq_f _ _ C Sg T) (And.intro (@p_eqs0 _ _ C Sg T) (And.intro (@p_eqs_t _ _ C Sg T) (And.intro (@p_eqs_f _ _ C Sg T) (And.intro (@p_eqs2_f _ _ C Sg T) (And.intro (@p_eqs3_f _ _ C Sg T) (And.intro (@p_eqsb_t _ _ C Sg T) (And.intro (@p_eqsb_tf _ _ C Sg T) ((@p_eqsb_ft _ _ C Sg T))))))))))))))))))))
def pxa(C:Cfg)(Sg:FuncId->Option Sig)(T:Nat->Site):=And.intro (@p_mul_1 _ _ C Sg T) (And.intro (@p_mul_0 _ _ C Sg T) (And.intro (@p_mul_m _ _ C Sg T) (And.intro (@p_mul_r1 _ _ C Sg T) (And.intro (@p_mul_r0 _ _ C Sg T) (And.intro (@p_mul_rm _ _ C Sg T) (And.intro (@p_add_0 _ _ C Sg T) (And.intro (@p_add_r0 _ _ C Sg T) (And.intro (@p_add_11 _ _ C Sg T) (And.intro (@p_quo_1 _ _ C Sg T) (And.intro (@p_add _ _ C Sg T) (And.intro (@p_sub _ _ C Sg T) (And.intro (@p_mul _ _ C Sg T) (And.intro (@p_add8 _ _ C Sg T) (And.intro (@p_sub8 _ _ C Sg T) (And.intro (@p_mul8 _ _ C Sg T) (And.intro (@p_quo_nn _ _ C Sg T) (And.intro (@p_quo_dv _ _ C Sg T) (And.intro (@p_rem_nn _ _ C Sg T) (And.intro (@p_rem_np _ _ C Sg T) (And.intro (@p_and1 _ _ C Sg T) (And.intro (@p_conv _ _ C Sg T) ((@p_conv8 _ _ C Sg T)))))))))))))))))))))))
end
end Sx
namespace Sx
section
variable [Val] [Kno]
variable {C:Cfg} {Sg:FuncId->Option Sig} {T:Nat->Site}
theorem wo{h:HL}{l κ:Nat}{st:LoopState}{pd:Option Code}{vs:List Value}(e:h[l]? = some (.lp κ st pd vs)):dR (absH T h) l=some { lpOf (T κ) κ vs with state:=st,pending:=pd }:=by
 unfold dR absH
 rw[qaw,e]
 rfl
theorem absH_app1(h:HL)(o:HO):absH T (h++[o])=absH T h++[absO T o]:=by simp[absH]
theorem p_rfun{g:FuncId}{first cap:Array Value}{κ:Nat}{vals:List Value}{h h1:HL}{ls rs:List Lf}{K:Option Code->HL->Prop}{κ':Nat}{st:LoopState}{pd:Option Code}{vs:List Value}{sg:Sig}{xs:List S0}
  (hc:aF C Sg g ls (absH T (h++[.lp κ .ready none vals])) rs (absH T h1)) (hs:Sg g=some sg) (h2:bA xs sg.ps=true) (h3:bC xs=ls) (h4:ai xs=first.toList++[.func (.yield h.length) #[] #[]]++cap.toList)
  (hl:h1[h.length]? = some (.lp κ' st pd vs)) (hst:st≠.busy) (hk:K pd (h1.set h.length (.lp κ' .exhausted pd vs))):(PH C Sg T).rfun κ (.func (.func g) first cap) vals h (@hid _ ⟨K⟩):=by
 obtain⟨sg',xs',ys,c1,c2,c3,c4⟩:=hc
 rw[hs]at c1
 cases c1
 have hlen:(absH T h).length=h.length:=cf T h
 obtain⟨w1,_⟩:=cz c2.1 h2 (c2.2.1.trans h3.symm)
 rw[w1,h4,absH_app1]at c4
 refine⟨g,first,cap,ek (ai ys),absH T h1,{ lpOf (T κ') κ' vs with state:=st,pending:=pd },h1.set h.length (.lp κ' .exhausted pd vs),rfl,?_,?_,hst,?_,hk⟩
 ·rw[hlen];exact c4
 ·rw[hlen];exact wo hl
 ·rw[hlen]
  simp[absH,absO,qdh]
theorem sy{h:HL}{l:Nat}{o:HO}:absH T (h.set l o)=(absH T h).set l (absO T o):=by
 unfold absH
 rw[qdh]
theorem p_lp1{l κ:Nat}{pd:Option Code}{vs:List Value}{h:HL}{K:HL->Prop}(hl:h[l]? = some (.lp κ .ready pd vs))(hk:K (h.set l (.lp κ .busy pd vs))):(PH C Sg T).lp1 l h (@hid _ ⟨K⟩):=
 ⟨{ lpOf (T κ) κ vs with state:=.ready,pending:=pd },h.set l (.lp κ .busy pd vs),wo hl,rfl,sy,hk⟩
theorem p_lp2{l κ:Nat}{st:LoopState}{pd:Option Code}{vs:List Value}{h:HL}{K:HL->Prop}(hl:h[l]? = some (.lp κ st pd vs))(hk:K (h.set l (.lp κ .ready none vs))):(PH C Sg T).lp2 l none h (@hid _ ⟨K⟩):=
 ⟨{ lpOf (T κ) κ vs with state:=st,pending:=pd },h.set l (.lp κ .ready none vs),wo hl,sy,hk⟩
theorem p_callY{l:Nat}{ys:List S0}{b:Bool}{h h':HL}{K:List Lf->HL->Prop}(hu:fJ C l (ai ys) (absH T h) (.bool b) (absH T h'))(hk:K [.b b] h'):(PH C Sg T).callv (.func (.yield l) #[] #[]) (ai ys) [.leaf .b] h (@hid _ ⟨K⟩):=
 ⟨[.b b],h',⟨[.leaf (.b b)],⟨rfl,rfl,λx hx=>by
  simp only[qax]at hx
  subst hx
  intro y hy
  simp only[S0.cells,qax]at hy
  subst hy;trivial⟩,.inr ⟨l,rfl,hu⟩⟩,hk⟩
end
end Sx
namespace Sx
open Go.Proofs
def hA(A:Alg Prop HL):Alg Prop HL where
 fail:=A.fail
 cond b x y:=A.cond b (@hid _ ⟨x⟩) (@hid _ ⟨y⟩)
 ari o k a b K:=A.ari o k a b (@hid _ ⟨K⟩)
 shf o k a l b K:=A.shf o k a l b (@hid _ ⟨K⟩)
 cmp o a b K:=A.cmp o a b (@hid _ ⟨K⟩)
 eqs l K:=A.eqs l (@hid _ ⟨K⟩)
 conv k a K:=A.conv k a (@hid _ ⟨K⟩)
 sel t a b K:=A.sel t a b (@hid _ ⟨K⟩)
 opt o K:=A.opt o (@hid _ ⟨K⟩)
 chk v x:=A.chk v (@hid _ ⟨x⟩)
 unI l K:=A.unI l (@hid _ ⟨K⟩)
 unB l K:=A.unB l (@hid _ ⟨K⟩)
 unV l K:=A.unV l (@hid _ ⟨K⟩)
 un0 l x:=A.un0 l (@hid _ ⟨x⟩)
 ucI k l K:=A.ucI k l (@hid _ ⟨K⟩)
 ucB l K:=A.ucB l (@hid _ ⟨K⟩)
 ucV l K:=A.ucV l (@hid _ ⟨K⟩)
 uc0 l x:=A.uc0 l (@hid _ ⟨x⟩)
 peek f h K:=A.peek f h (@hid _ ⟨K⟩)
 heap f h K:=A.heap f h (@hid _ ⟨K⟩)
 new o h K:=A.new o h (@hid _ ⟨K⟩)
 call g l h K:=A.call g l h (@hid _ ⟨K⟩)
 callv v a s h K:=A.callv v a s h (@hid _ ⟨K⟩)
 join b m:=A.join (@hid _ ⟨b⟩) (@hid _ ⟨m⟩)
 loop F l h:=A.loop (@hid _ ⟨F⟩) l h
 rfun n v a h K:=A.rfun n v a h (@hid _ ⟨K⟩)
 pend o x y l:=A.pend o (@hid _ ⟨x⟩) (@hid _ ⟨y⟩) l
 lp1 n h K:=A.lp1 n h (@hid _ ⟨K⟩)
 lp2 n o h K:=A.lp2 n o h (@hid _ ⟨K⟩)
theorem hA_eq(A:Alg Prop HL):hA A=A:=rfl
section
variable {A:Alg Prop HL}
theorem h_cond{b:Bool}{x y:Prop}:(hA A).cond b x y=A.cond b (@hid _ ⟨x⟩) (@hid _ ⟨y⟩):=rfl
theorem h_ari{o:BinOp}{k:IntKind}{a b:Int}{K:Int->Prop}:(hA A).ari o k a b K=A.ari o k a b (@hid _ ⟨K⟩):=rfl
theorem h_shf{o:BinOp}{k l:IntKind}{a b:Int}{K:Int->Prop}:(hA A).shf o k a l b K=A.shf o k a l b (@hid _ ⟨K⟩):=rfl
theorem h_cmp{o:BinOp}{a b:Int}{K:Bool->Prop}:(hA A).cmp o a b K=A.cmp o a b (@hid _ ⟨K⟩):=rfl
theorem h_eqs{l:List (Lf×Lf)}{K:Bool->Prop}:(hA A).eqs l K=A.eqs l (@hid _ ⟨K⟩):=rfl
theorem h_conv{k:IntKind}{a:Int}{K:Int->Prop}:(hA A).conv k a K=A.conv k a (@hid _ ⟨K⟩):=rfl
theorem h_sel{t:Bool}{a b:Int}{K:Int->Prop}:(hA A).sel t a b K=A.sel t a b (@hid _ ⟨K⟩):=rfl
theorem h_opt{α:Type}{o:Option α}{K:α->Prop}:(hA A).opt o K=A.opt o (@hid _ ⟨K⟩):=rfl
theorem h_chk{v:Value}{x:Prop}:(hA A).chk v x=A.chk v (@hid _ ⟨x⟩):=rfl
theorem h_unI{l:List Lf}{K:Int->List Lf->Prop}:(hA A).unI l K=A.unI l (@hid _ ⟨K⟩):=rfl
theorem h_unB{l:List Lf}{K:Bool->List Lf->Prop}:(hA A).unB l K=A.unB l (@hid _ ⟨K⟩):=rfl
theorem h_unV{l:List Lf}{K:Value->List Lf->Prop}:(hA A).unV l K=A.unV l (@hid _ ⟨K⟩):=rfl
theorem h_un0{l:List Lf}{x:Prop}:(hA A).un0 l x=A.un0 l (@hid _ ⟨x⟩):=rfl
theorem h_ucI{k:IntKind}{l:List Value}{K:Int->List Value->Prop}:(hA A).ucI k l K=A.ucI k l (@hid _ ⟨K⟩):=rfl
theorem h_ucB{l:List Value}{K:Bool->List Value->Prop}:(hA A).ucB l K=A.ucB l (@hid _ ⟨K⟩):=rfl
theorem h_ucV{l:List Value}{K:Value->List Value->Prop}:(hA A).ucV l K=A.ucV l (@hid _ ⟨K⟩):=rfl
theorem h_uc0{l:List Value}{x:Prop}:(hA A).uc0 l x=A.uc0 l (@hid _ ⟨x⟩):=rfl
theorem h_peek{f:Pk}{h:HL}{K:List Value->Prop}:(hA A).peek f h K=A.peek f h (@hid _ ⟨K⟩):=rfl
theorem h_heap{f:Hp}{h:HL}{K:List Value->HL->Prop}:(hA A).heap f h K=A.heap f h (@hid _ ⟨K⟩):=rfl
theorem h_new{o:HObj}{h:HL}{K:Nat->HL->Prop}:(hA A).new o h K=A.new o h (@hid _ ⟨K⟩):=rfl
theorem h_call{g:FuncId}{l:List Lf}{h:HL}{K:List Lf->HL->Prop}:(hA A).call g l h K=A.call g l h (@hid _ ⟨K⟩):=rfl
theorem h_callv{v:Value}{a:List Value}{s:List SK}{h:HL}{K:List Lf->HL->Prop}:(hA A).callv v a s h K=A.callv v a s h (@hid _ ⟨K⟩):=rfl
theorem h_join{b:List Lf->HL->Prop}{m:(List Lf->HL->Prop)->Prop}:(hA A).join b m=A.join (@hid _ ⟨b⟩) (@hid _ ⟨m⟩):=rfl
theorem h_loop{F:(List Lf->HL->Prop)->List Lf->HL->Prop}{l:List Lf}{h:HL}:(hA A).loop F l h=A.loop (@hid _ ⟨F⟩) l h:=rfl
theorem h_rfun{n:Nat}{v:Value}{a:List Value}{h:HL}{K:Option Code->HL->Prop}:(hA A).rfun n v a h K=A.rfun n v a h (@hid _ ⟨K⟩):=rfl
theorem h_pend{o:Option Code}{x y:Prop}{l:List (Nat×Prop)}:(hA A).pend o x y l=A.pend o (@hid _ ⟨x⟩) (@hid _ ⟨y⟩) l:=rfl
theorem h_lp1{n:Nat}{h:HL}{K:HL->Prop}:(hA A).lp1 n h K=A.lp1 n h (@hid _ ⟨K⟩):=rfl
theorem h_lp2{n:Nat}{o:Option Code}{h:HL}{K:HL->Prop}:(hA A).lp2 n o h K=A.lp2 n o h (@hid _ ⟨K⟩):=rfl
end
def pxh(A:Alg Prop HL):=And.intro (@h_cond A) (And.intro (@h_ari A) (And.intro (@h_shf A) (And.intro (@h_cmp A) (And.intro (@h_eqs A) (And.intro (@h_conv A) (And.intro (@h_sel A) (And.intro (@h_opt A) (And.intro (@h_chk A) (And.intro (@h_unI A) (And.intro (@h_unB A) (And.intro (@h_unV A) (And.intro (@h_un0 A) (And.intro (@h_ucI A) (And.intro (@h_ucB A) (And.intro (@h_ucV A) (And.intro (@h_uc0 A) (And.intro (@h_peek A) (And.intro (@h_heap A) (And.intro (@h_new A) (And.intro (@h_call A) (And.intro (@h_callv A) (And.intro (@h_join A) (And.intro (@h_loop A) (And.intro (@h_rfun A) (And.intro (@h_pend A) (And.intro (@h_lp1 A) ((@h_lp2 A))))))))))))))))))))))))))))
end Sx
end Go.Am
set_option maxRecDepth 100000
namespace Go.Am
open Sx Go.Proofs
theorem gl_cell(g:Nat)(vs:List Value)(h:cc.G g=some vs):vs.all aT=true:=by
 unfold cc at h
 simp only at h
 split at h<;>first|(cases h;done)|(obtain rfl:=qan h;kernel_rfl)
abbrev P1:Alg Prop HL:=PH cc ac aa
abbrev Cc(g:FuncId)(ls rs:List Lf):Prop:=∀H,aF cc ac g ls H rs H
theorem fn_ok{f:FuncId}{fn:Fn1}(hi:FnIs (xc f) ac f fn){ls:List Lf}{H:HL}{K:List Lf->HL->Prop}(hls:fj ls=true)
  (h:aq P1 (xc f) ac drN fn ls H K):∃rs H',aF cc ac f ls (absH aa H) rs (absH aa H')/\K rs H':=by
 obtain⟨rs,h',a1,_,a3⟩:=qV (X:=xc f) (holds:=id) (abs:=absH aa) (PH_ok cc ac aa) sS hi (dt hls) h
 exact⟨rs,h',a1,a3⟩
theorem fn_okG{f:FuncId}{fn:Fn1}(hi:FnIs (xc f) ac f fn){ls:List Lf}{H:HL}{K:List Lf->HL->Prop}(hls:dZ ls)
  (h:aq P1 (xc f) ac drN fn ls H K):∃rs H',aF cc ac f ls (absH aa H) rs (absH aa H')/\K rs H':=by
 obtain⟨rs,h',a1,_,a3⟩:=qV (X:=xc f) (holds:=id) (abs:=absH aa) (PH_ok cc ac aa) sS hi hls h
 exact⟨rs,h',a1,a3⟩
theorem gls0:dZ []:=λ_ h=>by cases h
theorem glsI{n:Int}{ls:List Lf}(h:dZ ls):dZ (.i n :: ls):=λl hl=>by
 rcases qaj.1 hl with rfl|hl
 ·trivial
 ·exact h l hl
theorem glsV{x:Value}{ls:List Lf}(hx:bf x=true)(h:dZ ls):dZ (.v x :: ls):=λl hl=>by
 rcases qaj.1 hl with rfl|hl
 ·exact hx
 ·exact h l hl
abbrev FP:=List Lf->HL->(List Lf->HL->Prop)->Prop
abbrev UG(k:FuncId)(p:FP):Prop:=∀ {ls:List Lf} {H:HL} {K:List Lf->HL->Prop},fj ls=true->p ls H K->∃rs H',aF cc ac k ls (absH aa H) rs (absH aa H')/\K rs H'
abbrev XG(k:FuncId)(p:FP):Prop:=∀ {ls:List Lf} {H:HL} {K:List Lf->HL->Prop},dZ ls->p ls H K->∃rs H',aF cc ac k ls (absH aa H) rs (absH aa H')/\K rs H'
abbrev QG(k:FuncId)(p:FP):Prop:=∀ {ls rs:List Lf},fj ls=true->p ls [] (λrs' _=>rs'=rs)->Cc k ls rs
abbrev YG(k:Nat)(p:List Value->Nat->FP):Prop:=∀ {vs:List Value} {lp:Nat} {ls:List Lf} {H:HL} {K:List Lf->HL->Prop} {st:LoopState} {pd:Option Code} {ys:List S0},H[lp]? = some (.lp k st pd vs)->Told ((aa k).params.map (·.2)) ls ys->p vs lp ls H K->∃b H',fJ cc lp (ai ys) (absH aa H) (.bool b) (absH aa H')/\K [.b b] H'
theorem uu{k:FuncId}{fn:Fn1}{f:{R HT:Type}->Alg R HT->List Lf->HT->(List Lf->HT->R)->R}(hi:FnIs (xc k) ac k fn)(e:@f=λR HT A ls h K=>aq A (xc k) ac drN fn ls h K):UG k (f (hA P1)):=by
 intro ls H K hls h
 rw[hA_eq,e]at h
 exact fn_ok hi hls h
theorem xx{k:FuncId}{fn:Fn1}{f:{R HT:Type}->Alg R HT->List Lf->HT->(List Lf->HT->R)->R}(hi:FnIs (xc k) ac k fn)(e:@f=λR HT A ls h K=>aq A (xc k) ac drN fn ls h K):XG k (f (hA P1)):=by
 intro ls H K hls h
 rw[hA_eq,e]at h
 exact fn_okG hi hls h
theorem qq{k:FuncId}{sg:Sig}{p:FP}(hu:UG k p)(hs:ac k=some sg)(hf:sg.plain=true):QG k p:=λhls h=>by
 obtain⟨_,_,h1,rfl⟩:=hu hls h
 exact ct_of mixed jb hs hf h1
theorem yy{k:Nat}{f:{R HT:Type}->Alg R HT->List Value->Nat->List Lf->HT->(List Lf->HT->R)->R}(e:@f=λR HT A vs lp ls h K=>qW A (xc 0) ac drN (aa k) vs lp ls h K):YG k (f (hA P1)):=by
 intro vs lp ls H K st pd ys hl hy h
 rw[hA_eq,e]at h
 exact wh (X:=xc 0) (PH_ok cc ac aa) sS (wo hl) rfl rfl rfl rfl hy h
def qxs:=pxs cc ac aa
def qxh:=And.intro (qeq (hA P1)) (pxh P1)
def qxc:=pxc cc ac aa
def qxa:=pxa cc ac aa
def qXX:=And.intro qxs (And.intro qxc qxa)
theorem u3:UG 3 (f3 (hA P1)):=uu i3 e3
theorem x3:XG 3 (f3 (hA P1)):=xx i3 e3
theorem u4:UG 4 (f4 (hA P1)):=uu i4 e4
theorem x4:XG 4 (f4 (hA P1)):=xx i4 e4
theorem x6:XG 6 (f6 (hA P1)):=xx i6 e6
theorem x7:XG 7 (f7 (hA P1)):=xx i7 e7
theorem u9:UG 9 (f9 (hA P1)):=uu i9 e9
theorem q9:QG 9 (f9 (hA P1)):=qq u9 rfl (by kernel_rfl)
theorem x10:XG 10 (f10 (hA P1)):=xx i10 e10
theorem x11:XG 11 (f11 (hA P1)):=xx i11 e11
theorem u12:UG 12 (f12 (hA P1)):=uu i12 e12
theorem q12:QG 12 (f12 (hA P1)):=qq u12 rfl (by kernel_rfl)
theorem x15:XG 15 (f15 (hA P1)):=xx i15 e15
theorem u16:UG 16 (f16 (hA P1)):=uu i16 e16
theorem q16:QG 16 (f16 (hA P1)):=qq u16 rfl (by kernel_rfl)
theorem u18:UG 18 (f18 (hA P1)):=uu i18 e18
theorem q18:QG 18 (f18 (hA P1)):=qq u18 rfl (by kernel_rfl)
theorem x20:XG 20 (f20 (hA P1)):=xx i20 e20
theorem x22:XG 22 (f22 (hA P1)):=xx i22 e22
theorem x23:XG 23 (f23 (hA P1)):=xx i23 e23
theorem x24:XG 24 (f24 (hA P1)):=xx i24 e24
theorem x25:XG 25 (f25 (hA P1)):=xx i25 e25
theorem u31:UG 31 (f31 (hA P1)):=uu i31 e31
theorem q31:QG 31 (f31 (hA P1)):=qq u31 rfl (by kernel_rfl)
theorem u32:UG 32 (f32 (hA P1)):=uu i32 e32
theorem q32:QG 32 (f32 (hA P1)):=qq u32 rfl (by kernel_rfl)
theorem u33:UG 33 (f33 (hA P1)):=uu i33 e33
theorem q33:QG 33 (f33 (hA P1)):=qq u33 rfl (by kernel_rfl)
theorem u34:UG 34 (f34 (hA P1)):=uu i34 e34
theorem q34:QG 34 (f34 (hA P1)):=qq u34 rfl (by kernel_rfl)
theorem u37:UG 37 (f37 (hA P1)):=uu i37 e37
theorem q37:QG 37 (f37 (hA P1)):=qq u37 rfl (by kernel_rfl)
theorem u38:UG 38 (f38 (hA P1)):=uu i38 e38
theorem q38:QG 38 (f38 (hA P1)):=qq u38 rfl (by kernel_rfl)
theorem u39:UG 39 (f39 (hA P1)):=uu i39 e39
theorem q39:QG 39 (f39 (hA P1)):=qq u39 rfl (by kernel_rfl)
theorem x40:XG 40 (f40 (hA P1)):=xx i40 e40
theorem u41:UG 41 (f41 (hA P1)):=uu i41 e41
theorem q41:QG 41 (f41 (hA P1)):=qq u41 rfl (by kernel_rfl)
theorem u42:UG 42 (f42 (hA P1)):=uu i42 e42
theorem q42:QG 42 (f42 (hA P1)):=qq u42 rfl (by kernel_rfl)
theorem u43:UG 43 (f43 (hA P1)):=uu i43 e43
theorem q43:QG 43 (f43 (hA P1)):=qq u43 rfl (by kernel_rfl)
theorem u44:UG 44 (f44 (hA P1)):=uu i44 e44
theorem q44:QG 44 (f44 (hA P1)):=qq u44 rfl (by kernel_rfl)
theorem u45:UG 45 (f45 (hA P1)):=uu i45 e45
theorem q45:QG 45 (f45 (hA P1)):=qq u45 rfl (by kernel_rfl)
theorem x47:XG 47 (f47 (hA P1)):=xx i47 e47
theorem x48:XG 48 (f48 (hA P1)):=xx i48 e48
theorem u50:UG 50 (f50 (hA P1)):=uu i50 e50
theorem q50:QG 50 (f50 (hA P1)):=qq u50 rfl (by kernel_rfl)
theorem x51:XG 51 (f51 (hA P1)):=xx i51 e51
theorem u52:UG 52 (f52 (hA P1)):=uu i52 e52
theorem q52:QG 52 (f52 (hA P1)):=qq u52 rfl (by kernel_rfl)
theorem u53:UG 53 (f53 (hA P1)):=uu i53 e53
theorem q53:QG 53 (f53 (hA P1)):=qq u53 rfl (by kernel_rfl)
theorem u54:UG 54 (f54 (hA P1)):=uu i54 e54
theorem q54:QG 54 (f54 (hA P1)):=qq u54 rfl (by kernel_rfl)
theorem u56:UG 56 (f56 (hA P1)):=uu i56 e56
theorem q56:QG 56 (f56 (hA P1)):=qq u56 rfl (by kernel_rfl)
theorem u57:UG 57 (f57 (hA P1)):=uu i57 e57
theorem q57:QG 57 (f57 (hA P1)):=qq u57 rfl (by kernel_rfl)
theorem u58:UG 58 (f58 (hA P1)):=uu i58 e58
theorem q58:QG 58 (f58 (hA P1)):=qq u58 rfl (by kernel_rfl)
theorem u59:UG 59 (f59 (hA P1)):=uu i59 e59
theorem q59:QG 59 (f59 (hA P1)):=qq u59 rfl (by kernel_rfl)
theorem x60:XG 60 (f60 (hA P1)):=xx i60 e60
theorem u61:UG 61 (f61 (hA P1)):=uu i61 e61
theorem q61:QG 61 (f61 (hA P1)):=qq u61 rfl (by kernel_rfl)
theorem u63:UG 63 (f63 (hA P1)):=uu i63 e63
theorem q63:QG 63 (f63 (hA P1)):=qq u63 rfl (by kernel_rfl)
theorem u64:UG 64 (f64 (hA P1)):=uu i64 e64
theorem x65:XG 65 (f65 (hA P1)):=xx i65 e65
theorem x66:XG 66 (f66 (hA P1)):=xx i66 e66
theorem u67:UG 67 (f67 (hA P1)):=uu i67 e67
theorem q67:QG 67 (f67 (hA P1)):=qq u67 rfl (by kernel_rfl)
theorem x68:XG 68 (f68 (hA P1)):=xx i68 e68
theorem u69:UG 69 (f69 (hA P1)):=uu i69 e69
theorem q69:QG 69 (f69 (hA P1)):=qq u69 rfl (by kernel_rfl)
theorem u70:UG 70 (f70 (hA P1)):=uu i70 e70
theorem q70:QG 70 (f70 (hA P1)):=qq u70 rfl (by kernel_rfl)
theorem u72:UG 72 (f72 (hA P1)):=uu i72 e72
theorem q72:QG 72 (f72 (hA P1)):=qq u72 rfl (by kernel_rfl)
theorem u73:UG 73 (f73 (hA P1)):=uu i73 e73
theorem q73:QG 73 (f73 (hA P1)):=qq u73 rfl (by kernel_rfl)
theorem x74:XG 74 (f74 (hA P1)):=xx i74 e74
theorem x76:XG 76 (f76 (hA P1)):=xx i76 e76
theorem u78:UG 78 (f78 (hA P1)):=uu i78 e78
theorem q78:QG 78 (f78 (hA P1)):=qq u78 rfl (by kernel_rfl)
theorem u80:UG 80 (f80 (hA P1)):=uu i80 e80
theorem q80:QG 80 (f80 (hA P1)):=qq u80 rfl (by kernel_rfl)
theorem u81:UG 81 (f81 (hA P1)):=uu i81 e81
theorem q81:QG 81 (f81 (hA P1)):=qq u81 rfl (by kernel_rfl)
theorem u84:UG 84 (f84 (hA P1)):=uu i84 e84
theorem q84:QG 84 (f84 (hA P1)):=qq u84 rfl (by kernel_rfl)
theorem u85:UG 85 (f85 (hA P1)):=uu i85 e85
theorem q85:QG 85 (f85 (hA P1)):=qq u85 rfl (by kernel_rfl)
theorem u92:UG 92 (f92 (hA P1)):=uu i92 e92
theorem q92:QG 92 (f92 (hA P1)):=qq u92 rfl (by kernel_rfl)
theorem x94:XG 94 (f94 (hA P1)):=xx i94 e94
theorem x98:XG 98 (f98 (hA P1)):=xx i98 e98
theorem x99:XG 99 (f99 (hA P1)):=xx i99 e99
theorem u103:UG 103 (f103 (hA P1)):=uu i103 e103
theorem q103:QG 103 (f103 (hA P1)):=qq u103 rfl (by kernel_rfl)
theorem u104:UG 104 (f104 (hA P1)):=uu i104 e104
theorem q104:QG 104 (f104 (hA P1)):=qq u104 rfl (by kernel_rfl)
theorem x115:XG 115 (f115 (hA P1)):=xx i115 e115
theorem x116:XG 116 (f116 (hA P1)):=xx i116 e116
theorem x137:XG 137 (f137 (hA P1)):=xx i137 e137
theorem u138:UG 138 (f138 (hA P1)):=uu i138 e138
theorem q138:QG 138 (f138 (hA P1)):=qq u138 rfl (by kernel_rfl)
theorem xy752:YG 752 (y752 (hA P1)):=yy ey752
end Go.Am
set_option maxRecDepth 100000
namespace Go.Am
namespace Sx
theorem jA{vs:List Value}{off n:Nat}{cs:List Value}:cut vs off n=some cs↔off+n<=vs.length/\(vs.drop off).take n=cs:=by
 unfold cut
 split
 ·rename_i h;simp[h]
 ·rename_i h;simp[h]
theorem cut_len{vs:List Value}{off n:Nat}{cs:List Value}(h:cut vs off n=some cs):cs.length=n:=by
 obtain⟨h1,rfl⟩:=jA.1 h
 rw[qa6,qb5];omega
theorem uG{vs:List Value}{off n:Nat}{cs:List Value}(h:cut vs off n=some cs){o k:Nat}(hk:o+k<=n):cut vs (off+o) k=some ((cs.drop o).take k):=by
 obtain⟨h1,rfl⟩:=jA.1 h
 refine jA.2 ⟨by omega,?_⟩
 rw[List.drop_take,qbW,List.take_take,qbQ (by omega)]
theorem cut_all{vs:List Value}{n:Nat}(h:vs.length=n):cut vs 0 n=some vs:=jA.2 ⟨by omega,by rw[qa7,qaU (by omega)]⟩
def Pre(h0 h:HL):Prop:=∃G,h=h0++G
theorem Pre.refl(h:HL):Pre h h:=⟨[],by simp⟩
theorem Pre.trans{a b c:HL}(h:Pre a b)(k:Pre b c):Pre a c:=by
 obtain⟨G,rfl⟩:=h
 obtain⟨G',rfl⟩:=k
 exact⟨G++G',by simp⟩
theorem Pre.app{a b:HL}(h:Pre a b)(G:HL):Pre a (b++G):=h.trans ⟨G,rfl⟩
theorem Pre.len{a b:HL}(h:Pre a b):a.length<=b.length:=by obtain⟨G,rfl⟩:=h;simp
theorem Pre.get{a b:HL}(h:Pre a b){i:Nat}{o:HO}(hi:a[i]? = some o):b[i]? = some o:=by
 obtain⟨G,rfl⟩:=h
 have:i<a.length:=by
  rcases qay i a.length with h|h
  ·exact h
  ·rw[qai h]at hi;cases hi
 rw[qaf this];exact hi
theorem Pre.set{a b:HL}(h:Pre a b){i:Nat}(hi:a.length<=i)(o:HO):Pre a (b.set i o):=by
 obtain⟨G,rfl⟩:=h
 rw[qb1 _ _ hi]
 exact⟨_,rfl⟩
def Ptr(h:HL)(p:Value)(cs:List Value):Prop:=∃id o vs e rw,p = .pointer (some ⟨id,o,none⟩)/\h[id]? = some (.o (.cells vs e rw))/\cut vs o cs.length=some cs
def SlC(h:HL)(v:Value)(e n:Nat)(cs:List Value):Prop:=
 cs.length=n*e/\((v = .slice none 0 0/\n=0)∨∃id off cx vs rw,v = .slice (some ⟨id,off,tag e⟩) n cx/\h[id]? = some (.o (.cells vs e rw))/\cut vs off (n*e)=some cs)
def LsH{α:Type}(h:HL)(v:Value)(e:Nat)(enc:α->List Value)(l:List α):Prop:=(∀a∈l,(enc a).length=e)/\SlC h v e l.length (l.flatMap enc)
def Mk(n0:Nat)(h:HL)(v:Value)(e n:Nat)(cs:List Value):Prop:=
 cs.length=n*e/\((v = .slice none 0 0/\n=0)∨∃id,n0<=id/\v = .slice (some ⟨id,0,tag e⟩) n 0/\h[id]? = some (.o (.cells cs e true)))
def MkL{α:Type}(n0:Nat)(h:HL)(v:Value)(e:Nat)(enc:α->List Value)(l:List α):Prop:=(∀a∈l,(enc a).length=e)/\Mk n0 h v e l.length (l.flatMap enc)
def blk:Value->Option Nat
 | .slice (some a) _ _=>some a.block
 |_=>none
theorem Ptr.keep{h h':HL}{p:Value}{cs:List Value}(hp:Ptr h p cs)(hk:∀(j:Nat) o,h[j]? = some o->h'[j]? = some o):Ptr h' p cs:=by
 obtain⟨id,o,vs,e,rw',h1,h2,h3⟩:=hp
 exact⟨id,o,vs,e,rw',h1,hk _ _ h2,h3⟩
theorem SlC.keep{h h':HL}{v:Value}{e n:Nat}{cs:List Value}(hs:SlC h v e n cs)(hk:∀(j:Nat) o,h[j]? = some o->blk v=some j->h'[j]? = some o):SlC h' v e n cs:=by
 obtain⟨h0,h1|⟨id,off,cx,vs,rw',rfl,h2,h3⟩⟩:=hs
 ·exact⟨h0,.inl h1⟩
 ·exact⟨h0,.inr ⟨id,off,cx,vs,rw',rfl,hk _ _ h2 rfl,h3⟩⟩
theorem SlC.pre{h h':HL}{v:Value}{e n:Nat}{cs:List Value}(hs:SlC h v e n cs)(hp:Pre h h'):SlC h' v e n cs:=hs.keep λ_ _ h _=>hp.get h
theorem LsH.keep{α:Type}{h h':HL}{v:Value}{e:Nat}{enc:α->List Value}{l:List α}(hs:LsH h v e enc l)(hk:∀(j:Nat) o,h[j]? = some o->blk v=some j->h'[j]? = some o):LsH h' v e enc l:=⟨hs.1,hs.2.keep hk⟩
theorem LsH.pre{α:Type}{h h':HL}{v:Value}{e:Nat}{enc:α->List Value}{l:List α}(hs:LsH h v e enc l)(hp:Pre h h'):LsH h' v e enc l:=⟨hs.1,hs.2.pre hp⟩
theorem SlC.len{h:HL}{v:Value}{e n:Nat}{cs:List Value}(hs:SlC h v e n cs):lenS v=some (.ofNat n):=by
 obtain⟨_,⟨rfl,rfl⟩|⟨id,off,cx,vs,rw',rfl,_⟩⟩:=hs<;>rfl
theorem LsH.len{α:Type}{h:HL}{v:Value}{e:Nat}{enc:α->List Value}{l:List α}(hs:LsH h v e enc l):lenS v=some (.ofNat l.length):=hs.2.len
theorem Mk.sl{n0:Nat}{h:HL}{v:Value}{e n:Nat}{cs:List Value}(hs:Mk n0 h v e n cs):SlC h v e n cs:=by
 obtain⟨h0,h1|⟨id,_,rfl,h2⟩⟩:=hs
 ·exact⟨h0,.inl h1⟩
 ·exact⟨h0,.inr ⟨id,0,0,cs,true,rfl,h2,cut_all h0⟩⟩
theorem MkL.ls{α:Type}{n0:Nat}{h:HL}{v:Value}{e:Nat}{enc:α->List Value}{l:List α}(hs:MkL n0 h v e enc l):LsH h v e enc l:=⟨hs.1,hs.2.sl⟩
theorem Mk.nil(n0:Nat)(h:HL)(e:Nat):Mk n0 h (.slice none 0 0) e 0 []:=⟨by simp,.inl ⟨rfl,rfl⟩⟩
theorem MkL.nil{α:Type}(n0:Nat)(h:HL)(e:Nat)(enc:α->List Value):MkL n0 h (.slice none 0 0) e enc []:=⟨by simp,Mk.nil n0 h e⟩
theorem LsH.nil{α:Type}(h:HL)(e:Nat)(enc:α->List Value):LsH h (.slice none 0 0) e enc []:=(MkL.nil 0 h e enc).ls
theorem Mk.keep{n0:Nat}{h h':HL}{v:Value}{e n:Nat}{cs:List Value}(hs:Mk n0 h v e n cs)(hk:∀(j:Nat) o,h[j]? = some o->blk v=some j->h'[j]? = some o):Mk n0 h' v e n cs:=by
 obtain⟨h0,h1|⟨id,h1,rfl,h2⟩⟩:=hs
 ·exact⟨h0,.inl h1⟩
 ·exact⟨h0,.inr ⟨id,h1,rfl,hk _ _ h2 rfl⟩⟩
theorem Mk.pre{n0:Nat}{h h':HL}{v:Value}{e n:Nat}{cs:List Value}(hs:Mk n0 h v e n cs)(hp:Pre h h'):Mk n0 h' v e n cs:=hs.keep λ_ _ h _=>hp.get h
theorem MkL.keep{α:Type}{n0:Nat}{h h':HL}{v:Value}{e:Nat}{enc:α->List Value}{l:List α}(hs:MkL n0 h v e enc l)(hk:∀(j:Nat) o,h[j]? = some o->blk v=some j->h'[j]? = some o):MkL n0 h' v e enc l:=⟨hs.1,hs.2.keep hk⟩
theorem MkL.pre{α:Type}{n0:Nat}{h h':HL}{v:Value}{e:Nat}{enc:α->List Value}{l:List α}(hs:MkL n0 h v e enc l)(hp:Pre h h'):MkL n0 h' v e enc l:=⟨hs.1,hs.2.pre hp⟩
theorem bM{α:Type}{e:Nat}{enc:α->List Value}:∀ {l:List α},(∀a∈l,(enc a).length=e)->(l.flatMap enc).length=l.length*e
 | [],_=>by simp
 |a :: l,h=>by
  rw[qbd,qaO,h a qaA,bM λb hb=>h b (qao _ hb),qaE,qbs,qcr,Nat.add_comm]
theorem py{α:Type}{e:Nat}{enc:α->List Value}:∀ {l:List α},(∀a∈l,(enc a).length=e)->∀ {i:Nat} {a:α},l[i]? = some a->((l.flatMap enc).drop (i*e)).take e=enc a
 |b :: l,h,0,a,hi=>by
  simp only[qbi,qat]at hi
  subst hi
  have:=h b qaA
  rw[qbH,qa7,qbd,List.take_append_of_le_length (by omega),qaU (by omega)]
 |b :: l,h,i+1,a,hi=>by
  simp only[qbP]at hi
  have hb:=h b qaA
  have:=py (λb hb=>h b (qao _ hb)) hi
  rw[qbd,qbs,qcr,←this]
  have e1:i*e+e=(enc b).length+i*e:=by omega
  rw[e1,qcs,qbI (by omega),qaF,qb6]
 | [],_,_,_,hi=>by simp at hi
theorem SlC.at{h:HL}{v:Value}{e n:Nat}{cs:List Value}(hs:SlC h v e n cs){i:Nat}(hi:i<n):∃p,idS e v (.ofNat i)=some p/\Ptr h p ((cs.drop (i*e)).take e):=by
 obtain⟨h0,⟨rfl,rfl⟩|⟨id,off,cx,vs,rw',rfl,h2,h3⟩⟩:=hs
 ·omega
 ·have hle:i*e+e<=n*e:=by
   have:=qbg e (show i+1<=n by omega)
   rw[qbs,qcr]at this;exact this
  refine⟨.pointer (some ⟨id,off+i*e,none⟩),?_,id,off+i*e,vs,e,rw',rfl,h2,?_⟩
  ·rw[wq]
   have hh:0<=Int.ofNat i/\Int.ofNat i<(n:Int):=⟨qaT i,by show(i:Int)<n;omega⟩
   simp only[if_pos hh]
   have:¬(tag e=some 1):=by simp[tag]
   simp only[if_neg this]
   rfl
  ·have hc:=uG h3 hle
   have hl:=cut_len hc
   rw[hl];exact hc
theorem LsH.at{α:Type}{h:HL}{v:Value}{e:Nat}{enc:α->List Value}{l:List α}(hs:LsH h v e enc l){i:Nat}{a:α}(hi:l[i]? = some a):∃p,idS e v (.ofNat i)=some p/\Ptr h p (enc a):=by
 have hlt:i<l.length:=by
  rcases qay i l.length with h|h
  ·exact h
  ·rw[qai h]at hi;cases hi
 obtain⟨p,h1,h2⟩:=hs.2.at hlt
 rw[py hs.1 hi]at h2
 exact⟨p,h1,h2⟩
theorem Ptr.fd{h:HL}{p:Value}{cs:List Value}(hp:Ptr h p cs)(o k:Nat)(hk:o+k<=cs.length):∃p',fdP o p=some p'/\Ptr h p' ((cs.drop o).take k):=by
 obtain⟨id,o',vs,e,rw',rfl,h2,h3⟩:=hp
 refine⟨_,rfl,id,o'+o,vs,e,rw',rfl,h2,?_⟩
 have hc:=uG h3 hk
 rw[cut_len hc];exact hc
section
variable [Val] [Kno]
theorem cG{T:Nat->Site}{h:HL}{i:Nat}{o:HObj}(hi:h[i]? = some (.o o)):getH T h i=some o:=by
 unfold getH;rw[hi];rfl
theorem Ptr.ld{T:Nat->Site}{h:HL}{p:Value}{cs:List Value}(hp:Ptr h p cs){n:Nat}(hn:cs.length=n):(Pk.ld n p).run (getH T h)=some cs:=by
 obtain⟨id,o,vs,e,rw',rfl,h2,h3⟩:=hp
 subst hn
 show(match (none:Option Nat)with|none=>(gH (getH T h) id).bind λvs=>cut vs o cs.length|some _=>none)=_
 unfold gH
 rw[cG h2]
 exact h3
theorem Ptr.lg{C:Cfg}{T:Nat->Site}{h:HL}{p:Value}{cs:List Value}(hp:Ptr h p cs){n:Nat}(hn:cs.length=n):(Pk.lg C n p).run (getH T h)=some cs:=by
 obtain⟨id,o,vs,e,rw',rfl,h2,h3⟩:=hp
 subst hn
 show(gH (getH T h) id).bind (λvs=>cut vs o cs.length)=_
 unfold gH
 rw[cG h2]
 exact h3
theorem xk{C:Cfg}{T:Nat->Site}{h:HL}{v:Value}{e n:Nat}{cs:List Value}(hs:SlC h v e n cs):slG C e (getH T h) v=some (cs,n):=by
 obtain⟨h0,⟨rfl,rfl⟩|⟨id,off,cx,vs,rw',rfl,h2,h3⟩⟩:=hs
 ·simp only[qbH,qbc]at h0
  subst h0;rfl
 ·unfold slG
  have:¬(tag e=some 1):=by simp[tag]
  simp only[if_neg this,if_true]
  rw[cG h2]
  simp only[if_true]
  rw[h3];rfl
variable {C:Cfg} {Sg:FuncId->Option Sig} {T:Nat->Site}
theorem ap_mk{n0:Nat}{h0 h:HL}{v x:Value}{e n k bytes:Nat}{cs new:List Value}(hp:Pre h0 h)(h0n:h0.length=n0)(hm:Mk n0 h v e n cs)(hx:SlC h x e k new)(hs:cC (n+k) bytes=true) :
  ∃acts v',(Hp.ap C e bytes v x).run (getH T h) h.length=some (acts,[v'])/\Pre h0 (cg h acts)/\Mk n0 (cg h acts) v' e (n+k) (cs++new)/\
   (∀(j:Nat) o,h[j]? = some o->blk v≠some j->(cg h acts)[j]? = some o)/\(blk v'=blk v∨blk v'=none∨∃j,blk v'=some j/\h.length<=j):=by
 obtain⟨c0,hm⟩:=hm
 have c1:=hx.1
 have c3:(cs++new).length=(n+k)*e:=by rw[qaO,c0,c1,qbs]
 have hslg:=xk (C:=C) (T:=T) hx
 rcases hm with⟨rfl,rfl⟩|⟨id,hid,rfl,hg⟩
 ·simp only[qbH,qbc]at c0
  subst c0
  by_cases hk:k=0
  ·subst hk
   simp only[qbH,qbc]at c1
   subst c1
   refine⟨[],.slice none 0 0,?_,hp,Mk.nil _ _ _,λj o hj _=>hj,.inl rfl⟩
   show apG C e bytes (.slice none 0 0) x (getH T h) h.length=_
   unfold apG
   rw[hslg]
   rfl
  ·refine⟨[.push (.cells new e true)],.slice (some ⟨h.length,0,tag e⟩) k 0,?_,hp.app _,?_,λj o hj _=>?_,.inr (.inr ⟨h.length,rfl,qaz _⟩)⟩
   ·show apG C e bytes (.slice none 0 0) x (getH T h) h.length=_
    unfold apG
    rw[hslg]
    simp only[if_neg hk]
    rw[qaM]at hs
    rw[if_pos hs]
   ·rw[qaM,qaF]
    refine⟨by simpa using c1,.inr ⟨h.length,by have:=hp.len;omega,rfl,?_⟩⟩
    simp[cg,Act1.onH]
   ·exact Pre.get ⟨_,rfl⟩ hj
 ·by_cases hk:k=0
  ·subst hk
   simp only[qbH,qbc]at c1
   subst c1
   refine⟨[],.slice (some ⟨id,0,tag e⟩) n 0,?_,hp,⟨c3,.inr ⟨id,hid,rfl,by simpa[cg]using hg⟩⟩,λj o hj _=>hj,.inl rfl⟩
   show apG C e bytes (.slice (some ⟨id,0,tag e⟩) n 0) x (getH T h) h.length=_
   unfold apG
   rw[hslg]
   simp only[ne_eq,not_true_eq_false,if_false]
   rw[cG hg]
   simp only[ne_eq,not_true_eq_false,if_false]
   rw[cut_all c0]
   rfl
  ·have hlt:id<h.length:=by
    rcases qay id h.length with h1|h1
    ·exact h1
    ·rw[qai h1]at hg;cases hg
   refine⟨[.set id .dead,.push (.cells (cs++new) e true)],.slice (some ⟨h.length,0,tag e⟩) (n+k) 0,?_,?_,?_,λj o hj hb=>?_,.inr (.inr ⟨h.length,rfl,qaz _⟩)⟩
   ·show apG C e bytes (.slice (some ⟨id,0,tag e⟩) n 0) x (getH T h) h.length=_
    unfold apG
    rw[hslg]
    simp only[ne_eq,not_true_eq_false,if_false]
    rw[cG hg]
    simp only[ne_eq,not_true_eq_false,if_false]
    rw[cut_all c0]
    simp only[if_neg hk,qcJ]
    rw[if_pos hs]
   ·exact(hp.set (by omega) _).app _
   ·refine⟨c3,.inr ⟨h.length,by have:=hp.len;omega,rfl,?_⟩⟩
    simp[cg,Act1.onH]
   ·have hne:id≠j:=λhh=>hb (by subst hh;rfl)
    refine Pre.get (a:=h.set id (.o .dead)) ⟨_,rfl⟩ ?_
    rw[qal hne];exact hj
theorem vQ{n0:Nat}{h:HL}{v:Value}{e n:Nat}{cs:List Value}(hm:Mk n0 h v e n cs){j:Nat}(hb:blk v=some j):n0<=j/\j<h.length:=by
 obtain⟨_,⟨rfl,_⟩|⟨id,h1,rfl,hg⟩⟩:=hm
 ·cases hb
 ·cases hb
  refine⟨h1,?_⟩
  rcases qay id h.length with h2|h2
  ·exact h2
  ·rw[qai h2]at hg;cases hg
theorem p_app1{α:Type}{h0 h:HL}{v:Value}{e bytes:Nat}{enc:α->List Value}{l:List α}{a:α}{K:List Value->HL->Prop}{new:List Value}{m:Nat}{sp:Option Nat}(hp:Pre h0 h)(hm:MkL h0.length h v e enc l)(hn:new=enc a)(hl:(enc a).length=e)(hmm:m=h.length)(hsp:sp=some (e+10))
  (hs:cC (l.length+1) bytes=true)
  (hk:∀v' h',Pre h0 h'->MkL h0.length h' v' e enc (l++[a])->bf v'=true->(∀(j:Nat) o,h[j]? = some o->blk v≠some j->h'[j]? = some o)->(blk v'=blk v∨∃j,blk v'=some j/\h.length<=j)->K [v'] h') :
  (PH C Sg T).heap (.ap C e bytes v (.slice (some ⟨m,0,sp⟩) 1 2)) (h++[.o (.cells new e true)]) (@hid _ ⟨K⟩):=by
 subst hn hmm hsp
 have hx:SlC (h++[HO.o (.cells (enc a) e true)]) (.slice (some ⟨h.length,0,tag e⟩) 1 2) e 1 (enc a):=by
  refine⟨by omega,.inr ⟨h.length,0,2,enc a,true,rfl,by simp,cut_all (by omega)⟩⟩
 have hm':Mk h0.length (h++[HO.o (.cells (enc a) e true)]) v e l.length (l.flatMap enc):=hm.2.pre ⟨_,rfl⟩
 obtain⟨acts,v',a1,a2,a3,a4,a5⟩:=ap_mk (C:=C) (T:=T) (hp.app [HO.o (.cells (enc a) e true)]) rfl hm' hx hs
 refine dw a1 (hk v' _ a2 ⟨?_,?_⟩ ?_ ?_ ?_)
 ·intro b hb
  rcases qaP.1 hb with hb|hb
  ·exact hm.1 b hb
  ·simp only[qax]at hb;subst hb;exact hl
 ·rw[List.flatMap_append,qaO]
  simpa using a3
 ·obtain⟨_,⟨rfl,_⟩|⟨id,_,rfl,_⟩⟩:=a3
  ·rfl
  ·simp[bf,noLoc,bj,bP,br,aX,aG,tag]
 ·intro j o hj hb
  exact a4 j o (Pre.get ⟨_,rfl⟩ hj) hb
 ·rcases a5 with h1|h1|⟨j,h1,h2⟩
  ·exact .inl h1
  ·obtain⟨q1,⟨_,q2⟩|⟨id,_,rfl,_⟩⟩:=a3
   ·omega
   ·cases h1
  ·exact .inr ⟨j,h1,by simp at h2;omega⟩
end
end Sx
namespace Sx
theorem Ptr.good{h:HL}{p:Value}{cs:List Value}(hp:Ptr h p cs):bf p=true:=by
 obtain⟨id,o,vs,e,rw',rfl,_⟩:=hp
 simp[bf,noLoc,bj,bP,br,aX,aG]
theorem SlC.good{h:HL}{v:Value}{e n:Nat}{cs:List Value}(hs:SlC h v e n cs):bf v=true:=by
 obtain⟨_,⟨rfl,_⟩|⟨id,off,cx,vs,rw',rfl,_⟩⟩:=hs
 ·rfl
 ·simp[bf,noLoc,bj,bP,br,aX,aG,tag]
theorem LsH.good{α:Type}{h:HL}{v:Value}{e:Nat}{enc:α->List Value}{l:List α}(hs:LsH h v e enc l):bf v=true:=hs.2.good
section
variable [Val] [Kno] {C:Cfg} {Sg:FuncId->Option Sig} {T:Nat->Site}
theorem hidL{F:(List Lf->HL->Prop)->List Lf->HL->Prop}{s:List Lf->HL->Prop}{l:List Lf}{h:HL}(hf:F s l h):@hid _ ⟨F⟩ s l h:=hf
theorem cT{σ:Type}{F:(List Lf->HL->Prop)->List Lf->HL->Prop}(n:Nat)(S:Nat->σ->List Lf)(HP:Nat->σ->HL)(Inv:Nat->σ->Prop){j0:Nat}{s0:σ}{ls:List Lf}{h:HL}(hls:ls=S j0 s0)(hh:h=HP j0 s0)(hj:j0<=n)(hi:Inv j0 s0)
  (step:∀j s,j<=n->Inv j s->∀self:List Lf->HL->Prop,(∀s',j<n->Inv (j+1) s'->self (S (j+1) s') (HP (j+1) s'))->F self (S j s) (HP j s)):(PH C Sg T).loop (@hid _ ⟨F⟩) ls h:=by
 subst hls hh
 refine dj (m:=n - j0) (λm ls h=>∃j s,ls=S j s/\h=HP j s/\j<=n/\m=n - j/\Inv j s) ⟨j0,s0,rfl,rfl,hj,rfl,hi⟩ ?_
 rintro m ls h ⟨j,s,rfl,rfl,hj,rfl,hi⟩ self hself
 exact hidL (step j s hj hi self λs' hlt hi'=>hself (n - (j+1)) _ _ (by omega) ⟨j+1,s',rfl,rfl,by omega,rfl,hi'⟩)
theorem uY{F:(List Lf->HL->Prop)->List Lf->HL->Prop}(n:Nat)(Inv:Nat->Prop){j0:Nat}{h:HL}{ls:List Lf}(hls:ls=[.i (Int.ofNat j0)])(hj:j0<=n)(hi:Inv j0)
  (step:∀j,j<=n->Inv j->∀self:List Lf->HL->Prop,(j<n->Inv (j+1)->self [.i (Int.ofNat j+1)] h)->F self [.i (Int.ofNat j)] h):(PH C Sg T).loop (@hid _ ⟨F⟩) ls h:=
 cT (σ:=Unit) n (λj _=>[.i (Int.ofNat j)]) (λ_ _=>h) (λj _=>Inv j) (s0:=()) hls rfl hj hi λj _ hj hi self hs=>step j hj hi self (λa b=>hs () a b)
theorem dI{α:Type}{h:HL}{v:Value}{e:Nat}{enc:α->List Value}{l:List α}{K:Int->Prop}(hs:LsH h v e enc l)(hk:K (Int.ofNat l.length)):(PH C Sg T).opt (lenS v) (@hid _ ⟨K⟩):=au hs.len hk
theorem cI{α:Type}{h:HL}{v:Value}{e:Nat}{enc:α->List Value}{l:List α}{i:Nat}{a:α}{n:Int}{K:List Value->Prop}(hs:LsH h v e enc l)(hn:n=Int.ofNat i)(hi:l[i]? = some a)(hk:K (enc a)) :
  (PH C Sg T).opt (idS e v n) (@hid _ ⟨λx=>(PH C Sg T).peek (.lg C e x) h (@hid _ ⟨K⟩)⟩):=by
 subst hn
 obtain⟨p,h1,h2⟩:=hs.at hi
 exact au h1 (gf (h2.lg (hs.1 a (qag hi))) hk)
theorem jl{α:Type}{h:HL}{v:Value}{e:Nat}{enc:α->List Value}{l:List α}{i:Nat}{a:α}{n:Int}{o k:Nat}{cs:List Value}{K:List Value->Prop}(hs:LsH h v e enc l)(hn:n=Int.ofNat i)(hi:l[i]? = some a)(hcs:cs=((enc a).drop o).take k)(hok:o+k<=e)(hk:K cs) :
  (PH C Sg T).opt (idS e v n) (@hid _ ⟨λx=>(PH C Sg T).opt (fdP o x) (@hid _ ⟨λy=>(PH C Sg T).chk y (@hid _ ⟨(PH C Sg T).peek (.lg C k y) h (@hid _ ⟨K⟩)⟩)⟩)⟩):=by
 subst hn hcs
 obtain⟨p,h1,h2⟩:=hs.at hi
 have he:=hs.1 a (qag hi)
 have hok:o+k<=(enc a).length:=by omega
 have hlen:(((enc a).drop o).take k).length=k:=by rw[qa6,qb5];omega
 obtain⟨q,h3,h4⟩:=h2.fd o k hok
 refine au h1 (au h3 ?_)
 show bf q=true/\_
 exact⟨h4.good,gf (h4.lg hlen) hk⟩
end
end Sx
namespace Sx
section
variable [Val]
def uT:HObj->HObj
 | .cells vs e true=>if vs.all flat then .cells vs e true else .dead
 |_=>.dead
theorem uU{o:HObj}(h:(uT o).alive=true):∃vs e,o = .cells vs e true/\vs.all flat=true/\uT o = .cells vs e true:=by
 match o,h with
 | .cells vs e true,h=>
  unfold uT at h
  by_cases hf:vs.all flat=true
  ·exact⟨vs,e,rfl,hf,by show(if vs.all flat=true then HObj.cells vs e true else .dead)=_;rw[if_pos hf]⟩
  ·simp only[if_neg hf]at h;cases h
 | .cells _ _ false,h=>cases h
 | .map ..,h=>cases h
 | .loop ..,h=>cases h
 | .siter ..,h=>cases h
 | .dead,h=>cases h
def ij(n0 n:Nat)(σ:Nat->Nat):Nat->Nat:=λj=>if j<n0 then σ j else n+(j - n0)
theorem vr_ren' [Glo]{n:Nat}{τ:Nat->Nat}{mu' mu'':HMap}(hmu:∀j,j<n->mu'' (τ j)=mu' j){v c:Value}(hv:OkV n v)(h:VR noL mu' v c):VR noL mu'' (renV τ v) c:=by
 rcases hv with⟨h1,h2⟩|⟨j,off,len,cx,e,hj,rfl⟩
 ·rw[h2,cJ h1 h]
  exact .of_flat h1
 ·show VR noL mu'' (.slice (some ⟨τ j,off,tag e⟩) len cx) c
  generalize ht:tag e=t at h ⊢
  cases h with
  |hslice q1 q2 q3 q4=>exact .hslice ((hmu j hj).trans q1) q2 q3 q4
  |hslice0 q1=>exact .hslice0 q1
  |gslice _=>simp[tag]at ht
  |gslice0=>simp[tag]at ht
  |scalar q=>simp[scalar]at q
theorem vr_sl' [Glo]{n:Nat}{τ:Nat->Nat}{mu' mu'':HMap}(hmu:∀j,j<n->mu'' (τ j)=mu' j){l:SL}{c:Value}(hl:OkL n l.lf)(h:VR noL mu' l.val c):VR noL mu'' (mb τ l).val c:=by
 cases l with
 |v x=>exact vr_ren' hmu hl h
 |i k m=>
  have hf:flat (Value.int k m)=true:=rfl
  have h:VR noL mu' (.int k m) c:=h
  rw[cJ hf h];exact .of_flat hf
 |b t=>
  have hf:flat (Value.bool t)=true:=rfl
  have h:VR noL mu' (.bool t) c:=h
  rw[cJ hf h];exact .of_flat hf
 |l t=>
  have hf:flat (Value.bool t)=true:=rfl
  have h:VR noL mu' (.bool t) c:=h
  rw[cJ hf h];exact .of_flat hf
theorem vr_s0' [Glo]{n:Nat}{τ:Nat->Nat}{mu' mu'':HMap}(hmu:∀j,j<n->mu'' (τ j)=mu' j){x:S0}{c:Value}(hx:∀l∈x.cells,OkL n l.lf)(h:VR noL mu' x.val c):VR noL mu'' (renS τ x).val c:=by
 cases x with
 |leaf l=>exact vr_sl' hmu (hx l (by simp[S0.cells])) h
 |agg cs=>
  have h:VR noL mu' (.agg ⟨cs.map SL.val⟩) c:=h
  generalize ha:(⟨cs.map SL.val⟩ : Array Value)=a at h
  cases h with
  |scalar q=>simp[scalar]at q
  |agg hs h=>
   subst ha
   refine .agg (by simpa using hs) λi x y hx' hy=>?_
   have hi:((cs.map (mb τ)).map SL.val)[i]? = some x:=by simpa using hx'
   rw[qaw,qaw]at hi
   cases e:cs[i]? with
   |none=>rw[e]at hi;cases hi
   |some l=>
    rw[e]at hi
    cases hi
    exact vr_sl' hmu (hx l (qag e)) (h i _ y (by simp[e]) hy)
theorem vr_pack' [Glo]{n:Nat}{τ:Nat->Nat}{mu' mu'':HMap}(hmu:∀j,j<n->mu'' (τ j)=mu' j){xs:List S0}{c:Value}(hx:∀x∈xs,∀l∈x.cells,OkL n l.lf)(h:VR noL mu' (ek (ai xs)) c):VR noL mu'' (ek (ai (xs.map (renS τ)))) c:=by
 match xs,hx,h with
 | [],_,h=>
  have h:VR noL mu' undef c:=h
  have hf:flat undef=true:=rfl
  rw[cJ hf h]
  exact .of_flat hf
 | [x],hx,h=>exact vr_s0' hmu (hx x qaA) h
 |x :: y :: l,hx,h=>
  have h:VR noL mu' (.tuple ⟨ai (x :: y :: l)⟩) c:=h
  show VR noL mu'' (.tuple ⟨ai ((x :: y :: l).map (renS τ))⟩) c
  generalize ha:(⟨ai (x :: y :: l)⟩ : Array Value)=a at h
  have hsz:a.size=l.length+2:=by subst ha;simp[ai]
  cases h with
  |scalar q=>simp[scalar]at q
  |poison _=>exact absurd hsz (by simp)
  |sym _=>exact absurd hsz (by simp)
  |tuple hn hs h=>
   subst ha
   refine .tuple (by simp[ai]) (by simpa[ai]using hs) λi x' y' hx' hy=>?_
   have hi:(ai ((x :: y :: l).map (renS τ)))[i]? = some x':=by simpa using hx'
   unfold ai at hi
   rw[qaw,qaw]at hi
   cases e:(x :: y :: l)[i]? with
   |none=>rw[e]at hi;cases hi
   |some s=>
    rw[e]at hi
    cases hi
    exact vr_s0' hmu (hx s (qag e)) (h i _ y' (by
     show(⟨(x :: y :: l).map S0.val⟩ : Array Value)[i]? = _
     rw[List.getElem?_toArray,qaw,e];rfl) hy)
theorem objR_some [Glo]{mu:HMap}{p:Pl}{x:Option Obj}{o:HObj}(ha:o.alive=true)(h:objR mu p x o):∃y,x=some y:=by
 cases o with
 |cells vs e rw=>obtain⟨_,_,_,c,e,fr,h,_⟩:=h;exact⟨_,h⟩
 |map es c=>obtain⟨es',h,_⟩:=h;exact⟨_,h⟩
 |loop r=>obtain⟨L,h,_⟩:=h;exact⟨_,h⟩
 |siter s p=>exact⟨_,h⟩
 |dead=>cases ha
end
section
variable [Val]
theorem frame_alI(kp:Nat->HObj->HObj)(hkp:∀k o,(kp k o).alive=true->∃vs e,o = .cells vs e true/\vs.all flat=true/\kp k o = .cells vs e true){C:Cfg}(hG:∀g vs,C.G g=some vs->vs.all gfl=true){f:FuncId}{args0 args:List Value}{r0 r:Value}{H0 H' H:List HObj}(σ:Nat->Nat)(h:dC C f args0 H0 r0 H')
  (h0:∀(j:Nat) (o:HObj),H0[j]? = some o->∃vs e rw,o = .cells vs e false/\vs.all flat=true/\H[σ j]? = some (.cells vs e rw))
  (ha:∀ [Glo] (mu mu0:HMap) (cs:List Value),(∀j,j<H0.length->mu0 j=mu (σ j))->VRs noL mu args cs->VRs noL mu0 args0 cs)
  (hr:∀ [Glo] (mu' mu'':HMap) (c:Value),(∀j,j<H'.length->mu'' (ij H0.length H.length σ j)=mu' j)->VR noL mu' r0 c->VR noL mu'' r c):dC C f args H r (H++(H'.drop H0.length).mapIdx kp):=by
 intro _ base mu w args' hb hargs hW cs
 let mu0:HMap:=λj=>if j<H0.length then mu (σ j)else none
 have hno:∀b,¬Own mu0 H0 b:=by
  rintro b ⟨id,o,p,h1,h2,_⟩
  obtain⟨vs,e,rw',rfl,_⟩:=h0 id o h1
  cases h2
 have hmu:∀(id:Nat) (o:HObj),H0[id]? = some o->mu0 id=mu (σ id):=by
  intro id o h1
  have:id<H0.length:=by
   rcases qay id H0.length with h|h
   ·exact h
   ·rw[qai h]at h1;cases h1
  simp only[mu0,if_pos this]
 have hobj:∀(id:Nat) (o:HObj),H0[id]? = some o->∃p,mu0 id=some p/\objR mu0 p w.heap[p.b]? o:=by
  intro id o h1
  obtain⟨vs,e,rw',rfl,hf,hH⟩:=h0 id o h1
  obtain⟨p,h3,h4⟩:=hW.obj (σ id) _ hH rfl
  obtain⟨g1,g2,g3,c,e',fr,g4,g5,g6,g7⟩:=h4
  refine⟨p,by rw[hmu id _ h1];exact h3,g1,g2,g3,c,e',fr,g4,g5,λe=>by(cases e),λi v hv=>?_⟩
  obtain⟨v',q1,q2⟩:=g7 i v hv
  have h2:flat v=true:=qab.1 hf v (qag hv)
  refine⟨v',q1,?_⟩
  rw[cJ h2 q2]
  exact .of_flat h2
 have hin:∀(p:Pl) (o:HObj) (m:HMap),o.alive=true->objR m p w.heap[p.b]? o->p.b<w.heap.size:=by
  intro p o m ha h
  obtain⟨y,hy⟩:=objR_some ha h
  rcases qay p.b w.heap.size with h|h
  ·exact h
  ·rw[qa4 h]at hy;cases hy
 have hW0:WR C w.heap.size mu0 H0 w:=by
  refine⟨λid o h1 _=>hobj id o h1,λi j oi oj pi pj h1 h2 h3=>?_,λi o p h1 h2=>?_,λi o p h1 ha' _ h2=>?_,λid h1=>?_,λg vs hg=>?_⟩
  ·obtain⟨vs,e,rw',rfl,_⟩:=h0 i oi h1
   cases h3
  ·obtain⟨vs,e,rw',rfl,_⟩:=h0 i o h1
   cases h2
  ·obtain⟨p',h3,h4⟩:=hobj i o h1
   rw[h2]at h3
   cases h3
   exact hin _ _ _ ha' h4
  ·simp only[mu0,if_neg (qdH.2 h1)]
  ·obtain⟨h1,h2,c,e,fr,h3,h4⟩:=hW.glob g vs hg
   exact⟨by omega,h2,c,e,fr,h3,jH (hG g vs hg) h4⟩
 have hargs0:VRs noL mu0 args0 args'.toList:=ha mu mu0 _ (λj hj=>by simp only[mu0,if_pos hj]) hargs
 obtain⟨v,mu',w',a1,a2,a3,a4,a5⟩:=h _ w.heap.size mu0 w args' (qaz _) hargs0 hW0 cs
 have hkeep:∀(b:Nat) x,w.heap[b]? = some x->w'.heap[b]? = some x:=by
  intro b x hx
  have hlt:b<w.heap.size:=by
   rcases qay b w.heap.size with h|h
   ·exact h
   ·rw[qa4 h]at hx;cases hx
  rw[a3.keep b hlt (hno b)];exact hx
 let mu2:HMap:=λid=>if id<H.length then mu id else mu' (H0.length+(id - H.length))
 have hold:∀id,id<H.length->mu2 id=mu id:=λid hi=>by simp only[mu2,if_pos hi]
 have hnew:∀k,mu2 (H.length+k)=mu' (H0.length+k):=λk=>by
  simp only[mu2,if_neg (qdH.2 (Nat.le_add_right H.length k)),qb6]
 have hlen:=a3.len
 have hmono:∀i p,mu i=some p->mu2 i=some p:=by
  intro i p hp
  rw[hold i];exact hp
  rcases qay i H.length with h|h
  ·exact h
  ·rw[hW.dom i h]at hp;cases hp
 have hbeh:∀(id:Nat) (o:HObj),(H++(H'.drop H0.length).mapIdx kp)[id]? = some o->¬id<H.length->o.alive=true->
   ∃k vs e,id=H.length+k/\H'[H0.length+k]? = some (.cells vs e true)/\vs.all flat=true/\o = .cells vs e true:=by
  intro id o ho hid hal
  rw[qam (by omega),List.getElem?_mapIdx,qbf]at ho
  obtain⟨o',h1,rfl⟩:=qae.1 ho
  obtain⟨vs,e,rfl,hf,e2⟩:=hkp _ _ hal
  exact⟨id - H.length,vs,e,by omega,h1,hf,e2⟩
 refine⟨v,mu2,w',?_,?_,?_,a4,a5⟩
 ·refine hr mu' mu2 v (λj hj=>?_) a1
  unfold ij
  by_cases hj0:j<H0.length
  ·rw[if_pos hj0]
   obtain⟨vs,e,rw',_,_,hH⟩:=h0 j _ (qau hj0)
   have:σ j<H.length:=by
    rcases qay (σ j) H.length with h|h
    ·exact h
    ·rw[qai h]at hH;cases hH
   rw[hold _ this,a3.same j hj0]
   simp only[mu0,if_pos hj0]
  ·rw[if_neg hj0,hnew,show H0.length+(j - H0.length)=j by omega]
 ·refine⟨λid o h1 h2=>?_,λi j oi oj pi pj h1 h2 h3 h4 h5 h6 h7=>?_,λi o p h1 h2 h3=>?_,λi o p h1 h2 h3 h4=>?_,λid h1=>?_,λg vs hg=>?_⟩
  ·by_cases hid:id<H.length
   ·rw[qaf hid]at h1
    obtain⟨p,h3,h4⟩:=hW.obj id o h1 h2
    exact⟨p,hmono _ _ h3,(nT (hkeep p.b) h4).mono hmono⟩
   ·obtain⟨k,vs,e,rfl,h3,hf,rfl⟩:=hbeh id o h1 hid h2
    obtain⟨p,h4,g1,g2,g3,c,e',fr,g4,g5,g6,g7⟩:=a2.obj _ _ h3 rfl
    refine⟨p,by rw[hnew];exact h4,g1,g2,g3,c,e',fr,g4,g5,g6,λi v hv=>?_⟩
    obtain⟨v',q1,q2⟩:=g7 i v hv
    have hfv:flat v=true:=qab.1 hf v (qag hv)
    refine⟨v',q1,?_⟩
    rw[cJ hfv q2]
    exact .of_flat hfv
  ·by_cases hi:i<H.length
   ·rw[qaf hi]at h1
    rw[hold i hi]at h6
    by_cases hj:j<H.length
    ·rw[qaf hj]at h2
     rw[hold j hj]at h7
     exact hW.inj i j oi oj pi pj h1 h2 h3 h4 h5 h6 h7
    ·obtain⟨k,vs,e,rfl,q1,hf,rfl⟩:=hbeh j oj h2 hj h4
     rw[hnew]at h7
     have hb2:=a2.own _ _ _ q1 rfl h7
     obtain⟨p,h8,h9⟩:=hW.obj i oi h1 (aR h3)
     rw[h6]at h8;cases h8
     have:=hin _ _ _ (aR h3) h9
     omega
   ·obtain⟨k,vs,e,rfl,q1,hf,rfl⟩:=hbeh i oi h1 hi (aR h3)
    rw[hnew]at h6
    have hb2:=a2.own _ _ _ q1 rfl h6
    by_cases hj:j<H.length
    ·rw[qaf hj]at h2
     rw[hold j hj]at h7
     obtain⟨p,h8,h9⟩:=hW.obj j oj h2 h4
     rw[h7]at h8;cases h8
     have:=hin _ _ _ h4 h9
     omega
    ·obtain⟨k2,vs2,e2,rfl,q2,hf2,rfl⟩:=hbeh j oj h2 hj h4
     rw[hnew]at h7
     exact a2.inj _ _ _ _ _ _ q1 q2 rfl rfl (by omega) h6 h7
  ·by_cases hi:i<H.length
   ·rw[qaf hi]at h1
    rw[hold i hi]at h3
    exact hW.own i o p h1 h2 h3
   ·obtain⟨k,vs,e,rfl,q1,hf,rfl⟩:=hbeh i o h1 hi (aR h2)
    rw[hnew]at h3
    have:=a2.own _ _ _ q1 rfl h3
    omega
  ·by_cases hi:i<H.length
   ·rw[qaf hi]at h1
    rw[hold i hi]at h4
    exact hW.ro i o p h1 h2 h3 h4
   ·obtain⟨k,vs,e,rfl,q1,hf,rfl⟩:=hbeh i o h1 hi h2
    cases h3
  ·rw[qaO,List.length_mapIdx,qb5]at h1
   have:¬id<H.length:=by omega
   simp only[mu2,if_neg this]
   exact a2.dom _ (by omega)
  ·obtain⟨h1,h2,c,e,fr,h3,h4⟩:=hW.glob g vs hg
   exact⟨h1,h2,c,e,fr,hkeep _ _ h3,jH (hG g vs hg) h4⟩
 ·refine⟨by simp,λid hid=>hold id hid,a3.size,λb hb _=>a3.keep b hb (hno b),λb hb=>?_,a3.os,a3.tape,a3.output⟩
  obtain⟨id,o,p,q1,q2,q3,rfl⟩:=hb
  by_cases hid:id<H.length
  ·rw[qaf hid]at q1
   rw[hold id hid]at q3
   exact .inr ⟨id,o,p,q1,q2,q3,rfl⟩
  ·obtain⟨k,vs,e,rfl,q4,hf,rfl⟩:=hbeh id o q1 hid (aR q2)
   rw[hnew]at q3
   exact .inl (a2.own _ _ _ q4 rfl q3)
theorem call_alI(kp:Nat->HObj->HObj)(hkp:∀k o,(kp k o).alive=true->∃vs e,o = .cells vs e true/\vs.all flat=true/\kp k o = .cells vs e true){C:Cfg}{N:FuncId->Option Nat}{Sg:FuncId->Option Sig}(hm:C.P.follows .mixedOrders=true)(hG:∀g vs,C.G g=some vs->vs.all gfl=true){g:FuncId}(hn:N g=none){ls0 rs:List Lf}{H0 H' H:List HObj}(σ:Nat->Nat)
  (h:let _:Kno:=KnoC C N;aF C Sg g ls0 H0 rs H')
  (h0:∀(j:Nat) (o:HObj),H0[j]? = some o->∃vs e rw,o = .cells vs e false/\vs.all flat=true/\H[σ j]? = some (.cells vs e rw))
  (hl:∀l∈ls0,OkL H0.length l) (hrl:∀l∈rs,OkL H'.length l):let _:Kno:=KnoC C N;aF C Sg g (ls0.map (renL σ)) H (rs.map (renL (ij H0.length H.length σ))) (H++(H'.drop H0.length).mapIdx kp):=by
 let _:Kno:=KnoC C N
 obtain⟨sg,xs,ys,c1,c2,c3,c4⟩:=h
 have hx:∀x∈xs,∀l∈x.cells,OkL H0.length l.lf:=λx hx l hl'=>hl _ (by rw[←c2.2.1];exact nJ hx hl')
 have hy:∀x∈ys,∀l∈x.cells,OkL H'.length l.lf:=λx hx l hl'=>hrl _ (by rw[←c3.2.1];exact nJ hx hl')
 have gd:∀(τ:Nat->Nat) (zs:List S0),(∀x∈zs,x.good)->∀x∈zs.map (renS τ),x.good:=by
  intro τ zs hz x hx'
  obtain⟨y,hy,rfl⟩:=qaI.1 hx'
  intro l hl'
  rw[nc]at hl'
  obtain⟨l',hl'',rfl⟩:=qaI.1 hl'
  exact wm (hz y hy l' hl'')
 refine⟨sg,xs.map (renS σ),ys.map (renS (ij H0.length H.length σ)),c1,⟨by rw[ju];exact c2.1,by rw[jK,c2.2.1],gd _ _ c2.2.2⟩,⟨by rw[ju];exact c3.1,by rw[jK,c3.2.1],gd _ _ c3.2.2⟩,⟨0,?_⟩⟩
 exact .inr ⟨.inl hn,frame_alI kp hkp hG σ (ir hm c4) h0 (λmu mu0 cs hmu h=>vrs_ren hmu hx h) λmu' mu'' c hmu h=>vr_pack' hmu hy h⟩
theorem yf{α β:Type}(f:α->β)(l:List α):l.mapIdx (λ_=>f)=l.map f:=by
 apply qa2
 intro i
 rw[List.getElem?_mapIdx,qaw]
theorem vS(kp:HObj->HObj)(hkp:∀o,(kp o).alive=true->∃vs e,o = .cells vs e true/\vs.all flat=true/\kp o = .cells vs e true){C:Cfg}{N:FuncId->Option Nat}{Sg:FuncId->Option Sig}(hm:C.P.follows .mixedOrders=true)(hG:∀g vs,C.G g=some vs->vs.all gfl=true){g:FuncId}(hn:N g=none){ls0 rs:List Lf}{H0 H' H:List HObj}(σ:Nat->Nat)
  (h:let _:Kno:=KnoC C N;aF C Sg g ls0 H0 rs H')
  (h0:∀(j:Nat) (o:HObj),H0[j]? = some o->∃vs e rw,o = .cells vs e false/\vs.all flat=true/\H[σ j]? = some (.cells vs e rw))
  (hl:∀l∈ls0,OkL H0.length l) (hrl:∀l∈rs,OkL H'.length l):let _:Kno:=KnoC C N;aF C Sg g (ls0.map (renL σ)) H (rs.map (renL (ij H0.length H.length σ))) (H++(H'.drop H0.length).map kp):=by
 have:=call_alI (λ_=>kp) (λ_=>hkp) hm hG hn σ h h0 hl hrl
 rwa [yf]at this
theorem call_al{C:Cfg}{N:FuncId->Option Nat}{Sg:FuncId->Option Sig}(hm:C.P.follows .mixedOrders=true)(hG:∀g vs,C.G g=some vs->vs.all gfl=true){g:FuncId}(hn:N g=none){ls0 rs:List Lf}{H0 H' H:List HObj}(σ:Nat->Nat)
  (h:let _:Kno:=KnoC C N;aF C Sg g ls0 H0 rs H')
  (h0:∀(j:Nat) (o:HObj),H0[j]? = some o->∃vs e rw,o = .cells vs e false/\vs.all flat=true/\H[σ j]? = some (.cells vs e rw))
  (hl:∀l∈ls0,OkL H0.length l) (hrl:∀l∈rs,OkL H'.length l):let _:Kno:=KnoC C N;aF C Sg g (ls0.map (renL σ)) H (rs.map (renL (ij H0.length H.length σ))) (H++(H'.drop H0.length).map uT):=
 vS uT (λ_ h=>uU h) hm hG hn σ h h0 hl hrl
end
end Sx
end Go.Am
set_option maxRecDepth 100000
namespace Go.Am
open Sx Go.Proofs
theorem known_val{g n:Nat}{ls rs:List Lf}{sg:Sig}(hs:ac g=some sg)(hp:sg.plain=true)(hg:fj ls=true)(h:runF n (.f g) ls .empty tell=some rs):∀H,aF cc ac g ls H rs H:=by
 obtain⟨rs',h',a1,a2⟩:=(lm n).f g ls .empty tell rs (dt hg) h
 rw[vK]at a2
 cases a2
 exact wW g sg ls _ _ hs hp a1
def xY(rs':List Lf):Option (List Lf)->Bool:=λo=>@Option.rec _ (λ_=>Bool) false (λrs=>eqLs rs rs') o
theorem fE{g n:Nat}{ls rs:List Lf}{sg:Sig}(hs:ac g=some sg)(hp:sg.plain=true)(hg:fj ls=true)(h:xY rs (runF n (.f g) ls .empty tell)=true):∀H,aF cc ac g ls H rs H:=by
 cases e:runF n (.f g) ls .empty tell with
 |none=>rw[e]at h;cases h
 |some rs'=>
  rw[e]at h
  have h:eqLs rs' rs=true:=h
  rw[fA h]at e
  exact known_val hs hp hg e
def eqCell(a b:Value):Bool:=match a,b with
 | .int k n,.int k' n'=>dX k k'&&eqZK n n'
 | .bool t,.bool t'=>eqBK t t'
 |_,_=>false
theorem eqCell_ok{a b:Value}(h:eqCell a b=true):a=b/\flat b=true:=by
 unfold eqCell at h
 split at h
 ·simp only[qaa]at h
  have h2:=h.2
  rw[qS,beq_iff_eq]at h2
  rw[cS h.1,h2]
  exact⟨rfl,rfl⟩
 ·rename_i a b
  cases a<;>cases b<;>first|exact⟨rfl,rfl⟩|cases h
 ·cases h
def qQ(c:Tr Value):List Value->Nat->Bool
 | [],_=>true
 |v :: l,i=>eqCell ((bp i).get nilV c) v&&qQ c l (i+1)
theorem pt{c:Tr Value}:∀ {l:List Value} {i:Nat},qQ c l i=true->(∀j (h:j<l.length),(bp (i+j)).get nilV c=l[j])/\l.all flat=true
 | [],i,_=>⟨λj h=>by simp at h,rfl⟩
 |v :: l,i,h=>by
  simp only[qQ,qaa]at h
  obtain⟨h1,h2⟩:=eqCell_ok h.1
  obtain⟨h3,h4⟩:=pt h.2
  refine⟨λj hj=>?_,by simp[h2,h4]⟩
  cases j with
  |zero=>exact h1
  |succ j=>
   have:=h3 j (by simpa using hj)
   rw[show i+(j+1)=i+1+j by omega]
   simpa using this
def isSl(h:HTr)(x:Value)(e n:Nat)(cells:List Value):Bool:=match x with
 | .slice none 0 0=>Nat.beq n 0&&Nat.beq cells.length 0
 | .slice (some a) len _=>Nat.beq len n&&Nat.beq a.off 0&&Nat.beq cells.length (n*e)&&tagB a.spot e&&(match h.at a.block with
  |some (.t m e' true c)=>Nat.beq m (n*e)&&Nat.beq e' e&&qQ c cells 0
  |_=>false)
 |_=>false
theorem isSl_ok{h:HTr}{x:Value}{e n:Nat}{cells:List Value}(hx:isSl h x e n cells=true):cells.length=n*e/\cells.all flat=true/\((x = .slice none 0 0/\n=0)∨∃id cx,x = .slice (some ⟨id,0,tag e⟩) n cx/\id<h.n/\(toL h)[id]? = some (.o (.cells cells e true))):=by
 unfold isSl at hx
 split at hx
 ·simp only[qaa]at hx
  have h1:=qac hx.1
  have h2:=qac hx.2
  subst h1
  rw[qbc]at h2
  subst h2
  exact⟨by simp,rfl,.inl ⟨rfl,rfl⟩⟩
 ·rename_i a len cx
  simp only[qaa]at hx
  obtain⟨⟨⟨⟨h1,h2⟩,h3⟩,h4⟩,h5⟩:=hx
  have h1:=qac h1
  have h2:=qac h2
  have h3:=qac h3
  have h4:=kg.1 h4
  subst h1
  split at h5
  ·rename_i m e' c hat
   simp only[qaa]at h5
   obtain⟨⟨g1,g2⟩,g3⟩:=h5
   have g1:=qac g1
   have g2:=qac g2
   subst g1 g2
   obtain⟨g4,g5⟩:=pt g3
   have ha:a=⟨a.block,0,tag e'⟩:=by cases a;simp_all
   have hc:bB c (len*e')=cells:=by
    apply List.ext_getElem
    ·rw[aV,h3]
    ·intro i hi hi'
     have:=dD c (i:=i) (n:=len*e') (by rw[aV]at hi;exact hi)
     rw[qau hi]at this
     have:=qan this
     rw[this,←g4 i hi',qaM]
   refine⟨h3,g5,.inr ⟨a.block,cx,by rw[ha],?_,?_⟩⟩
   ·unfold HTr.at at hat
    split at hat
    ·rename_i hb;rw[qaB]at hb;exact hb
    ·cases hat
   ·rw[jp,hat]
    show some (HO.o (.cells (bB c (len*e')) e' true))=_
    rw[hc]
  ·cases h5
 ·cases hx
theorem qv(T:Nat->Site)(h G:HL):absH T (h++G)=absH T h++absH T G:=by simp[absH]
theorem absH_o(T:Nat->Site)(l:List HObj):absH T (l.map HO.o)=l:=by
 induction l with
 |nil=>rfl
 |cons a l ih=>show absO T (.o a) :: absH T (l.map HO.o)=_;rw[ih];rfl
theorem made{g n:Nat}{ls rest:List Lf}{e m:Nat}{cells:List Value}(hg:fj ls=true)(hno:neuN g=none)(hl:ls.all (λl=>match l with | .v _=>false|_=>true)=true)(hr:rest.all (λl=>match l with | .v _=>false|_=>true)=true)
  (h:runF n (.f g) ls .empty (λrs h=>match rs with
   | .v x :: r=>ans (eqLs r rest&&isSl h x e m cells)
   |_=>none)=yes) (H:HL):∃x G,aF cc ac g ls (absH aa H) (.v x :: rest) (absH aa (H++G))/\SlC (H++G) x e m cells:=by
 obtain⟨rs,h',a1,a2⟩:=(lm n).f g ls .empty _ [] (dt hg) h
 split at a2
 ·rename_i x r
  have a2:=uz a2
  simp only[qaa]at a2
  obtain⟨a2,a3⟩:=a2
  have a2:=fA a2
  subst a2
  obtain⟨b1,b2,b3⟩:=isSl_ok a3
  have plainR:∀(l:List Lf) (σ:Nat->Nat),l.all (λl=>match l with | .v _=>false|_=>true)=true->l.map (renL σ)=l:=by
   intro l σ hl
   induction l with
   |nil=>rfl
   |cons a l ih=>
    simp only[qbE,qaa]at hl
    rw[qas,ih hl.2]
    cases a<;>first|rfl|(simp at hl)
  have plainOk:∀(l:List Lf) (n:Nat),l.all (λl=>match l with | .v _=>false|_=>true)=true->∀a∈l,OkL n a:=by
   intro l n hl a ha
   have:=qab.1 hl a ha
   cases a<;>first|trivial|cases this
  have e0:absH aa (toL HTr.empty)=[]:=rfl
  rw[e0]at a1
  have key:=call_al (N:=neuN) mixed jb hno (H:=absH aa H) id a1 (λj o hj=>by simp at hj) (plainOk ls _ hl) (λl hl'=>by
   rcases qaj.1 hl' with rfl|hl'
   ·rcases b3 with⟨rfl,_⟩|⟨id,cx,rfl,hid,_⟩
    ·exact .inl ⟨rfl,λ_=>rfl⟩
    ·exact .inr ⟨id,0,m,cx,e,by rw[cf,cX];exact hid,rfl⟩
   ·exact plainOk _ _ hr l hl')
  rw[plainR ls id hl,qas,plainR _ _ hr,qbw,qa7]at key
  refine⟨renV (ij 0 (absH aa H).length id) x,((absH aa (toL h')).map uT).map .o,?_,b1,?_⟩
  ·rw[qv,absH_o];exact key
  ·rcases b3 with⟨rfl,hm⟩|⟨id',cx,rfl,hid,hb⟩
   ·exact .inl ⟨rfl,hm⟩
   ·refine .inr ⟨_,0,cx,cells,true,rfl,?_,Sx.cut_all b1⟩
    unfold ij
    rw[if_neg (qcm _),qdD,cf,qam (by omega),qb6,qaw,qaw]
    have:(absH aa (toL h'))[id']? = some (.cells cells e true):=by
     unfold absH
     rw[qaw,hb];rfl
    rw[this]
    show some (HO.o (if cells.all flat=true then HObj.cells cells e true else .dead))=_
    rw[if_pos b2]
 ·cases a2
end Go.Am
set_option maxRecDepth 100000
namespace Go.Am
namespace Sx
section
variable [Val] [Kno] {C:Cfg} {Sg:FuncId->Option Sig} {T:Nat->Site}
theorem fe{j:Nat}{K:Int->Prop}(h:j<=4294967296):(PH C Sg T).ari .add .i64 (Int.ofNat j) 1 (@hid _ ⟨K⟩)=K (Int.ofNat j+1):=
 p_add (by show -9223372036854775808<=(j:Int)+1;omega) (by show(j:Int)+1<=9223372036854775807;omega)
theorem n_sub{j:Nat}{K:Int->Prop}(h1:1<=j)(h:j<=4294967296):(PH C Sg T).ari .sub .i64 (Int.ofNat j) 1 (@hid _ ⟨K⟩)=K (Int.ofNat (j - 1)):=by
 rw[p_sub (by show -9223372036854775808<=(j:Int) - 1;omega) (by show(j:Int) - 1<=9223372036854775807;omega)]
 congr 1
 show(j:Int) - 1=((j - 1:Nat):Int)
 omega
theorem cr{j n:Nat}{K:Bool->Prop}(h:j<n):(PH C Sg T).cmp .lss (Int.ofNat j) (Int.ofNat n) (@hid _ ⟨K⟩)=K true:=p_lss_t (by show(j:Int)<n;omega)
theorem cK{j n:Nat}{K:Bool->Prop}(h:n<=j):(PH C Sg T).cmp .lss (Int.ofNat j) (Int.ofNat n) (@hid _ ⟨K⟩)=K false:=p_lss_f (by show(n:Int)<=j;omega)
end
theorem aM{α:Type}{l:List α}{i:Nat}{a:α}(h:l[i]? = some a):i<l.length:=by
 rcases qay i l.length with h1|h1
 ·exact h1
 ·rw[qai h1]at h;cases h
theorem bi{α:Type}{l:List α}{i:Nat}(h:i<l.length):∃a,l[i]? = some a:=⟨_,qau h⟩
end Sx
end Go.Am
set_option maxRecDepth 100000
set_option maxHeartbeats 4000000
namespace Go.Am
open Sx
def mA(t:Nat):Int:=match t with
 |0=>1|1=>0|2=>-1|3=>0|4=>-1|5=>0|6=>1|_=>0
def mB(t:Nat):Int:=match t with
 |0=>0|1=>-1|2=>0|3=>1|4=>0|5=>-1|6=>0|_=>1
def mC(t:Nat):Int:=match t with
 |0=>0|1=>1|2=>0|3=>-1|4=>0|5=>-1|6=>0|_=>1
def mD(t:Nat):Int:=match t with
 |0=>1|1=>0|2=>-1|3=>0|4=>1|5=>0|6=>-1|_=>0
def mulT(s t:Nat):Nat:=if s<4 then(if t<4 then(s+t)%4 else 4+(t+4 - s)%4)else(if t<4 then 4+(s+t)%4 else(t+8 - s)%4)
abbrev Mv:=Nat×Int×Int
def bm(a b:Mv):Mv:=(mulT a.1 b.1,mA b.1*a.2.1+mB b.1*a.2.2+b.2.1,mC b.1*a.2.1+mD b.1*a.2.2+b.2.2)
def idM:Mv:=(0,0,0)
def okM(n:Int)(m:Mv):Prop:=m.1<8/\-n<=m.2.1/\m.2.1<=n/\-n<=m.2.2/\m.2.2<=n/\(m.2.1+m.2.2)%2=0
theorem t8{t:Nat}(h:t<8):t=0∨t=1∨t=2∨t=3∨t=4∨t=5∨t=6∨t=7:=by omega
theorem kP{s t:Nat}:mulT s t<8:=by
 unfold mulT
 repeat' split
 all_goals omega
theorem yh{a b c:Nat}(ha:a<8)(hb:b<8)(hc:c<8):mulT (mulT a b) c=mulT a (mulT b c):=by
 have key:((List.range 8).all λa=>(List.range 8).all λb=>(List.range 8).all λc=>mulT (mulT a b) c==mulT a (mulT b c))=true:=by decide +kernel
 have h1:=qab.1 key a (qad.2 ha)
 have h2:=qab.1 h1 b (qad.2 hb)
 have h3:=qab.1 h2 c (qad.2 hc)
 simpa using h3
theorem cL{a b c:Mv}(ha:a.1<8)(hb:b.1<8)(hc:c.1<8):bm (bm a b) c=bm a (bm b c):=by
 obtain⟨at',ax,ay⟩:=a
 obtain⟨bt,bx,by'⟩:=b
 obtain⟨ct,cx,cy⟩:=c
 simp only at ha hb hc
 unfold bm
 refine qdI (yh ha hb hc) ?_
 simp only
 clear ha
 rcases t8 hb with rfl|rfl|rfl|rfl|rfl|rfl|rfl|rfl<;>rcases t8 hc with rfl|rfl|rfl|rfl|rfl|rfl|rfl|rfl<;>
  (refine qdI ?_ ?_<;>simp[mulT,mA,mB,mC,mD]<;>omega)
theorem mF{a:Mv}(ha:a.1<8):bm idM a=a:=by
 obtain⟨t,x,y⟩:=a
 have ha:t<8:=ha
 unfold bm idM
 refine qdI ?_ (qdI (by simp) (by simp))
 rcases t8 ha with rfl|rfl|rfl|rfl|rfl|rfl|rfl|rfl<;>simp[mulT]
def invT(t:Nat):Nat:=match t with
 |1=>3|3=>1|n=>n
def invM(m:Mv):Mv:=(invT m.1,-(mA (invT m.1)*m.2.1+mB (invT m.1)*m.2.2),-(mC (invT m.1)*m.2.1+mD (invT m.1)*m.2.2))
theorem inv_id{m:Mv}(h:m.1<8):bm m (invM m)=idM:=by
 obtain⟨t,x,y⟩:=m
 have h:t<8:=h
 unfold bm invM idM
 rcases t8 h with rfl|rfl|rfl|rfl|rfl|rfl|rfl|rfl<;>simp[mulT,mA,mB,mC,mD,invT]<;>omega
theorem cu{n k:Int}{m:Mv}(h:okM n m)(hk:n<=k):okM k m:=by
 unfold okM at *
 omega
theorem wI{n:Int}(h:0<=n):okM n idM:=by
 unfold okM idM
 simp only
 omega
theorem iz{n k:Int}{a b:Mv}(ha:okM n a)(hb:okM k b):okM (n+k) (bm a b):=by
 obtain⟨at',ax,ay⟩:=a
 obtain⟨bt,bx,by'⟩:=b
 unfold okM bm at *
 simp only at *
 obtain⟨a1,a2⟩:=ha
 obtain⟨b1,b2⟩:=hb
 refine⟨kP,?_⟩
 clear a1
 rcases t8 b1 with rfl|rfl|rfl|rfl|rfl|rfl|rfl|rfl<;>simp only[mA,mB,mC,mD]<;>omega
theorem okM_inv{n:Int}{a:Mv}(ha:okM n a):okM n (invM a):=by
 obtain⟨at',ax,ay⟩:=a
 unfold okM invM at *
 simp only at *
 obtain⟨a1,a2⟩:=ha
 rcases t8 a1 with rfl|rfl|rfl|rfl|rfl|rfl|rfl|rfl<;>simp[mA,mB,mC,mD,invT]<;>omega
abbrev Ln:=Nat×Int
def ofM(l:Ln):Mv:=match l.1 with
 |1=>(4,2*l.2,0)
 |2=>(6,0,2*l.2)
 |3=>(5,l.2,l.2)
 |_=>(7,-l.2,l.2)
theorem tO{l:Ln}{n:Int}(h:-n<=l.2/\l.2<=n):okM (2*n) (ofM l):=by
 obtain⟨k,c⟩:=l
 unfold ofM okM
 simp only at h ⊢
 split<;>simp only<;>omega
theorem gW(l:Ln):(ofM l).1<8:=by
 unfold ofM
 split<;>simp
theorem nV(l:Ln):bm (ofM l) (ofM l)=idM:=by
 obtain⟨k,c⟩:=l
 unfold ofM bm idM
 simp only
 split<;>simp[mulT,mA,mB,mC,mD]<;>omega
abbrev Cl:=Int×Int×Nat
def lnC3(c:Cl)(e:Nat):Ln:=match e with
 |0=>(match c.2.2 with
  |0=>(2,c.2.1)
  |1=>(1,c.1+1)
  |2=>(2,c.2.1+1)
  |_=>(1,c.1))
 |1=>(3,c.1+c.2.1+1)
 |_=>(4,c.2.1 - c.1)
def nbC(c:Cl)(e:Nat):Cl:=match e with
 |0=>(match c.2.2 with
  |0=>(c.1,c.2.1 - 1,2)
  |1=>(c.1+1,c.2.1,3)
  |2=>(c.1,c.2.1+1,0)
  |_=>(c.1 - 1,c.2.1,1))
 |1=>(c.1,c.2.1,[1,0,3,2].getD c.2.2 0)
 |_=>(c.1,c.2.1,[3,2,1,0].getD c.2.2 0)
def qT(t q:Nat):Nat:=if t<4 then(q+t)%4 else([0,3,2,1].getD ((q+t)%4) 0+(if t%2=0 then 0 else 2))%4
def bn(m:Mv)(c:Cl):Cl:=(mA m.1*c.1+mB m.1*c.2.1+m.2.1 - (if mA m.1+mB m.1=1 then 0 else 1),mC m.1*c.1+mD m.1*c.2.1+m.2.2 - (if mC m.1+mD m.1=1 then 0 else 1),qT m.1 c.2.2)
def dS(l:Ln)(c:Cl):Bool:=match l.1 with
 |1=>decide (l.2<=c.1)
 |2=>decide (l.2<=c.2.1)
 |3=>decide (l.2<=c.1+c.2.1+(if c.2.2=1∨c.2.2=2 then 1 else 0))
 |_=>decide (l.2<=c.2.1 - c.1 - (if c.2.2=2∨c.2.2=3 then 0 else 1))
theorem part_ln{l:Ln}{c:Cl}{e:Nat}(hl:1<=l.1/\l.1<=4)(hq:c.2.2<4)(he:e<3)(h:dS l c≠dS l (nbC c e)):l=lnC3 c e:=by
 obtain⟨k,n⟩:=l
 obtain⟨x,y,q⟩:=c
 simp only at hl hq
 obtain rfl|rfl|rfl|rfl:q=0∨q=1∨q=2∨q=3:=by omega
 all_goals obtain rfl|rfl|rfl:e=0∨e=1∨e=2:=by omega
 all_goals obtain rfl|rfl|rfl|rfl:k=1∨k=2∨k=3∨k=4:=by omega
 all_goals
  simp[dS,nbC,lnC3]at h ⊢
 all_goals first|done|omega|(exfalso;omega)
def eT(t e:Nat):Nat:=if e=0 then 0 else if t%2=0/\t<4∨t=5∨t=7 then e else 3 - e
theorem move_nb{m:Mv}{c:Cl}{e:Nat}(hm:m.1<8)(hq:c.2.2<4)(he:e<3):bn m (nbC c e)=nbC (bn m c) (eT m.1 e):=by
 obtain⟨t,mx,my⟩:=m
 obtain⟨x,y,q⟩:=c
 simp only at hm hq
 rcases t8 hm with rfl|rfl|rfl|rfl|rfl|rfl|rfl|rfl
 all_goals obtain rfl|rfl|rfl|rfl:q=0∨q=1∨q=2∨q=3:=by omega
 all_goals obtain rfl|rfl|rfl:e=0∨e=1∨e=2:=by omega
 all_goals simp[bn,nbC,eT,qT,mA,mB,mC,mD]
 all_goals first|done|omega|(constructor<;>omega)
theorem move_ln{m:Mv}{c:Cl}{e:Nat}(hm:m.1<8)(hq:c.2.2<4)(he:e<3):bm m (ofM (lnC3 (bn m c) (eT m.1 e)))=bm (ofM (lnC3 c e)) m:=by
 obtain⟨t,mx,my⟩:=m
 obtain⟨x,y,q⟩:=c
 simp only at hm hq
 rcases t8 hm with rfl|rfl|rfl|rfl|rfl|rfl|rfl|rfl
 all_goals obtain rfl|rfl|rfl|rfl:q=0∨q=1∨q=2∨q=3:=by omega
 all_goals obtain rfl|rfl|rfl:e=0∨e=1∨e=2:=by omega
 all_goals simp[bn,eT,qT,mA,mB,mC,mD,bm,ofM,lnC3,mulT]
 all_goals first|done|omega|(constructor<;>omega)
theorem eT_lt{t e:Nat}(he:e<3):eT t e<3:=by
 unfold eT
 repeat' split
 all_goals omega
theorem qT_lt{t q:Nat}:qT t q<4:=by
 unfold qT
 split<;>omega
theorem part_fold{g:Mv}{l:Ln}{c:Cl}{e:Nat}(hg:g.1<8)(hl:1<=l.1/\l.1<=4)(hq:c.2.2<4)(he:e<3)(h:dS l (bn g c)≠dS l (bn g (nbC c e))):bm g (ofM l)=bm (ofM (lnC3 c e)) g:=by
 rw[move_nb hg hq he]at h
 have:=part_ln hl qT_lt (eT_lt he) h
 rw[this]
 exact move_ln hg hq he
theorem vc{g:Mv}{c:Cl}{e:Nat}(hg:g.1<8)(hq:c.2.2<4)(he:e<3):bn (bm (ofM (lnC3 c e)) g) (nbC c e)=bn g c:=by
 obtain⟨t,mx,my⟩:=g
 obtain⟨x,y,q⟩:=c
 simp only at hg hq
 rcases t8 hg with rfl|rfl|rfl|rfl|rfl|rfl|rfl|rfl
 all_goals obtain rfl|rfl|rfl|rfl:q=0∨q=1∨q=2∨q=3:=by omega
 all_goals obtain rfl|rfl|rfl:e=0∨e=1∨e=2:=by omega
 all_goals simp[bn,nbC,qT,mA,mB,mC,mD,bm,ofM,lnC3,mulT]
 all_goals first|done|omega|(constructor<;>omega)
end Go.Am
set_option maxRecDepth 100000
set_option maxHeartbeats 16000000
namespace Go.Am
open Sx Go.Proofs
def vL(f:FuncId)(ls rs:List Lf):Bool:=xY rs (runF 60 (.f f) ls .empty tell)
theorem lw{f:FuncId}{ls rs:List Lf}{sg:Sig}(h:vL f ls rs=true)(hs:ac f=some sg)(hp:sg.plain=true)(hg:fj ls=true):Cc f ls rs:=fE (n:=60) hs hp hg h
abbrev mvl(m:Mv):List Lf:=[.i (Int.ofNat m.1),.i m.2.1,.i m.2.2]
abbrev cll(c:Cl):List Lf:=[.i c.1,.i c.2.1,.i (Int.ofNat c.2.2)]
theorem mh{n:Int}(h:-16384<=n/\n<=16384):Cc 73 [.i n] [.b false]:=by
 refine q73 rfl ?_;unfold f73;simp only[qxh]
 repeat (first|simp(disch:=omega)only[↓qXX])
 try rfl
theorem mchk_c{t x y:Int}(ht:0<=t/\t<8)(hx:-16384<=x/\x<=16384)(hy:-16384<=y/\y<=16384)(hp:(x+y)%2=0):Cc 50 [.i t,.i x,.i y] [.i 0]:=by
 refine q50 rfl ?_;unfold f50;simp only[qxh]
 rcases qdc 0 (x+y)with hs|hs
 ·repeat (first|simp(disch:=omega)only[↓qXX]|refine ah (mh hx) ?_|refine ah (mh hy) ?_|rw[p_rem_nn hs (by omega)])
 ·have h0:-(-(x+y)%2)=0:=by omega
  repeat (first|simp(disch:=omega)only[↓qXX]|refine ah (mh hx) ?_|refine ah (mh hy) ?_|rw[p_rem_np hs (by omega)])
theorem vb{n:Int}{m:Mv}(h:okM n m)(hn:n<=16384):Cc 50 (mvl m) [.i 0]:=by
 obtain⟨h1,h2,h3,h4,h5,h6⟩:=h
 exact mchk_c ⟨qaT _,by show(m.1:Int)<8;omega⟩ (by omega) (by omega) h6
theorem wR{t:Nat}(h:t<8):lY gl0 0 [(Int.ofNat t,4)] 4=some [.int .i64 (mA t),.int .i64 (mB t),.int .i64 (mC t),.int .i64 (mD t)]:=by
 rcases t8 h with rfl|rfl|rfl|rfl|rfl|rfl|rfl|rfl<;>kernel_rfl
theorem inB_t{n t:Nat}(h:t<n):inB n (Int.ofNat t)=some ():=by
 show(match Nat.blt t n with
  |true=>some ()
  |false=>none)=some ()
 rw[show Nat.blt t n=true by rw[qaB];exact h]
theorem mof_c{t:Nat}(ht:t<8){x y:Int}(h:-200000<=x/\x<=200000/\-200000<=y/\y<=200000):Cc 80 [.i (mA t),.i (mB t),.i (mC t),.i (mD t),.i x,.i y] [.i (mA t*x+mB t*y),.i (mC t*x+mD t*y)]:=by
 rcases t8 ht with rfl|rfl|rfl|rfl|rfl|rfl|rfl|rfl
 all_goals
  simp only[mA,mB,mC,mD]
  refine q80 rfl ?_;unfold f80;simp only[qxh]
  repeat (first|simp(disch:=omega)only[↓qXX])
  (try simp only[qaX,Lf.i.injEq,and_true,true_and]);(try omega)
def thenT(s t:Nat):Bool:=vL 83 [.i (mA s),.i (mB s),.i (mC s),.i (mD s),.i (mA t),.i (mB t),.i (mC t),.i (mD t)] [.i (mA (mulT s t)),.i (mB (mulT s t)),.i (mC (mulT s t)),.i (mD (mulT s t))]
def numT(t:Nat):Bool:=vL 82 [.i (mA t),.i (mB t),.i (mC t),.i (mD t)] [.i (.ofNat t)]
theorem xu:((List.range 8).all λs=>numT s&&(List.range 8).all λt=>thenT s t)=true:=by kernel_rfl
theorem thenT_c{s t:Nat}(hs:s<8)(ht:t<8):Cc 83 [.i (mA s),.i (mB s),.i (mC s),.i (mD s),.i (mA t),.i (mB t),.i (mC t),.i (mD t)] [.i (mA (mulT s t)),.i (mB (mulT s t)),.i (mC (mulT s t)),.i (mD (mulT s t))]:=by
 have h:=qab.1 xu s (qad.2 hs)
 rw[qaa]at h
 exact lw (qab.1 h.2 t (qad.2 ht)) rfl (by kernel_rfl) rfl
theorem numT_c{t:Nat}(ht:t<8):Cc 82 [.i (mA t),.i (mB t),.i (mC t),.i (mD t)] [.i (.ofNat t)]:=by
 have h:=qab.1 xu t (qad.2 ht)
 rw[qaa]at h
 exact lw h.1 rfl (by kernel_rfl) rfl
theorem limited_c{m:Mv}{n:Int}(h:okM n m)(hn:n<=16384):Cc 81 (mvl m) (mvl m++[.i 0]):=by
 refine q81 rfl ?_;unfold f81;simp only[qxh]
 simp(disch:=omega)only[↓qXX]
 refine ah (vb h hn) ?_
 simp(disch:=omega)only[↓qXX]
 rfl
theorem then_c{a b:Mv}{n k:Int}(ha:okM n a)(hb:okM k b)(hn:0<=n/\0<=k/\n+k<=16384):Cc 53 (mvl a++mvl b) (mvl (bm a b)++[.i 0]):=by
 have h0:=iz ha hb
 refine q53 rfl ?_;unfold f53;simp only[qxh]
 simp only[mvl,qaL,qaF]
 simp(disch:=omega)only[↓qXX]
 refine ah (vb ha (by omega)) ?_
 simp(disch:=omega)only[↓qXX]
 refine ah (vb hb (by omega)) ?_
 simp(disch:=omega)only[↓qXX]
 refine au (inB_t hb.1) ?_
 refine au (wR hb.1) ?_
 simp(disch:=omega)only[↓qXX]
 refine ah (mof_c hb.1 ⟨by have:=ha.2;omega,by have:=ha.2;omega,by have:=ha.2;omega,by have:=ha.2;omega⟩) ?_
 simp(disch:=omega)only[↓qXX]
 refine au (inB_t ha.1) ?_
 refine au (wR ha.1) ?_
 simp(disch:=omega)only[↓qXX]
 refine au (inB_t hb.1) ?_
 refine au (wR hb.1) ?_
 simp(disch:=omega)only[↓qXX]
 refine ah (thenT_c ha.1 hb.1) ?_
 simp(disch:=omega)only[↓qXX]
 refine ah (numT_c kP) ?_
 simp(disch:=omega)only[↓qXX]
 have hz:∀z:Int,(-n<=z/\z<=n)∨True:=λ_=>.inr trivial
 obtain⟨h1,h2,h3,h4,h5,h6⟩:=h0
 unfold bm at h2 h3 h4 h5
 simp only at h2 h3 h4 h5
 rw[p_add (by omega) (by omega),p_add (by omega) (by omega)]
 refine ah (limited_c (m:=bm a b) ⟨h1,h2,h3,h4,h5,h6⟩ (by omega)) ?_
 simp only[mvl,qaL,qaF]
 simp(disch:=omega)only[↓qXX]
 rfl
theorem lchk_c{k c:Int}(hk:1<=k/\k<=4)(hc:-4096<=c/\c<=4096):Cc 72 [.i k,.i c] [.i 0]:=by
 refine q72 rfl ?_;unfold f72;simp only[qxh]
 repeat (first|simp(disch:=omega)only[↓qXX])
 try rfl
theorem of1_c{k c:Int}{m:Mv}(hk:1<=k/\k<=4)(hc:-4096<=c/\c<=4096)(hm:m=ofM (k.toNat,c)):Cc 69 [.i k,.i c] (mvl m++[.i 0]):=by
 subst hm
 obtain rfl|rfl|rfl|rfl:k=1∨k=2∨k=3∨k=4:=by omega
 all_goals
  refine q69 rfl ?_;unfold f69;simp only[qxh]
  repeat (first|simp(disch:=omega)only[↓qXX]|refine ah (lchk_c (by omega) (by omega)) ?_)
  simp[ofM]
theorem mlof_c{l:Ln}(hk:1<=l.1/\l.1<=4)(hc:-4096<=l.2/\l.2<=4096):Cc 69 [.i (Int.ofNat l.1),.i l.2] (mvl (ofM l)++[.i 0]):=
 of1_c (k:=Int.ofNat l.1) ⟨by show(1:Int)<=(l.1:Int);omega,by show(l.1:Int)<=4;omega⟩ hc rfl
theorem pchk_c{x y:Int}(h:-65536<=x/\x<=65536/\-65536<=y/\y<=65536):Cc 70 [.i x,.i y] [.i 0]:=by
 refine q70 rfl ?_;unfold f70;simp only[qxh]
 repeat (first|simp(disch:=omega)only[↓qXX])
 try rfl
def ptM(m:Mv)(x y:Int):Int×Int:=(mA m.1*x+mB m.1*y+2*m.2.1,mC m.1*x+mD m.1*y+2*m.2.2)
theorem uW{t:Nat}(ht:t<8){n x y:Int}(h:-n<=x/\x<=n/\-n<=y/\y<=n):-n<=mA t*x+mB t*y/\mA t*x+mB t*y<=n/\-n<=mC t*x+mD t*y/\mC t*x+mD t*y<=n:=by
 rcases t8 ht with rfl|rfl|rfl|rfl|rfl|rfl|rfl|rfl<;>simp only[mA,mB,mC,mD]<;>omega
theorem point_c{m:Mv}(hm:okM 8000 m){x y:Int}(h:-8000<=x/\x<=8000/\-8000<=y/\y<=8000):Cc 104 (mvl m++[.i x,.i y]) [.i (ptM m x y).1,.i (ptM m x y).2,.i 0]:=by
 have hr:=uW hm.1 h
 have hm2:=hm.2
 refine q104 rfl ?_;unfold f104;simp only[qxh]
 simp only[mvl,qaL,qaF]
 simp(disch:=omega)only[↓qXX]
 refine ah (vb hm (by omega)) ?_
 simp(disch:=omega)only[↓qXX]
 refine ah (pchk_c (by omega)) ?_
 simp(disch:=omega)only[↓qXX]
 refine au (inB_t hm.1) ?_
 refine au (wR hm.1) ?_
 simp(disch:=omega)only[↓qXX]
 refine ah (mof_c hm.1 (by omega)) ?_
 simp(disch:=omega)only[↓qXX]
 refine ah (pchk_c (by omega)) ?_
 simp(disch:=omega)only[↓qXX]
 rfl
theorem cchk_c{c:Cl}(h:-4096<=c.1/\c.1<=4096/\-4096<=c.2.1/\c.2.1<=4096/\c.2.2<4):Cc 84 (cll c) [.i 0]:=by
 have hq:(Int.ofNat c.2.2)<=3:=by show(c.2.2:Int)<=3;omega
 refine q84 rfl ?_;unfold f84;simp only[qxh]
 repeat (first|simp(disch:=omega)only[↓qXX])
 try rfl
theorem middle_c{x y q:Int}(h:-1000000<=x/\x<=1000000/\-1000000<=y/\y<=1000000):Cc 103 [.i x,.i y,.i q] [.i (2*x+1),.i (2*y+1)]:=by
 refine q103 rfl ?_;unfold f103;simp only[qxh]
 repeat (first|simp(disch:=omega)only[↓qXX])
 (try simp only[qaX,Lf.i.injEq,and_true,true_and]);(try omega)
def sdX(q:Nat):Int:=[0,1,0,-1].getD q 0
def sdY(q:Nat):Int:=[-1,0,1,0].getD q 0
theorem pick_q{q:Nat}(h:q<4):lY gl1 0 [(Int.ofNat q,17)] 2=some [.int .i64 (sdX q),.int .i64 (sdY q)]:=by
 obtain rfl|rfl|rfl|rfl:q=0∨q=1∨q=2∨q=3:=by omega
 all_goals kernel_rfl
theorem moved_c{m:Mv}(hm:okM 3000 m){c:Cl}(hc:-1000<=c.1/\c.1<=1000/\-1000<=c.2.1/\c.2.1<=1000/\c.2.2<4):Cc 85 (mvl m++cll c) (cll (bn m c)):=by
 obtain⟨t,mx,my⟩:=m
 obtain⟨x,y,q⟩:=c
 have hm0:okM 3000 (t,0,0):=⟨hm.1,by simp,by simp,by simp,by simp,by simp⟩
 have hp1:=point_c (cu hm (by omega)) (x:=2*x+1) (y:=2*y+1) (by simp only at hc;omega)
 have hp2:=point_c (cu hm0 (by omega)) (x:=sdX q) (y:=sdY q) (by
  have hq:q<4:=hc.2.2.2.2
  obtain rfl|rfl|rfl|rfl:q=0∨q=1∨q=2∨q=3:=by omega
  all_goals simp[sdX,sdY])
 obtain⟨X,hX⟩ : ∃X,(ptM (t,mx,my) (2*x+1) (2*y+1)).1=X:=⟨_,rfl⟩
 obtain⟨Y,hY⟩ : ∃Y,(ptM (t,mx,my) (2*x+1) (2*y+1)).2=Y:=⟨_,rfl⟩
 obtain⟨U,hU⟩ : ∃U,(ptM (t,0,0) (sdX q) (sdY q)).1=U:=⟨_,rfl⟩
 obtain⟨V,hV⟩ : ∃V,(ptM (t,0,0) (sdX q) (sdY q)).2=V:=⟨_,rfl⟩
 rw[hX,hY]at hp1
 rw[hU,hV]at hp2
 have hm':=hm.2
 have ht:t<8:=hm.1
 have hq:q<4:=hc.2.2.2.2
 simp only at hm' hc
 refine q85 rfl ?_;unfold f85;simp only[qxh]
 simp only[mvl,cll,qaL,qaF]
 simp(disch:=omega)only[↓qXX]
 refine ah (middle_c (by omega)) ?_
 simp(disch:=omega)only[↓qXX]
 refine au (inB_t hq) ?_
 refine au (pick_q hq) ?_
 simp(disch:=omega)only[↓qXX]
 refine ah hp1 ?_
 simp(disch:=omega)only[↓qXX]
 refine ah hp2 ?_
 simp(disch:=omega)only[↓qXX]
 rcases t8 ht with rfl|rfl|rfl|rfl|rfl|rfl|rfl|rfl
 all_goals obtain rfl|rfl|rfl|rfl:q=0∨q=1∨q=2∨q=3:=by omega
 all_goals
  simp[ptM,mA,mB,mC,mD,sdX,sdY]at hX hY hU hV
  subst hU hV
  repeat (first|simp(disch:=omega)only[↓qXX]|refine au (by simp only[cF,putL,offX,Int.reduceToNat,Int.reduceAdd,Int.reduceMul,Int.reduceMod,Int.reduceSub,Int.reduceNeg,Int.reduceDiv,Nat.reduceAdd,Nat.reduceMul,Nat.reduceLeDiff,qaE,qbw,↓reduceIte,qbK,qa7,qbx,qb8,qaL,qaF,qaM,qcS,qbH,qce,qcV];exact rfl) ?_|refine p_loop 6 ?_)
  try simp[bn,mA,mB,mC,mD,qT]
  try omega
set_option maxHeartbeats 4000000
abbrev Crs:=Int×Int×Int
def encC(c:Crs):List Value:=[.int .i64 c.1,.int .u8 c.2.1,.int .u8 c.2.2]
def okC(c:Crs):Prop:=-9223372036854775808<=c.1/\c.1<=9223372036854775807/\0<=c.2.1/\c.2.1<=255/\0<=c.2.2/\c.2.2<=255
def isK(c:Crs):Bool:=decide (1<=c.2.2)&&decide (c.2.2<=3)
theorem isKind_c(k:Int):Cc 42 [.i k] [.b (decide (1<=k)&&decide (k<=3))]:=by
 refine q42 rfl ?_;unfold f42;simp only[qxh]
 by_cases h1:1<=k
 ·by_cases h2:k<=3
  ·simp(disch:=omega)only[↓qXX];simp[h1,h2]
  ·simp(disch:=omega)only[↓qXX];simp[h1,h2]
 ·simp(disch:=omega)only[↓qXX];simp[h1]
theorem chk1_c(c:Crs):Cc 41 [.i c.1,.i c.2.1,.i c.2.2] [.b (!isK c)]:=by
 refine q41 rfl ?_;unfold f41;simp only[qxh]
 simp(disch:=omega)only[↓qXX]
 refine ah (isKind_c c.2.2) ?_
 simp(disch:=omega)only[↓qXX]
 simp[isK]
abbrev clo1:Value:=.func (.func 41) ⟨[]⟩ ⟨[]⟩
theorem good1:bf clo1=true:=rfl
theorem index_c{h:HL}{x:Value}{l:List Crs}(hl:LsH h x 3 encC l)(hn:l.length<=4294967296):∃n:Int,aF cc ac 60 [.v x,.v clo1] (absH aa h) [.i n] (absH aa h)/\(0<=n↔∃c∈l,isK c=false):=by
 obtain⟨rs,h',h1,n,rfl,rfl,h2⟩:=x60 (K:=λrs h'=>∃n:Int,rs=[.i n]/\h'=h/\(0<=n↔∃c∈l,isK c=false)) (H:=h) (glsV hl.good (glsV good1 gls0)) (by
  unfold f60;simp only[qxh]
  simp(disch:=omega)only[↓qXX]
  refine dI hl ?_
  refine uY l.length (λj=>∀i,i<j->∀c,l[i]? = some c->isK c=true) rfl (qbh _) (λi hi=>absurd hi (qcm _)) ?_
  intro j hj hi self hself
  simp(disch:=omega)only[↓qXX]
  by_cases hlt:j<l.length
  ·have e1:Int.ofNat j<Int.ofNat l.length:=by show(j:Int)<l.length;omega
   rw[p_lss_t e1]
   simp(disch:=omega)only[↓qXX]
   obtain⟨c,hc⟩ : ∃c,l[j]? = some c:=⟨_,qau hlt⟩
   refine cI hl rfl hc ?_
   unfold encC
   simp(disch:=omega)only[↓qXX]
   refine jh (mm (chk1_c c _) rfl [.agg [.i .i64 c.1,.i .u8 c.2.1,.i .u8 c.2.2]] rfl rfl) ?_
   simp(disch:=omega)only[↓qXX]
   cases hk:isK c with
   |true=>
    show P1.cond false _ _
    simp(disch:=omega)only[↓qXX]
    rw[p_add (by show -9223372036854775808<=(j:Int)+1;omega) (by show(j:Int)+1<=9223372036854775807;omega)]
    refine hself hlt λi hi' c' hc'=>?_
    rcases qay i j with h|h
    ·exact hi i h c' hc'
    ·obtain rfl:i=j:=by omega
     rw[hc]at hc';cases hc';exact hk
   |false=>
    show P1.cond true _ _
    simp(disch:=omega)only[↓qXX]
    exact⟨_,rfl,by trivial,λ_=>⟨c,qag hc,hk⟩,λ_=>qaT j⟩
  ·have e1:Int.ofNat l.length<=Int.ofNat j:=by show(l.length:Int)<=j;omega
   rw[p_lss_f e1]
   simp(disch:=omega)only[↓qXX]
   refine⟨_,rfl,by trivial,λh=>by omega,λ⟨c,hc,hk⟩=>?_⟩
   obtain⟨i,hi'⟩:=qa1 hc
   have hlt':i<l.length:=by
    rcases qay i l.length with h|h
    ·exact h
    ·rw[qai h]at hi';cases hi'
   rw[hi i (by omega) c hi']at hk
   cases hk)
 exact⟨n,h1,h2⟩
theorem xP{h:HL}{x:Value}{l:List Crs}(hl:LsH h x 3 encC l)(hn:l.length<=4294967296):aF cc ac 40 [.v x,.v clo1] (absH aa h) [.b (!l.all isK)] (absH aa h):=by
 obtain⟨n,h1,h2⟩:=index_c hl hn
 obtain⟨rs,h',h3,rfl,rfl⟩:=x40 (K:=λrs h'=>rs=[.b (!l.all isK)]/\h'=h) (H:=h) (glsV hl.good (glsV good1 gls0)) (by
  unfold f40;simp only[qxh]
  simp(disch:=omega)only[↓qXX]
  refine aE h1 ?_
  simp(disch:=omega)only[↓qXX]
  cases hb:l.all isK with
  |true=>
   have:¬0<=n:=λh=>by
    obtain⟨c,hc,hk⟩:=h2.1 h
    rw[qab.1 hb c hc]at hk;cases hk
   simp(disch:=omega)only[↓qXX]
   exact⟨by trivial,by trivial⟩
  |false=>
   have:0<=n:=h2.2 (by
    obtain⟨c,hc,hk⟩:=List.all_eq_false.1 hb
    exact⟨c,hc,by simpa using hk⟩)
   simp(disch:=omega)only[↓qXX]
   exact⟨by trivial,by trivial⟩)
 exact h3
def nbr(w v c e:Nat):Option Nat:=
 match e,c%4 with
 |0,0=>if 0<c / 4 / w then some (c+2 - 4*w)else none
 |0,1=>if c / 4%w+1<w then some (c+6)else none
 |0,2=>if c / 4 / w+1<v then some (c+4*w - 2)else none
 |0,_=>if 0<c / 4%w then some (c - 6)else none
 |1,0=>some (c+1)
 |1,1=>some (c - 1)
 |1,2=>some (c+1)
 |1,_=>some (c - 1)
 |2,0=>some (c+3)
 |2,1=>some (c+1)
 |2,2=>some (c - 1)
 |2,_=>some (c - 3)
 |_,_=>none
def nameN(w v c e:Nat):List Lf:=match nbr w v c e with
 |some n=>[.i (.ofNat (min c n)),.i (.ofNat e),.i 0]
 |none=>[.i 0,.i 0,.i 7]
def cellN(w c:Nat):List Lf:=[.i (.ofNat (c / 4%w)),.i (.ofNat (c / 4 / w)),.i (.ofNat (c%4)),.i 0]
def tabName(w v:Nat):Bool:=(List.range (4*w*v)).all λc=>(List.range 3).all λe=>xY (nameN w v c e) (runF 60 (.f 43) [.i (.ofNat w),.i (.ofNat v),.i (.ofNat c),.i (.ofNat e)] .empty tell)
def tabCell(w v:Nat):Bool:=(List.range (4*w*v)).all λc=>xY (cellN w c) (runF 60 (.f 52) [.i (.ofNat w),.i (.ofNat v),.i (.ofNat c)] .empty tell)
def aj(w v:Nat):List (Nat×Nat):=(List.range (4*w*v)).flatMap λc=>(List.range 3).filterMap λe=>match nbr w v c e with
 |some n=>if c<n then some (c,e)else none
 |none=>none
def encU(u:Nat×Nat):List Value:=[.int .i64 (.ofNat u.1),.int .u8 (.ofNat u.2)]
def sb(w v:Nat):Bool:=match runF 60 (.f 5) [.i (.ofNat w),.i (.ofNat v)] .empty (λrs h=>match rs with
   | .v x :: r=>ans (eqLs r []&&isSl h x 2 (aj w v).length ((aj w v).flatMap encU))
   |_=>none)with
 |some []=>true
 |_=>false
def ltN(a b:Nat×Nat):Bool:=Nat.blt a.1 b.1||(Nat.beq a.1 b.1&&Nat.blt a.2 b.2)
def ascN:List (Nat×Nat)->Bool
 |a :: b :: l=>ltN a b&&ascN (b :: l)
 |_=>true
def tab5(w v:Nat):Bool:=tabName w v&&(tabCell w v&&(sb w v&&(ascN (aj w v)&&Nat.ble (aj w v).length 1000)))
theorem io:∀w v:Nat,1<=w->w<=5->1<=v->v<=5->tab5 w v=true:=by
 have key:((List.range 5).all λw=>(List.range 5).all λv=>tab5 (w+1) (v+1))=true:=by kernel_rfl
 intro w v h1 h2 h3 h4
 have h5:=qab.1 key (w - 1) (qad.2 (by omega))
 have h6:=qab.1 h5 (v - 1) (qad.2 (by omega))
 have e1:w - 1+1=w:=by omega
 have e2:v - 1+1=v:=by omega
 rw[e1,e2]at h6
 exact h6
theorem nbr_ne{w v c e n:Nat}(hw:1<=w)(h:nbr w v c e=some n):n≠c:=by
 have hx:c / 4%w<=c / 4:=qdM _ _
 have hy:c / 4 / w<=c / 4:=qc8 _ _
 have hq:c%4=0∨c%4=1∨c%4=2∨c%4=3:=by omega
 rcases e with _|_|_|e<;>rcases hq with h1|h1|h1|h1<;>simp only[nbr,h1]at h<;>
  first
  |(split at h<;>first|(simp only[qat]at h;omega)|(cases h;done))
  |(simp only[qat]at h;omega)
  |(cases h;done)
theorem im{w v:Nat}(h:tab5 w v=true):tabName w v=true/\tabCell w v=true/\sb w v=true/\ascN (aj w v)=true/\(aj w v).length<=1000:=by
 unfold tab5 at h
 simp only[qaa,qbb]at h
 exact h
theorem nameIn{w v:Nat}(ht:tab5 w v=true){c e:Nat}(hc:c<4*w*v)(he:e<3):Cc 43 [.i (.ofNat w),.i (.ofNat v),.i (.ofNat c),.i (.ofNat e)] (nameN w v c e):=by
 have h1:=qab.1 (im ht).1 c (qad.2 hc)
 exact fE (n:=60) rfl (by kernel_rfl) rfl (qab.1 h1 e (qad.2 he))
theorem cellIn{w v:Nat}(ht:tab5 w v=true){c:Nat}(hc:c<4*w*v):Cc 52 [.i (.ofNat w),.i (.ofNat v),.i (.ofNat c)] (cellN w c):=
 fE (n:=60) rfl (by kernel_rfl) rfl (qab.1 (im ht).2.1 c (qad.2 hc))
def valS(w v:Int):Prop:=1<=w/\1<=v/\w<=256/\v<=256/\w*v<=256
instance (w v : Int) : Decidable (valS w v) := by unfold valS; infer_instance
theorem mul_bd{w v a b:Int}(h:0<=w/\w<=a/\0<=v/\v<=b):0<=w*v/\w*v<=a*b:=
 ⟨Int.mul_nonneg h.1 h.2.2.1,Int.mul_le_mul h.2.1 h.2.2.2 h.2.2.1 (by omega)⟩
theorem shCheck(w v:Int):Cc 39 [.i w,.i v] [.i (if valS w v then 0 else 1)]:=by
 refine q39 rfl ?_;unfold f39;simp only[qxh]
 by_cases h1:1<=w
 ·by_cases h2:1<=v
  ·by_cases h3:w<=256
   ·by_cases h4:v<=256
    ·have hm:=mul_bd (w:=w) (v:=v) (a:=256) (b:=256) (by omega)
     by_cases h5:w*v<=256
     ·simp(disch:=omega)only[↓qXX];simp[valS,h1,h2,h3,h4,h5]
     ·simp(disch:=omega)only[↓qXX];simp[valS,h5]
    ·simp(disch:=omega)only[↓qXX];simp[valS,h4]
   ·simp(disch:=omega)only[↓qXX];simp[valS,h3]
  ·simp(disch:=omega)only[↓qXX];simp[valS,h2]
 ·simp(disch:=omega)only[↓qXX];simp[valS,h1]
theorem lu{w v:Int}(h:valS w v):Cc 39 [.i w,.i v] [.i 0]:=by
 have:=shCheck w v;rw[if_pos h]at this;exact this
def smS(w v:Int):Prop:=1<=w/\w<=5/\1<=v/\v<=5
theorem vD{w v:Int}(h:smS w v):valS w v:=by
 unfold smS at h;have:=mul_bd (w:=w) (v:=v) (a:=5) (b:=5) (by omega);unfold valS;omega
theorem sm4{w v:Int}(h:smS w v):4<=4*w*v/\4*w*v<=100:=by
 unfold smS at h
 have h1:=mul_bd (w:=4*w) (v:=v) (a:=20) (b:=5) (by omega)
 have h2:4*w<=4*w*v:=by
  have:=Int.mul_le_mul_of_nonneg_left h.2.2.1 (show 0<=4*w by omega)
  rw[Int.mul_one]at this;exact this
 omega
theorem has_c{w v:Int}(h:smS w v)(c:Int):Cc 78 [.i w,.i v,.i c] [.b (decide (0<=c)&&decide (c<4*w*v))]:=by
 have h4:=sm4 h
 unfold smS at h
 refine q78 rfl ?_;unfold f78;simp only[qxh]
 by_cases h1:0<=c
 ·by_cases h2:c<4*w*v
  ·simp(disch:=omega)only[↓qXX];simp[h1,h2]
  ·simp(disch:=omega)only[↓qXX];simp[h1,h2]
 ·simp(disch:=omega)only[↓qXX];simp[h1]
theorem yr{w v c:Int}(h:smS w v)(hc:¬(0<=c/\c<4*w*v)):Cc 52 [.i w,.i v,.i c] [.i 0,.i 0,.i 0,.i 7]:=by
 refine q52 rfl ?_;unfold f52;simp only[qxh]
 simp(disch:=omega)only[↓qXX]
 refine ah (lu (vD h)) ?_
 simp(disch:=omega)only[↓qXX]
 have e:(decide (0<=c)&&decide (c<4*w*v))=false:=by simp;omega
 refine ah (e▸has_c h c) ?_
 simp(disch:=omega)only[↓qXX,qbp]
theorem vC{w v c e:Int}(h:smS w v)(hc:¬(0<=c/\c<4*w*v)):Cc 61 [.i w,.i v,.i c,.i e] [.i 0,.i 7]:=by
 refine q61 rfl ?_;unfold f61;simp only[qxh]
 simp(disch:=omega)only[↓qXX]
 refine ah (yr h hc) ?_
 simp(disch:=omega)only[↓qXX]
theorem yu{w v c e:Int}(h:smS w v)(hc:¬(0<=c/\c<4*w*v)):Cc 43 [.i w,.i v,.i c,.i e] [.i 0,.i 0,.i 7]:=by
 refine q43 rfl ?_;unfold f43;simp only[qxh]
 simp(disch:=omega)only[↓qXX]
 refine ah (vC h hc) ?_
 simp(disch:=omega)only[↓qXX]
theorem sJ{x y q:Int}(h:-4096<=x/\x<=4096/\-4096<=y/\y<=4096/\q<=3):Cc 84 [.i x,.i y,.i q] [.i 0]:=by
 refine q84 rfl ?_;unfold f84;simp only[qxh]
 simp(disch:=omega)only[↓qXX]
theorem oP{x y q e:Int}(h:-4096<=x/\x<=4096/\-4096<=y/\y<=4096/\q<=3)(he:2<e):Cc 92 [.i x,.i y,.i q,.i e] [.i 0,.i 0,.i 0,.i 1]:=by
 refine q92 rfl ?_;unfold f92;simp only[qxh]
 simp(disch:=omega)only[↓qXX]
 refine ah (sJ h) ?_
 simp(disch:=omega)only[↓qXX]
theorem toNat2{w v:Int}(h:smS w v):∃a b:Nat,w = .ofNat a/\v = .ofNat b/\1<=a/\a<=5/\1<=b/\b<=5:=by
 unfold smS at h
 obtain⟨a,rfl⟩:=qb7 (show 0<=w by omega)
 obtain⟨b,rfl⟩:=qb7 (show 0<=v by omega)
 exact⟨a,b,rfl,rfl,by omega,by omega,by omega,by omega⟩
theorem lt_nat{a b c:Nat}(h:(c:Int)<4*(a:Int)*(b:Int)):c<4*a*b:=by
 have:(4*(a:Int)*(b:Int))=((4*a*b:Nat):Int):=by simp
 rw[this]at h;omega
theorem uj{w v c e:Int}(h:smS w v)(hc:0<=c/\c<4*w*v)(he:2<e):Cc 61 [.i w,.i v,.i c,.i e] [.i 0,.i 1]:=by
 have h4:=sm4 h
 obtain⟨a,b,rfl,rfl,ha⟩:=toNat2 h
 obtain⟨k,rfl⟩:=qb7 hc.1
 have hk:k<4*a*b:=lt_nat hc.2
 have hk2:4*a*b<=100:=by
  have:(4*(a:Int)*(b:Int))=((4*a*b:Nat):Int):=by simp
  have h5:=h4.2
  change 4*(a:Int)*(b:Int)<=100 at h5
  rw[this]at h5;omega
 refine q61 rfl ?_;unfold f61;simp only[qxh]
 simp(disch:=omega)only[↓qXX]
 refine ah (cellIn (io a b ha.1 ha.2.1 ha.2.2.1 ha.2.2.2) hk) ?_
 unfold cellN
 simp(disch:=omega)only[↓qXX]
 have h1:k / 4%a<=k / 4:=qdM _ _
 have h2:k / 4 / a<=k / 4:=qc8 _ _
 have h3:(0:Int)<=((k / 4 / a:Nat):Int):=qaT _
 have h5:(0:Int)<=((k / 4%a:Nat):Int):=qaT _
 refine ah (oP (x:=Int.ofNat (k / 4%a)) (y:=Int.ofNat (k / 4 / a)) (q:=Int.ofNat (k%4)) (by simp only[qap];omega) he) ?_
 simp(disch:=omega)only[↓qXX]
theorem vB{w v c e:Int}(h:smS w v)(hc:0<=c/\c<4*w*v)(he:2<e):Cc 43 [.i w,.i v,.i c,.i e] [.i 0,.i 0,.i 1]:=by
 refine q43 rfl ?_;unfold f43;simp only[qxh]
 simp(disch:=omega)only[↓qXX]
 refine ah (uj h hc he) ?_
 simp(disch:=omega)only[↓qXX]
def isUn(w v c e:Int):Bool:=decide (0<=c)&&decide (c<4*w*v)&&decide (e<=2)&&(match nbr w.toNat v.toNat c.toNat e.toNat with
 |some n=>Nat.blt c.toNat n
 |none=>false)
theorem name_c{w v c e:Int}(h:smS w v)(he:0<=e):∃a b r:Int,Cc 43 [.i w,.i v,.i c,.i e] [.i a,.i b,.i r]/\(isUn w v c e=true↔r=0/\a=c/\b=e):=by
 by_cases hc:0<=c/\c<4*w*v
 ·by_cases h2:e<=2
  ·obtain⟨a,b,rfl,rfl,ha⟩:=toNat2 h
   obtain⟨k,rfl⟩:=qb7 hc.1
   obtain⟨j,rfl⟩:=qb7 he
   have hk:k<4*a*b:=lt_nat hc.2
   have hn:=nameIn (io a b ha.1 ha.2.1 ha.2.2.1 ha.2.2.2) hk (e:=j) (by omega)
   unfold nameN at hn
   cases e:nbr a b k j with
   |none=>
    rw[e]at hn
    refine⟨_,_,_,hn,?_⟩
    have:isUn (.ofNat a) (.ofNat b) (k:Int) (j:Int)=false:=by
     unfold isUn
     have e':nbr (Int.ofNat a).toNat (Int.ofNat b).toNat (k:Int).toNat (j:Int).toNat=none:=e
     rw[e'];simp
    rw[this]
    simp
   |some n=>
    rw[e]at hn
    refine⟨_,_,_,hn,?_⟩
    have hne:=nbr_ne ha.1 e
    have e':nbr (Int.ofNat a).toNat (Int.ofNat b).toNat (k:Int).toNat (j:Int).toNat=some n:=e
    unfold isUn
    rw[e']
    simp only[qaa,decide_eq_true_eq,qaB,qcQ]
    constructor
    ·rintro⟨_,h3⟩
     exact⟨by trivial,by show((min k n:Nat):Int)=k;omega,by trivial⟩
    ·rintro⟨_,h3,_⟩
     have h3:((min k n:Nat):Int)=k:=h3
     exact⟨⟨⟨hc.1,hc.2⟩,h2⟩,by omega⟩
  ·refine⟨_,_,_,vB h hc (by omega),?_⟩
   have:isUn w v c e=false:=by unfold isUn;simp[h2]
   rw[this];simp
 ·refine⟨_,_,_,yu h hc,?_⟩
  have:isUn w v c e=false:=by
   unfold isUn
   have:(decide (0<=c)&&decide (c<4*w*v))=false:=by simp;omega
   rw[this];simp
  rw[this];simp
theorem wv{w v c e:Int}(h:isUn w v c e=true):0<=c/\c<4*w*v/\e<=2:=by
 unfold isUn at h
 simp only[qaa,decide_eq_true_eq]at h
 exact⟨h.1.1.1,h.1.1.2,h.1.2⟩
def ltC(a b:Crs):Bool:=decide (a.1<b.1)||(decide (a.1=b.1)&&decide (a.2.1<b.2.1))
def ascC:List Crs->Bool
 |a :: b :: l=>ltC a b&&ascC (b :: l)
 |_=>true
theorem jv:∀ {l:List Crs},ascC l=true↔∀(i:Nat) a b,l[i]? = some a->l[i+1]? = some b->ltC a b=true
 | []=>by simp[ascC]
 | [a]=>by simp[ascC]
 |a :: b :: l=>by
  simp only[ascC,qaa]
  rw[jv (l:=b :: l)]
  constructor
  ·rintro⟨h1,h2⟩ i x y hx hy
   cases i with
   |zero=>
    simp only[qbi,qat,qbP]at hx hy
    subst hx hy;exact h1
   |succ i=>exact h2 i x y (by simpa using hx) (by simpa using hy)
  ·intro h
   exact⟨h 0 a b rfl rfl,λi x y hx hy=>h (i+1) x y (by simpa using hx) (by simpa using hy)⟩
def unC(w v:Int)(c:Crs):Bool:=isUn w v c.1 c.2.1
def chkC(w v:Int)(l:List Crs):Int:=if l.all isK=false then 1 else if l.all (unC w v)=false then 7 else if ascC l=true then 0 else 6
theorem xB(c:Crs):Cc 44 [.i c.1,.i c.2.1,.i c.2.2] [.i c.1,.i c.2.1]:=by
 refine q44 rfl ?_;unfold f44;simp only[qxh]
 simp(disch:=omega)only[↓qXX]
theorem order_c{a b:Crs}(h:0<=a.1/\a.1<=1000/\0<=b.1/\b.1<=1000/\0<=a.2.1/\a.2.1<=255/\0<=b.2.1/\b.2.1<=255):∃d:Int,Cc 45 [.i a.1,.i a.2.1,.i b.1,.i b.2.1] [.i d]/\(d<0↔ltC a b=true):=by
 by_cases h1:a.1=b.1
 ·refine⟨a.2.1 - b.2.1,?_,by simp only[ltC,qaG,qaa,decide_eq_true_eq];omega⟩
  refine q45 rfl ?_;unfold f45;simp only[qxh]
  simp(disch:=omega)only[↓qXX]
 ·refine⟨a.1 - b.1,?_,by simp only[ltC,qaG,qaa,decide_eq_true_eq];omega⟩
  refine q45 rfl ?_;unfold f45;simp only[qxh]
  simp(disch:=omega)only[↓qXX]
theorem check_c{w v:Int}(hs:smS w v){h:HL}{x:Value}{l:List Crs}(hl:LsH h x 3 encC l)(hk:∀c∈l,okC c)(hn:l.length<=4294967296) :
  aF cc ac 20 [.i w,.i v,.v x] (absH aa h) [.i (chkC w v l)] (absH aa h):=by
 obtain⟨rs,h',h3,rfl,rfl⟩:=x20 (K:=λrs h'=>rs=[.i (chkC w v l)]/\h'=h) (H:=h) (glsI (glsI (glsV hl.good gls0))) (by
  unfold f20;simp only[qxh]
  simp(disch:=omega)only[↓qXX]
  refine ah (lu (vD hs)) ?_
  simp(disch:=omega)only[↓qXX]
  refine aE (xP hl hn) ?_
  simp(disch:=omega)only[↓qXX]
  cases hb:l.all isK with
  |false=>
   simp(disch:=omega)only[↓qXX,qbp]
   exact⟨by simp[chkC,hb],by trivial⟩
  |true=>
   simp(disch:=omega)only[↓qXX,qaJ]
   refine dI hl ?_
   refine uY l.length (λj=>∀i,i<j->∀c,l[i]? = some c->unC w v c=true) rfl (qbh _) (λi hi=>absurd hi (qcm _)) ?_
   intro j hj hi self hself
   simp(disch:=omega)only[↓qXX]
   by_cases hlt:j<l.length
   ·rw[cr hlt]
    simp(disch:=omega)only[↓qXX]
    obtain⟨c,hc⟩:=bi hlt
    have hmem:=qag hc
    have hok:=hk c hmem
    unfold okC at hok
    have bad:unC w v c=false->chkC w v l=7:=λhu=>by
     have:l.all (unC w v)=false:=List.all_eq_false.2 ⟨c,hmem,by simp[hu]⟩
     simp[chkC,hb,this]
    refine cI hl rfl hc ?_
    unfold encC
    simp(disch:=omega)only[↓qXX]
    obtain⟨a,b,r,hnm,hiff⟩:=name_c (c:=c.1) (e:=c.2.1) hs (by omega)
    refine ah hnm ?_
    simp(disch:=omega)only[↓qXX]
    by_cases hr:r=0
    ·subst hr
     simp(disch:=omega)only[↓qXX]
     refine ah (xB c) ?_
     simp(disch:=omega)only[↓qXX]
     by_cases hab:a=c.1/\b=c.2.1
     ·have hu:unC w v c=true:=hiff.2 ⟨rfl,hab.1,hab.2⟩
      simp(disch:=omega)only[↓qXX,qaJ]
      rw[fe (by omega)]
      refine hself hlt λi hi' c' hc'=>?_
      rcases qay i j with h|h
      ·exact hi i h c' hc'
      ·obtain rfl:i=j:=by omega
       rw[hc]at hc';cases hc';exact hu
     ·have hu:unC w v c=false:=by
       rw[←qaK];intro hu
       have:=hiff.1 hu
       exact hab ⟨this.2.1,this.2.2⟩
      rw[p_eqs2_f hab]
      simp(disch:=omega)only[↓qXX,qbp]
      exact⟨by rw[bad hu],by trivial⟩
    ·have hu:unC w v c=false:=by
      rw[←qaK];intro hu
      exact hr (hiff.1 hu).1
     simp(disch:=omega)only[↓qXX]
     exact⟨by rw[bad hu],by trivial⟩
   ·obtain rfl:j=l.length:=by omega
    rw[cK (qaz _)]
    simp(disch:=omega)only[↓qXX]
    have hu:l.all (unC w v)=true:=qab.2 λc hc=>by
     obtain⟨i,hi'⟩:=qa1 hc
     exact hi i (aM hi') c hi'
    refine uY (j0:=1) (max 1 l.length) (λj=>1<=j/\∀(i:Nat) a b,i+1<j->l[i]? = some a->l[i+1]? = some b->ltC a b=true) rfl (qcG _ _) ⟨qaz _,λi a b hi=>by omega⟩ ?_
    intro j hj' ⟨h1,hi2⟩ self hself
    simp(disch:=omega)only[↓qXX]
    refine dI hl ?_
    by_cases hlt:j<l.length
    ·rw[cr hlt]
     simp(disch:=omega)only[↓qXX]
     rw[n_sub h1 (by omega)]
     obtain⟨c,hc⟩:=bi (l:=l) (i:=j - 1) (by omega)
     obtain⟨d,hd⟩:=bi hlt
     have hc1:=hk c (qag hc)
     have hd1:=hk d (qag hd)
     have hc2:=wv (qab.1 hu c (qag hc))
     have hd2:=wv (qab.1 hu d (qag hd))
     have h4:=sm4 hs
     unfold okC at hc1 hd1
     refine cI hl rfl hc ?_
     unfold encC
     simp(disch:=omega)only[↓qXX]
     refine ah (xB c) ?_
     simp(disch:=omega)only[↓qXX]
     refine cI hl rfl hd ?_
     unfold encC
     simp(disch:=omega)only[↓qXX]
     refine ah (xB d) ?_
     simp(disch:=omega)only[↓qXX]
     obtain⟨o,ho,hoi⟩:=order_c (a:=c) (b:=d) (by omega)
     refine ah ho ?_
     simp(disch:=omega)only[↓qXX]
     by_cases hlo:o<0
     ·simp(disch:=omega)only[↓qXX]
      rw[fe (by omega)]
      refine hself (by omega) ⟨by omega,λi a b hi' ha hb'=>?_⟩
      rcases qay (i+1) j with h|h
      ·exact hi2 i a b h ha hb'
      ·have e1:i=j - 1:=by omega
       have e2:i+1=j:=by omega
       rw[e2,hd]at hb'
       rw[e1,hc]at ha
       cases ha;cases hb'
       exact hoi.1 hlo
     ·have hna:ascC l=false:=by
       rw[←qaK,jv]
       intro hall
       have:=hall (j - 1) c d hc (by rw[show j - 1+1=j by omega];exact hd)
       exact hlo (hoi.2 this)
      simp(disch:=omega)only[↓qXX]
      exact⟨by simp[chkC,hb,hu,hna],by trivial⟩
    ·rw[cK (by omega)]
     simp(disch:=omega)only[↓qXX]
     have ha:ascC l=true:=jv.2 λi a b ha hb'=>hi2 i a b (by have:=aM hb';omega) ha hb'
     exact⟨by simp[chkC,hb,hu,ha],by trivial⟩)
 exact h3
end Go.Am
namespace Go.Am
namespace Sx
section
variable [Val] [Kno]
variable {C:Cfg} {Sg:FuncId->Option Sig} {T:Nat->Site} {α:Type}
def putE(h:HL)(id e:Nat)(enc:α->List Value)(l:List α):HL:=h.set id (.o (.cells (l.flatMap enc) e true))
theorem cH{h:HL}{id e:Nat}{enc:α->List Value}{l:List α}(hlt:id<h.length):(putE h id e enc l)[id]? = some (.o (.cells (l.flatMap enc) e true)):=by
 unfold putE
 rw[qaD hlt]
theorem putE_put{h:HL}{id e:Nat}{enc:α->List Value}{l l':List α}:(putE h id e enc l).set id (.o (.cells (l'.flatMap enc) e true))=putE h id e enc l':=by
 unfold putE
 rw[List.set_set]
theorem oh{h:HL}{id e cx:Nat}{enc:α->List Value}(henc:∀a,(enc a).length=e){l:List α}(hlt:id<h.length):LsH (putE h id e enc l) (.slice (some ⟨id,0,tag e⟩) l.length cx) e enc l:=by
 have hl:=bM (e:=e) (enc:=enc) (l:=l) λa _=>henc a
 exact⟨λa _=>henc a,hl,.inr ⟨id,0,cx,_,true,rfl,cH hlt,cut_all hl⟩⟩
theorem fW{e:Nat}{enc:α->List Value}(henc:∀a,(enc a).length=e):∀ {l:List α} {i:Nat} (a:α),i<l.length->(l.flatMap enc).take (i*e)++enc a++(l.flatMap enc).drop (i*e+e)=(l.set i a).flatMap enc
 | [],_,_,h=>by simp at h
 |b :: l,0,a,_=>by
  have hb:=henc b
  simp only[qbH,qb8,qaF,qaM,qde,qbd]
  rw[qcs,qbI (by omega),qaF,show e - (enc b).length=0 by omega,qa7]
 |b :: l,i+1,a,h=>by
  have hb:=henc b
  have ih:=fW henc (l:=l) (i:=i) a (by simpa using h)
  simp only[List.set_cons_succ,qbd]
  rw[←ih,qbs,qcr,qc0,qcs]
  rw[qaU (by omega),qbI (by omega),qaF]
  rw[show i*e+e - (enc b).length=i*e by omega,show i*e+e+e - (enc b).length=i*e+e by omega]
  simp[qaC]
theorem r_set{h:HL}{id e cx len:Nat}{enc:α->List Value}(henc:∀a,(enc a).length=e){l:List α}{i:Nat}{a:α}{n:Int}{new:List Value}{K:List Value->HL->Prop}(hlt:id<h.length)(hn:n=Int.ofNat i)(hi:i<l.length)(hlen:l.length=len)(hnew:new=enc a)
  (hk:K [] (putE h id e enc (l.set i a))):(PH C Sg T).opt (idS e (.slice (some ⟨id,0,tag e⟩) len cx) n) (@hid _ ⟨λx=>(PH C Sg T).heap (.st x new) (putE h id e enc l) (@hid _ ⟨K⟩)⟩):=by
 subst hn hlen hnew
 have hx:idS e (.slice (some ⟨id,0,tag e⟩) l.length cx) (Int.ofNat i)=some (.pointer (some ⟨id,i*e,none⟩)):=by
  rw[wq]
  have hh:0<=Int.ofNat i/\Int.ofNat i<(l.length:Int):=⟨qaT i,by show(i:Int)<l.length;omega⟩
  simp only[if_pos hh]
  have:¬(tag e=some 1):=by simp[tag]
  simp only[if_neg this,qaM]
  rfl
 refine au hx ?_
 have hl:=bM (e:=e) (enc:=enc) (l:=l) λa _=>henc a
 have hle:i*e+e<=l.length*e:=by
  have:=qbg e (show i+1<=l.length by omega)
  rw[qbs,qcr]at this;exact this
 have hrun:(Hp.st (.pointer (some ⟨id,i*e,none⟩)) (enc a)).run (getH T (putE h id e enc l)) (putE h id e enc l).length=some ([.set id (.cells ((l.set i a).flatMap enc) e true)],[]):=by
  show stP (.pointer (some ⟨id,i*e,none⟩)) (enc a) (getH T (putE h id e enc l)) (putE h id e enc l).length=_
  unfold stP
  simp only
  rw[cG (cH hlt)]
  simp only
  unfold splice
  rw[henc a,hl,if_pos hle,fW henc a hi]
  rfl
 refine dw hrun ?_
 show K [] (cg _ _)
 have:cg (putE h id e enc l) [.set id (.cells ((l.set i a).flatMap enc) e true)]=putE h id e enc (l.set i a):=putE_put
 rw[this]
 exact hk
end
end Sx
namespace Sx
section
variable [Val] [Kno]
variable {C:Cfg} {Sg:FuncId->Option Sig} {T:Nat->Site} {α:Type}
theorem iG{enc:α->List Value}{z:α}{n:Nat}:be (enc z) n=(List.replicate n z).flatMap enc:=by
 unfold be
 rw[List.flatMap_def,List.map_replicate]
theorem mK{n:Nat}(h:n<=1048576):mkOk (Int.ofNat n) (Int.ofNat n)=some ():=by
 unfold mkOk
 rw[if_pos]
 exact⟨qaT n,qdJ _,by show(n:Int)<=1048576;omega⟩
end
end Sx
namespace Sx
section
variable [Val] [Kno]
variable {C:Cfg} {Sg:FuncId->Option Sig} {T:Nat->Site} {α:Type}
theorem fH{l:List α}{i:Nat}{a:α}(h:l[i]? = some a):l.set i a=l:=by
 apply qa2
 intro k
 by_cases hk:i=k
 ·subst hk
  rw[qaD (aM h),h]
 ·rw[qal hk]
end
end Sx
namespace Sx
section
variable [Val] [Kno] {C:Cfg} {T:Nat->Site}
abbrev Ku:=Int×Int
def kvU(k:Ku):Value:=.agg ⟨[.int .i64 k.1,.int .u8 k.2]⟩
def EntS(es:List MapEntry)(ks:List Ku):Prop:=es.map (·.key)=ks.map kvU/\∀e∈es,e.val = .bool true
abbrev kkU:List LK:=[.i .i64,.i .u8]
theorem eqZ_dec(a b:Int):eqZ a b=decide (a=b):=by
 have hb:∀m n:Nat,Nat.beq m n=decide (m=n):=λm n=>by
  by_cases h:m=n
  ·subst h;simp
  ·rw[decide_eq_false h]
   cases hq:Nat.beq m n with
   |true=>exact absurd (qac hq) h
   |false=>rfl
 cases a<;>cases b<;>simp[eqZ,hb]
 omega
theorem difK_kv(a b:Ku):difK kkU [.int .i64 a.1,.int .u8 a.2] [.int .i64 b.1,.int .u8 b.2]=some (decide (a=b)):=by
 have e1:dX .i64 .i64=true:=rfl
 have e2:dX .u8 .u8=true:=rfl
 obtain⟨a1,a2⟩:=a
 obtain⟨b1,b2⟩:=b
 simp only[difK,e1,e2,eqZ_dec,qbu]
 by_cases h1:a1=b1
 ·by_cases h2:a2=b2
  ·simp[h1,h2]
  ·simp[h1,h2]
 ·simp[h1]
theorem rf(k:Ku):∀ {es:List MapEntry} {ks:List Ku} (i:Nat),EntS es ks->(k∉ks->ny kkU [.int .i64 k.1,.int .u8 k.2] es i=some none)/\(k∈ks->∃j e,ny kkU [.int .i64 k.1,.int .u8 k.2] es i=some (some (i+j))/\es[j]? = some e/\e.val = .bool true)
 | [],[],i,_=>⟨λ_=>rfl,λh=>by cases h⟩
 | [],_ :: _,i,h=>by have:=h.1;simp at this
 |_ :: _,[],i,h=>by have:=h.1;simp at this
 |e :: es,q :: ks,i,h=>by
  obtain⟨h1,h2⟩:=h
  simp only[qas,qaX]at h1
  obtain⟨ih1,ih2⟩:=rf k (i+1) (⟨h1.2,λx hx=>h2 x (qao _ hx)⟩ : EntS es ks)
  have hq:ny kkU [.int .i64 k.1,.int .u8 k.2] (e :: es) i=if k=q then some (some i)else ny kkU [.int .i64 k.1,.int .u8 k.2] es (i+1):=by
   simp only[ny,h1.1,kvU]
   rw[difK_kv]
   by_cases hk:k=q<;>simp[hk]
  rw[hq]
  by_cases hk:k=q
  ·subst hk
   refine⟨λhn=>absurd qaA hn,λ_=>⟨0,e,by rw[if_pos rfl];rfl,rfl,h2 e qaA⟩⟩
  ·rw[if_neg hk]
   refine⟨λhn=>ih1 λhm=>hn (qao _ hm),λhm=>?_⟩
   rcases qaj.1 hm with hm|hm
   ·exact absurd hm hk
   ·obtain⟨j,e',g1,g2,g3⟩:=ih2 hm
    exact⟨j+1,e',by rw[g1];congr 2;omega,by simpa using g2,g3⟩
variable {kt:TypeId}
theorem keyF_u(h1:aggT C.P kt=some true)(h2:ja C.P 10000 kt=some kkU)(k:Ku):keyF C.P kt (kvU k)=true:=by
 have e1:dX .i64 .i64=true:=rfl
 have e2:dX .u8 .u8=true:=rfl
 unfold keyF kvU
 simp only[h1,h2,jD,e1,e2,eqZ_dec]
 simp
theorem uN(h1:aggT C.P kt=some true)(h2:ja C.P 10000 kt=some kkU)(k:Ku){es:List MapEntry}{r:Option Nat}(hr:ny kkU [.int .i64 k.1,.int .u8 k.2] es 0=some r):tg C.P kt (kvU k) es=some r:=by
 unfold tg kvU
 simp only[h1,h2,re,hr]
theorem lu_set(h1:aggT C.P kt=some true)(h2:ja C.P 10000 kt=some kkU){h:HL}{id c:Nat}{es:List MapEntry}{ks:List Ku}(hm:h[id]? = some (.o (.map es c)))(he:EntS es ks)(k:Ku) :
  luG C kt false (.bool false) (.map (some id)) (kvU k) false (getH T h)=some [.bool (decide (k∈ks))]:=by
 unfold luG
 rw[keyF_u h1 h2]
 simp only[qaJ,qar,if_false]
 have hg:mapG (getH T h) id=some (es,c):=by
  unfold mapG
  rw[cG hm]
 rw[hg]
 simp only
 obtain⟨f1,f2⟩:=rf k 0 he
 by_cases hk:k∈ks
 ·obtain⟨j,e,g1,g2,g3⟩:=f2 hk
  rw[uN h1 h2 k g1]
  have hv:fU es (0+j)=some (.bool true):=by
   rw[qaM]
   unfold fU
   rw[g2]
   simp[g3]
  simp only[hv,qak]
  simp[gG,hk]
 ·rw[uN h1 h2 k (f1 hk)]
  simp[gG,hk]
theorem mu_set(h1:aggT C.P kt=some true)(h2:ja C.P 10000 kt=some kkU){h:HL}{id c n:Nat}{es:List MapEntry}{ks:List Ku}(hm:h[id]? = some (.o (.map es c)))(he:EntS es ks){k:Ku}(hk:k∉ks) :
  muG C kt (.map (some id)) (kvU k) (.bool true) (getH T h) n=some ([.set id (.map (es++[{ key:=kvU k,val:=.bool true,born:=c }]) (c+1))],[]):=by
 unfold muG
 simp only
 rw[keyF_u h1 h2]
 simp only[qaJ,qar,if_false]
 have hg:mapG (getH T h) id=some (es,c):=by
  unfold mapG
  rw[cG hm]
 rw[hg]
 simp only
 rw[uN h1 h2 k ((rf k 0 he).1 hk)]
theorem EntS.push{es:List MapEntry}{ks:List Ku}(he:EntS es ks)(k:Ku)(c:Nat):EntS (es++[{ key:=kvU k,val:=.bool true,born:=c }]) (ks++[k]):=by
 refine⟨by simp[he.1],λe hm=>?_⟩
 rcases qaP.1 hm with hm|hm
 ·exact he.2 e hm
 ·simp only[qax]at hm
  subst hm;rfl
end
end Sx
end Go.Am
set_option maxRecDepth 100000
set_option maxHeartbeats 8000000
namespace Go.Am
open Sx Go.Proofs
def clN(w n:Nat):Cl:=(Int.ofNat (n / 4%w),Int.ofNat (n / 4 / w),n%4)
def rkN(w n:Nat):Nat:=10*(n / 4%w+n / 4 / w)+(if n / 4 / w=0/\n / 4%w≠0 then [1,2,1,0]else [0,1,2,1]).getD (n%4) 0
def wD(w v c e:Nat):List Lf:=match nbr w v c e with
 |some n=>[.i (.ofNat n),.i 0]
 |none=>[.i 0,.i 7]
def tabNb(w v:Nat):Bool:=(List.range (4*w*v)).all λc=>(List.range 3).all λe=>vL 61 [.i (.ofNat w),.i (.ofNat v),.i (.ofNat c),.i (.ofNat e)] (wD w v c e)
def tabLn(w v:Nat):Bool:=(aj w v).all λu=>vL 77 [.i (.ofNat w),.i (.ofNat v),.i (.ofNat u.1),.i (.ofNat u.2)] [.i (.ofNat (lnC3 (clN w u.1) u.2).1),.i (lnC3 (clN w u.1) u.2).2,.i 0]
def eqLn(a b:Ln):Bool:=Nat.beq a.1 b.1&&decide (a.2=b.2)
theorem eqLn_iff{a b:Ln}:eqLn a b=true↔a=b:=by
 unfold eqLn
 rw[qaa,decide_eq_true_eq,qcU]
 exact⟨λh=>⟨qac h.1,h.2⟩,λh=>⟨by rw[h.1];exact qbM _,h.2⟩⟩
def eqCl(a b:Cl):Bool:=decide (a.1=b.1)&&(decide (a.2.1=b.2.1)&&Nat.beq a.2.2 b.2.2)
theorem eqCl_iff{a b:Cl}:eqCl a b=true↔a=b:=by
 unfold eqCl
 rw[qaa,qaa,decide_eq_true_eq,decide_eq_true_eq,qcU,qcU]
 exact⟨λh=>⟨h.1,h.2.1,qac h.2.2⟩,λh=>⟨h.1,h.2.1,by rw[h.2.2];exact qbM _⟩⟩
def nbT(w v c e:Nat):Bool:=match nbr w v c e with
 |some n=>Nat.blt n (4*w*v)&&((match nbr w v n e with
  |some m=>Nat.beq m c
  |none=>false)&&(eqLn (lnC3 (clN w c) e) (lnC3 (clN w n) e)&&(eqCl (clN w n) (nbC (clN w c) e) && !Nat.beq n c)))
 |none=>true
def lnRng(w c e:Nat):Bool:=Nat.ble 1 (lnC3 (clN w c) e).1&&(Nat.ble (lnC3 (clN w c) e).1 4&&(decide (-10<=(lnC3 (clN w c) e).2)&&decide ((lnC3 (clN w c) e).2<=10)))
def wayT(w v n:Nat):Bool:=Nat.beq n 0||(List.range 3).any λe=>match nbr w v n e with
 |some m=>Nat.blt (rkN w m) (rkN w n)
 |none=>false
def tabNet(w v:Nat):Bool:=(List.range (4*w*v)).all λc=>wayT w v c&&(List.range 3).all λe=>nbT w v c e&&lnRng w c e
def tab71(w v:Nat):Bool:=tabNb w v&&(tabLn w v&&tabNet w v)
theorem all71:∀w v:Nat,1<=w->w<=5->1<=v->v<=5->tab71 w v=true:=by
 have key:((List.range 5).all λw=>(List.range 5).all λv=>tab71 (w+1) (v+1))=true:=by kernel_rfl
 intro w v h1 h2 h3 h4
 have h5:=qab.1 key (w - 1) (qad.2 (by omega))
 have h6:=qab.1 h5 (v - 1) (qad.2 (by omega))
 rw[show w - 1+1=w by omega,show v - 1+1=v by omega]at h6
 exact h6
def Sh(w v:Nat):Prop:=1<=w/\w<=5/\1<=v/\v<=5
section
variable {w v:Nat}
theorem rZ(h:Sh w v):tabNb w v=true/\tabLn w v=true/\tabNet w v=true:=by
 have:=all71 w v h.1 h.2.1 h.2.2.1 h.2.2.2
 unfold tab71 at this
 simpa only[qaa]using this
theorem nb_c(h:Sh w v){c e:Nat}(hc:c<4*w*v)(he:e<3):Cc 61 [.i (.ofNat w),.i (.ofNat v),.i (.ofNat c),.i (.ofNat e)] (wD w v c e):=
 lw (qab.1 (qab.1 (rZ h).1 c (qad.2 hc)) e (qad.2 he)) rfl (by kernel_rfl) rfl
theorem ln_c(h:Sh w v){u e:Nat}(hu:(u,e)∈aj w v):Cc 77 [.i (.ofNat w),.i (.ofNat v),.i (.ofNat u),.i (.ofNat e)] [.i (.ofNat (lnC3 (clN w u) e).1),.i (lnC3 (clN w u) e).2,.i 0]:=
 lw (qab.1 (rZ h).2.1 (u,e) hu) rfl (by kernel_rfl) rfl
theorem net_ok(h:Sh w v){c:Nat}(hc:c<4*w*v):wayT w v c=true/\∀e,e<3->nbT w v c e=true/\lnRng w c e=true:=by
 have:=qab.1 (rZ h).2.2 c (qad.2 hc)
 rw[qaa]at this
 refine⟨this.1,λe he=>?_⟩
 have:=qab.1 this.2 e (qad.2 he)
 rwa [qaa]at this
theorem lX(h:Sh w v){c e n:Nat}(hc:c<4*w*v)(he:e<3)(hn:nbr w v c e=some n):n<4*w*v/\nbr w v n e=some c/\lnC3 (clN w c) e=lnC3 (clN w n) e/\clN w n=nbC (clN w c) e/\n≠c:=by
 have:=((net_ok h hc).2 e he).1
 unfold nbT at this
 rw[hn]at this
 simp only[qaa]at this
 obtain⟨h1,h2,h3,h4,h5⟩:=this
 refine⟨by simpa[qaB]using h1,?_,eqLn_iff.1 h3,eqCl_iff.1 h4,λe=>?_⟩
 ·split at h2
  ·rename_i m hm
   rw[hm,qac h2]
  ·cases h2
 ·subst e
  rw[show Nat.beq n n=true from qbM n]at h5
  cases h5
theorem ln_ok(h:Sh w v){c e:Nat}(hc:c<4*w*v)(he:e<3):1<=(lnC3 (clN w c) e).1/\(lnC3 (clN w c) e).1<=4/\-10<=(lnC3 (clN w c) e).2/\(lnC3 (clN w c) e).2<=10:=by
 have:=((net_ok h hc).2 e he).2
 unfold lnRng at this
 simp only[qaa,qbb,decide_eq_true_eq]at this
 exact this
theorem vd(h:Sh w v){P:Nat->Prop}(h0:P 0)(hs:∀c e n,c<4*w*v->e<3->nbr w v c e=some n->P c->P n):∀n,n<4*w*v->P n:=by
 have main:∀k n,n<4*w*v->rkN w n<k->P n:=by
  intro k
  induction k with
  |zero=>intro n _ hk;omega
  |succ k ih=>
   intro n hn hk
   have hw:=(net_ok h hn).1
   unfold wayT at hw
   rw[qaG]at hw
   rcases hw with hw|hw
   ·rw[qac hw];exact h0
   ·obtain⟨e,he,hm⟩:=qdq.1 hw
    have he:=qad.1 he
    split at hm
    ·rename_i m hnm
     rw[qaB]at hm
     obtain⟨g1,g2,_⟩:=lX h hn he hnm
     exact hs m e n g1 he g2 (ih m g1 (by omega))
    ·cases hm
 intro n hn
 exact main (rkN w n+1) n hn (by omega)
theorem mem_un{c e n:Nat}(hc:c<4*w*v)(he:e<3)(hn:nbr w v c e=some n)(hlt:c<n):(c,e)∈aj w v:=by
 unfold aj
 rw[qbB]
 refine⟨c,qad.2 hc,qa0.2 ⟨e,qad.2 he,?_⟩⟩
 simp[hn,hlt]
theorem rA(h:Sh w v){c e n:Nat}(hc:c<4*w*v)(he:e<3)(hn:nbr w v c e=some n):(min c n,e)∈aj w v/\lnC3 (clN w (min c n)) e=lnC3 (clN w c) e:=by
 obtain⟨g1,g2,g3,_,g5⟩:=lX h hc he hn
 rcases qay c n with hlt|hge
 ·rw[qbQ (by omega)]
  exact⟨mem_un hc he hn hlt,rfl⟩
 ·rw[qcd hge]
  exact⟨mem_un g1 he g2 (by omega),g3.symm⟩
end
def bU(c:Crs):Ku:=(c.1,c.2.1)
def isCr(l:List Crs)(u e:Nat):Bool:=decide (((Int.ofNat u,Int.ofNat e):Ku)∈l.map bU)
def SetM(H:HL)(id:Nat)(l:List Crs):Prop:=∃es c,H[id]? = some (.o (.map es c))/\EntS es (l.map bU)
theorem pH{l:List Crs}(h:l.Pairwise λa b=>ltC a b=true):(l.map bU).Nodup:=by
 rw[List.Nodup,qdm]
 refine h.imp λ{a b} hab e=>?_
 unfold ltC at hab
 simp only[qaG,qaa,decide_eq_true_eq]at hab
 unfold bU at e
 simp only[qbu]at e
 omega
theorem creased_c{H:HL}{w v:Int}{x:Value}{l:List Crs}(hl:LsH H x 3 encC l)(hn:(l.map bU).Nodup)(hb:l.length<=1000) :
  ∃G,aF cc ac 74 [.i w,.i v,.v x] (absH aa H) [.v (.map (some H.length))] (absH aa (H++[G]))/\SetM (H++[G]) H.length l:=by
 obtain⟨rs,h',h1,rfl,G,rfl,hS⟩:=x74 (K:=λrs h'=>rs=[.v (.map (some H.length))]/\∃G,h'=H++[G]/\SetM h' H.length l) (H:=H) (glsI (glsI (glsV hl.good gls0))) (by
  unfold f74;simp only[qxh]
  simp(disch:=omega)only[↓qXX]
  refine dI hl ?_
  simp(disch:=omega)only[↓qXX]
  refine dI hl ?_
  refine cT (σ:=HO) l.length (λj _=>[.i (Int.ofNat j)]) (λ_ G=>H++[G]) (λj G=>SetM (H++[G]) H.length (l.take j)) (j0:=0) (s0:=.o (.map [] 0)) rfl rfl (qbh _) ⟨[],0,by simp,rfl,λe h=>(by cases h)⟩ ?_
  rintro j G hj ⟨es,c,g1,g2⟩ self hself
  simp(disch:=omega)only[↓qXX]
  by_cases hlt:j<l.length
  ·rw[cr hlt]
   simp(disch:=omega)only[↓qXX]
   obtain⟨a,ha⟩:=bi hlt
   have hl':=hl.pre (h':=H++[G]) ⟨[G],rfl⟩
   refine cI hl' rfl ha ?_
   unfold encC
   simp(disch:=omega)only[↓qXX]
   have hk:bU a∉(l.take j).map bU:=by
    intro hm
    rw[qcq]at hm
    have hnd:=hn
    have h3:(l.map bU)[j]? = some (bU a):=by rw[qaw,ha];rfl
    have h4:l.map bU=(l.map bU).take j++bU a :: (l.map bU).drop (j+1):=by
     conv=>lhs;rw[←qcg j (l.map bU)]
     rw[qbJ (by rw[qbO];exact hlt)]
     congr 2
     rw[qau (by rw[qbO];exact hlt)]at h3
     exact qan h3
    rw[h4,List.nodup_append]at hnd
    exact hnd.2.2 _ hm _ qaA rfl
   refine dw (mu_set (C:=cc) (T:=aa) (n:=(H++[G]).length) (by kernel_rfl) (by kernel_rfl) g1 g2 hk) ?_
   rw[fe (by omega)]
   have e:cg (H++[G]) [.set H.length (.map (es++[{ key:=kvU (bU a),val:=.bool true,born:=c }]) (c+1))]=H++[.o (.map (es++[{ key:=kvU (bU a),val:=.bool true,born:=c }]) (c+1))]:=by
    show(H++[G]).set H.length _=_
    simp
   rw[e]
   refine hself _ hlt ⟨es++[{ key:=kvU (bU a),val:=.bool true,born:=c }],c+1,by simp,?_⟩
   have ht:(l.take (j+1)).map bU=(l.take j).map bU++[bU a]:=by
    rw[qcn,ha,qb0];rfl
   rw[ht]
   exact g2.push _ _
  ·obtain rfl:j=l.length:=by omega
   rw[cK (qaz _)]
   simp(disch:=omega)only[↓qXX]
   refine⟨by trivial,G,rfl,?_⟩
   rw[qct]at g2
   exact⟨es,c,g1,g2⟩)
 exact⟨G,h1,hS⟩
def encM(m:Mv):List Value:=[.int .u8 (Int.ofNat m.1),.int .i64 m.2.1,.int .i64 m.2.2]
theorem dL(m:Mv):(encM m).length=3:=rfl
def acM(w:Nat)(l:List Crs)(g:Mv)(c n e:Nat):Mv:=if isCr l (min c n) e then bm (ofM (lnC3 (clN w (min c n)) e)) g else g
theorem acM_ok{w v:Nat}(h:Sh w v){l:List Crs}{c e n:Nat}(hc:c<4*w*v)(he:e<3)(hn:nbr w v c e=some n){k:Int}{g:Mv}(hg:okM k g)(hk:0<=k):okM (k+20) (acM w l g c n e):=by
 unfold acM
 obtain⟨_,h2⟩:=rA h hc he hn
 split
 ·rw[h2]
  have hl:=ln_ok h hc he
  have:=iz (tO (n:=10) ⟨hl.2.2.1,hl.2.2.2⟩) hg
  exact cu this (by omega)
 ·exact cu hg (by omega)
theorem oc{h:HL}{p:Value}{cs:List Value}{K:List Value->Prop}{n:Nat}(hp:Ptr h p cs)(hn:cs.length=n)(hk:K cs):P1.peek (.lg cc n p) h (@hid _ ⟨K⟩):=gf (hp.lg hn) hk
theorem tQ{h:HL}{p:Value}{cs ds:List Value}{K:List Value->Prop}{o n:Nat}(hp:Ptr h p cs)(hn:o+n<=cs.length)(hd:ds=(cs.drop o).take n)(hk:K ds) :
  P1.opt (fdP o p) (@hid _ ⟨λy=>P1.chk y (@hid _ ⟨P1.peek (.lg cc n y) h (@hid _ ⟨K⟩)⟩)⟩):=by
 subst hd
 obtain⟨q,h3,h4⟩:=hp.fd o n hn
 refine au h3 (aK h4.good (gf (h4.lg ?_) hk))
 rw[qa6,qb5];omega
theorem across_c{w v:Nat}(hs:Sh w v){l:List Crs}{h:HL}{x pp pm po sl:Value}{mid:Nat}{G:List Mv}(hP:Ptr h pp [.int .i64 (.ofNat w),.int .i64 (.ofNat v),x])(hM:Ptr h pm [.map (some mid)])(hS:SetM h mid l)(hO:Ptr h po [sl])(hG:LsH h sl 3 encM G)
  {c e n:Nat} (hc:c<4*w*v) (he:e<3) (hn:nbr w v c e=some n) {g:Mv} (hg:G[c]? = some g) {k:Int} (hk:okM k g) (hk0:0<=k/\k<=16000) :
  aF cc ac 76 [.i (.ofNat c),.i (.ofNat e),.v pp,.v pm,.v po] (absH aa h) (mvl (acM w l g c n e)) (absH aa h):=by
 obtain⟨es,c0,m1,m2⟩:=hS
 have ht:=io w v hs.1 hs.2.1 hs.2.2.1 hs.2.2.2
 obtain⟨hu,hln⟩:=rA hs hc he hn
 have hlk:=ln_ok hs hc he
 rw[←hln]at hlk
 have hname:=nameIn ht hc he
 unfold nameN at hname
 rw[hn]at hname
 simp only at hname
 obtain⟨rs,h',h1,rfl,rfl⟩:=x76 (K:=λrs h'=>rs=mvl (acM w l g c n e)/\h'=h) (H:=h) (glsI (glsI (glsV hP.good (glsV hM.good (glsV hO.good gls0))))) (by
  unfold f76;simp only[qxh]
  simp(disch:=omega)only[↓qXX]
  refine tQ (ds:=[.int .i64 (.ofNat w),.int .i64 (.ofNat v)]) hP (by simp) rfl ?_
  simp(disch:=omega)only[↓qXX]
  refine ah hname ?_
  simp(disch:=omega)only[↓qXX]
  refine oc hM rfl ?_
  simp(disch:=omega)only[↓qXX]
  refine aK rfl ?_
  simp(disch:=omega)only[↓qXX]
  refine gf (lu_set (C:=cc) (T:=aa) (by kernel_rfl) (by kernel_rfl) m1 m2 (Int.ofNat (min c n),Int.ofNat e)) ?_
  simp(disch:=omega)only[↓qXX]
  unfold acM isCr
  by_cases hcr:((Int.ofNat (min c n),Int.ofNat e):Ku)∈l.map bU
  ·rw[decide_eq_true hcr]
   simp(disch:=omega)only[↓qXX,qaJ,if_true]
   refine tQ (ds:=[.int .i64 (.ofNat w),.int .i64 (.ofNat v)]) hP (by simp) rfl ?_
   simp(disch:=omega)only[↓qXX]
   refine ah (ln_c hs hu) ?_
   simp(disch:=omega)only[↓qXX]
   refine ah (mlof_c ⟨hlk.1,hlk.2.1⟩ ⟨by omega,by omega⟩) ?_
   simp only[mvl,qaL,qaF]
   simp(disch:=omega)only[↓qXX]
   refine oc hO rfl ?_
   simp(disch:=omega)only[↓qXX]
   refine aK hG.good ?_
   simp(disch:=omega)only[↓qXX]
   refine cI hG rfl hg ?_
   unfold encM
   simp(disch:=omega)only[↓qXX]
   refine ah (then_c (tO (n:=10) ⟨hlk.2.2.1,hlk.2.2.2⟩) hk (by omega)) ?_
   simp only[mvl,qaL,qaF]
   simp(disch:=omega)only[↓qXX]
   exact⟨by trivial,by trivial⟩
  ·rw[decide_eq_false hcr]
   simp(disch:=omega)only[↓qXX,qbp,qar,if_false]
   refine oc hO rfl ?_
   simp(disch:=omega)only[↓qXX]
   refine aK hG.good ?_
   simp(disch:=omega)only[↓qXX]
   refine cI hG rfl hg ?_
   unfold encM
   simp(disch:=omega)only[↓qXX]
   exact⟨by trivial,by trivial⟩)
 exact h1
set_option maxHeartbeats 16000000
theorem sI{g:FuncId}{sg:Sig}{cap:List Value}{ls rs:List Lf}{H H':List HObj}{args:List Value}(hc:aF cc ac g ls H rs H')(hs:ac g=some sg)(xs:List S0)(h1:bA xs sg.ps=true)(h2:bC xs=ls)(h3:ai xs=args++cap) :
  sw cc (.func (.func g) ⟨[]⟩ ⟨cap⟩) args sg.rs H rs H':=by
 obtain⟨sg',xs',ys,c1,c2,c3,c4⟩:=hc
 rw[hs]at c1
 cases c1
 obtain⟨w1,_⟩:=cz c2.1 h1 (c2.2.1.trans h2.symm)
 rw[w1,h3]at c4
 exact⟨ys,c3,.inl ⟨g,⟨[]⟩,⟨cap⟩,rfl,by simpa using c4⟩⟩
theorem ic{α:Type}{e:Nat}{enc:α->List Value}(henc:∀a,(enc a).length=e){h:HL}{id cx len:Nat}{l:List α}{i:Nat}{a:α}{n:Int}{new:List Value}{K:List Value->HL->Prop}(hg:h[id]? = some (.o (.cells (l.flatMap enc) e true)))(hn:n=Int.ofNat i)(hi:i<l.length)(hlen:l.length=len)(hnew:new=enc a)(hk:K [] (putE h id e enc (l.set i a))) :
  P1.opt (idS e (.slice (some ⟨id,0,tag e⟩) len cx) n) (@hid _ ⟨λx=>P1.heap (.st x new) h (@hid _ ⟨K⟩)⟩):=by
 have hp:putE h id e enc l=h:=fH hg
 have:=r_set (C:=cc) (Sg:=ac) (T:=aa) (h:=h) (id:=id) (cx:=cx) (len:=len) (l:=l) henc (aM hg) hn hi hlen hnew hk
 rw[hp]at this
 exact this
theorem cW{α:Type}{h:HL}{id e j:Nat}{enc:α->List Value}{l:List α}(hj:j≠id):(putE h id e enc l)[j]? = h[j]?:=by
 unfold putE
 rw[qal (qbZ hj)]
def encN(n:Nat):List Value:=[.int .i64 (Int.ofNat n)]
theorem wc(n:Nat):(encN n).length=1:=rfl
def encT(t:Bool):List Value:=[.bool t]
theorem mq(t:Bool):(encT t).length=1:=rfl
theorem jF(q:List Nat):(q.flatMap encN).length=q.length:=by
 rw[bM (e:=1) (enc:=encN) λa _=>wc a,qcO]
def WQ(b:Nat)(h:HL)(v:Value)(q:List Nat):Prop:=∃id off cx vs,v = .slice (some ⟨id,off,tag 1⟩) q.length cx/\b<=id/\h[id]? = some (.o (.cells vs 1 true))/\cut vs off (q.length*1)=some (q.flatMap encN)/\(cx=0∨cx=q.length+1)
theorem WQ.ls{b:Nat}{h:HL}{v:Value}{q:List Nat}(hw:WQ b h v q):LsH h v 1 encN q:=by
 obtain⟨id,off,cx,vs,rfl,h1,h2,h3,_⟩:=hw
 exact⟨λa _=>wc a,by rw[jF,qcO],.inr ⟨id,off,cx,vs,true,rfl,h2,h3⟩⟩
theorem WQ.good{b:Nat}{h:HL}{v:Value}{q:List Nat}(hw:WQ b h v q):bf v=true:=hw.ls.good
theorem WQ.keep{b:Nat}{h h':HL}{v:Value}{q:List Nat}(hw:WQ b h v q)(hk:∀(j:Nat) o,b<=j->h[j]? = some o->h'[j]? = some o):WQ b h' v q:=by
 obtain⟨id,off,cx,vs,h0,h1,h2,h3⟩:=hw
 exact⟨id,off,cx,vs,h0,h1,hk _ _ h1 h2,h3⟩
theorem r_tail{b:Nat}{h:HL}{v:Value}{a:Nat}{q:List Nat}{K:Value->Prop}(hw:WQ b h v (a :: q))(hk:∀v',WQ b h v' q->bf v'=true->K v'):P1.opt (slS 1 v (some 1) none none) (@hid _ ⟨K⟩):=by
 obtain⟨id,off,cx,vs,rfl,h1,h2,h3,h4⟩:=hw
 have hr:slS 1 (.slice (some ⟨id,off,tag 1⟩) (a :: q).length cx) (some 1) none none=some (.slice (some ⟨id,off+1,tag 1⟩) q.length (cx - 1)):=by
  unfold slS
  have e1:¬(tag 1≠some 1/\tag 1≠tag 1):=by simp
  simp only[if_neg e1]
  have e2:(0:Int)<=(some (1:Int)).getD 0/\(some (1:Int)).getD 0<=(none:Option Int).getD ((a :: q).length:Int)/\dz (a :: q).length cx none none:=by
   refine⟨by simp,?_,?_⟩
   ·simp only[qba,qdr,qaE];omega
   ·unfold dz
    left;simp
  rw[if_pos e2]
  rw[eX,eX,eX]
  simp[bS]
 refine au hr (hk _ ⟨id,off+1,cx - 1,vs,rfl,h1,h2,?_,?_⟩ ?_)
 ·have:=uG (h3:cut vs off ((a :: q).length*1)=some _) (o:=1) (k:=q.length*1) (by simp only[qaE];omega)
  rw[this]
  simp only[qbd,encN,qaL,qaF,qbK,qa7,qcO]
  rw[←jF q]
  congr 1
  exact qct
 ·rcases h4 with h4|h4
  ·left;omega
  ·right;simp only[qaE]at h4;omega
 ·simp[bf,noLoc,bj,bP,br,aX,aG,tag]
theorem r_apQ{b:Nat}{h:HL}{v:Value}{q:List Nat}{n m:Nat}{new:List Value}{K:List Value->HL->Prop}(hw:WQ b h v q)(hbh:b<=h.length)(hm:m=h.length)(hnew:new=encN n)(hq:q.length<=1000)
  (hk:∀v' h',WQ b h' v' (q++[n])->bf v'=true->(∀(j:Nat) o,j<b->h[j]? = some o->h'[j]? = some o)->h.length<=h'.length->K [v'] h') :
  P1.heap (.ap cc 1 8 v (.slice (some ⟨m,0,some 11⟩) 1 2)) (h++[.o (.cells new 1 true)]) (@hid _ ⟨K⟩):=by
 subst hm hnew
 obtain⟨id,off,cx,vs,rfl,h1,h2,h3,h4⟩:=hw
 have hlt:=aM h2
 have hx:SlC (h++[HO.o (.cells (encN n) 1 true)]) (.slice (some ⟨h.length,0,tag 1⟩) 1 2) 1 1 (encN n):=⟨rfl,.inr ⟨h.length,0,2,encN n,true,rfl,by simp,Sx.cut_all rfl⟩⟩
 have hg:(h++[HO.o (.cells (encN n) 1 true)])[id]? = some (.o (.cells vs 1 true)):=by rw[qaf hlt];exact h2
 have hsz:cC (q.length+1) 8=true:=by
  unfold cC
  rw[qbN (by omega),qbN (by omega)];rfl
 have gd:∀i,bf (.slice (some ⟨i,0,tag 1⟩) (q.length+1) 0)=true:=λi=>by simp[bf,noLoc,bj,bP,br,aX,aG,tag]
 have hcl:(q.flatMap encN++encN n)=(q++[n]).flatMap encN:=by simp
 have hlen:(q++[n]).length=q.length+1:=by simp
 rcases h4 with rfl|rfl
 ·have hrun:apG cc 1 8 (.slice (some ⟨id,off,tag 1⟩) q.length 0) (.slice (some ⟨h.length,0,tag 1⟩) 1 2) (getH aa (h++[HO.o (.cells (encN n) 1 true)])) (h++[HO.o (.cells (encN n) 1 true)]).length=some ([.set id .dead,.push (.cells (q.flatMap encN++encN n) 1 true)],[.slice (some ⟨(h++[HO.o (.cells (encN n) 1 true)]).length,0,tag 1⟩) (q.length+1) 0]):=by
   unfold apG
   rw[xk hx]
   simp only[ne_eq,not_true_eq_false,if_false]
   rw[cG hg]
   simp only[ne_eq,not_true_eq_false,if_false]
   rw[h3]
   simp only[qcJ]
   rw[if_neg (by omega),if_pos hsz]
  refine dw (show(Hp.ap cc 1 8 (.slice (some ⟨id,off,tag 1⟩) q.length 0) (.slice (some ⟨h.length,0,tag 1⟩) 1 2)).run _ _=_ from hrun) ?_
  refine hk _ _ ⟨(h++[HO.o (.cells (encN n) 1 true)]).length,0,0,q.flatMap encN++encN n,by rw[hlen],by simp;omega,?_,?_,.inl rfl⟩ (gd _) (λj o hj ho=>?_) ?_
  ·show(((h++[HO.o (.cells (encN n) 1 true)]).set id (.o .dead))++[HO.o (.cells (q.flatMap encN++encN n) 1 true)])[_]? = _
   rw[qam (by simp)]
   simp
  ·rw[hcl,hlen]
   exact Sx.cut_all (by rw[jF,hlen,qcO])
  ·show(((h++[HO.o (.cells (encN n) 1 true)]).set id (.o .dead))++[HO.o (.cells (q.flatMap encN++encN n) 1 true)])[j]? = _
   have:=aM ho
   rw[qaf (by simp;omega),qal (by omega),qaf this]
   exact ho
  ·show h.length<=(((h++[HO.o (.cells (encN n) 1 true)]).set id (.o .dead))++[HO.o (.cells (q.flatMap encN++encN n) 1 true)]).length
   simp;omega
 ·have hrun:apG cc 1 8 (.slice (some ⟨id,off,tag 1⟩) q.length (q.length+1)) (.slice (some ⟨h.length,0,tag 1⟩) 1 2) (getH aa (h++[HO.o (.cells (encN n) 1 true)])) (h++[HO.o (.cells (encN n) 1 true)]).length=some ([.push (.cells (q.flatMap encN++encN n) 1 true)],[.slice (some ⟨(h++[HO.o (.cells (encN n) 1 true)]).length,0,tag 1⟩) (q.length+1) 0]):=by
   unfold apG
   rw[xk hx]
   simp only[ne_eq,not_true_eq_false,if_false]
   rw[cG hg]
   simp only[ne_eq,not_true_eq_false,if_false]
   rw[h3]
   simp only
   rw[if_neg (by omega),if_pos hsz]
  refine dw (show(Hp.ap cc 1 8 (.slice (some ⟨id,off,tag 1⟩) q.length (q.length+1)) (.slice (some ⟨h.length,0,tag 1⟩) 1 2)).run _ _=_ from hrun) ?_
  refine hk _ _ ⟨(h++[HO.o (.cells (encN n) 1 true)]).length,0,0,q.flatMap encN++encN n,by rw[hlen],by simp;omega,?_,?_,.inl rfl⟩ (gd _) (λj o hj ho=>?_) ?_
  ·show((h++[HO.o (.cells (encN n) 1 true)])++[HO.o (.cells (q.flatMap encN++encN n) 1 true)])[_]? = _
   rw[qam (by simp)]
   simp
  ·rw[hcl,hlen]
   exact Sx.cut_all (by rw[jF,hlen,qcO])
  ·show((h++[HO.o (.cells (encN n) 1 true)])++[HO.o (.cells (q.flatMap encN++encN n) 1 true)])[j]? = _
   have:=aM ho
   rw[qaf (by simp;omega),qaf this]
   exact ho
  ·show h.length<=((h++[HO.o (.cells (encN n) 1 true)])++[HO.o (.cells (q.flatMap encN++encN n) 1 true)]).length
   simp
structure RS(H h:HL)(w v:Nat)(x:Value)(l:List Crs)(A:List Mv)(B:List Bool):Prop where
 pre:Pre H h
 len:H.length+6<=h.length
 p:h[H.length]? = some (.o (.cells [.int .i64 (.ofNat w),.int .i64 (.ofNat v),x] 3 true))
 mp:SetM h (H.length+1) l
 mv:h[H.length+2]? = some (.o (.cells [.map (some (H.length+1))] 1 true))
 ol:h[H.length+3]? = some (.o (.cells (A.flatMap encM) 3 true))
 ov:h[H.length+4]? = some (.o (.cells [.slice (some ⟨H.length+3,0,tag 3⟩) (4*w*v) (4*w*v+1)] 1 true))
 kn:h[H.length+5]? = some (.o (.cells (B.flatMap encT) 1 true))
 la:A.length=4*w*v
 lb:B.length=4*w*v
section
variable {H h:HL} {w v:Nat} {x:Value} {l:List Crs} {A:List Mv} {B:List Bool}
abbrev ptrB(b:Nat):Value:=.pointer (some ⟨b,0,none⟩)
theorem eS{h:HL}{b e:Nat}{cs:List Value}(hb:h[b]? = some (.o (.cells cs e true))):Ptr h (ptrB b) cs:=⟨b,0,cs,e,true,rfl,hb,Sx.cut_all rfl⟩
theorem RS.lsA(hr:RS H h w v x l A B):LsH h (.slice (some ⟨H.length+3,0,tag 3⟩) (4*w*v) (4*w*v+1)) 3 encM A:=by
 have hl:=bM (e:=3) (enc:=encM) (l:=A) λa _=>dL a
 rw[←hr.la]
 exact⟨λa _=>dL a,hl,.inr ⟨_,0,_,_,true,rfl,hr.ol,Sx.cut_all hl⟩⟩
theorem RS.lsB(hr:RS H h w v x l A B):LsH h (.slice (some ⟨H.length+5,0,tag 1⟩) (4*w*v) (4*w*v+1)) 1 encT B:=by
 have hl:=bM (e:=1) (enc:=encT) (l:=B) λa _=>mq a
 rw[←hr.lb]
 exact⟨λa _=>mq a,hl,.inr ⟨_,0,_,_,true,rfl,hr.kn,Sx.cut_all hl⟩⟩
theorem RS.keep{h':HL}(hr:RS H h w v x l A B)(hk:∀(j:Nat) o,j<H.length+6->h[j]? = some o->h'[j]? = some o)(hl:h.length<=h'.length):RS H h' w v x l A B:=by
 obtain⟨es,c,m1,m2⟩:=hr.mp
 refine⟨?_,qbG hr.len hl,hk _ _ (by omega) hr.p,⟨es,c,hk _ _ (by omega) m1,m2⟩,hk _ _ (by omega) hr.mv,hk _ _ (by omega) hr.ol,hk _ _ (by omega) hr.ov,hk _ _ (by omega) hr.kn,hr.la,hr.lb⟩
 have hpre:=hr.pre
 refine⟨h'.drop H.length,?_⟩
 apply qa2
 intro i
 rcases qay i H.length with hi|hi
 ·rw[qaf hi]
  have e1:H[i]? = some H[i]:=qau hi
  rw[e1]
  exact hk _ _ (by omega) (hpre.get e1)
 ·rw[qam hi,qbf,Nat.add_sub_cancel' hi]
theorem fv{α:Type}{id e:Nat}{enc:α->List Value}{L:List α}(hp:Pre H h)(hid:H.length<=id):Pre H (putE h id e enc L):=hp.set hid _
theorem wY{α:Type}{h:HL}{id e:Nat}{enc:α->List Value}{L:List α}:(putE h id e enc L).length=h.length:=by simp[putE]
theorem RS.putA(hr:RS H h w v x l A B){A':List Mv}(ha:A'.length=A.length):RS H (putE h (H.length+3) 3 encM A') w v x l A' B:=by
 obtain⟨es,c,m1,m2⟩:=hr.mp
 have hl:=hr.len
 exact⟨fv hr.pre (by omega),by rw[wY];exact hl,by rw[cW (by omega)];exact hr.p,⟨es,c,by rw[cW (by omega)];exact m1,m2⟩,by rw[cW (by omega)];exact hr.mv,cH (by omega),by rw[cW (by omega)];exact hr.ov,by rw[cW (by omega)];exact hr.kn,by rw[ha];exact hr.la,hr.lb⟩
theorem RS.putB(hr:RS H h w v x l A B){B':List Bool}(hb:B'.length=B.length):RS H (putE h (H.length+5) 1 encT B') w v x l A B':=by
 obtain⟨es,c,m1,m2⟩:=hr.mp
 have hl:=hr.len
 exact⟨fv hr.pre (by omega),by rw[wY];exact hl,by rw[cW (by omega)];exact hr.p,⟨es,c,by rw[cW (by omega)];exact m1,m2⟩,by rw[cW (by omega)];exact hr.mv,by rw[cW (by omega)];exact hr.ol,by rw[cW (by omega)];exact hr.ov,cH (by omega),hr.la,by rw[hb];exact hr.lb⟩
end
def dp(w v:Nat)(l:List Crs)(G:Nat->Mv):Prop:=∀c e n,c<4*w*v->e<3->nbr w v c e=some n->G n=acM w l (G c) c n e
def cntT:List Bool->Nat
 | []=>0
 |b :: l=>(if b then 1 else 0)+cntT l
theorem ng:∀l:List Bool,cntT l<=l.length
 | []=>qaz _
 |b :: l=>by
  have:=ng l
  simp only[cntT,qaE]
  split<;>omega
theorem jy:∀ {l:List Bool} {n:Nat},l[n]? = some false->cntT (l.set n true)=cntT l+1
 | [],n,h=>by simp at h
 |b :: l,0,h=>by
  simp only[qbi,qat]at h
  subst h
  simp[cntT];omega
 |b :: l,n+1,h=>by
  simp only[qbP]at h
  have:=jy h
  simp only[List.set_cons_succ,cntT,this];omega
structure JS(w v:Nat)(l:List Crs)(A:List Mv)(B:List Bool)(q:List Nat)(D:Nat->Nat->Prop):Prop where
 a0:A[0]? = some idM
 b0:B[0]? = some true
 q1:∀c∈q,B[c]? = some true
 dn:∀c e n,D c e->c<4*w*v->e<3->nbr w v c e=some n->B[c]? = some true->c∉q->B[n]? = some true/\∃a,A[c]? = some a/\A[n]? = some (acM w l a c n e)
 bd:∀(c:Nat) a,B[c]? = some true->A[c]? = some a->okM (20*(cntT B:Int)) a
 un:∀G,dp w v l G->G 0=idM->∀(c:Nat) a,B[c]? = some true->A[c]? = some a->a=G c
structure GoodA(w v:Nat)(l:List Crs)(A:List Mv):Prop where
 len:A.length=4*w*v
 a0:A[0]? = some idM
 ok:∀a∈A,okM 2000 a
 cons:∀c e n a,c<4*w*v->e<3->nbr w v c e=some n->A[c]? = some a->A[n]? = some (acM w l a c n e)
section
variable {w v:Nat} {l:List Crs} {A:List Mv} {B:List Bool} {q:List Nat}
theorem JS.start(hs:Sh w v):JS w v l (List.replicate (4*w*v) idM) ((List.replicate (4*w*v) false).set 0 true) [0] λ_ _=>True:=by
 have hN:0<4*w*v:=by
  have h1:=hs.1
  have h2:=hs.2.2.1
  have:0<w*v:=Nat.mul_pos h1 h2
  rw[Nat.mul_assoc];omega
 have kn:∀c,((List.replicate (4*w*v) false).set 0 true)[c]? = some true->c=0:=by
  intro c hc
  by_cases h0:c=0
  ·exact h0
  ·rw[qal (qbZ h0),qaW]at hc
   split at hc<;>cases hc
 refine⟨by rw[qaW,if_pos hN],by rw[qaD (by simpa using hN)],λc hc=>?_,λc e n _ _ _ _ hb hq=>?_,λc a hb ha=>?_,λG hG h0 c a hb ha=>?_⟩
 ·simp only[qax]at hc
  subst hc
  rw[qaD (by simpa using hN)]
 ·exact absurd (by rw[kn c hb];simp) hq
 ·have:=kn c hb
  subst this
  rw[qaW,if_pos hN]at ha
  cases ha
  exact wI (by omega)
 ·have:=kn c hb
  subst this
  rw[qaW,if_pos hN]at ha
  cases ha
  exact h0.symm
theorem JS.pop{c0:Nat}(h:JS w v l A B (c0 :: q) λ_ _=>True):JS w v l A B q λc e=>c=c0->e<0:=by
 refine⟨h.a0,h.b0,λc hc=>h.q1 c (qao _ hc),λc e n hd hc he hn hb hq=>?_,h.bd,h.un⟩
 by_cases hcc:c=c0
 ·have:=hd hcc;omega
 ·exact h.dn c e n trivial hc he hn hb λhm=>by
   rcases qaj.1 hm with hm|hm
   ·exact hcc hm
   ·exact hq hm
theorem JS.skip{c0 j:Nat}(h:JS w v l A B q λc e=>c=c0->e<j)(hn:nbr w v c0 j=none):JS w v l A B q λc e=>c=c0->e<j+1:=by
 refine⟨h.a0,h.b0,h.q1,λc e n hd hc he hn' hb hq=>?_,h.bd,h.un⟩
 refine h.dn c e n (λhcc=>?_) hc he hn' hb hq
 have:=hd hcc
 rcases qay e j with hlt|hge
 ·exact hlt
 ·obtain rfl:e=j:=by omega
  subst hcc
  rw[hn]at hn';cases hn'
theorem JS.seen{c0 j n:Nat}{a:Mv}(h:JS w v l A B q λc e=>c=c0->e<j)(hn:nbr w v c0 j=some n)(hb:B[n]? = some true)(ha:A[c0]? = some a)(hm:A[n]? = some (acM w l a c0 n j)):JS w v l A B q λc e=>c=c0->e<j+1:=by
 refine⟨h.a0,h.b0,h.q1,λc e n' hd hc he hn' hb' hq=>?_,h.bd,h.un⟩
 by_cases hcc:c=c0/\e=j
 ·obtain⟨rfl,rfl⟩:=hcc
  rw[hn]at hn';cases hn'
  exact⟨hb,a,ha,hm⟩
 ·exact h.dn c e n' (λhc'=>by have:=hd hc';have:e≠j:=λhe'=>hcc ⟨hc',he'⟩;omega) hc he hn' hb' hq
theorem JS.fresh(hs:Sh w v){c0 j n:Nat}{a:Mv}(h:JS w v l A B q λc e=>c=c0->e<j)(hla:A.length=4*w*v)(hlb:B.length=4*w*v)(hc0:c0<4*w*v)(hj:j<3)(hn:nbr w v c0 j=some n)(hb0:B[c0]? = some true)(hb:B[n]? = some false)(ha:A[c0]? = some a) :
  JS w v l (A.set n (acM w l a c0 n j)) (B.set n true) (q++[n]) λc e=>c=c0->e<j+1:=by
 obtain⟨g1,_,_,_,g5⟩:=lX hs hc0 hj hn
 have hBn:(B.set n true)[n]? = some true:=qaD (by omega)
 have hAn:(A.set n (acM w l a c0 n j))[n]? = some (acM w l a c0 n j):=qaD (by omega)
 have hB:∀c,c≠n->(B.set n true)[c]? = B[c]?:=λc hc=>qal (qbZ hc)
 have hA:∀c,c≠n->(A.set n (acM w l a c0 n j))[c]? = A[c]?:=λc hc=>qal (qbZ hc)
 have h0n:(0:Nat)≠n:=λe=>by have:=h.b0;rw[e,hb]at this;cases this
 have hok:okM (20*(cntT B:Int)) a:=h.bd c0 a hb0 ha
 refine⟨by rw[hA 0 h0n];exact h.a0,by rw[hB 0 h0n];exact h.b0,λc hc=>?_,λc e n' hd hc he hn' hbc hq=>?_,λc a' hbc hac=>?_,λG hG hG0 c a' hbc hac=>?_⟩
 ·rcases qaP.1 hc with hc|hc
  ·have:=h.q1 c hc
   by_cases hcn:c=n
   ·rw[hcn];exact hBn
   ·rw[hB c hcn];exact this
  ·simp only[qax]at hc
   rw[hc];exact hBn
 ·have hcn:c≠n:=λe=>hq (by rw[e];simp)
  have hcq:c∉q:=λhm=>hq (qaQ _ hm)
  rw[hB c hcn]at hbc
  by_cases hcc:c=c0/\e=j
  ·obtain⟨rfl,rfl⟩:=hcc
   rw[hn]at hn';cases hn'
   exact⟨hBn,a,by rw[hA c hcn];exact ha,hAn⟩
  ·obtain⟨d1,a1,d2,d3⟩:=h.dn c e n' (λhc'=>by have:=hd hc';have:e≠j:=λhe'=>hcc ⟨hc',he'⟩;omega) hc he hn' hbc hcq
   have hnn:n'≠n:=λe'=>by rw[e',hb]at d1;cases d1
   exact⟨by rw[hB n' hnn];exact d1,a1,by rw[hA c hcn];exact d2,by rw[hA n' hnn];exact d3⟩
 ·rw[jy hb]
  by_cases hcn:c=n
  ·rw[hcn,hAn]at hac
   cases hac
   exact cu (acM_ok hs hc0 hj hn hok (by omega)) (by omega)
  ·rw[hB c hcn]at hbc
   rw[hA c hcn]at hac
   exact cu (h.bd c a' hbc hac) (by omega)
 ·by_cases hcn:c=n
  ·rw[hcn,hAn]at hac
   cases hac
   rw[hcn,hG c0 j n hc0 hj hn,←h.un G hG hG0 c0 a hb0 ha]
  ·rw[hB c hcn]at hbc
   rw[hA c hcn]at hac
   exact h.un G hG hG0 c a' hbc hac
theorem JS.done{c0:Nat}(h:JS w v l A B q λc e=>c=c0->e<3):JS w v l A B q λ_ _=>True:=
 ⟨h.a0,h.b0,h.q1,λc e n _ hc he hn hb hq=>h.dn c e n (λ_=>he) hc he hn hb hq,h.bd,h.un⟩
theorem sh_N(hs:Sh w v):0<4*w*v/\4*w*v<=100:=by
 have h1:1*1<=w*v:=qdl hs.1 hs.2.2.1
 have h2:w*v<=5*5:=qdl hs.2.1 hs.2.2.2
 rw[Nat.mul_assoc];omega
theorem JS.good(hs:Sh w v)(h:JS w v l A B [] λ_ _=>True)(hla:A.length=4*w*v)(hlb:B.length=4*w*v):GoodA w v l A:=by
 have hall:∀n,n<4*w*v->B[n]? = some true:=vd hs h.b0 λc e n hc he hn hb=>(h.dn c e n trivial hc he hn hb (by simp)).1
 have hN:=sh_N hs
 have hcnt:=ng B
 refine⟨hla,h.a0,λa hm=>?_,λc e n a hc he hn ha=>?_⟩
 ·obtain⟨i,hi⟩:=qa1 hm
  have:=aM hi
  exact cu (h.bd i a (hall i (by omega)) hi) (by omega)
 ·obtain⟨_,a',g1,g2⟩:=h.dn c e n trivial hc he hn (hall c hc) (by simp)
  rw[ha]at g1;cases g1
  exact g2
theorem JS.tear(hs:Sh w v){c0 j n:Nat}{a b:Mv}{D:Nat->Nat->Prop}(h:JS w v l A B q D)(hc0:c0<4*w*v)(hj:j<3)(hn:nbr w v c0 j=some n)(hb0:B[c0]? = some true)(hb:B[n]? = some true)(ha:A[c0]? = some a)(hbn:A[n]? = some b)(hne:b≠acM w l a c0 n j):¬ ∃G,dp w v l G/\G 0=idM:=by
 rintro⟨G,hG,hG0⟩
 refine hne ?_
 rw[h.un G hG hG0 n b hb hbn,hG c0 j n hc0 hj hn,←h.un G hG hG0 c0 a hb0 ha]
end
def left(B:List Bool)(q:List Nat):Nat:=q.length+(B.length - cntT B)
def tabCnt:Bool:=(List.range 5).all λw=>(List.range 5).all λv=>vL 75 [.i (.ofNat (w+1)),.i (.ofNat (v+1))] [.i (.ofNat (4*(w+1)*(v+1)))]
theorem cnt_all:tabCnt=true:=by kernel_rfl
theorem cnt_c{w v:Nat}(h:Sh w v):Cc 75 [.i (.ofNat w),.i (.ofNat v)] [.i (.ofNat (4*w*v))]:=by
 have h5:=qab.1 cnt_all (w - 1) (qad.2 (by have:=h.2.1;have:=h.1;omega))
 have h6:=qab.1 h5 (v - 1) (qad.2 (by have:=h.2.2.1;have:=h.2.2.2;omega))
 rw[show w - 1+1=w by have:=h.1;omega,show v - 1+1=v by have:=h.2.2.1;omega]at h6
 exact lw h6 rfl (by kernel_rfl) rfl
theorem r_st1{h:HL}{b e:Nat}{vs new:List Value}{K:List Value->HL->Prop}(hb:h[b]? = some (.o (.cells vs e true)))(hl:new.length=vs.length)(hk:K [] (h.set b (.o (.cells new e true)))):P1.heap (.st (ptrB b) new) h (@hid _ ⟨K⟩):=by
 have hrun:(Hp.st (ptrB b) new).run (getH aa h) h.length=some ([.set b (.cells new e true)],[]):=by
  show stP (ptrB b) new (getH aa h) h.length=_
  unfold stP
  simp only
  rw[cG hb]
  simp only
  unfold splice
  rw[if_pos (by omega)]
  simp[hl]
 exact dw hrun hk
theorem xh{h:HL}{a b:HO}:(h++[a]).set h.length b=h++[b]:=by simp
theorem bR{h:HL}{a:HO}:(h++[a])[h.length]? = some a:=by simp
theorem eqsM{a b:Mv}{K:Bool->Prop}:P1.eqs [(.i (Int.ofNat a.1),.i (Int.ofNat b.1)),(.i a.2.1,.i b.2.1),(.i a.2.2,.i b.2.2)] (@hid _ ⟨K⟩)=K (decide (a=b)):=by
 show K (cm _)=_
 have e:cm [(.i (Int.ofNat a.1),.i (Int.ofNat b.1)),(.i a.2.1,.i b.2.1),(.i a.2.2,.i b.2.2)]=decide (a=b):=by
  rw[qbo]
  simp[cm,gP,qcU]
  intro _ _
  omega
 rw[e]
def RelOk(w v:Nat)(l:List Crs)(H:HL)(rs:List Lf)(h':HL):Prop:=
 Pre H h'/\((∃A id,rs=[.v (.slice (some ⟨id,0,tag 3⟩) (4*w*v) (4*w*v+1)),.i 0]/\H.length<=id/\h'[id]? = some (.o (.cells (A.flatMap encM) 3 true))/\GoodA w v l A)∨
  (rs=[.v (.slice none 0 0),.i 11]/\¬ ∃G,dp w v l G/\G 0=idM))
theorem qd{w v:Nat}(hs:Sh w v){l:List Crs}(hk:(l.map bU).Nodup)(hl0:l.length<=1000){H:HL}{x:Value}(hl:LsH H x 3 encC l) :
  ∃rs h',aF cc ac 51 [.i (.ofNat w),.i (.ofNat v),.v x] (absH aa H) rs (absH aa h')/\RelOk w v l H rs h':=by
 have hN:=sh_N hs
 obtain⟨rs,h',h1,h2⟩:=x51 (K:=λrs h'=>RelOk w v l H rs h') (H:=H) (glsI (glsI (glsV hl.good gls0))) (by
  unfold f51;simp only[qxh]
  simp(disch:=omega)only[↓qXX]
  refine oc (eS bR) rfl ?_
  simp(disch:=omega)only[↓qXX]
  refine aK hl.good ?_
  simp(disch:=omega)only[↓qXX]
  obtain⟨M,hcr,hSM⟩:=creased_c (w:=.ofNat w) (v:=.ofNat v) (hl.pre (h':=H++[HO.o (.cells [.int .i64 (.ofNat w),.int .i64 (.ofNat v),x] 3 true)]) ⟨_,rfl⟩) hk hl0
  rw[show(H++[HO.o (.cells [.int .i64 (.ofNat w),.int .i64 (.ofNat v),x] 3 true)]).length=H.length+1 by simp]at hcr hSM
  have k0:(H++[HO.o (.cells [.int .i64 (.ofNat w),.int .i64 (.ofNat v),x] 3 true)]++[M]).length=H.length+2:=by simp
  have kp:(H++[HO.o (.cells [.int .i64 (.ofNat w),.int .i64 (.ofNat v),x] 3 true)]++[M])[H.length]? = some (HO.o (.cells [.int .i64 (.ofNat w),.int .i64 (.ofNat v),x] 3 true)):=by simp
  have kH:Pre H (H++[HO.o (.cells [.int .i64 (.ofNat w),.int .i64 (.ofNat v),x] 3 true)]++[M]):=⟨_,qaC ..⟩
  refine aE hcr ?_
  clear hcr
  generalize H++[HO.o (.cells [.int .i64 (.ofNat w),.int .i64 (.ofNat v),x] 3 true)]++[M]=h2 at *
  simp(disch:=omega)only[↓qXX]
  refine r_st1 bR rfl ?_
  rw[xh]
  have m0:(h2++[HO.o (.cells [.map (some (H.length+1))] 1 true)]).length=H.length+3:=by simp[k0]
  have mp:=kp |> (Pre.get (b:=h2++[HO.o (.cells [.map (some (H.length+1))] 1 true)]) ⟨_,rfl⟩)
  have mv:(h2++[HO.o (.cells [.map (some (H.length+1))] 1 true)])[H.length+2]? = some (HO.o (.cells [.map (some (H.length+1))] 1 true)):=by rw[←k0];exact bR
  have mH:Pre H (h2++[HO.o (.cells [.map (some (H.length+1))] 1 true)]):=kH.app _
  have mS:SetM (h2++[HO.o (.cells [.map (some (H.length+1))] 1 true)]) (H.length+1) l:=by
   obtain⟨es,c,a1,a2⟩:=hSM
   exact⟨es,c,Pre.get ⟨_,rfl⟩ a1,a2⟩
  rw[k0]
  generalize h2++[HO.o (.cells [.map (some (H.length+1))] 1 true)]=h3 at *
  clear kp kH hSM k0
  refine tQ (p:=ptrB H.length) (cs:=[.int .i64 (.ofNat w),.int .i64 (.ofNat v),x]) (ds:=[.int .i64 (.ofNat w),.int .i64 (.ofNat v)]) (eS mp) (by simp) rfl ?_
  simp(disch:=omega)only[↓qXX]
  refine ah (cnt_c hs) ?_
  simp(disch:=omega)only[↓qXX]
  refine au (mK (by omega)) ?_
  simp(disch:=omega)only[↓qXX]
  rw[show(Int.ofNat (4*w*v)).toNat=4*w*v from rfl]
  have z0:HO.o (.cells (be [.int .u8 0,.int .i64 0,.int .i64 0] (4*w*v)) 3 true)=HO.o (.cells ((List.replicate (4*w*v) idM).flatMap encM) 3 true):=by
   rw[←iG (enc:=encM) (z:=idM) (n:=4*w*v)]
   rfl
  rw[z0,m0]
  have n0:(h3++[HO.o (.cells ((List.replicate (4*w*v) idM).flatMap encM) 3 true)]).length=H.length+4:=by simp[m0]
  have np:=mp |> (Pre.get (b:=h3++[HO.o (.cells ((List.replicate (4*w*v) idM).flatMap encM) 3 true)]) ⟨_,rfl⟩)
  have nv:=mv |> (Pre.get (b:=h3++[HO.o (.cells ((List.replicate (4*w*v) idM).flatMap encM) 3 true)]) ⟨_,rfl⟩)
  have na:(h3++[HO.o (.cells ((List.replicate (4*w*v) idM).flatMap encM) 3 true)])[H.length+3]? = some (HO.o (.cells ((List.replicate (4*w*v) idM).flatMap encM) 3 true)):=by rw[←m0];exact bR
  have nH:Pre H (h3++[HO.o (.cells ((List.replicate (4*w*v) idM).flatMap encM) 3 true)]):=mH.app _
  have nS:SetM (h3++[HO.o (.cells ((List.replicate (4*w*v) idM).flatMap encM) 3 true)]) (H.length+1) l:=by
   obtain⟨es,c,a1,a2⟩:=mS
   exact⟨es,c,Pre.get ⟨_,rfl⟩ a1,a2⟩
  generalize h3++[HO.o (.cells ((List.replicate (4*w*v) idM).flatMap encM) 3 true)]=h4 at *
  clear mp mv mH mS m0
  refine r_st1 bR rfl ?_
  rw[xh]
  try simp(disch:=omega)only[↓qXX]
  refine oc (eS bR) rfl ?_
  simp(disch:=omega)only[↓qXX]
  refine aK (by simp[bf,noLoc,bj,bP,br,aX,aG]) ?_
  simp(disch:=omega)only[↓qXX]
  refine au (x:=Int.ofNat (4*w*v)) rfl ?_
  refine au (mK (by omega)) ?_
  simp(disch:=omega)only[↓qXX]
  rw[n0,show(Int.ofNat (4*w*v)).toNat=4*w*v from rfl]
  refine aK (by simp[bf,noLoc,bj,bP,br,aX,aG]) ?_
  have o0:(h4++[HO.o (.cells [.slice (some ⟨H.length+3,0,some 13⟩) (4*w*v) (4*w*v+1)] 1 true)]).length=H.length+5:=by simp[n0]
  have op:=np |> (Pre.get (b:=h4++[HO.o (.cells [.slice (some ⟨H.length+3,0,some 13⟩) (4*w*v) (4*w*v+1)] 1 true)]) ⟨_,rfl⟩)
  have om:=nv |> (Pre.get (b:=h4++[HO.o (.cells [.slice (some ⟨H.length+3,0,some 13⟩) (4*w*v) (4*w*v+1)] 1 true)]) ⟨_,rfl⟩)
  have oa:=na |> (Pre.get (b:=h4++[HO.o (.cells [.slice (some ⟨H.length+3,0,some 13⟩) (4*w*v) (4*w*v+1)] 1 true)]) ⟨_,rfl⟩)
  have ov:(h4++[HO.o (.cells [.slice (some ⟨H.length+3,0,some 13⟩) (4*w*v) (4*w*v+1)] 1 true)])[H.length+4]? = some (HO.o (.cells [.slice (some ⟨H.length+3,0,some 13⟩) (4*w*v) (4*w*v+1)] 1 true)):=by rw[←n0];exact bR
  have oH:Pre H (h4++[HO.o (.cells [.slice (some ⟨H.length+3,0,some 13⟩) (4*w*v) (4*w*v+1)] 1 true)]):=nH.app _
  have oS:SetM (h4++[HO.o (.cells [.slice (some ⟨H.length+3,0,some 13⟩) (4*w*v) (4*w*v+1)] 1 true)]) (H.length+1) l:=by
   obtain⟨es,c,a1,a2⟩:=nS
   exact⟨es,c,Pre.get ⟨_,rfl⟩ a1,a2⟩
  generalize h4++[HO.o (.cells [.slice (some ⟨H.length+3,0,some 13⟩) (4*w*v) (4*w*v+1)] 1 true)]=h5 at *
  clear np nv na nH nS n0
  have z1:HO.o (.cells (be [.bool false] (4*w*v)) 1 true)=HO.o (.cells ((List.replicate (4*w*v) false).flatMap encT) 1 true):=by
   rw[←iG (enc:=encT) (z:=false) (n:=4*w*v)]
   rfl
  rw[z1,o0]
  have r0:RS H (h5++[HO.o (.cells ((List.replicate (4*w*v) false).flatMap encT) 1 true)]) w v x l (List.replicate (4*w*v) idM) (List.replicate (4*w*v) false):=by
   obtain⟨es,c,a1,a2⟩:=oS
   exact⟨oH.app _,by simp[o0],Pre.get ⟨_,rfl⟩ op,⟨es,c,Pre.get ⟨_,rfl⟩ a1,a2⟩,Pre.get ⟨_,rfl⟩ om,Pre.get ⟨_,rfl⟩ oa,Pre.get ⟨_,rfl⟩ ov,by rw[←o0];exact bR,by simp,by simp⟩
  generalize h5++[HO.o (.cells ((List.replicate (4*w*v) false).flatMap encT) 1 true)]=h6 at *
  clear op om oa ov oH oS o0
  refine ic (enc:=encT) (l:=List.replicate (4*w*v) false) (i:=0) (a:=true) mq r0.kn rfl (by simpa using hN.1) (by simp) rfl ?_
  have r1:=r0.putB (B':=(List.replicate (4*w*v) false).set 0 true) (by simp)
  generalize putE h6 (H.length+5) 1 encT ((List.replicate (4*w*v) false).set 0 true)=h7 at *
  try simp(disch:=omega)only[↓qXX]
  have r2:RS H (h7++[HO.o (.cells [.int .i64 0] 1 true)]) w v x l (List.replicate (4*w*v) idM) ((List.replicate (4*w*v) false).set 0 true):=r1.keep (λj o _ ho=>Pre.get ⟨_,rfl⟩ ho) (by simp)
  have hw0:WQ (H.length+6) (h7++[HO.o (.cells [.int .i64 0] 1 true)]) (.slice (some ⟨h7.length,0,some 11⟩) 1 2) [0]:=⟨h7.length,0,2,_,rfl,r1.len,bR,Sx.cut_all rfl,.inr rfl⟩
  have hj0:=JS.start (l:=l) hs
  have hc0:[0].length<=cntT ((List.replicate (4*w*v) false).set 0 true):=by
   rw[jy (by rw[qaW,if_pos hN.1])]
   simp
  generalize h7++[HO.o (.cells [.int .i64 0] 1 true)]=h8 at *
  generalize Value.slice (some ⟨h7.length,0,some 11⟩) 1 2=v8 at *
  generalize List.replicate (4*w*v) idM=A0 at *
  generalize (List.replicate (4*w*v) false).set 0 true=B0 at *
  clear r0 r1
  refine dj (m:=left B0 [0]) (λm ls h'=>∃A B q vv,ls=[.v vv]/\RS H h' w v x l A B/\WQ (H.length+6) h' vv q/\JS w v l A B q (λ_ _=>True)/\q.length<=cntT B/\m=left B q) ⟨A0,B0,[0],v8,rfl,r2,hw0,hj0,hc0,rfl⟩ ?_
  clear r2 hw0 hj0 hc0
  rintro m ls h' ⟨A,B,q,vv,rfl,hr,hw,hj,hql,rfl⟩ self hself
  refine hidL ?_
  simp(disch:=omega)only[↓qXX]
  refine dI hw.ls ?_
  cases q with
  |nil=>
   rw[p_gtr_f (by show((List.length ([]:List Nat):Nat):Int)<=0;simp)]
   simp(disch:=omega)only[↓qXX]
   refine oc (eS hr.ov) rfl ?_
   simp(disch:=omega)only[↓qXX]
   refine aK hr.lsA.good ?_
   simp(disch:=omega)only[↓qXX]
   exact⟨hr.pre,.inl ⟨A,H.length+3,rfl,by omega,hr.ol,hj.good hs hr.la hr.lb⟩⟩
  |cons c0 q=>
   rw[p_gtr_t (by show(0:Int)<((List.length (c0 :: q):Nat):Int);simp only[qaE];omega)]
   simp(disch:=omega)only[↓qXX]
   refine cI hw.ls (i:=0) rfl rfl ?_
   unfold encN
   simp(disch:=omega)only[↓qXX]
   refine r_tail hw ?_
   intro v1 hw1 hv1
   refine aK hv1 ?_
   have hb0:B[c0]? = some true:=hj.q1 c0 qaA
   have hcN:c0<4*w*v:=by have:=aM hb0;have:=hr.lb;omega
   have hcl:=ng B
   refine cT (σ:=Value×HL×List Mv×List Bool×List Nat) 3 (λj s=>[.v s.1,.i (Int.ofNat j)]) (λ_ s=>s.2.1) (λj s=>RS H s.2.1 w v x l s.2.2.1 s.2.2.2.1/\WQ (H.length+6) s.2.1 s.1 s.2.2.2.2/\JS w v l s.2.2.1 s.2.2.2.1 s.2.2.2.2 (λc e=>c=c0->e<j)/\s.2.2.2.2.length<=cntT s.2.2.2.1/\left s.2.2.2.1 s.2.2.2.2=left B q/\s.2.2.2.1[c0]? = some true) (j0:=0) (s0:=(v1,h',A,B,q)) rfl rfl (by omega) ⟨hr,hw1,hj.pop,by show q.length<=cntT B;simp only[qaE]at hql;omega,rfl,hb0⟩ ?_
   clear hr hw hj hw1 hv1 hb0
   rintro j ⟨v2,h2',A2,B2,q2⟩ hj3 ⟨hr,hw,hj,hq2,hleft,hb0⟩ self2 hself2
   simp only at hr hw hj hq2 hleft hb0 hself2
   simp(disch:=omega)only[↓qXX]
   by_cases hlt:j<3
   case neg=>
    obtain rfl:j=3:=by omega
    rw[p_lss_f (by show(3:Int)<=((3:Nat):Int);omega)]
    simp(disch:=omega)only[↓qXX]
    refine hself (left B q) _ _ ?_ ⟨A2,B2,q2,v2,rfl,hr,hw,hj.done,hq2,hleft.symm⟩
    unfold left
    simp only[qaE];omega
   rw[p_lss_t (by show((j:Nat):Int)<3;omega)]
   simp(disch:=omega)only[↓qXX]
   have next:∀(v3:Value) (h3':HL) (A3:List Mv) (B3:List Bool) (q3:List Nat),RS H h3' w v x l A3 B3->WQ (H.length+6) h3' v3 q3->JS w v l A3 B3 q3 (λc e=>c=c0->e<j+1)->q3.length<=cntT B3->left B3 q3=left B q->B3[c0]? = some true->self2 [.v v3,.i (Int.ofNat j+1)] h3':=λv3 h3' A3 B3 q3 a1 a2 a3 a4 a5 a6=>hself2 (v3,h3',A3,B3,q3) hlt ⟨a1,a2,a3,a4,a5,a6⟩
   have hadd:∀K:Int->Prop,P1.ari .add .u8 (Int.ofNat j) 1 (@hid _ ⟨K⟩)=K (Int.ofNat j+1):=λK=>p_add8 (by show(0:Int)<=(j:Int)+1;omega) (by show(j:Int)+1<=255;omega)
   refine tQ (p:=ptrB H.length) (cs:=[.int .i64 (.ofNat w),.int .i64 (.ofNat v),x]) (ds:=[.int .i64 (.ofNat w),.int .i64 (.ofNat v)]) (eS hr.p) (by simp) rfl ?_
   simp(disch:=omega)only[↓qXX]
   refine ah (nb_c hs hcN hlt) ?_
   have hcl2:=ng B2
   have hlb2:=hr.lb
   cases hnb:nbr w v c0 j with
   |none=>
    unfold wD
    rw[hnb]
    simp(disch:=omega)only[↓qXX]
    rw[hadd]
    exact next _ _ _ _ _ hr hw (hj.skip hnb) hq2 hleft hb0
   |some n=>
    unfold wD
    rw[hnb]
    simp(disch:=omega)only[↓qXX]
    obtain⟨a,ha⟩:=bi (l:=A2) (i:=c0) (by rw[hr.la];exact hcN)
    have hok:=hj.bd c0 a hb0 ha
    have hac:=across_c hs (eS hr.p) (eS hr.mv) hr.mp (eS hr.ov) hr.lsA hcN hlt hnb ha hok (by omega)
    refine jh (sI (args:=[.int .i64 (Int.ofNat c0),.int .u8 (Int.ofNat j)]) hac rfl [.leaf (.i .i64 (Int.ofNat c0)),.leaf (.i .u8 (Int.ofNat j)),.leaf (.v (ptrB H.length)),.leaf (.v (ptrB (H.length+2))),.leaf (.v (ptrB (H.length+4)))] rfl rfl rfl) ?_
    have hnN:=(lX hs hcN hlt hnb).1
    have hnc:=(lX hs hcN hlt hnb).2.2.2.2
    generalize hm:acM w l a c0 n j=m at *
    simp only[mvl]
    simp(disch:=omega)only[↓qXX]
    obtain⟨t,ht⟩:=bi (l:=B2) (i:=n) (by rw[hr.lb];exact hnN)
    refine cI hr.lsB rfl ht ?_
    unfold encT
    simp(disch:=omega)only[↓qXX]
    cases t with
    |true=>
     simp(disch:=omega)only[↓qXX,qaJ]
     refine oc (eS hr.ov) rfl ?_
     simp(disch:=omega)only[↓qXX]
     refine aK hr.lsA.good ?_
     simp(disch:=omega)only[↓qXX]
     obtain⟨b,hb⟩:=bi (l:=A2) (i:=n) (by rw[hr.la];exact hnN)
     refine cI hr.lsA rfl hb ?_
     unfold encM
     simp(disch:=omega)only[↓qXX]
     rw[eqsM]
     by_cases hbm:b=m
     ·rw[decide_eq_true hbm]
      simp(disch:=omega)only[↓qXX,qaJ]
      rw[hadd]
      exact next _ _ _ _ _ hr hw (hj.seen hnb ht ha (by rw[hb,hbm,hm])) hq2 hleft hb0
     ·rw[decide_eq_false hbm]
      simp(disch:=omega)only[↓qXX,qbp]
      exact⟨hr.pre,.inr ⟨rfl,hj.tear hs hcN hlt hnb hb0 ht ha hb (by rw[hm];exact hbm)⟩⟩
    |false=>
     simp(disch:=omega)only[↓qXX,qbp]
     refine oc (eS hr.ov) rfl ?_
     simp(disch:=omega)only[↓qXX]
     refine aK hr.lsA.good ?_
     simp(disch:=omega)only[↓qXX]
     refine ic (enc:=encM) (l:=A2) (i:=n) (a:=m) dL hr.ol rfl (by rw[hr.la];exact hnN) hr.la rfl ?_
     have hrA:=hr.putA (A':=A2.set n m) (by simp)
     have hwA:=hw.keep (h':=putE h2' (H.length+3) 3 encM (A2.set n m)) (λj o hjb ho=>by rw[cW (by omega)];exact ho)
     generalize putE h2' (H.length+3) 3 encM (A2.set n m)=h3' at *
     try simp(disch:=omega)only[↓qXX]
     refine ic (enc:=encT) (l:=B2) (i:=n) (a:=true) mq hrA.kn rfl (by rw[hr.lb];exact hnN) hr.lb rfl ?_
     have hrB:=hrA.putB (B':=B2.set n true) (by simp)
     have hwB:=hwA.keep (h':=putE h3' (H.length+5) 1 encT (B2.set n true)) (λj o hjb ho=>by rw[cW (by omega)];exact ho)
     generalize putE h3' (H.length+5) 1 encT (B2.set n true)=h4' at *
     try simp(disch:=omega)only[↓qXX]
     refine r_apQ (n:=n) hwB hrB.len rfl rfl (by omega) ?_
     intro v5 h5' hw5 hv5 hk5 hl5
     have hr5:=hrB.keep hk5 hl5
     simp(disch:=omega)only[↓qXX]
     refine aK hv5 ?_
     simp(disch:=omega)only[↓qXX]
     refine oc (eS hr5.ov) rfl ?_
     simp(disch:=omega)only[↓qXX]
     refine aK hr5.lsA.good ?_
     simp(disch:=omega)only[↓qXX]
     refine cI hr5.lsA (a:=m) rfl (qaD (by rw[hr.la];exact hnN)) ?_
     unfold encM
     simp(disch:=omega)only[↓qXX]
     try rw[eqsM,decide_eq_true rfl]
     simp(disch:=omega)only[↓qXX,qaJ]
     rw[hadd]
     refine next _ _ _ _ _ hr5 hw5 ?_ ?_ ?_ ?_
     ·rw[←hm]
      exact hj.fresh hs hr.la hr.lb hcN hlt hnb hb0 ht ha
     ·rw[jy ht];simp;omega
     ·rw[←hleft]
      have:=ng (B2.set n true)
      unfold left
      rw[jy ht]at this ⊢
      simp only[qaO,qaE,qbw,qbz]at this ⊢
      omega
     ·rw[qal hnc];exact hb0)
 exact⟨rs,h',h1,h2⟩
def iH(c:Cl):List Value:=[.int .i64 c.1,.int .i64 c.2.1,.int .u8 (Int.ofNat c.2.2)]
theorem nn(c:Cl):(iH c).length=3:=rfl
theorem nO{m:Mv}{n:Int}(hm:okM n m){c:Cl}{k:Int}(hc:-k<=c.1/\c.1<=k/\-k<=c.2.1/\c.2.1<=k):-(n+k+1)<=(bn m c).1/\(bn m c).1<=n+k+1/\-(n+k+1)<=(bn m c).2.1/\(bn m c).2.1<=n+k+1/\(bn m c).2.2<4:=by
 have h1:=uW hm.1 hc
 have h2:=hm.2
 unfold bn
 simp only
 refine⟨?_,?_,?_,?_,qT_lt⟩<;>split<;>omega
theorem move_c{m:Mv}(hm:okM 3000 m){c:Cl}(hc:-1000<=c.1/\c.1<=1000/\-1000<=c.2.1/\c.2.1<=1000/\c.2.2<4):Cc 54 (mvl m++cll c) (cll (bn m c)++[.i 0]):=by
 have h1:=nO hm (k:=1000) ⟨hc.1,hc.2.1,hc.2.2.1,hc.2.2.2.1⟩
 refine q54 rfl ?_;unfold f54;simp only[qxh]
 simp only[mvl,cll,qaL,qaF]
 simp(disch:=omega)only[↓qXX]
 refine ah (vb hm (by omega)) ?_
 simp(disch:=omega)only[↓qXX]
 refine ah (cchk_c (c:=c) ⟨by omega,by omega,by omega,by omega,hc.2.2.2.2⟩) ?_
 simp(disch:=omega)only[↓qXX]
 refine ah (moved_c hm hc) ?_
 simp only[cll]
 simp(disch:=omega)only[↓qXX]
 refine ah (cchk_c (c:=bn m c) ⟨by omega,by omega,by omega,by omega,h1.2.2.2.2⟩) ?_
 simp(disch:=omega)only[↓qXX]
 rfl
theorem GoodA.eq{w v:Nat}{l:List Crs}{A:List Mv}(hs:Sh w v)(hA:GoodA w v l A){G:Nat->Mv}(hG:dp w v l G)(h0:G 0=idM):∀c,c<4*w*v->A[c]? = some (G c):=
 vd hs (by rw[h0];exact hA.a0) λc e n hc he hn h=>by rw[hG c e n hc he hn];exact hA.cons c e n _ hc he hn h
def plL(w v:Nat)(G:Nat->Mv)(r:Mv):List Mv:=(List.range (4*w*v)).map λc=>bm (G c) r
def imL(w v:Nat)(G:Nat->Mv)(r:Mv):List Cl:=(List.range (4*w*v)).map λc=>bn (bm (G c) r) (clN w c)
theorem plL_get{w v:Nat}{G:Nat->Mv}{r:Mv}{c:Nat}(h:c<4*w*v):(plL w v G r)[c]? = some (bm (G c) r):=by
 unfold plL
 rw[qaw,qbU h];rfl
theorem imL_get{w v:Nat}{G:Nat->Mv}{r:Mv}{c:Nat}(h:c<4*w*v):(imL w v G r)[c]? = some (bn (bm (G c) r) (clN w c)):=by
 unfold imL
 rw[qaw,qbU h];rfl
theorem take_set{α:Type}{L A:List α}{j:Nat}{a:α}(hL:L[j]? = some a)(hlen:L.length=A.length):(L.take j++A.drop j).set j a=L.take (j+1)++A.drop (j+1):=by
 have hj:=aM hL
 have h1:(L.take j).length=j:=by rw[qa6];omega
 rw[qb1 _ _ (by omega),h1,qbv,qbJ (by omega),qde,qcn,hL]
 simp
theorem mid_get{α:Type}{L A:List α}{j:Nat}{a:α}(hA:A[j]? = some a)(hlen:L.length=A.length):(L.take j++A.drop j)[j]? = some a:=by
 have hj:=aM hA
 rw[qam (by rw[qa6];omega),qa6,qbQ (by omega),qbv,qbf,qce]
 exact hA
theorem rz{α:Type}{L A:List α}{j:Nat}(hlen:L.length=A.length)(hj:j<=L.length):(L.take j++A.drop j).length=A.length:=by
 rw[qaO,qa6,qb5];omega
theorem ft{α:Type}{e cx n:Nat}{enc:α->List Value}(henc:∀a,(enc a).length=e){h:HL}{id:Nat}{L:List α}(hg:h[id]? = some (.o (.cells (L.flatMap enc) e true)))(hn:n=L.length):LsH h (.slice (some ⟨id,0,tag e⟩) n cx) e enc L:=by
 subst hn
 have hl:=bM (e:=e) (enc:=enc) (l:=L) λa _=>henc a
 exact⟨λa _=>henc a,hl,.inr ⟨id,0,cx,_,true,rfl,hg,Sx.cut_all hl⟩⟩
theorem both_c{w v:Nat}(hs:Sh w v){l:List Crs}(hk:(l.map bU).Nodup)(hl0:l.length<=1000){H:HL}{x:Value}(hl:LsH H x 3 encC l)(hck:aF cc ac 20 [.i (.ofNat w),.i (.ofNat v),.v x] (absH aa H) [.i 0] (absH aa H))
  {G:Nat->Mv} (hG:dp w v l G) (h0:G 0=idM) {r:Mv} (hr:okM 900 r) :
  ∃lx ix h',aF cc ac 25 ([.i (.ofNat w),.i (.ofNat v),.v x]++mvl r) (absH aa H) [.v lx,.v ix,.i 0] (absH aa h')/\Pre H h'/\LsH h' lx 3 encM (plL w v G r)/\LsH h' ix 3 iH (imL w v G r):=by
 have hN:=sh_N hs
 obtain⟨rs1,h1,c1,hpre1,hrel⟩:=qd hs hk hl0 hl
 rcases hrel with⟨A,id,rfl,hid,hol,hA⟩|⟨_,hno⟩
 case inr=>exact absurd ⟨G,hG,h0⟩ hno
 have hAG:=hA.eq hs hG h0
 have hP:(plL w v G r).length=A.length:=by rw[hA.len];simp[plL]
 have hI:(imL w v G r).length=4*w*v:=by simp[imL]
 have hidl:=aM hol
 obtain⟨rs,h',hc,lx,ix,rfl,hpre,hp1,hp2⟩:=x25 (ls:=[.i (.ofNat w),.i (.ofNat v),.v x,.i (Int.ofNat r.1),.i r.2.1,.i r.2.2]) (K:=λrs h'=>∃lx ix,rs=[.v lx,.v ix,.i 0]/\Pre H h'/\LsH h' lx 3 encM (plL w v G r)/\LsH h' ix 3 iH (imL w v G r)) (H:=H) (glsI (glsI (glsV hl.good (glsI (glsI (glsI gls0)))))) (by
  unfold f25;simp only[qxh]
  simp(disch:=omega)only[↓qXX]
  refine aE hck ?_
  simp(disch:=omega)only[↓qXX]
  refine ah (vb hr (by omega)) ?_
  simp(disch:=omega)only[↓qXX]
  refine aE c1 ?_
  simp(disch:=omega)only[↓qXX]
  refine au (x:=Int.ofNat (4*w*v)) rfl ?_
  refine au (mK (by omega)) ?_
  simp(disch:=omega)only[↓qXX]
  rw[show(Int.ofNat (4*w*v)).toNat=4*w*v from rfl]
  have z0:HO.o (.cells (be [.int .i64 0,.int .i64 0,.int .u8 0] (4*w*v)) 3 true)=HO.o (.cells ((List.replicate (4*w*v) ((0,0,0):Cl)).flatMap iH) 3 true):=by
   rw[←iG (enc:=iH) (z:=((0,0,0):Cl)) (n:=4*w*v)]
   rfl
  rw[z0]
  refine au (x:=Int.ofNat (4*w*v)) rfl ?_
  have hZ:(imL w v G r).length=(List.replicate (4*w*v) ((0,0,0):Cl)).length:=by rw[hI];simp
  have s1:(h1++[HO.o (.cells ((List.replicate (4*w*v) ((0,0,0):Cl)).flatMap iH) 3 true)])[id]? = some (.o (.cells (A.flatMap encM) 3 true)):=Pre.get ⟨_,rfl⟩ hol
  have s2:(h1++[HO.o (.cells ((List.replicate (4*w*v) ((0,0,0):Cl)).flatMap iH) 3 true)])[h1.length]? = some (HO.o (.cells ((List.replicate (4*w*v) ((0,0,0):Cl)).flatMap iH) 3 true)):=bR
  have s3:Pre H (h1++[HO.o (.cells ((List.replicate (4*w*v) ((0,0,0):Cl)).flatMap iH) 3 true)]):=hpre1.app _
  have hix:h1.length≠id:=by omega
  have hHi:H.length<=h1.length:=hpre1.len
  generalize List.replicate (4*w*v) ((0,0,0):Cl)=Z at *
  generalize h1++[HO.o (.cells (Z.flatMap iH) 3 true)]=h2 at *
  generalize h1.length=iX at *
  refine cT (σ:=HL) (4*w*v) (λj _=>[.i (Int.ofNat j)]) (λ_ s=>s) (λj s=>Pre H s/\s[id]? = some (.o (.cells (((plL w v G r).take j++A.drop j).flatMap encM) 3 true))/\s[iX]? = some (.o (.cells (((imL w v G r).take j++Z.drop j).flatMap iH) 3 true))) (j0:=0) (s0:=h2) rfl rfl (qbh _) ⟨s3,by simpa using s1,by simpa using s2⟩ ?_
  clear s1 s2 s3
  rintro j h hj ⟨s3,s1,s2⟩ self hself
  simp(disch:=omega)only[↓qXX]
  by_cases hlt:j<4*w*v
  ·rw[cr hlt]
   simp(disch:=omega)only[↓qXX]
   have ha:=hAG j hlt
   have hLj:=plL_get (G:=G) (r:=r) hlt
   have hIj:=imL_get (G:=G) (r:=r) hlt
   have lenP:=rz (j:=j) hP (by rw[hP,hA.len];omega)
   have lenI:=rz (j:=j) hZ (by rw[hI];omega)
   refine cI (ft dL s1 (by rw[lenP,hA.len])) rfl (mid_get ha hP) ?_
   unfold encM
   simp(disch:=omega)only[↓qXX]
   refine ah (cellIn (io w v hs.1 hs.2.1 hs.2.2.1 hs.2.2.2) hlt) ?_
   unfold cellN
   simp(disch:=omega)only[↓qXX]
   have okG:okM 2000 (G j):=hA.ok _ (qag ha)
   have okT:=iz okG hr
   refine ah (then_c okG hr (by omega)) ?_
   generalize bm (G j) r=m at *
   simp only[mvl,qaL,qaF]
   simp(disch:=omega)only[↓qXX]
   refine ic (enc:=encM) (l:=(plL w v G r).take j++A.drop j) (i:=j) (a:=m) dL s1 rfl (by rw[lenP,hA.len];exact hlt) (by rw[lenP,hA.len]) rfl ?_
   rw[take_set hLj hP]
   have s1':(putE h id 3 encM ((plL w v G r).take (j+1)++A.drop (j+1)))[id]? = some (.o (.cells (((plL w v G r).take (j+1)++A.drop (j+1)).flatMap encM) 3 true)):=cH (aM s1)
   have s2':(putE h id 3 encM ((plL w v G r).take (j+1)++A.drop (j+1)))[iX]? = some (.o (.cells (((imL w v G r).take j++Z.drop j).flatMap iH) 3 true)):=by rw[cW hix];exact s2
   have s3':Pre H (putE h id 3 encM ((plL w v G r).take (j+1)++A.drop (j+1))):=fv s3 hid
   generalize putE h id 3 encM ((plL w v G r).take (j+1)++A.drop (j+1))=h3 at *
   simp(disch:=omega)only[↓qXX]
   have lenP1:=rz (j:=j+1) hP (by rw[hP,hA.len];omega)
   refine cI (a:=m) (ft dL s1' (by rw[lenP1,hA.len])) rfl ?_ ?_
   ·rw[qaf (by rw[qa6,hP,hA.len];omega),qbe,if_pos (by omega)]
    exact hLj
   unfold encM
   simp(disch:=omega)only[↓qXX]
   have hcell:-1000<=(clN w j).1/\(clN w j).1<=1000/\-1000<=(clN w j).2.1/\(clN w j).2.1<=1000/\(clN w j).2.2<4:=by
    have d1:j / 4%w<=j / 4:=qdM _ _
    have d2:j / 4 / w<=j / 4:=qc8 _ _
    refine⟨?_,?_,?_,?_,qb3 _ (by omega)⟩
    ·exact qdy (show(-1000:Int)<=0 by decide) (qaT _)
    ·exact qdG.2 (show j / 4%w<=1000 by omega)
    ·exact qdy (show(-1000:Int)<=0 by decide) (qaT _)
    ·exact qdG.2 (show j / 4 / w<=1000 by omega)
   refine ah (move_c (c:=clN w j) (cu okT (by omega)) hcell) ?_
   generalize bn m (clN w j)=ci at *
   simp only[cll,qaL,qaF]
   simp(disch:=omega)only[↓qXX]
   refine ic (enc:=iH) (l:=(imL w v G r).take j++Z.drop j) (i:=j) (a:=ci) nn s2' rfl (by rw[lenI,←hZ,hI];exact hlt) (by rw[lenI,←hZ,hI]) rfl ?_
   rw[take_set hIj hZ]
   simp(disch:=omega)only[↓qXX]
   rw[fe (by omega)]
   refine hself _ hlt ⟨fv s3' hHi,by rw[cW (qbZ hix)];exact s1',cH (aM s2')⟩
  ·obtain rfl:j=4*w*v:=by omega
   rw[cK (qaz _)]
   simp(disch:=omega)only[↓qXX]
   rw[qaU (by rw[hP,hA.len];exact qaz _),qbI (by rw[hA.len];exact qaz _),qaR]at s1
   rw[qaU (by rw[hI];exact qaz _),qbI (by rw[←hZ,hI];exact qaz _),qaR]at s2
   exact⟨_,_,rfl,s3,ft dL s1 (by rw[hP,hA.len]),ft nn s2 (by rw[hI])⟩)
 exact⟨lx,ix,h',hc,hpre,hp1,hp2⟩
theorem places_c{w v:Nat}(hs:Sh w v){l:List Crs}(hk:(l.map bU).Nodup)(hl0:l.length<=1000){H:HL}{x:Value}(hl:LsH H x 3 encC l)(hck:aF cc ac 20 [.i (.ofNat w),.i (.ofNat v),.v x] (absH aa H) [.i 0] (absH aa H))
  {G:Nat->Mv} (hG:dp w v l G) (h0:G 0=idM) {r:Mv} (hr:okM 900 r) :
  ∃lx h',aF cc ac 11 ([.i (.ofNat w),.i (.ofNat v),.v x]++mvl r) (absH aa H) [.v lx,.i 0] (absH aa h')/\Pre H h'/\LsH h' lx 3 encM (plL w v G r):=by
 obtain⟨lx,ix,h1,c1,p1,p2,p3⟩:=both_c hs hk hl0 hl hck hG h0 hr
 obtain⟨rs,h',hc,rfl,rfl⟩:=x11 (ls:=[.i (.ofNat w),.i (.ofNat v),.v x,.i (Int.ofNat r.1),.i r.2.1,.i r.2.2]) (K:=λrs h'=>rs=[.v lx,.i 0]/\h'=h1) (H:=H) (glsI (glsI (glsV hl.good (glsI (glsI (glsI gls0)))))) (by
  unfold f11;simp only[qxh]
  simp(disch:=omega)only[↓qXX]
  refine aE c1 ?_
  simp(disch:=omega)only[↓qXX]
  exact⟨by trivial,by trivial⟩)
 exact⟨lx,_,hc,p1,p2⟩
theorem across1:Cc 59 [.i 1] [.i 1,.i 0]:=by
  refine q59 rfl ?_;unfold f59;simp only[qxh]
  simp(disch:=omega)only[↓qXX]
theorem across2:Cc 59 [.i 2] [.i 0,.i 1]:=by
  refine q59 rfl ?_;unfold f59;simp only[qxh]
  simp(disch:=omega)only[↓qXX]
theorem across3:Cc 59 [.i 3] [.i 1,.i 1]:=by
  refine q59 rfl ?_;unfold f59;simp only[qxh]
  simp(disch:=omega)only[↓qXX]
theorem across4:Cc 59 [.i 4] [.i (-1),.i 1]:=by
  refine q59 rfl ?_;unfold f59;simp only[qxh]
  simp(disch:=omega)only[↓qXX]
theorem farA:(∀ {c x y:Int},-1000000<=c/\c<=1000000/\-1000000<=x/\x<=1000000/\-1000000<=y/\y<=1000000->Cc 56 [.i 1,.i c,.i x,.i y] [.i (x - 2*c)])/\(∀ {c x y:Int},-1000000<=c/\c<=1000000/\-1000000<=x/\x<=1000000/\-1000000<=y/\y<=1000000->Cc 56 [.i 2,.i c,.i x,.i y] [.i (y - 2*c)])/\(∀ {c x y:Int},-1000000<=c/\c<=1000000/\-1000000<=x/\x<=1000000/\-1000000<=y/\y<=1000000->Cc 56 [.i 3,.i c,.i x,.i y] [.i (x+y - 2*c)])/\(∀ {c x y:Int},-1000000<=c/\c<=1000000/\-1000000<=x/\x<=1000000/\-1000000<=y/\y<=1000000->Cc 56 [.i 4,.i c,.i x,.i y] [.i (y - x - 2*c)]):=by
  refine⟨?_,?_,?_,?_⟩
  all_goals
    intro c x y h
    refine q56 rfl ?_;unfold f56;simp only[qxh]
    repeat (first|simp(disch:=omega)only[↓qXX]|refine ah across1 ?_|refine ah across2 ?_|refine ah across3 ?_|refine ah across4 ?_)
    (try simp only[qaX,Lf.i.injEq,and_true,true_and]);(try omega)
theorem reflA:(∀ {c x y:Int},-1000000<=c/\c<=1000000/\-1000000<=x/\x<=1000000/\-1000000<=y/\y<=1000000->Cc 37 [.i 1,.i c,.i x,.i y] [.i (4*c - x),.i y])/\(∀ {c x y:Int},-1000000<=c/\c<=1000000/\-1000000<=x/\x<=1000000/\-1000000<=y/\y<=1000000->Cc 37 [.i 2,.i c,.i x,.i y] [.i x,.i (4*c - y)])/\(∀ {c x y:Int},-1000000<=c/\c<=1000000/\-1000000<=x/\x<=1000000/\-1000000<=y/\y<=1000000->Cc 37 [.i 3,.i c,.i x,.i y] [.i (2*c - y),.i (2*c - x)])/\(∀ {c x y:Int},-1000000<=c/\c<=1000000/\-1000000<=x/\x<=1000000/\-1000000<=y/\y<=1000000->Cc 37 [.i 4,.i c,.i x,.i y] [.i (y - 2*c),.i (x+2*c)]):=by
  refine⟨?_,?_,?_,?_⟩
  all_goals
    intro c x y h
    refine q37 rfl ?_;unfold f37;simp only[qxh]
    repeat (first|simp(disch:=omega)only[↓qXX]|refine p_ari_2 (by simp only[Int.reduceToNat,Int.reduceAdd,Int.reduceMul,Int.reduceMod,Int.reduceSub,Int.reduceNeg,Int.reduceDiv,Nat.reduceAdd,Nat.reduceMul,Nat.reduceLeDiff,qaE,qbw,↓reduceIte,qbK,qa7,qbx,qb8,qaL,qaF,qaM,qcS,qbH,qce,qcV];exact rfl) ?_|refine ah across1 ?_|refine ah (farA.1 (by omega)) ?_|refine ah across2 ?_|refine ah (farA.2.1 (by omega)) ?_|refine ah across3 ?_|refine ah (farA.2.2.1 (by omega)) ?_|refine ah across4 ?_|refine ah (farA.2.2.2 (by omega)) ?_)
    (try simp only[qaX,Lf.i.injEq,and_true,true_and]);(try omega)
theorem lP:(∀ {x y:Int},-1000000<=x/\x<=1000000/\-1000000<=y/\y<=1000000->Cc 18 [.i x,.i y,.i 0] [.i (2*x+1),.i (2*y+1),.i (2*x),.i (2*y),.i (2*x+2),.i (2*y)])/\(∀ {x y:Int},-1000000<=x/\x<=1000000/\-1000000<=y/\y<=1000000->Cc 18 [.i x,.i y,.i 1] [.i (2*x+1),.i (2*y+1),.i (2*x+2),.i (2*y+2),.i (2*x+2),.i (2*y)])/\(∀ {x y:Int},-1000000<=x/\x<=1000000/\-1000000<=y/\y<=1000000->Cc 18 [.i x,.i y,.i 2] [.i (2*x+1),.i (2*y+1),.i (2*x+2),.i (2*y+2),.i (2*x),.i (2*y+2)])/\(∀ {x y:Int},-1000000<=x/\x<=1000000/\-1000000<=y/\y<=1000000->Cc 18 [.i x,.i y,.i 3] [.i (2*x+1),.i (2*y+1),.i (2*x),.i (2*y),.i (2*x),.i (2*y+2)]):=by
  refine⟨?_,?_,?_,?_⟩
  all_goals
    intro x y h
    refine q18 rfl ?_;unfold f18;simp only[qxh]
    repeat (first|simp(disch:=omega)only[↓qXX]|refine au (by simp only[cF,putL,offX,Int.reduceToNat,Int.reduceAdd,Int.reduceMul,Int.reduceMod,Int.reduceSub,Int.reduceNeg,Int.reduceDiv,Nat.reduceAdd,Nat.reduceMul,Nat.reduceLeDiff,qaE,qbw,↓reduceIte,qbK,qa7,qbx,qb8,qaL,qaF,qaM,qcS,qbH,qce,qcV];exact rfl) ?_)
    (try simp only[qaX,Lf.i.injEq,and_true,true_and]);(try omega)
theorem uw:(∀ {m n p q c d:Int},m%2=1/\n%2=1/\-1000000<=m/\m<=1000000/\-1000000<=n/\n<=1000000/\p=m - 1/\q=n - 1/\c=m+1/\d=n - 1->Cc 38 [.i m,.i n,.i p,.i q,.i c,.i d] [.i ((m - 1) / 2),.i ((n - 1) / 2),.i 0])/\(∀ {m n p q c d:Int},m%2=1/\n%2=1/\-1000000<=m/\m<=1000000/\-1000000<=n/\n<=1000000/\p=m+1/\q=n - 1/\c=m - 1/\d=n - 1->Cc 38 [.i m,.i n,.i p,.i q,.i c,.i d] [.i ((m - 1) / 2),.i ((n - 1) / 2),.i 0])/\(∀ {m n p q c d:Int},m%2=1/\n%2=1/\-1000000<=m/\m<=1000000/\-1000000<=n/\n<=1000000/\p=m+1/\q=n+1/\c=m+1/\d=n - 1->Cc 38 [.i m,.i n,.i p,.i q,.i c,.i d] [.i ((m - 1) / 2),.i ((n - 1) / 2),.i 1])/\(∀ {m n p q c d:Int},m%2=1/\n%2=1/\-1000000<=m/\m<=1000000/\-1000000<=n/\n<=1000000/\p=m+1/\q=n - 1/\c=m+1/\d=n+1->Cc 38 [.i m,.i n,.i p,.i q,.i c,.i d] [.i ((m - 1) / 2),.i ((n - 1) / 2),.i 1])/\(∀ {m n p q c d:Int},m%2=1/\n%2=1/\-1000000<=m/\m<=1000000/\-1000000<=n/\n<=1000000/\p=m+1/\q=n+1/\c=m - 1/\d=n+1->Cc 38 [.i m,.i n,.i p,.i q,.i c,.i d] [.i ((m - 1) / 2),.i ((n - 1) / 2),.i 2])/\(∀ {m n p q c d:Int},m%2=1/\n%2=1/\-1000000<=m/\m<=1000000/\-1000000<=n/\n<=1000000/\p=m - 1/\q=n+1/\c=m+1/\d=n+1->Cc 38 [.i m,.i n,.i p,.i q,.i c,.i d] [.i ((m - 1) / 2),.i ((n - 1) / 2),.i 2])/\(∀ {m n p q c d:Int},m%2=1/\n%2=1/\-1000000<=m/\m<=1000000/\-1000000<=n/\n<=1000000/\p=m - 1/\q=n - 1/\c=m - 1/\d=n+1->Cc 38 [.i m,.i n,.i p,.i q,.i c,.i d] [.i ((m - 1) / 2),.i ((n - 1) / 2),.i 3])/\(∀ {m n p q c d:Int},m%2=1/\n%2=1/\-1000000<=m/\m<=1000000/\-1000000<=n/\n<=1000000/\p=m - 1/\q=n+1/\c=m - 1/\d=n - 1->Cc 38 [.i m,.i n,.i p,.i q,.i c,.i d] [.i ((m - 1) / 2),.i ((n - 1) / 2),.i 3]):=by
  refine⟨?_,?_,?_,?_,?_,?_,?_,?_⟩
  all_goals
    intro m n p q c d h
    refine q38 rfl ?_;unfold f38;simp only[qxh]
    rcases qdc 0 m with hm|hm<;>rcases qdc 0 n with hn|hn
    all_goals
      (repeat (first|simp(disch:=omega)only[↓qXX]|refine au (by simp only[cF,putL,offX,Int.reduceToNat,Int.reduceAdd,Int.reduceMul,Int.reduceMod,Int.reduceSub,Int.reduceNeg,Int.reduceDiv,Nat.reduceAdd,Nat.reduceMul,Nat.reduceLeDiff,qaE,qbw,↓reduceIte,qbK,qa7,qbx,qb8,qaL,qaF,qaM,qcS,qbH,qce,qcV];exact rfl) ?_|refine p_loop 5 ?_|refine ah (lP.1 (by omega)) ?_|refine ah (lP.2.1 (by omega)) ?_|refine ah (lP.2.2.1 (by omega)) ?_|refine ah (lP.2.2.2 (by omega)) ?_);(try simp only[qaX,Lf.i.injEq,and_true,true_and]);(try omega))
theorem ie:(∀ {m n x y:Int},-1000000<=m/\m<=1000000/\-1000000<=n/\n<=1000000/\-1000000<=x/\x<=1000000/\-1000000<=y/\y<=1000000->Cc 57 [.i 0,.i m,.i n,.i x,.i y] [.i (x+2*m),.i (y+2*n)])/\(∀ {m n x y:Int},-1000000<=m/\m<=1000000/\-1000000<=n/\n<=1000000/\-1000000<=x/\x<=1000000/\-1000000<=y/\y<=1000000->Cc 57 [.i 1,.i m,.i n,.i x,.i y] [.i (-(y)+2*m),.i (x+2*n)])/\(∀ {m n x y:Int},-1000000<=m/\m<=1000000/\-1000000<=n/\n<=1000000/\-1000000<=x/\x<=1000000/\-1000000<=y/\y<=1000000->Cc 57 [.i 2,.i m,.i n,.i x,.i y] [.i (-(x)+2*m),.i (-(y)+2*n)])/\(∀ {m n x y:Int},-1000000<=m/\m<=1000000/\-1000000<=n/\n<=1000000/\-1000000<=x/\x<=1000000/\-1000000<=y/\y<=1000000->Cc 57 [.i 3,.i m,.i n,.i x,.i y] [.i (y+2*m),.i (-(x)+2*n)])/\(∀ {m n x y:Int},-1000000<=m/\m<=1000000/\-1000000<=n/\n<=1000000/\-1000000<=x/\x<=1000000/\-1000000<=y/\y<=1000000->Cc 57 [.i 4,.i m,.i n,.i x,.i y] [.i (-(x)+2*m),.i (y+2*n)])/\(∀ {m n x y:Int},-1000000<=m/\m<=1000000/\-1000000<=n/\n<=1000000/\-1000000<=x/\x<=1000000/\-1000000<=y/\y<=1000000->Cc 57 [.i 5,.i m,.i n,.i x,.i y] [.i (-(y)+2*m),.i (-(x)+2*n)])/\(∀ {m n x y:Int},-1000000<=m/\m<=1000000/\-1000000<=n/\n<=1000000/\-1000000<=x/\x<=1000000/\-1000000<=y/\y<=1000000->Cc 57 [.i 6,.i m,.i n,.i x,.i y] [.i (x+2*m),.i (-(y)+2*n)])/\(∀ {m n x y:Int},-1000000<=m/\m<=1000000/\-1000000<=n/\n<=1000000/\-1000000<=x/\x<=1000000/\-1000000<=y/\y<=1000000->Cc 57 [.i 7,.i m,.i n,.i x,.i y] [.i (y+2*m),.i (x+2*n)]):=by
  refine⟨?_,?_,?_,?_,?_,?_,?_,?_⟩
  all_goals
    intro m n x y h
    refine q57 rfl ?_;unfold f57;simp only[qxh]
    repeat (first|simp(disch:=omega)only[↓qXX])
    (try simp only[qaX,Lf.i.injEq,and_true,true_and]);(try omega)
theorem eqs2{a b c d:Int}{t:Bool}{K:Bool->Prop}(h:t=(decide (a=c)&&decide (b=d))):P1.eqs [(.i a,.i c),(.i b,.i d)] (@hid _ ⟨K⟩)=K t:=by
  show K (cm _)=K t
  have e:cm [(.i a,.i c),(.i b,.i d)]=t:=by
    rw[h,qbo]
    simp[cm,gP]
  rw[e]
theorem ee{f:FuncId}{ls rs rs':List Lf}(h:Cc f ls rs)(e:rs=rs'):Cc f ls rs':=e▸h
theorem cP{m:Mv}(ht:m.1<8){x y:Int}(h:-100000<=m.2.1/\m.2.1<=100000/\-100000<=m.2.2/\m.2.2<=100000/\-100000<=x/\x<=100000/\-100000<=y/\y<=100000):Cc 57 (mvl m++[.i x,.i y]) [.i (ptM m x y).1,.i (ptM m x y).2]:=by
  obtain⟨t,mx,my⟩:=m
  simp only at ht h
  rcases t8 ht with rfl|rfl|rfl|rfl|rfl|rfl|rfl|rfl
  · exact ee (ie.1 (m:=mx) (n:=my) (x:=x) (y:=y) (by omega)) (by simp[ptM,mA,mB,mC,mD];try omega)
  · exact ee (ie.2.1 (m:=mx) (n:=my) (x:=x) (y:=y) (by omega)) (by simp[ptM,mA,mB,mC,mD];try omega)
  · exact ee (ie.2.2.1 (m:=mx) (n:=my) (x:=x) (y:=y) (by omega)) (by simp[ptM,mA,mB,mC,mD];try omega)
  · exact ee (ie.2.2.2.1 (m:=mx) (n:=my) (x:=x) (y:=y) (by omega)) (by simp[ptM,mA,mB,mC,mD];try omega)
  · exact ee (ie.2.2.2.2.1 (m:=mx) (n:=my) (x:=x) (y:=y) (by omega)) (by simp[ptM,mA,mB,mC,mD];try omega)
  · exact ee (ie.2.2.2.2.2.1 (m:=mx) (n:=my) (x:=x) (y:=y) (by omega)) (by simp[ptM,mA,mB,mC,mD];try omega)
  · exact ee (ie.2.2.2.2.2.2.1 (m:=mx) (n:=my) (x:=x) (y:=y) (by omega)) (by simp[ptM,mA,mB,mC,mD];try omega)
  · exact ee (ie.2.2.2.2.2.2.2 (m:=mx) (n:=my) (x:=x) (y:=y) (by omega)) (by simp[ptM,mA,mB,mC,mD];try omega)
theorem mat_ne:((List.range 8).all λs=>(List.range 8).all λt=>Nat.beq s t || !(decide (mA s=mA t)&&decide (mC s=mC t)&&(decide (mB s=mB t)&&decide (mD s=mD t))))=true:=by decide +kernel
theorem rtold_c{m:Mv}(hm:okM 10000 m):Cc 58 [.i (ptM m 0 0).1,.i (ptM m 0 0).2,.i (ptM m 2 0).1,.i (ptM m 2 0).2,.i (ptM m 0 2).1,.i (ptM m 0 2).2] (mvl m):=by
  obtain⟨t,mx,my⟩:=m
  have ht:t<8:=hm.1
  have hm':=hm.2
  simp only at hm'
  have e1:(ptM (t,mx,my) 0 0).1=2*mx:=by simp[ptM]
  have e2:(ptM (t,mx,my) 0 0).2=2*my:=by simp[ptM]
  refine q58 rfl ?_;unfold f58;simp only[qxh]
  simp(disch:=omega)only[↓qXX]
  refine cT 8 (λj (_:Unit)=>[.i (Int.ofNat j)]) (λ_ _=>[]) (λj _=>j<=t) (j0:=0) (s0:=()) rfl rfl (by omega) (qbh _) ?_
  rintro j _ hj8 hjt self hself
  simp(disch:=omega)only[↓qXX]
  rw[p_lss_t (by show((j:Nat):Int)<8;omega)]
  simp(disch:=omega)only[↓qXX]
  rw[e1,e2]
  try simp(disch:=omega)only[↓qXX]
  rw[show 2*mx / 2=mx by omega,show 2*my / 2=my by omega]
  have hadd:∀K:Int->Prop,P1.ari .add .u8 (Int.ofNat j) 1 (@hid _ ⟨K⟩)=K (Int.ofNat j+1):=λK=>p_add8 (by show(0:Int)<=(j:Int)+1;omega) (by show(j:Int)+1<=255;omega)
  refine ah (cP (m:=(j,mx,my)) (by show j<8;omega) (x:=2) (y:=0) (by simp only;omega)) ?_
  simp(disch:=omega)only[↓qXX]
  have n1:∀s:Nat,((ptM (s,mx,my) 2 0).1=2*mA s+2*mx)/\((ptM (s,mx,my) 2 0).2=2*mC s+2*my)/\((ptM (s,mx,my) 0 2).1=2*mB s+2*mx)/\((ptM (s,mx,my) 0 2).2=2*mD s+2*my):=λs=>by
    simp[ptM];omega
  have nj:=n1 j
  have nt:=n1 t
  rw[eqs2 rfl]
  by_cases hjt2:j=t
  · subst hjt2
    rw[decide_eq_true rfl,decide_eq_true rfl]
    simp(disch:=omega)only[↓qXX,qdp]
    refine ah (cP (m:=(j,mx,my)) (by show j<8;omega) (x:=0) (y:=2) (by simp only;omega)) ?_
    simp(disch:=omega)only[↓qXX]
    try rw[eqs2 rfl,decide_eq_true rfl,decide_eq_true rfl]
    try simp(disch:=omega)only[↓qXX,qdp]
    refine ah (cP (m:=(j,mx,my)) (by show j<8;omega) (x:=0) (y:=0) (by simp only;omega)) ?_
    simp(disch:=omega)only[↓qXX]
    try rw[e1,e2]
    try rw[eqs2 rfl,decide_eq_true rfl,decide_eq_true rfl]
    try simp(disch:=omega)only[↓qXX,qdp]
  · have hne:=qab.1 (qab.1 mat_ne j (qad.2 (by omega))) t (qad.2 ht)
    have hb:Nat.beq j t=false:=by
      cases h:Nat.beq j t with
      |true=>exact absurd (qac h) hjt2
      |false=>rfl
    rw[hb]at hne
    by_cases h1:mA j=mA t/\mC j=mC t
    · rw[decide_eq_true (by omega),decide_eq_true (by omega)]
      simp(disch:=omega)only[↓qXX,qdp]
      refine ah (cP (m:=(j,mx,my)) (by show j<8;omega) (x:=0) (y:=2) (by simp only;omega)) ?_
      simp(disch:=omega)only[↓qXX]
      rw[eqs2 rfl]
      have h2:¬(mB j=mB t/\mD j=mD t):=λh2=>by
        simp[h1.1,h1.2,h2.1,h2.2]at hne
      have h3:(decide ((ptM (j,mx,my) 0 2).1=(ptM (t,mx,my) 0 2).1)&&decide ((ptM (j,mx,my) 0 2).2=(ptM (t,mx,my) 0 2).2))=false:=by
        rw[qcM]
        intro h
        simp only[qaa,decide_eq_true_eq]at h
        exact h2 (by omega)
      rw[h3]
      simp(disch:=omega)only[↓qXX]
      rw[hadd]
      exact hself () (by omega) (by omega)
    · have h3:(decide ((ptM (j,mx,my) 2 0).1=(ptM (t,mx,my) 2 0).1)&&decide ((ptM (j,mx,my) 2 0).2=(ptM (t,mx,my) 2 0).2))=false:=by
        rw[qcM]
        intro h
        simp only[qaa,decide_eq_true_eq]at h
        exact h1 (by omega)
      rw[h3]
      simp(disch:=omega)only[↓qXX]
      rw[hadd]
      exact hself () (by omega) (by omega)
theorem vo{a b:Mv}(ha:a.1<8)(hb:b.1<8)(x y:Int):ptM b (ptM a x y).1 (ptM a x y).2=ptM (bm a b) x y:=by
  obtain⟨at',ax,ay⟩:=a
  obtain⟨bt,bx,by'⟩:=b
  simp only at ha hb
  unfold ptM bm
  rcases t8 ha with rfl|rfl|rfl|rfl|rfl|rfl|rfl|rfl<;>rcases t8 hb with rfl|rfl|rfl|rfl|rfl|rfl|rfl|rfl<;>
    (refine qdI ?_ ?_<;>simp[mulT,mA,mB,mC,mD]<;>omega)
theorem pt_rng{m:Mv}{n:Int}(hm:okM n m){x y k:Int}(h:-k<=x/\x<=k/\-k<=y/\y<=k):-(2*n+k)<=(ptM m x y).1/\(ptM m x y).1<=2*n+k/\-(2*n+k)<=(ptM m x y).2/\(ptM m x y).2<=2*n+k:=by
  have h1:=uW hm.1 h
  have h2:=hm.2
  unfold ptM
  simp only
  omega
theorem rthen_c{a b:Mv}{n k:Int}(ha:okM n a)(hb:okM k b)(hn:0<=n/\0<=k/\n+k<=10000):Cc 33 (mvl a++mvl b) (mvl (bm a b)):=by
  have h0:=cu (iz ha hb) hn.2.2
  have ht:=rtold_c h0
  rw[←vo ha.1 hb.1,←vo ha.1 hb.1,←vo ha.1 hb.1]at ht
  have r0:=pt_rng ha (x:=0) (y:=0) (k:=2) (by omega)
  have r1:=pt_rng ha (x:=2) (y:=0) (k:=2) (by omega)
  have r2:=pt_rng ha (x:=0) (y:=2) (k:=2) (by omega)
  have a2:=ha.2
  have b2:=hb.2
  refine q33 rfl ?_;unfold f33;simp only[qxh]
  simp only[mvl,qaL,qaF]
  simp(disch:=omega)only[↓qXX]
  refine ah (cP ha.1 (x:=0) (y:=0) (by omega)) ?_
  simp(disch:=omega)only[↓qXX]
  refine ah (cP hb.1 (by omega)) ?_
  simp(disch:=omega)only[↓qXX]
  refine ah (cP ha.1 (x:=2) (y:=0) (by omega)) ?_
  simp(disch:=omega)only[↓qXX]
  refine ah (cP hb.1 (by omega)) ?_
  simp(disch:=omega)only[↓qXX]
  refine ah (cP ha.1 (x:=0) (y:=2) (by omega)) ?_
  simp(disch:=omega)only[↓qXX]
  refine ah (cP hb.1 (by omega)) ?_
  simp(disch:=omega)only[↓qXX]
  refine ah ht ?_
  simp only[mvl]
  simp(disch:=omega)only[↓qXX]
theorem vr{l:Ln}(hl:1<=l.1/\l.1<=4)(hc:-100<=l.2/\l.2<=100){x y:Int}(h:-100<=x/\x<=100/\-100<=y/\y<=100):Cc 37 [.i (Int.ofNat l.1),.i l.2,.i x,.i y] [.i (ptM (ofM l) x y).1,.i (ptM (ofM l) x y).2]:=by
  obtain⟨k,c⟩:=l
  simp only at hl hc
  obtain rfl|rfl|rfl|rfl:k=1∨k=2∨k=3∨k=4:=by omega
  · exact ee (reflA.1 (c:=c) (x:=x) (y:=y) (by omega)) (by simp[ptM,ofM,mA,mB,mC,mD];try omega)
  · exact ee (reflA.2.1 (c:=c) (x:=x) (y:=y) (by omega)) (by simp[ptM,ofM,mA,mB,mC,mD];try omega)
  · exact ee (reflA.2.2.1 (c:=c) (x:=x) (y:=y) (by omega)) (by simp[ptM,ofM,mA,mB,mC,mD];try omega)
  · exact ee (reflA.2.2.2 (c:=c) (x:=x) (y:=y) (by omega)) (by simp[ptM,ofM,mA,mB,mC,mD];try omega)
theorem rof_c{l:Ln}(hl:1<=l.1/\l.1<=4)(hc:-100<=l.2/\l.2<=100):Cc 34 [.i (Int.ofNat l.1),.i l.2] (mvl (ofM l)):=by
  have ht:=rtold_c (cu (tO hc) (by omega))
  refine q34 rfl ?_;unfold f34;simp only[qxh]
  simp(disch:=omega)only[↓qXX]
  refine ah (vr hl hc (x:=0) (y:=0) (by omega)) ?_
  simp(disch:=omega)only[↓qXX]
  refine ah (vr hl hc (x:=2) (y:=0) (by omega)) ?_
  simp(disch:=omega)only[↓qXX]
  refine ah (vr hl hc (x:=0) (y:=2) (by omega)) ?_
  simp(disch:=omega)only[↓qXX]
  refine ah ht ?_
  simp only[mvl]
  simp(disch:=omega)only[↓qXX]
def o1x(q:Nat):Int:=[0,2,2,0].getD q 0
def o2x(q:Nat):Int:=[2,2,0,0].getD q 0
def o2y(q:Nat):Int:=[0,0,2,2].getD q 0
theorem q4{q:Nat}(h:q<4):q=0∨q=1∨q=2∨q=3:=by omega
theorem rcorn_c{c:Cl}(h:-100000<=c.1/\c.1<=100000/\-100000<=c.2.1/\c.2.1<=100000/\c.2.2<4):Cc 18 (cll c) [.i (2*c.1+1),.i (2*c.2.1+1),.i (2*c.1+o1x c.2.2),.i (2*c.2.1+o1x c.2.2),.i (2*c.1+o2x c.2.2),.i (2*c.2.1+o2y c.2.2)]:=by
  obtain⟨x,y,q⟩:=c
  simp only at h
  rcases q4 h.2.2.2.2 with rfl|rfl|rfl|rfl
  · exact ee (lP.1 (x:=x) (y:=y) (by omega)) (by simp[o1x,o2x,o2y])
  · exact ee (lP.2.1 (x:=x) (y:=y) (by omega)) (by simp[o1x,o2x,o2y])
  · exact ee (lP.2.2.1 (x:=x) (y:=y) (by omega)) (by simp[o1x,o2x,o2y])
  · exact ee (lP.2.2.2 (x:=x) (y:=y) (by omega)) (by simp[o1x,o2x,o2y])
theorem rwith_c{c:Cl}(h:-1000<=c.1/\c.1<=1000/\-1000<=c.2.1/\c.2.1<=1000/\c.2.2<4){X Y a b d e:Int}(hX:X=2*c.1+1)(hY:Y=2*c.2.1+1)
    (hc:(a=2*c.1+o1x c.2.2/\b=2*c.2.1+o1x c.2.2/\d=2*c.1+o2x c.2.2/\e=2*c.2.1+o2y c.2.2)∨(d=2*c.1+o1x c.2.2/\e=2*c.2.1+o1x c.2.2/\a=2*c.1+o2x c.2.2/\b=2*c.2.1+o2y c.2.2)) :
    Cc 38 [.i X,.i Y,.i a,.i b,.i d,.i e] (cll c):=by
  obtain⟨x,y,q⟩:=c
  simp only at h hX hY
  have ex:(X - 1) / 2=x:=by omega
  have ey:(Y - 1) / 2=y:=by omega
  rcases q4 h.2.2.2.2 with rfl|rfl|rfl|rfl
  all_goals
    simp[o1x,o2x,o2y]at hc
    rcases hc with hc|hc
  · exact ee (uw.1 (m:=X) (n:=Y) (p:=a) (q:=b) (c:=d) (d:=e) (by omega)) (by rw[ex,ey];rfl)
  · exact ee (uw.2.1 (m:=X) (n:=Y) (p:=a) (q:=b) (c:=d) (d:=e) (by omega)) (by rw[ex,ey];rfl)
  · exact ee (uw.2.2.1 (m:=X) (n:=Y) (p:=a) (q:=b) (c:=d) (d:=e) (by omega)) (by rw[ex,ey];rfl)
  · exact ee (uw.2.2.2.1 (m:=X) (n:=Y) (p:=a) (q:=b) (c:=d) (d:=e) (by omega)) (by rw[ex,ey];rfl)
  · exact ee (uw.2.2.2.2.1 (m:=X) (n:=Y) (p:=a) (q:=b) (c:=d) (d:=e) (by omega)) (by rw[ex,ey];rfl)
  · exact ee (uw.2.2.2.2.2.1 (m:=X) (n:=Y) (p:=a) (q:=b) (c:=d) (d:=e) (by omega)) (by rw[ex,ey];rfl)
  · exact ee (uw.2.2.2.2.2.2.1 (m:=X) (n:=Y) (p:=a) (q:=b) (c:=d) (d:=e) (by omega)) (by rw[ex,ey];rfl)
  · exact ee (uw.2.2.2.2.2.2.2 (m:=X) (n:=Y) (p:=a) (q:=b) (c:=d) (d:=e) (by omega)) (by rw[ex,ey];rfl)
theorem corn_move{m:Mv}(hm:m.1<8){c:Cl}(hq:c.2.2<4) :
    (ptM m (2*c.1+1) (2*c.2.1+1)).1=2*(bn m c).1+1/\(ptM m (2*c.1+1) (2*c.2.1+1)).2=2*(bn m c).2.1+1/\
    (((ptM m (2*c.1+o1x c.2.2) (2*c.2.1+o1x c.2.2)).1=2*(bn m c).1+o1x (bn m c).2.2/\(ptM m (2*c.1+o1x c.2.2) (2*c.2.1+o1x c.2.2)).2=2*(bn m c).2.1+o1x (bn m c).2.2/\(ptM m (2*c.1+o2x c.2.2) (2*c.2.1+o2y c.2.2)).1=2*(bn m c).1+o2x (bn m c).2.2/\(ptM m (2*c.1+o2x c.2.2) (2*c.2.1+o2y c.2.2)).2=2*(bn m c).2.1+o2y (bn m c).2.2)∨
     ((ptM m (2*c.1+o2x c.2.2) (2*c.2.1+o2y c.2.2)).1=2*(bn m c).1+o1x (bn m c).2.2/\(ptM m (2*c.1+o2x c.2.2) (2*c.2.1+o2y c.2.2)).2=2*(bn m c).2.1+o1x (bn m c).2.2/\(ptM m (2*c.1+o1x c.2.2) (2*c.2.1+o1x c.2.2)).1=2*(bn m c).1+o2x (bn m c).2.2/\(ptM m (2*c.1+o1x c.2.2) (2*c.2.1+o1x c.2.2)).2=2*(bn m c).2.1+o2y (bn m c).2.2)):=by
  obtain⟨t,mx,my⟩:=m
  obtain⟨x,y,q⟩:=c
  simp only at hm hq
  rcases t8 hm with rfl|rfl|rfl|rfl|rfl|rfl|rfl|rfl<;>rcases q4 hq with rfl|rfl|rfl|rfl<;>
    (simp[ptM,bn,qT,mA,mB,mC,mD,o1x,o2x,o2y];omega)
theorem rmove_c{m:Mv}(hm:okM 800 m){c:Cl}(h:-100<=c.1/\c.1<=100/\-100<=c.2.1/\c.2.1<=100/\c.2.2<4):Cc 32 (mvl m++cll c) (cll (bn m c)):=by
  obtain⟨k1,k2,k3⟩:=corn_move hm.1 (c:=c) h.2.2.2.2
  have hr:=nO hm (k:=100) ⟨h.1,h.2.1,h.2.2.1,h.2.2.2.1⟩
  have hm2:=hm.2
  have p1:0<=o1x c.2.2/\o1x c.2.2<=2/\0<=o2x c.2.2/\o2x c.2.2<=2/\0<=o2y c.2.2/\o2y c.2.2<=2:=by
    rcases q4 h.2.2.2.2 with hq|hq|hq|hq<;>rw[hq]<;>decide
  refine q32 rfl ?_;unfold f32;simp only[qxh]
  simp only[mvl,qaL,qaF]
  simp(disch:=omega)only[↓qXX]
  refine ah (rcorn_c (c:=c) ⟨by omega,by omega,by omega,by omega,h.2.2.2.2⟩) ?_
  simp(disch:=omega)only[↓qXX]
  have w0:=cP hm.1 (x:=2*c.1+1) (y:=2*c.2.1+1) (by omega)
  have w1:=cP hm.1 (x:=2*c.1+o1x c.2.2) (y:=2*c.2.1+o1x c.2.2) (by omega)
  have w2:=cP hm.1 (x:=2*c.1+o2x c.2.2) (y:=2*c.2.1+o2y c.2.2) (by omega)
  have w3:=rwith_c (c:=bn m c) ⟨by omega,by omega,by omega,by omega,hr.2.2.2.2⟩ k1 k2 k3
  repeat (first|simp(disch:=omega)only[↓qXX]|refine au (by simp only[cF,putL,offX,Int.reduceToNat,Int.reduceAdd,Int.reduceMul,Int.reduceMod,Int.reduceSub,Int.reduceNeg,Int.reduceDiv,Nat.reduceAdd,Nat.reduceMul,Nat.reduceLeDiff,qaE,qbw,↓reduceIte,qbK,qa7,qbx,qb8,qaL,qaF,qaM,qcS,qbH,qce,qcV];exact rfl) ?_|refine p_loop 4 ?_|refine ah w0 ?_|refine ah w1 ?_|refine ah w2 ?_|refine ah w3 ?_)
  try rfl
theorem rside_c{l:Ln}(hl:1<=l.1/\l.1<=4)(hc:-100<=l.2/\l.2<=100){c:Cl}(h:-2000<=c.1/\c.1<=2000/\-2000<=c.2.1/\c.2.1<=2000/\c.2.2<4):Cc 31 ([.i (Int.ofNat l.1),.i l.2]++cll c) [.i (if dS l c then 1 else 0)]:=by
  have hk:=rcorn_c (c:=c) ⟨by omega,by omega,by omega,by omega,h.2.2.2.2⟩
  obtain⟨k,n⟩:=l
  obtain⟨x,y,q⟩:=c
  simp only at hl hc h
  refine q31 rfl ?_;unfold f31;simp only[qxh]
  simp only[cll,qaL,qaF]
  simp(disch:=omega)only[↓qXX]
  refine ah hk ?_
  simp(disch:=omega)only[↓qXX]
  have p1:0<=o1x q/\o1x q<=2/\0<=o2x q/\o2x q<=2/\0<=o2y q/\o2y q<=2:=by
    rcases q4 h.2.2.2.2 with hq|hq|hq|hq<;>rw[hq]<;>decide
  have hq:=h.2.2.2.2
  obtain rfl|rfl|rfl|rfl:k=1∨k=2∨k=3∨k=4:=by omega
  · refine ah (farA.1 (by omega)) ?_
    simp(disch:=omega)only[↓qXX]
    refine ah (farA.1 (by omega)) ?_
    simp(disch:=omega)only[↓qXX]
    refine ah (farA.1 (by omega)) ?_
    simp(disch:=omega)only[↓qXX]
    have key:(0<2*x+1 - 2*n+(2*x+o1x q - 2*n)+(2*x+o2x q - 2*n))↔dS (1,n) (x,y,q)=true:=by
      rcases q4 hq with rfl|rfl|rfl|rfl<;>simp[o1x,o2x,o2y,dS]<;>omega
    by_cases hs:dS (1,n) (x,y,q)=true
    · have:=key.2 hs
      rw[p_gtr_t (by omega)]
      simp(disch:=omega)only[↓qXX]
      rw[if_pos hs]
    · have:¬_:=λh=>hs (key.1 h)
      rw[p_gtr_f (by omega)]
      simp(disch:=omega)only[↓qXX]
      rw[if_neg hs]
  · refine ah (farA.2.1 (by omega)) ?_
    simp(disch:=omega)only[↓qXX]
    refine ah (farA.2.1 (by omega)) ?_
    simp(disch:=omega)only[↓qXX]
    refine ah (farA.2.1 (by omega)) ?_
    simp(disch:=omega)only[↓qXX]
    have key:(0<2*y+1 - 2*n+(2*y+o1x q - 2*n)+(2*y+o2y q - 2*n))↔dS (2,n) (x,y,q)=true:=by
      rcases q4 hq with rfl|rfl|rfl|rfl<;>simp[o1x,o2x,o2y,dS]<;>omega
    by_cases hs:dS (2,n) (x,y,q)=true
    · have:=key.2 hs
      rw[p_gtr_t (by omega)]
      simp(disch:=omega)only[↓qXX]
      rw[if_pos hs]
    · have:¬_:=λh=>hs (key.1 h)
      rw[p_gtr_f (by omega)]
      simp(disch:=omega)only[↓qXX]
      rw[if_neg hs]
  · refine ah (farA.2.2.1 (by omega)) ?_
    simp(disch:=omega)only[↓qXX]
    refine ah (farA.2.2.1 (by omega)) ?_
    simp(disch:=omega)only[↓qXX]
    refine ah (farA.2.2.1 (by omega)) ?_
    simp(disch:=omega)only[↓qXX]
    have key:(0<2*x+1+(2*y+1) - 2*n+(2*x+o1x q+(2*y+o1x q) - 2*n)+(2*x+o2x q+(2*y+o2y q) - 2*n))↔dS (3,n) (x,y,q)=true:=by
      rcases q4 hq with rfl|rfl|rfl|rfl<;>simp[o1x,o2x,o2y,dS]<;>omega
    by_cases hs:dS (3,n) (x,y,q)=true
    · have:=key.2 hs
      rw[p_gtr_t (by omega)]
      simp(disch:=omega)only[↓qXX]
      rw[if_pos hs]
    · have:¬_:=λh=>hs (key.1 h)
      rw[p_gtr_f (by omega)]
      simp(disch:=omega)only[↓qXX]
      rw[if_neg hs]
  · refine ah (farA.2.2.2 (by omega)) ?_
    simp(disch:=omega)only[↓qXX]
    refine ah (farA.2.2.2 (by omega)) ?_
    simp(disch:=omega)only[↓qXX]
    refine ah (farA.2.2.2 (by omega)) ?_
    simp(disch:=omega)only[↓qXX]
    have key:(0<2*y+1 - (2*x+1) - 2*n+(2*y+o1x q - (2*x+o1x q) - 2*n)+(2*y+o2y q - (2*x+o2x q) - 2*n))↔dS (4,n) (x,y,q)=true:=by
      rcases q4 hq with rfl|rfl|rfl|rfl<;>simp[o1x,o2x,o2y,dS]<;>omega
    by_cases hs:dS (4,n) (x,y,q)=true
    · have:=key.2 hs
      rw[p_gtr_t (by omega)]
      simp(disch:=omega)only[↓qXX]
      rw[if_pos hs]
    · have:¬_:=λh=>hs (key.1 h)
      rw[p_gtr_f (by omega)]
      simp(disch:=omega)only[↓qXX]
      rw[if_neg hs]
set_option maxHeartbeats 4000000
def ltU(c:Crs)(a b:Int):Bool:=decide (c.1<a)||(decide (c.1=a)&&decide (c.2.1<b))
theorem kN{c:Crs}{a b:Int}:ltU c a b=true↔c.1<a∨(c.1=a/\c.2.1<b):=by
 simp only[ltU,qaG,qaa,decide_eq_true_eq]
theorem order_u{c:Crs}{a b:Int}(h:0<=c.1/\c.1<=1000/\0<=a/\a<=1000/\0<=c.2.1/\c.2.1<=255/\0<=b/\b<=255):∃d:Int,Cc 45 [.i c.1,.i c.2.1,.i a,.i b] [.i d]/\(d<0↔ltU c a b=true)/\(d=0↔c.1=a/\c.2.1=b):=by
 by_cases h1:c.1=a
 ·refine⟨c.2.1 - b,?_,by rw[kN];omega,by omega⟩
  refine q45 rfl ?_;unfold f45;simp only[qxh]
  simp(disch:=omega)only[↓qXX]
 ·refine⟨c.1 - a,?_,by rw[kN];omega,by omega⟩
  refine q45 rfl ?_;unfold f45;simp only[qxh]
  simp(disch:=omega)only[↓qXX]
theorem find1_c{c:Crs}{a b:Int}(h:0<=c.1/\c.1<=1000/\0<=a/\a<=1000/\0<=c.2.1/\c.2.1<=255/\0<=b/\b<=255):∃d:Int,Cc 138 [.i c.1,.i c.2.1,.i c.2.2,.i a,.i b] [.i d]/\(d<0↔ltU c a b=true)/\(d=0↔c.1=a/\c.2.1=b):=by
 obtain⟨d,hd,h1,h2⟩:=order_u h
 refine⟨d,?_,h1,h2⟩
 refine q138 rfl ?_;unfold f138;simp only[qxh]
 simp(disch:=omega)only[↓qXX]
 refine ah (xB c) ?_
 simp(disch:=omega)only[↓qXX]
 refine ah hd ?_
 simp(disch:=omega)only[↓qXX]
abbrev cloF:Value:=.func (.func 138) ⟨[]⟩ ⟨[]⟩
theorem goodF1:bf cloF=true:=rfl
theorem p_half{a:Int}{K:Int->Prop}(h0:0<=a)(hk:K (a / 2)):P1.shf .shr .u64 a .u64 1 (@hid _ ⟨K⟩):=by
 refine s_shf (lm 0) (K:=λn=>if n=a / 2 then yes else none) (λn hn=>?_) ?_
 ·by_cases e:n=a / 2
  ·rw[e];exact hk
  ·simp only[if_neg e]at hn;cases hn
 ·have e0:∀(K:Int->RT),(BA ac aa (runF 0)).shf .shr .u64 a .u64 1 K=shfB .shr .u64 a .u64 1 K:=λ_=>rfl
  rw[e0]
  have e1:leZ 0 1=true:=rfl
  unfold shfB
  rw[e1]
  simp only
  rw[iY]
  have:a.fdiv (2 ^ min (1:Int).toNat IntKind.u64.bits)=a / 2:=by
   show a.fdiv 2=a / 2
   exact Int.fdiv_eq_ediv_of_nonneg a (by omega)
  rw[this,if_pos rfl]
theorem vj{a:Int}{K:Int->Prop}(h1:0<=a)(h2:a<=9223372036854775807)(hk:K a):P1.conv .u64 a (@hid _ ⟨K⟩):=by
 show K (IntKind.wrap .u64 a)
 have:IntKind.wrap .u64 a=a:=by
  simp only[IntKind.wrap,IntKind.bits,IntKind.signed,qcR,qar,if_false]
  omega
 rw[this];exact hk
def rngC(c:Crs):Prop:=0<=c.1/\c.1<=1000/\0<=c.2.1/\c.2.1<=255/\0<=c.2.2/\c.2.2<=255
def At(l:List Crs)(a b:Int)(i:Nat):Prop:=i<=l.length/\(∀(k:Nat) c,l[k]? = some c->k<i->ltU c a b=true)/\∀(k:Nat) c,l[k]? = some c->i<=k->ltU c a b=false
def isAt(l:List Crs)(a b:Int)(i:Nat):Bool:=match l[i]? with
 |some c=>decide (c.1=a)&&decide (c.2.1=b)
 |none=>false
theorem asc_le{l:List Crs}(h:ascC l=true):∀(n i:Nat) a b,l[i]? = some a->l[i+n+1]? = some b->ltC a b=true
 |0,i,a,b,ha,hb=>jv.1 h i a b ha hb
 |n+1,i,a,b,ha,hb=>by
  obtain⟨c,hc⟩:=bi (l:=l) (i:=i+n+1) (by have:=aM hb;omega)
  have h1:=asc_le h n i a c ha hc
  have h2:=jv.1 h (i+n+1) c b hc (by rw[show i+n+1+1=i+(n+1)+1 by omega];exact hb)
  simp only[ltC,qaG,qaa,decide_eq_true_eq]at h1 h2 ⊢
  omega
theorem asc_lt{l:List Crs}(h:ascC l=true){i j:Nat}{a b:Crs}(hij:i<j)(ha:l[i]? = some a)(hb:l[j]? = some b):ltC a b=true:=
 asc_le h (j - i - 1) i a b ha (by rw[show i+(j - i - 1)+1=j by omega];exact hb)
theorem bin_c{h:HL}{x:Value}{l:List Crs}(hl:LsH h x 3 encC l)(hk:∀c∈l,rngC c)(hn:l.length<=1000)(hasc:ascC l=true){a b:Int}(hu:0<=a/\a<=1000/\0<=b/\b<=255) :
  ∃i:Nat,At l a b i/\aF cc ac 137 [.v x,.i a,.i b,.v cloF] (absH aa h) [.i (Int.ofNat i),.b (isAt l a b i)] (absH aa h):=by
 obtain⟨rs,h',h1,i,rfl,rfl,h2⟩:=x137 (K:=λrs h'=>∃i:Nat,rs=[.i (Int.ofNat i),.b (isAt l a b i)]/\h'=h/\At l a b i) (H:=h) (glsV hl.good (glsI (glsI (glsV goodF1 gls0)))) (by
  unfold f137;simp only[qxh]
  simp(disch:=omega)only[↓qXX]
  refine dI hl ?_
  refine dj (m:=l.length) (λm ls h'=>∃i j:Nat,ls=[.i (Int.ofNat i),.i (Int.ofNat j)]/\h'=h/\i<=j/\j<=l.length/\m=j - i/\(∀(k:Nat) c,l[k]? = some c->k<i->ltU c a b=true)/\∀(k:Nat) c,l[k]? = some c->j<=k->ltU c a b=false) ⟨0,l.length,rfl,rfl,by omega,by omega,by omega,λk c _ hk=>by omega,λk c hc hk=>by have:=aM hc;omega⟩ ?_
  rintro m ls h' ⟨i,j,rfl,rfl,hij,hj,rfl,hlo,hhi⟩ self hself
  refine hidL ?_
  simp(disch:=omega)only[↓qXX]
  by_cases hlt:i<j
  ·rw[cr hlt]
   simp(disch:=omega)only[↓qXX]
   rw[p_add (by show -9223372036854775808<=(i:Int)+j;omega) (by show(i:Int)+j<=9223372036854775807;omega)]
   refine vj (by show 0<=(i:Int)+j;omega) (by show(i:Int)+j<=9223372036854775807;omega) ?_
   refine p_half (by show 0<=(i:Int)+j;omega) ?_
   have hmid:(Int.ofNat i+Int.ofNat j) / 2=Int.ofNat ((i+j) / 2):=by simp
   rw[hmid]
   rw[p_conv (by show -9223372036854775808<=(((i+j) / 2:Nat):Int);omega) (by show(((i+j) / 2:Nat):Int)<=9223372036854775807;omega)]
   obtain⟨c,hc⟩:=bi (l:=l) (i:=(i+j) / 2) (by omega)
   have hr:=hk c (qag hc)
   unfold rngC at hr
   refine cI hl rfl hc ?_
   unfold encC
   simp(disch:=omega)only[↓qXX]
   obtain⟨d,hd,d1,d2⟩:=find1_c (c:=c) (a:=a) (b:=b) (by omega)
   refine jh (mm (hd _) rfl [.agg [.i .i64 c.1,.i .u8 c.2.1,.i .u8 c.2.2],.agg [.i .i64 a,.i .u8 b]] rfl rfl) ?_
   simp(disch:=omega)only[↓qXX]
   by_cases hd0:d<0
   ·have ht:=d1.1 hd0
    simp(disch:=omega)only[↓qXX]
    rw[fe (by omega)]
    simp(disch:=omega)only[↓qXX]
    refine hself (j - ((i+j) / 2+1)) _ _ (by omega) ⟨(i+j) / 2+1,j,rfl,rfl,by omega,hj,rfl,λk e he hk'=>?_,hhi⟩
    rcases qay k ((i+j) / 2)with q|q
    ·have:=asc_lt hasc q he hc
     rw[kN]at ht ⊢
     simp only[ltC,qaG,qaa,decide_eq_true_eq]at this
     omega
    ·obtain rfl:k=(i+j) / 2:=by omega
     rw[hc]at he;cases he;exact ht
   ·have hf:ltU c a b=false:=by
     rw[←qaK];intro hh;exact hd0 (d1.2 hh)
    simp(disch:=omega)only[↓qXX]
    refine hself ((i+j) / 2 - i) _ _ (by omega) ⟨i,(i+j) / 2,rfl,rfl,by omega,by omega,rfl,hlo,λk e he hk'=>?_⟩
    rcases qay ((i+j) / 2) k with q|q
    ·have:=asc_lt hasc q hc he
     rw[←qaK,kN]at hf ⊢
     simp only[ltC,qaG,qaa,decide_eq_true_eq]at this
     omega
    ·obtain rfl:k=(i+j) / 2:=by omega
     rw[hc]at he;cases he;exact hf
  ·obtain rfl:i=j:=by omega
   rw[cK (qaz _)]
   simp(disch:=omega)only[↓qXX]
   by_cases hi:i<l.length
   ·rw[cr hi]
    simp(disch:=omega)only[↓qXX]
    obtain⟨c,hc⟩:=bi hi
    have hr:=hk c (qag hc)
    unfold rngC at hr
    refine cI hl rfl hc ?_
    unfold encC
    simp(disch:=omega)only[↓qXX]
    obtain⟨d,hd,d1,d2⟩:=find1_c (c:=c) (a:=a) (b:=b) (by omega)
    refine jh (mm (hd _) rfl [.agg [.i .i64 c.1,.i .u8 c.2.1,.i .u8 c.2.2],.agg [.i .i64 a,.i .u8 b]] rfl rfl) ?_
    simp(disch:=omega)only[↓qXX]
    by_cases hz:d=0
    ·have:=d2.1 hz
     rw[p_eql_t hz]
     simp(disch:=omega)only[↓qXX]
     exact⟨i,by simp[isAt,hc,this.1,this.2],by trivial,hj,hlo,hhi⟩
    ·have h3:¬(c.1=a/\c.2.1=b):=λq=>hz (d2.2 q)
     rw[p_eql_f hz]
     simp(disch:=omega)only[↓qXX]
     refine⟨i,?_,by trivial,hj,hlo,hhi⟩
     have:isAt l a b i=false:=by
      simp only[isAt,hc]
      rw[←qaK]
      simpa using h3
     rw[this]
   ·rw[cK (by omega)]
    simp(disch:=omega)only[↓qXX]
    refine⟨i,?_,by trivial,hj,hlo,hhi⟩
    have:isAt l a b i=false:=by
     simp only[isAt,qai (qdH.1 hi)]
    rw[this])
 exact⟨i,h2,h1⟩
theorem find_c{h:HL}{x:Value}{l:List Crs}(hl:LsH h x 3 encC l)(hk:∀c∈l,rngC c)(hn:l.length<=1000)(hasc:ascC l=true){a b:Int}(hu:0<=a/\a<=1000/\0<=b/\b<=255) :
  ∃i:Nat,At l a b i/\aF cc ac 115 [.v x,.i a,.i b] (absH aa h) [.i (Int.ofNat i),.b (isAt l a b i)] (absH aa h):=by
 obtain⟨i,hi,hc⟩:=bin_c hl hk hn hasc hu
 obtain⟨rs,h',h1,rfl,rfl⟩:=x115 (K:=λrs h'=>rs=[.i (Int.ofNat i),.b (isAt l a b i)]/\h'=h) (H:=h) (glsV hl.good (glsI (glsI gls0))) (by
  unfold f115;simp only[qxh]
  simp(disch:=omega)only[↓qXX]
  refine aE hc ?_
  simp(disch:=omega)only[↓qXX]
  exact⟨by trivial,by trivial⟩)
 exact⟨i,hi,h1⟩
def eqU(a b:Int)(c:Crs):Bool:=decide (c.1=a)&&decide (c.2.1=b)
def iJ(l:List Crs)(a b:Int):Int:=match l.find? (eqU a b)with
 |some c=>c.2.2
 |none=>0
theorem kind_at{l:List Crs}{a b:Int}{i:Nat}(h:At l a b i)(hasc:ascC l=true):(isAt l a b i=true->∃c,l[i]? = some c/\iJ l a b=c.2.2)/\(isAt l a b i=false->iJ l a b=0):=by
 obtain⟨h1,h2,h3⟩:=h
 have uniq:∀(k:Nat) c,l[k]? = some c->eqU a b c=true->k=i:=by
  intro k c hc he
  simp only[eqU,qaa,decide_eq_true_eq]at he
  rcases Nat.lt_trichotomy k i with q|q|q
  ·have:=h2 k c hc q
   rw[kN]at this
   omega
  ·exact q
  ·obtain⟨d,hd⟩:=bi (l:=l) (i:=i) (by have:=aM hc;omega)
   have e1:=asc_lt hasc q hd hc
   have e2:=h3 i d hd (qaz _)
   rw[←qaK,kN]at e2
   simp only[ltC,qaG,qaa,decide_eq_true_eq]at e1
   omega
 have isA:isAt l a b i=true↔∃c,l[i]? = some c/\eqU a b c=true:=by
  unfold isAt eqU
  cases e:l[i]? with
  |none=>simp
  |some c=>simp
 unfold iJ
 cases hf:l.find? (eqU a b)with
 |none=>
  have hno:=qdi.1 hf
  constructor
  ·intro ha
   obtain⟨c,hc,he⟩:=isA.1 ha
   exact absurd he (hno c (qag hc))
  ·intro _;rfl
 |some c=>
  have hp:=qdC hf
  obtain⟨k,hk⟩:=qa1 (qbY hf)
  have hki:=uniq k c hk hp
  subst hki
  constructor
  ·intro _;exact⟨c,hk,rfl⟩
  ·intro hn
   have:=isA.2 ⟨c,hk,hp⟩
   rw[hn]at this;cases this
structure Pat(w v:Nat)(l:List Crs):Prop where
 sheet:1<=w/\w<=5/\1<=v/\v<=5
 rng:∀c∈l,rngC c
 len:l.length<=1000
 ok:chkC (.ofNat w) (.ofNat v) l=0
theorem Pat.sm{w v:Nat}{l:List Crs}(h:Pat w v l):smS (.ofNat w) (.ofNat v):=by
 have:=h.sheet
 unfold smS
 simp only[qap]
 omega
theorem Pat.asc{w v:Nat}{l:List Crs}(h:Pat w v l):ascC l=true:=by
 have:=h.ok
 unfold chkC at this
 split at this
 ·cases this
 ·split at this
  ·cases this
  ·split at this
   ·assumption
   ·cases this
theorem Pat.check{w v:Nat}{l:List Crs}(h:Pat w v l){H:HL}{x:Value}(hl:LsH H x 3 encC l):aF cc ac 20 [.i (.ofNat w),.i (.ofNat v),.v x] (absH aa H) [.i 0] (absH aa H):=by
 have:=check_c h.sm hl (λc hc=>by
  have:=h.rng c hc
  unfold rngC at this
  unfold okC
  omega) (by have:=h.len;omega)
 rw[h.ok]at this
 exact this
theorem kind_c{w v:Nat}{l:List Crs}(hp:Pat w v l){H:HL}{x:Value}(hl:LsH H x 3 encC l){c e n:Nat}(hc:c<4*w*v)(he:e<3)(hn:nbr w v c e=some n)(hn2:n<=1000) :
  aF cc ac 65 [.i (.ofNat w),.i (.ofNat v),.v x,.i (.ofNat c),.i (.ofNat e)] (absH aa H) [.i (iJ l (.ofNat (min c n)) (.ofNat e)),.i 0] (absH aa H):=by
 have hsh:=hp.sheet
 have hnm:=nameIn (io w v hsh.1 hsh.2.1 hsh.2.2.1 hsh.2.2.2) hc he
 unfold nameN at hnm
 rw[hn]at hnm
 simp only at hnm
 obtain⟨i,hi,hfi⟩:=find_c hl hp.rng hp.len hp.asc (a:=.ofNat (min c n)) (b:=.ofNat e) (by simp only[qap];omega)
 obtain⟨k1,k2⟩:=kind_at hi hp.asc
 obtain⟨rs,h',h1,e1,e2⟩:=x98 (K:=λrs h'=>rs=[.i (.ofNat (min c n)),.i (.ofNat e),.i (.ofNat i),.b (isAt l (.ofNat (min c n)) (.ofNat e) i),.i 0]/\h'=H) (H:=H) (glsI (glsI (glsV hl.good (glsI (glsI gls0))))) (by
  unfold f98;simp only[qxh]
  simp(disch:=omega)only[↓qXX]
  refine aE (hp.check hl) ?_
  simp(disch:=omega)only[↓qXX]
  refine ah hnm ?_
  simp(disch:=omega)only[↓qXX]
  refine aE hfi ?_
  simp(disch:=omega)only[↓qXX]
  exact⟨by trivial,by trivial⟩)
 rw[e1,e2]at h1
 obtain⟨rs2,h2,h3,e3,e4⟩:=x65 (K:=λrs h'=>rs=[.i (iJ l (.ofNat (min c n)) (.ofNat e)),.i 0]/\h'=H) (H:=H) (glsI (glsI (glsV hl.good (glsI (glsI gls0))))) (by
  unfold f65;simp only[qxh]
  simp(disch:=omega)only[↓qXX]
  refine aE h1 ?_
  simp(disch:=omega)only[↓qXX]
  cases hb:isAt l (.ofNat (min c n)) (.ofNat e) i with
  |false=>
   simp(disch:=omega)only[↓qXX,qbp]
   rw[k2 hb]
   exact⟨by trivial,by trivial⟩
  |true=>
   obtain⟨c',hc',hkk⟩:=k1 hb
   simp(disch:=omega)only[↓qXX,qaJ]
   refine jl (o:=2) (k:=1) (cs:=[.int .u8 c'.2.2]) hl rfl hc' rfl (by omega) ?_
   simp(disch:=omega)only[↓qXX]
   rw[hkk]
   exact⟨by trivial,by trivial⟩)
 rw[e3,e4]at h3
 exact h3
theorem encU_len(u:Nat×Nat):(encU u).length=2:=rfl
theorem mo(c:Crs):(encC c).length=3:=rfl
def enc8(n:Int):List Value:=[.int .u8 n]
theorem eh(n:Int):(enc8 n).length=1:=rfl
theorem sf{a b:Nat}(h1:1<=a)(h2:a<=5)(h3:1<=b)(h4:b<=5)(h:HL):∃s G,aF cc ac 5 [.i (.ofNat a),.i (.ofNat b)] (absH aa h) [.v s] (absH aa (h++G))/\LsH (h++G) s 2 encU (aj a b):=by
 have ht:=(im (io a b h1 h2 h3 h4)).2.2.1
 unfold sb at ht
 split at ht
 ·rename_i e
  obtain⟨s,G,c1,c2⟩:=made (g:=5) (rest:=[]) rfl (by kernel_rfl) rfl rfl e h
  exact⟨s,G,c1,λu _=>encU_len u,c2⟩
 ·cases ht
def kB(z:(Nat×Nat)×Int):Option Crs:=if z.2=0 then none else some (.ofNat z.1.1,.ofNat z.1.2,z.2)
def patL(us:List (Nat×Nat))(ks:List Int):List Crs:=(us.zip ks).filterMap kB
theorem with_c{w v:Nat}(h1:1<=w)(h2:w<=5)(h3:1<=v)(h4:v<=5){H:HL}{kx:Value}{ks:List Int}(hk:LsH H kx 1 enc8 ks)(hn:ks.length<=100000) :
  ∃G rx,aF cc ac 7 [.i (.ofNat w),.i (.ofNat v),.v kx] (absH aa H) [.i (.ofNat w),.i (.ofNat v),.v rx] (absH aa (H++G))/\MkL H.length (H++G) rx 3 encC (patL (aj w v) ks):=by
 obtain⟨sx,G1,hu,hux⟩:=sf h1 h2 h3 h4 H
 have hul:=(im (io w v h1 h2 h3 h4)).2.2.2.2
 obtain⟨rs,h',hc,rx,e1,⟨G,rfl⟩,hrx⟩:=x7 (ls:=[.i (.ofNat w),.i (.ofNat v),.v kx]) (K:=λrs h'=>∃rx,rs=[.i (.ofNat w),.i (.ofNat v),.v rx]/\Pre H h'/\MkL H.length h' rx 3 encC (patL (aj w v) ks)) (H:=H) (glsI (glsI (glsV hk.good gls0))) (by
  unfold f7;simp only[qxh]
  simp(disch:=omega)only[↓qXX]
  refine aE hu ?_
  simp(disch:=omega)only[↓qXX]
  generalize hzz:(aj w v).zip ks=zz
  have hzl:zz.length=min (aj w v).length ks.length:=by rw[←hzz,qdE]
  refine cT zz.length (λj (s:Value×HL)=>[.i (Int.ofNat j),.i (.ofNat w),.i (.ofNat v),.v s.1]) (λ_ s=>s.2) (λj s=>Pre (H++G1) s.2/\MkL (H++G1).length s.2 s.1 3 encC ((zz.take j).filterMap kB)/\bf s.1=true) (j0:=0) (s0:=(.slice none 0 0,H++G1)) rfl rfl (qbh _) ⟨Pre.refl _,MkL.nil _ _ _ _,rfl⟩ ?_
  rintro j ⟨sv,sh⟩ hj ⟨hpre,hmk,hgv⟩ self hself
  simp only at hpre hmk hgv ⊢
  have hU:=hux.pre hpre
  have hK:=(hk.pre ⟨G1,rfl⟩).pre hpre
  simp(disch:=omega)only[↓qXX]
  have fin:∀K0:List Lf->HL->Prop,K0=(λrs h'=>∃rx,rs=[.i (.ofNat w),.i (.ofNat v),.v rx]/\Pre H h'/\MkL H.length h' rx 3 encC (patL (aj w v) ks))->j=zz.length->K0 [.i (.ofNat w),.i (.ofNat v),.v sv] sh:=by
   rintro K0 rfl rfl
   refine⟨_,rfl,Pre.trans ⟨G1,rfl⟩ hpre,?_⟩
   have:MkL H.length sh sv 3 encC ((zz.take zz.length).filterMap kB):=⟨hmk.1,hmk.2.1,hmk.2.2.imp id λ⟨id,h1,h2⟩=>⟨id,qbG (by rw[qaO];omega) h1,h2⟩⟩
   rw[qct,←hzz]at this
   exact this
  refine dI hU ?_
  by_cases hlt:j<zz.length
  ·rw[cr (by omega)]
   simp(disch:=omega)only[↓qXX]
   refine dI hK ?_
   rw[cr (by omega)]
   simp(disch:=omega)only[↓qXX]
   obtain⟨u,hu⟩:=bi (l:=aj w v) (i:=j) (by omega)
   obtain⟨k,hkk⟩:=bi (l:=ks) (i:=j) (by omega)
   have hz:zz[j]? = some (u,k):=by rw[←hzz,qbX];exact⟨hu,hkk⟩
   have htk:(zz.take (j+1)).filterMap kB=(zz.take j).filterMap kB++(kB (u,k)).toList:=by
    rw[qcn,hz,List.filterMap_append]
    congr 1
   refine cI hK rfl hkk ?_
   unfold enc8
   simp(disch:=omega)only[↓qXX]
   by_cases hk0:k=0
   ·rw[p_neq_f hk0]
    simp(disch:=omega)only[↓qXX]
    rw[fe (by omega)]
    refine hself (sv,sh) hlt ⟨hpre,?_,hgv⟩
    rw[htk,show kB (u,k)=none from if_pos hk0]
    simpa using hmk
   ·rw[p_neq_t hk0]
    simp(disch:=omega)only[↓qXX]
    refine jl (o:=0) (k:=1) (cs:=[.int .i64 (.ofNat u.1)]) hU rfl hu rfl (by omega) ?_
    simp(disch:=omega)only[↓qXX]
    refine jl (o:=1) (k:=1) (cs:=[.int .u8 (.ofNat u.2)]) hU rfl hu rfl (by omega) ?_
    simp(disch:=omega)only[↓qXX]
    refine cI hK rfl hkk ?_
    unfold enc8
    simp(disch:=omega)only[↓qXX]
    have hfl:((zz.take j).filterMap kB).length<=j:=qbG (qcE _ _) (by rw[qa6];omega)
    refine p_app1 (h0:=H++G1) (a:=(.ofNat u.1,.ofNat u.2,k)) hpre hmk rfl rfl rfl rfl (by
     unfold cC
     rw[qaa,qbb,qbb]
     omega) λv' h' hp' hm' hg' _ _=>?_
    simp(disch:=omega)only[↓qXX]
    refine aK hg' ?_
    simp(disch:=omega)only[↓qXX]
    rw[fe (by omega)]
    refine hself (v',h') hlt ⟨hp',?_,hg'⟩
    rw[htk,show kB (u,k)=some (.ofNat u.1,.ofNat u.2,k)from if_neg hk0]
    exact hm'
  ·have hje:j=zz.length:=by omega
   by_cases hju:j<(aj w v).length
   ·rw[cr hju]
    simp(disch:=omega)only[↓qXX]
    refine dI hK ?_
    rw[cK (by omega)]
    simp(disch:=omega)only[↓qXX]
    exact fin _ rfl hje
   ·rw[cK (by omega)]
    simp(disch:=omega)only[↓qXX]
    exact fin _ rfl hje)
 rw[e1]at hc
 exact⟨G,rx,hc,hrx⟩
abbrev Bls:=List (Nat×List Value)
def blH(bl:Bls):List HObj:=bl.map λb=>.cells b.2 b.1 false
structure KR1 where
 f:Nat
 ls:List Lf
 bl:Bls
 rs:List Lf
def KROk(p:KR1):Prop:=∃sg H',ac p.f=some sg/\sg.rs.all SK.plain=true/\neuN p.f=none/\aF cc ac p.f p.ls (blH p.bl) p.rs H'
def AllR(l:List KR1):Prop:=∀p∈l,KROk p
theorem AllR.nil:AllR []:=λ_ h=>by cases h
theorem AllR.cons{p:KR1}{l:List KR1}(h:KROk p)(hl:AllR l):AllR (p :: l):=λq hq=>by
 rcases qaj.1 hq with rfl|hq
 ·exact h
 ·exact hl q hq
theorem AllR.app{l m:List KR1}(h:AllR l)(hm:AllR m):AllR (l++m):=λp hp=>by
 rcases qaP.1 hp with hp|hp
 ·exact h p hp
 ·exact hm p hp
end Go.Am
namespace Go.Am
namespace Sx
section
variable [Val] {C:Cfg} {B:Below} {pts:List Nat} {ops:Array Oper}
def updB(bs:Nat->Bool)(i:Nat):Nat->Bool:=λj=>if j=i then true else bs j
theorem go_by{sl:Nat->Option Nat}{st:(Nat->Bool)->St}
  (hback:∀(i:Nat) o,ops[i]? = some o->∀e∈o.after.toList,Region.binds .any e=true->e.on<i)
  (hst:∀(bs:Nat->Bool) (i:Nat) o,ops[i]? = some o->bs i=false->(∀e∈o.after.toList,Region.binds .any e=true->bs e.on=true)->aQ C B pts ops sl i (st bs) (st (updB bs i))) :
  ∀(fuel t:Nat) (listed:Array Bool),listed.size=ops.size->(unl ops.size listed).length=fuel->
   dM C B pts ops sl (Region.linearise.go .any ops fuel t listed []) (st λj=>listed.getD j false) (st λj=>decide (j<ops.size))/\
   ∀x∈Region.linearise.go .any ops fuel t listed [],listed.getD x true=false
 |0,t,listed,hsz,hl=>by
  have h0:unl ops.size listed=[]:=qbc.1 hl
  have:(λj=>listed.getD j false)=λj=>decide (j<ops.size):=by
   funext j
   by_cases hj:j<ops.size
   ·have hn:j∉unl ops.size listed:=by rw[h0];simp
    rw[unl,qaS,qad]at hn
    have hn2:listed.getD j true=true:=by
     cases e:listed.getD j true with
     |true=>rfl
     |false=>exact absurd ⟨hj,by simp[e]⟩ hn
    rw[qah]at hn2 ⊢
    rw[qa8 (by omega)]at hn2 ⊢
    simp only[qba]at hn2 ⊢
    rw[hn2];simp[hj]
   ·rw[qah,qa4 (by omega)]
    simp[hj]
  rw[this]
  simp[Region.linearise.go,dM]
 |fuel+1,t,listed,hsz,hl=>by
  simp only[Region.linearise.go]
  generalize hrs:((List.range ops.size).filter λi=>!listed.getD i true&&((ops[i]?).map (·.after.all λe=>!Region.binds .any e||listed.getD e.on false)).getD false)=rs
  have hready:∀i∈rs,i<ops.size/\listed.getD i true=false/\∀o,ops[i]? = some o->∀e∈o.after.toList,Region.binds .any e=true->listed.getD e.on false=true:=by
   intro i hi
   rw[←hrs,qaS,qad]at hi
   obtain⟨h1,h2⟩:=hi
   simp only[qaa,qbD]at h2
   refine⟨h1,h2.1,λo ho e he hb=>?_⟩
   have h3:=h2.2
   rw[ho]at h3
   simp only[qav,qba]at h3
   rw[qcf]at h3
   have:=h3 e (by simpa using he)
   rw[hb]at this
   simpa using this
  have hne:rs≠[]:=by
   have hu:unl ops.size listed≠[]:=by intro e;rw[e]at hl;cases hl
   obtain⟨i0,tl,hu0⟩:=qcy hu
   have hi0:i0∈unl ops.size listed:=by rw[hu0];simp
   have hi1:=hi0
   rw[unl,qaS,qad]at hi1
   have hmem:i0∈rs:=by
    rw[←hrs,qaS,qad]
    refine⟨hi1.1,?_⟩
    simp only[qaa]
    refine⟨hi1.2,?_⟩
    have ho:ops[i0]? = some ops[i0]:=by simp[hi1.1]
    rw[ho]
    simp only[qav,qba]
    rw[qcf]
    intro e he
    cases hb:Region.binds .any e with
    |false=>simp
    |true=>
     have hlt:=hback i0 _ ho e (by simpa using he) hb
     simp only[qaJ,qbt]
     by_cases hlis:listed.getD e.on true=true
     ·have hs:e.on<listed.size:=by omega
      rw[qah]at hlis ⊢
      rw[qa8 hs]at hlis ⊢
      exact hlis
     ·exfalso
      have hm:e.on∈unl ops.size listed:=by
       rw[unl,qaS,qad]
       exact⟨by omega,by simpa using hlis⟩
      rw[hu0]at hm
      rcases qaj.1 hm with hm|hm
      ·omega
      ·have hs:(unl ops.size listed).Pairwise (· < ·):=qcz _ qbS
       rw[hu0,qbq]at hs
       have:=hs.1 _ hm
       omega
   intro e;rw[e]at hmem;cases hmem
  have hlen:0<rs.length:=qc7.2 hne
  have hget:rs[t%rs.length]? = some (rs[t%rs.length]'(qb3 _ hlen)):=qau (qb3 _ hlen)
  rw[hget]
  simp only
  generalize hi:rs[t%rs.length]'(qb3 _ hlen)=i
  have hmem:i∈rs:=by rw[←hi];exact qcZ _
  obtain⟨i1,i2,i3⟩:=hready i hmem
  rw[linearise_go_acc,qcL,qcX]
  have hiu:i∈(List.range ops.size).filter λj=>!listed.getD j true:=by
   rw[qaS,qad];exact⟨i1,by simp[i2]⟩
  obtain⟨pre,post,e1,e2,e3⟩:=fg qds hiu
  have hnew:unl ops.size (listed.setIfInBounds i true)=pre++post:=by
   rw[←e2]
   unfold unl
   refine qcN λj hj=>?_
   rw[qah,qah,qaY]
   by_cases hji:i=j
   ·subst hji
    rw[if_pos rfl,if_pos (by omega)]
    simp
   ·rw[if_neg hji]
    have:(j != i)=true:=by simpa using λe=>hji e.symm
    simp[this]
  obtain⟨r1,r2⟩:=go_by hback hst fuel (t / rs.length) (listed.setIfInBounds i true) (by simp[hsz]) (by
    rw[hnew]
    have:(unl ops.size listed).length=(pre++post).length+1:=by
     show(List.filter _ _).length=_
     rw[e1];simp;omega
    omega)
  have hupd:(λj=>(listed.setIfInBounds i true).getD j false)=updB (λj=>listed.getD j false) i:=by
   funext j
   unfold updB
   rw[qah,qaY]
   by_cases hji:i=j
   ·subst hji
    rw[if_pos rfl,if_pos (by omega),if_pos rfl];rfl
   ·rw[if_neg hji,if_neg (λe=>hji e.symm)]
    exact(qah ..).symm
  have hout:∀x∈Region.linearise.go .any ops fuel (t / rs.length) (listed.setIfInBounds i true) [],x≠i/\listed.getD x true=false:=by
   intro x hx
   have:=r2 x hx
   rw[qah,qaY]at this
   by_cases hxi:i=x
   ·subst hxi
    rw[if_pos rfl,if_pos (by omega)]at this
    cases this
   ·rw[if_neg hxi]at this
    exact⟨qbZ hxi,by rw[qah];exact this⟩
  have ho:ops[i]? = some ops[i]:=by simp[i1]
  have hi2:listed.getD i false=false:=by
   rw[qah]at i2 ⊢
   rw[qa8 (by omega)]at i2 ⊢
   exact i2
  have hstep:=hst (λj=>listed.getD j false) i _ ho hi2 (i3 _ ho)
  rw[hupd]at r1
  refine⟨⟨λhm=>(hout i hm).1 rfl,_,hstep,r1⟩,λx hx=>?_⟩
  rcases qaj.1 hx with rfl|hx
  ·exact i2
  ·exact(hout x hx).2
theorem any_by{sl:Nat->Option Nat}{st:(Nat->Bool)->St}
  (hback:∀(i:Nat) o,ops[i]? = some o->∀e∈o.after.toList,Region.binds .any e=true->e.on<i)
  (hst:∀(bs:Nat->Bool) (i:Nat) o,ops[i]? = some o->bs i=false->(∀e∈o.after.toList,Region.binds .any e=true->bs e.on=true)->aQ C B pts ops sl i (st bs) (st (updB bs i))) (t:Nat) :
  dM C B pts ops sl (Region.linearise .any ops t) (st λ_=>false) (st λj=>decide (j<ops.size)):=by
 have hz:(unl ops.size (Array.replicate ops.size false)).length=ops.size:=by
  have:unl ops.size (Array.replicate ops.size false)=List.range ops.size:=by
   unfold unl
   rw[qcD]
   intro i hi
   rw[qad]at hi
   rw[qah,qbn,if_pos hi]
   rfl
  rw[this];simp
 have:=(go_by hback hst ops.size t (Array.replicate ops.size false) (by simp) hz).1
 have e:(λj=>(Array.replicate ops.size false).getD j false)=λ_=>false:=by
  funext j
  rw[qah,qbn]
  split<;>rfl
 rw[e]at this
 exact this
end
end Sx
end Go.Am
set_option maxRecDepth 100000
namespace Go.Am
open Sx Go.Proofs
def nFl:Fn1:=fn1 cc.P 14 ((ac 14).getD ⟨[],[]⟩) an14
abbrev ptFl:List Nat:=ptsTab.getD 14 []
def cFl:Code:=er (xc 14) nFl.code
def sqA:Code->Code
 | .seq a _=>a
 |c=>c
def sqB:Code->Code
 | .seq _ b=>b
 |c=>c
def rgO:Code->Array Oper
 | .region _ ops _=>ops
 |_=>#[]
def opA:Array Oper:=rgO (sqA cFl)
def opF:Array Oper:=rgO (sqA (sqB cFl))
theorem cFl_eq:cFl = .seq (.region 0 opA false) (.seq (.region 1 opF true) .ret):=by kernel_rfl
theorem iFl:FnIs (xc 14) ac 14 nFl:=⟨⟨Tryz.f14,Tryz.func14,by kernel_rfl,by kernel_rfl,by kernel_rfl,by kernel_rfl⟩,rfl,by kernel_rfl⟩
def dfO:Oper:={ dst:=none,op:=.move (.const undef),type:=0,pos:=default,after:=#[],guard:=none }
def oI(i:Nat):Oper:=opF.toList.getD i dfO
def gL(o:Oper):List Nat:=(o.after.toList.filter (Region.binds .any)).map (·.on)
def agF(w v:Nat):Value:=.agg #[.int .i64 (.ofNat w),.int .i64 (.ofNat v)]
def nlF:Value:=.slice none 0 0
def s1F(L n:Nat):Value:=.slice (some ⟨L,0,some 13⟩) n (n+1)
def s2F(L m:Nat):Value:=.slice (some ⟨L+1,0,some 11⟩) m (m+1)
def rrF(L m:Nat):Value:=.slice (some ⟨L+2+(2*m - 1),0,some 12⟩) m 0
def ifF(b:Bool)(x y:Value):Value:=match b with
 |true=>x
 |false=>y
def tmF(b0 b1 b2 b3 b4 b5 b6 b7 b8 b9 b10 b11 b12:Bool)(L w v n m:Nat):List Value:=
 [agF w v,.pointer (some ⟨1,0,some 0⟩),ifF b11 (s1F L n) nlF,ifF b12 (s2F L m) nlF,ifF b0 (.pointer (some ⟨1,0,some 0⟩)) undef,ifF b1 (.int .i64 (.ofNat w)) undef,ifF b2 (.int .i64 (.ofNat (4*w))) undef,ifF b3 (.pointer (some ⟨1,1,some 0⟩)) undef,
  ifF b4 (.int .i64 (.ofNat v)) undef,ifF b5 (.int .i64 (.ofNat n)) undef,ifF b6 (s1F L n) undef,ifF b7 (agF w v) undef,ifF b8 (rrF L m) undef,ifF b9 (.int .i64 (.ofNat m)) undef,ifF b10 (s2F L m) undef]
def TF(L w v n m:Nat):List Value:=tmF true true true true true true true true true true true true true L w v n m
def lcF(w v:Nat):List (Option (List Value)):=none :: some [.int .i64 (.ofNat w),.int .i64 (.ofNat v)] :: List.replicate 13 none
def ifO(b:Bool)(x:HObj):HObj:=match b with
 |true=>x
 |false=>.dead
def zMv(n:Nat):List Value:=@Nat.rec (λ_=>List Value) [] (λ_ ih=>.int .u8 (.ofNat 0) :: .int .i64 (.ofNat 0) :: .int .i64 (.ofNat 0) :: ih) n
def zKd(n:Nat):List Value:=@Nat.rec (λ_=>List Value) [] (λ_ ih=>.int .u8 (.ofNat 0) :: ih) n
def b1F(n:Nat):HObj:=.cells (zMv n) 3 true
def b2F(m:Nat):HObj:=.cells (zKd m) 1 true
def hpF(H:List HObj)(b6 b8 b10:Bool)(n m:Nat):List HObj:=H++ifO b6 (b1F n) :: ifO b10 (b2F m) :: List.replicate (match b8 with|true=>2*m|false=>0) .dead
def stF(H:List HObj)(w v n m:Nat)(b:Nat->Bool):St:=
 ⟨tmF (b 0) (b 1) (b 2) (b 3) (b 4) (b 5) (b 6) (b 7) (b 8) (b 9) (b 10) (b 11) (b 12) H.length w v n m,lcF w v,hpF H (b 6) (b 8) (b 10) n m⟩
def slF(L:Nat)(i:Nat):Option Nat:=match i with
 |6=>some L
 |10=>some (L+1)
 |_=>none
def rg:Option Eff->Option Value
 |some (.val x)=>some x
 |_=>none
theorem fV{e:Option Eff}{x:Value}(h:rg e=some x):e=some (.val x):=by
 unfold rg at h
 split at h
 ·cases h;rfl
 ·cases h
def flLg(row:List Value):Option Eff->Option Value
 |some (.lget 1 f)=>f row
 |_=>none
theorem uO{row:List Value}{e:Option Eff}{x:Value}(h:flLg row e=some x):∃f,e=some (.lget 1 f)/\f row=some x:=by
 unfold flLg at h
 split at h
 ·exact⟨_,rfl,h⟩
 ·cases h
def flHp(H:List HObj):Option Eff->Option (List HObj×Value)
 |some (.hop f)=>f H
 |_=>none
theorem flHp_ok{e:Option Eff}{r:List HObj->Option (List HObj×Value)}(h:(λH=>flHp H e)=r)(hr:∃p,r []=some p):∃f,e=some (.hop f)/\f=r:=by
 match e with
 |some (.hop f)=>exact⟨f,rfl,h⟩
 |none|some (.val _)|some (.lnew _ _)|some (.lget _ _)|some (.lset _ _)|some (.hget _)|some (.call _ _)|some (.yield _ _)=>
  obtain⟨p,hp⟩:=hr
  rw[←h]at hp
  cases hp
structure FF(w v n m:Nat):Prop where
 e0:∀L,rg (al cc ptFl (oval (TF L w v n m)) (oI 0))=some (.pointer (some ⟨1,0,some 0⟩))
 e1:∀L,flLg [.int .i64 (.ofNat w),.int .i64 (.ofNat v)] (al cc ptFl (oval (TF L w v n m)) (oI 1))=some (.int .i64 (.ofNat w))
 e2:∀L,rg (al cc ptFl (oval (TF L w v n m)) (oI 2))=some (.int .i64 (.ofNat (4*w)))
 e3:∀L,rg (al cc ptFl (oval (TF L w v n m)) (oI 3))=some (.pointer (some ⟨1,1,some 0⟩))
 e4:∀L,flLg [.int .i64 (.ofNat w),.int .i64 (.ofNat v)] (al cc ptFl (oval (TF L w v n m)) (oI 4))=some (.int .i64 (.ofNat v))
 e5:∀L,rg (al cc ptFl (oval (TF L w v n m)) (oI 5))=some (.int .i64 (.ofNat n))
 e6:∀L,(λH=>flHp H (al cc ptFl (oval (TF L w v n m)) (oI 6)))=λH=>some (H++[b1F n],.slice (some ⟨H.length,0,tag 3⟩) n (n+1))
 e7:∀L,flLg [.int .i64 (.ofNat w),.int .i64 (.ofNat v)] (al cc ptFl (oval (TF L w v n m)) (oI 7))=some (agF w v)
 e8:∀L,al cc ptFl (oval (TF L w v n m)) (oI 8)=some (.call 5 [agF w v])
 e9:∀L,rg (al cc ptFl (oval (TF L w v n m)) (oI 9))=some (.int .i64 (.ofNat m))
 e10:∀L,(λH=>flHp H (al cc ptFl (oval (TF L w v n m)) (oI 10)))=λH=>some (H++[b2F m],.slice (some ⟨H.length,0,tag 1⟩) m (m+1))
 e11:∀L,rg (al cc ptFl (oval (TF L w v n m)) (oI 11))=some (s1F L n)
 e12:∀L,rg (al cc ptFl (oval (TF L w v n m)) (oI 12))=some (s2F L m)
 a0:∀H,(al cc ptFl (oval (gO Tryz.f14 [agF w v] H).tmps) (opA.toList.getD 0 dfO))=some (.lnew 1 [.int .i64 (.ofNat w),.int .i64 (.ofNat v)])
theorem wantF{i:Nat}(h:(oI i).guard=none)(T:List Value):bk opF T (oI i)=some true:=by unfold bk;rw[h]
theorem o0F:opF[0]? = some (oI 0):=by kernel_rfl
theorem g0F:(oI 0).guard=none:=by kernel_rfl
theorem d0F:(oI 0).dst=some 4:=by kernel_rfl
theorem x0F:(oI 0).op.operands.toList=[.tmp 1]:=by kernel_rfl
theorem m0F:ao neuN ptFl (oI 0)≠none:=λh=>by
 have:(ao neuN ptFl (oI 0)).isSome=true:=by kernel_rfl
 rw[h]at this;cases this
theorem o1F:opF[1]? = some (oI 1):=by kernel_rfl
theorem g1F:(oI 1).guard=none:=by kernel_rfl
theorem d1F:(oI 1).dst=some 5:=by kernel_rfl
theorem p1F:gL (oI 1)=[0]:=by kernel_rfl
theorem x1F:(oI 1).op.operands.toList=[.tmp 4]:=by kernel_rfl
theorem m1F:ao neuN ptFl (oI 1)≠none:=λh=>by
 have:(ao neuN ptFl (oI 1)).isSome=true:=by kernel_rfl
 rw[h]at this;cases this
theorem o2F:opF[2]? = some (oI 2):=by kernel_rfl
theorem g2F:(oI 2).guard=none:=by kernel_rfl
theorem d2F:(oI 2).dst=some 6:=by kernel_rfl
theorem p2F:gL (oI 2)=[1]:=by kernel_rfl
theorem x2F:(oI 2).op.operands.toList=[.const (.int .i64 (.ofNat 4)),.tmp 5]:=by kernel_rfl
theorem m2F:ao neuN ptFl (oI 2)≠none:=λh=>by
 have:(ao neuN ptFl (oI 2)).isSome=true:=by kernel_rfl
 rw[h]at this;cases this
theorem o3F:opF[3]? = some (oI 3):=by kernel_rfl
theorem g3F:(oI 3).guard=none:=by kernel_rfl
theorem d3F:(oI 3).dst=some 7:=by kernel_rfl
theorem x3F:(oI 3).op.operands.toList=[.tmp 1]:=by kernel_rfl
theorem m3F:ao neuN ptFl (oI 3)≠none:=λh=>by
 have:(ao neuN ptFl (oI 3)).isSome=true:=by kernel_rfl
 rw[h]at this;cases this
theorem o4F:opF[4]? = some (oI 4):=by kernel_rfl
theorem g4F:(oI 4).guard=none:=by kernel_rfl
theorem d4F:(oI 4).dst=some 8:=by kernel_rfl
theorem p4F:gL (oI 4)=[3]:=by kernel_rfl
theorem x4F:(oI 4).op.operands.toList=[.tmp 7]:=by kernel_rfl
theorem m4F:ao neuN ptFl (oI 4)≠none:=λh=>by
 have:(ao neuN ptFl (oI 4)).isSome=true:=by kernel_rfl
 rw[h]at this;cases this
theorem o5F:opF[5]? = some (oI 5):=by kernel_rfl
theorem g5F:(oI 5).guard=none:=by kernel_rfl
theorem d5F:(oI 5).dst=some 9:=by kernel_rfl
theorem p5F:gL (oI 5)=[2,4]:=by kernel_rfl
theorem x5F:(oI 5).op.operands.toList=[.tmp 6,.tmp 8]:=by kernel_rfl
theorem m5F:ao neuN ptFl (oI 5)≠none:=λh=>by
 have:(ao neuN ptFl (oI 5)).isSome=true:=by kernel_rfl
 rw[h]at this;cases this
theorem o6F:opF[6]? = some (oI 6):=by kernel_rfl
theorem g6F:(oI 6).guard=none:=by kernel_rfl
theorem d6F:(oI 6).dst=some 10:=by kernel_rfl
theorem p6F:gL (oI 6)=[5,5]:=by kernel_rfl
theorem x6F:(oI 6).op.operands.toList=[.tmp 9,.tmp 9]:=by kernel_rfl
theorem m6F:ao neuN ptFl (oI 6)≠none:=λh=>by
 have:(ao neuN ptFl (oI 6)).isSome=true:=by kernel_rfl
 rw[h]at this;cases this
theorem o7F:opF[7]? = some (oI 7):=by kernel_rfl
theorem g7F:(oI 7).guard=none:=by kernel_rfl
theorem d7F:(oI 7).dst=some 11:=by kernel_rfl
theorem x7F:(oI 7).op.operands.toList=[.tmp 1]:=by kernel_rfl
theorem m7F:ao neuN ptFl (oI 7)≠none:=λh=>by
 have:(ao neuN ptFl (oI 7)).isSome=true:=by kernel_rfl
 rw[h]at this;cases this
theorem o8F:opF[8]? = some (oI 8):=by kernel_rfl
theorem g8F:(oI 8).guard=none:=by kernel_rfl
theorem d8F:(oI 8).dst=some 12:=by kernel_rfl
theorem p8F:gL (oI 8)=[7]:=by kernel_rfl
theorem x8F:(oI 8).op.operands.toList=[.func 5,.tmp 11]:=by kernel_rfl
theorem m8F:ao neuN ptFl (oI 8)≠none:=λh=>by
 have:(ao neuN ptFl (oI 8)).isSome=true:=by kernel_rfl
 rw[h]at this;cases this
theorem o9F:opF[9]? = some (oI 9):=by kernel_rfl
theorem g9F:(oI 9).guard=none:=by kernel_rfl
theorem d9F:(oI 9).dst=some 13:=by kernel_rfl
theorem p9F:gL (oI 9)=[8]:=by kernel_rfl
theorem x9F:(oI 9).op.operands.toList=[.tmp 12]:=by kernel_rfl
theorem m9F:ao neuN ptFl (oI 9)≠none:=λh=>by
 have:(ao neuN ptFl (oI 9)).isSome=true:=by kernel_rfl
 rw[h]at this;cases this
theorem o10F:opF[10]? = some (oI 10):=by kernel_rfl
theorem g10F:(oI 10).guard=none:=by kernel_rfl
theorem d10F:(oI 10).dst=some 14:=by kernel_rfl
theorem p10F:gL (oI 10)=[9,9]:=by kernel_rfl
theorem x10F:(oI 10).op.operands.toList=[.tmp 13,.tmp 13]:=by kernel_rfl
theorem m10F:ao neuN ptFl (oI 10)≠none:=λh=>by
 have:(ao neuN ptFl (oI 10)).isSome=true:=by kernel_rfl
 rw[h]at this;cases this
theorem o11F:opF[11]? = some (oI 11):=by kernel_rfl
theorem g11F:(oI 11).guard=none:=by kernel_rfl
theorem d11F:(oI 11).dst=some 2:=by kernel_rfl
theorem p11F:gL (oI 11)=[6,8,0,1,2,3,4,5,6]:=by kernel_rfl
theorem x11F:(oI 11).op.operands.toList=[.tmp 10]:=by kernel_rfl
theorem m11F:ao neuN ptFl (oI 11)≠none:=λh=>by
 have:(ao neuN ptFl (oI 11)).isSome=true:=by kernel_rfl
 rw[h]at this;cases this
theorem o12F:opF[12]? = some (oI 12):=by kernel_rfl
theorem g12F:(oI 12).guard=none:=by kernel_rfl
theorem d12F:(oI 12).dst=some 3:=by kernel_rfl
theorem p12F:gL (oI 12)=[10,11,0,1,2,3,4,5,6,7,8,9,10,11]:=by kernel_rfl
theorem x12F:(oI 12).op.operands.toList=[.tmp 14]:=by kernel_rfl
theorem m12F:ao neuN ptFl (oI 12)≠none:=λh=>by
 have:(ao neuN ptFl (oI 12)).isSome=true:=by kernel_rfl
 rw[h]at this;cases this
end Go.Am
end

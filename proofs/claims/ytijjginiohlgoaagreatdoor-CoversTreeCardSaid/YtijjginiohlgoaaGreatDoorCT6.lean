/-
  PART 6 OF THE PROOF (no conditions).
-/
import Derived.Test.YtijjginiohlgoaaGreatDoorCT5
set_option linter.unusedSectionVars false
set_option linter.unusedSimpArgs false
set_option linter.unusedVariables false
set_option linter.constructorNameAsVariable false
set_option linter.defProp false
noncomputable section
namespace Go.Am
namespace Sx
section
variable [Val] [Kno]
def peekH(T:Nat->Site)(f:Pk)(h:HL)(K:List Value->Prop):Prop:=∃cs,f.run (getH T h)=some cs/\K cs
def heapH(T:Nat->Site)(f:Hp)(h:HL)(K:List Value->HL->Prop):Prop:=∃acts cs,f.run (getH T h) h.length=some (acts,cs)/\K cs (bZ h acts)
def callH(C:Cfg)(Sg:FuncId->Option Sig)(T:Nat->Site)(g:FuncId)(ls:List Lf)(h:HL)(K:List Lf->HL->Prop):Prop:=∃rs h',aR C Sg g ls (absH T h) rs (absH T h')/\K rs h'
def callvH(C:Cfg)(T:Nat->Site)(v:Value)(args:List Value)(hs:List SK)(h:HL)(K:List Lf->HL->Prop):Prop:=∃rs h',qO C v args hs (absH T h) rs (absH T h')/\K rs h'
def itH(F:(List Lf->HL->Prop)->List Lf->HL->Prop)(n:Nat):List Lf->HL->Prop:=
 match n with
 |0=>λ_ _=>False
 |n+1=>F (itH F n)
def loopH(F:(List Lf->HL->Prop)->List Lf->HL->Prop)(ls:List Lf)(h:HL):Prop:=∃n,itH F n ls h
def rfunH(C:Cfg)(T:Nat->Site)(κ:Nat)(v:Value)(vals:List Value)(h:HL)(K:Option Code->HL->Prop):Prop:=
 ∃g first cap r H1 lp h2,v = .func (.func g) first cap/\
  fZ C g (first.toList++[.func (.yield (absH T h).length) #[] #[]]++cap.toList) (absH T h++[.loop (lpOf (T κ) κ vals)]) r H1/\
  dq H1 (absH T h).length=some lp/\lp.state≠.busy/\absH T h2=H1.set (absH T h).length (.loop { lp with state:=.exhausted })/\K lp.pending h2
def lp1H(T:Nat->Site)(l:Nat)(h:HL)(K:HL->Prop):Prop:=∃lp h',dq (absH T h) l=some lp/\lp.state = .ready/\absH T h'=(absH T h).set l (.loop { lp with state:=.busy })/\K h'
def lp2H(T:Nat->Site)(l:Nat)(j:Option Code)(h:HL)(K:HL->Prop):Prop:=∃lp h',dq (absH T h) l=some lp/\absH T h'=(absH T h).set l (.loop { lp with state:=if j.isNone then .ready else .done,pending:=j })/\K h'
def PH(C:Cfg)(Sg:FuncId->Option Sig)(T:Nat->Site):Alg Prop HL where
 fail:=False
 cond:=condP
 ari:=ariP
 shf:=λop k a k' b K=>∃n,ShRun op k a k' b n/\K n
 cmp:=cmpP
 eqs:=λl K=>K (ce l)
 conv:=λk a K=>K (k.wrap a)
 sel:=λt a b K=>K (if t then a else b)
 opt:=optP
 chk:=λv K=>aV v=true/\K
 unI:=unIP
 unB:=unBP
 unV:=unVP
 un0:=un0P
 ucI:=ucIP
 ucB:=ucBP
 ucV:=ucVP
 uc0:=uc0P
 peek:=peekH T
 heap:=heapH T
 new:=λo h K=>K h.length (h++[.o o])
 call:=callH C Sg T
 callv:=callvH C T
 join:=λb m=>m b
 loop:=loopH
 rfun:=rfunH C T
 pend:=pendP
 lp1:=lp1H T
 lp2:=lp2H T
def PH_ok(C:Cfg)(Sg:FuncId->Option Sig)(T:Nat->Site):AlgOk (PH C Sg T) C Sg T id (absH T) where
 fail:=(eE C Sg T).fail
 cond:=(eE C Sg T).cond
 ari:=(eE C Sg T).ari
 shf:=(eE C Sg T).shf
 cmp:=(eE C Sg T).cmp
 eqs:=(eE C Sg T).eqs
 conv:=(eE C Sg T).conv
 sel:=(eE C Sg T).sel
 opt:=(eE C Sg T).opt
 chk:=(eE C Sg T).chk
 unI:=(eE C Sg T).unI
 unB:=(eE C Sg T).unB
 unV:=(eE C Sg T).unV
 un0:=(eE C Sg T).un0
 ucI:=(eE C Sg T).ucI
 ucB:=(eE C Sg T).ucB
 ucV:=(eE C Sg T).ucV
 uc0:=(eE C Sg T).uc0
 peek:=by
  intro f h K hk
  obtain⟨cs,h1,h2⟩:=hk
  exact⟨cs,by rw[←gr];exact h1,h2⟩
 heap:=by
  intro f h K hk
  obtain⟨acts,cs,h1,h2⟩:=hk
  exact⟨acts,cs,_,by rw[←gr,cL];exact h1,iu T acts h,h2⟩
 new:=λo h K hk=>⟨_,fc T h _,by rw[cL];exact hk⟩
 call:=λg ls h K hk=>hk
 callv:=λv args hs h K hk=>hk
 join:=λb m h=>h
 loop:=by
  intro F ls h hk
  obtain⟨n,hk⟩:=hk
  exact⟨itH F,λls h=>(id:False->False),λn ls h=>rfl,n,hk⟩
 rfun:=λκ v vals h K hk=>hk
 pend:=(eE C Sg T).pend
 lp1:=λl h K hk=>hk
 lp2:=λl j h K hk=>hk
section
variable {C:Cfg} {Sg:FuncId->Option Sig} {T:Nat->Site} {call:ac} (hc:CallBOk C Sg T call)
include hc
inductive SL2:List (Nat×RT)->List (Nat×Prop)->Prop
 |nil:SL2 [] []
 |cons {id:Nat} {x:RT} {x':Prop} {l:List (Nat×RT)} {l':List (Nat×Prop)} (hx:x=yes->x') (hl:SL2 l l'):SL2 ((id,x) :: l) ((id,x') :: l')
omit hc in
theorem SL2.mem{l:List (Nat×RT)}{l':List (Nat×Prop)}(h:SL2 l l'){id:Nat}{x:RT}(hm:(id,x)∈l)(hx:x=yes):∃y,(id,y)∈l'/\y:=by
 induction h with
 |nil=>cases hm
 |cons h1 h2 ih=>
  rcases qaq.1 hm with e|hm
  ·cases e;exact⟨_,qaJ,h1 hx⟩
  ·obtain⟨y,a,b⟩:=ih hm
   exact⟨y,qal _ a,b⟩
end
def ss{F:(List Lf->HL->Prop)->List Lf->HL->Prop}(Inv:Nat->List Lf->HL->Prop)
  (step:∀m ls h,Inv m ls h->∀self:List Lf->HL->Prop,(∀m' ls h,m'<m->Inv m' ls h->self ls h)->F self ls h):∀n m ls h,m<n->Inv m ls h->itH F n ls h
 |0,_,_,_,hm,_=>absurd hm (Nat.not_lt_zero _)
 |n+1,m,ls,h,hm,hi=>step m ls h hi (itH F n) λm' ls h h' hi'=>ss Inv step n m' ls h (by omega) hi'
def iL{F:(List Lf->HL->Prop)->List Lf->HL->Prop}(Inv:Nat->List Lf->HL->Prop){m:Nat}{ls:List Lf}{h:HL}(hi:Inv m ls h)
  (step:∀m ls h,Inv m ls h->∀self:List Lf->HL->Prop,(∀m' ls h,m'<m->Inv m' ls h->self ls h)->F self ls h):loopH F ls h:=
 ⟨m+1,ss Inv step (m+1) m ls h (Nat.lt_succ_self m) hi⟩
end
end Sx
namespace Sx
class Bx (α:Sort _) where
 v:α
def hid{α:Sort _} [b:Bx α]:α:=b.v
section
variable [Val] [Kno] {C:Cfg} {Sg:FuncId->Option Sig} {T:Nat->Site}
def b_unI{n:Int}{r:List Lf}{K:Int->List Lf->Prop}:(PH C Sg T).unI (.i n :: r) K=K n r:=rfl
def b_unB{n:Bool}{r:List Lf}{K:Bool->List Lf->Prop}:(PH C Sg T).unB (.b n :: r) K=K n r:=rfl
def b_unV{n:Value}{r:List Lf}{K:Value->List Lf->Prop}:(PH C Sg T).unV (.v n :: r) K=K n r:=rfl
def b_un0{K:Prop}:(PH C Sg T).un0 [] K=K:=rfl
def b_ucI{k:IntKind}{n:Int}{r:List Value}{K:Int->List Value->Prop}:(PH C Sg T).ucI k (.int k n :: r) K=K n r:=by
 show(k=k/\K n r)=K n r
 simp
def b_ucB{n:Bool}{r:List Value}{K:Bool->List Value->Prop}:(PH C Sg T).ucB (.bool n :: r) K=K n r:=rfl
def b_ucV{n:Value}{r:List Value}{K:Value->List Value->Prop}:(PH C Sg T).ucV (n :: r) K=K n r:=rfl
def b_uc0{K:Prop}:(PH C Sg T).uc0 [] K=K:=rfl
def b_cond_t{X Y:Prop}:(PH C Sg T).cond true X Y=X:=by
 show((true=true->X)/\(true=false->Y))=X
 simp
def b_cond_f{X Y:Prop}:(PH C Sg T).cond false X Y=Y:=by
 show((false=true->X)/\(false=false->Y))=Y
 simp
def b_lss_t{a b:Int}{K:Bool->Prop}(h:a<b):(PH C Sg T).cmp .lss a b K=K true:=by
 show K (decide (a<b))=_;rw[decide_eq_true h]
def b_lss_f{a b:Int}{K:Bool->Prop}(h:b<=a):(PH C Sg T).cmp .lss a b K=K false:=by
 show K (decide (a<b))=_;rw[decide_eq_false (by omega)]
def b_leq_t{a b:Int}{K:Bool->Prop}(h:a<=b):(PH C Sg T).cmp .leq a b K=K true:=by
 show K (decide (a<=b))=_;rw[decide_eq_true h]
def b_leq_f{a b:Int}{K:Bool->Prop}(h:b<a):(PH C Sg T).cmp .leq a b K=K false:=by
 show K (decide (a<=b))=_;rw[decide_eq_false (by omega)]
def b_gtr_t{a b:Int}{K:Bool->Prop}(h:b<a):(PH C Sg T).cmp .gtr a b K=K true:=by
 show K (decide (a > b))=_;rw[decide_eq_true h]
def b_gtr_f{a b:Int}{K:Bool->Prop}(h:a<=b):(PH C Sg T).cmp .gtr a b K=K false:=by
 show K (decide (a > b))=_;rw[decide_eq_false (by omega)]
def b_geq_t{a b:Int}{K:Bool->Prop}(h:b<=a):(PH C Sg T).cmp .geq a b K=K true:=by
 show K (decide (a ≥ b))=_;rw[decide_eq_true h]
def b_geq_f{a b:Int}{K:Bool->Prop}(h:a<b):(PH C Sg T).cmp .geq a b K=K false:=by
 show K (decide (a ≥ b))=_;rw[decide_eq_false (by omega)]
def b_eql_t{a b:Int}{K:Bool->Prop}(h:a=b):(PH C Sg T).cmp .eql a b K=K true:=by
 show K (a==b)=_;rw[beq_iff_eq.2 h]
def b_eql_f{a b:Int}{K:Bool->Prop}(h:a≠b):(PH C Sg T).cmp .eql a b K=K false:=by
 show K (a==b)=_;rw[beq_false_of_ne h]
def b_neq_t{a b:Int}{K:Bool->Prop}(h:a≠b):(PH C Sg T).cmp .neq a b K=K true:=by
 show K (a != b)=_;rw[bne_iff_ne.2 h]
def b_neq_f{a b:Int}{K:Bool->Prop}(h:a=b):(PH C Sg T).cmp .neq a b K=K false:=by
 show K (a != b)=_;subst h;simp
def b_add{a b:Int}{K:Int->Prop}(h1:-9223372036854775808<=a+b)(h2:a+b<=9223372036854775807):(PH C Sg T).ari .add .i64 a b K=K (a+b):=by
 show K (IntKind.wrap .i64 (a+b))=_;rw[co h1 h2]
def b_sub{a b:Int}{K:Int->Prop}(h1:-9223372036854775808<=a - b)(h2:a - b<=9223372036854775807):(PH C Sg T).ari .sub .i64 a b K=K (a - b):=by
 show K (IntKind.wrap .i64 (a - b))=_;rw[co h1 h2]
def b_mul{a b:Int}{K:Int->Prop}(h1:-9223372036854775808<=a*b)(h2:a*b<=9223372036854775807):(PH C Sg T).ari .mul .i64 a b K=K (a*b):=by
 show K (IntKind.wrap .i64 (a*b))=_;rw[co h1 h2]
def b_add8{a b:Int}{K:Int->Prop}(h1:0<=a+b)(h2:a+b<=255):(PH C Sg T).ari .add .u8 a b K=K (a+b):=by
 show K (IntKind.wrap .u8 (a+b))=_;rw[oX h1 h2]
def b_sub8{a b:Int}{K:Int->Prop}(h1:0<=a - b)(h2:a - b<=255):(PH C Sg T).ari .sub .u8 a b K=K (a - b):=by
 show K (IntKind.wrap .u8 (a - b))=_;rw[oX h1 h2]
def b_mul8{a b:Int}{K:Int->Prop}(h1:0<=a*b)(h2:a*b<=255):(PH C Sg T).ari .mul .u8 a b K=K (a*b):=by
 show K (IntKind.wrap .u8 (a*b))=_;rw[oX h1 h2]
def tdiv_nn{a b:Int}(h:0<=a):a.tdiv b=a / b:=Int.tdiv_eq_ediv_of_nonneg h
def b_quo_nn{a b:Int}{K:Int->Prop}(h:0<=a)(hb:0<b)(h2:a<=9223372036854775807):(PH C Sg T).ari .quo .i64 a b K=K (a / b):=by
 show(b≠0/\K (IntKind.wrap .i64 (a.tdiv b)))=_
 have h3:a / b<=a:=Int.ediv_le_self b h
 have h4:0<=a / b:=Int.ediv_nonneg h (by omega)
 rw[tdiv_nn h,co (by omega) (by omega)]
 simp;intro _ h;omega
def b_quo_dv{a b:Int}{K:Int->Prop}(h:a%b=0)(hb:0<b)(h1:-9223372036854775808<=a)(h2:a<=9223372036854775807):(PH C Sg T).ari .quo .i64 a b K=K (a / b):=by
 show(b≠0/\K (IntKind.wrap .i64 (a.tdiv b)))=_
 obtain⟨q,rfl⟩:=Int.dvd_of_emod_eq_zero h
 rw[Int.mul_tdiv_cancel_left q (by omega),Int.mul_ediv_cancel_left q (by omega)]
 have hq:-9223372036854775808<=q/\q<=9223372036854775807:=by
  rcases Int.le_total 0 q with hs|hs
  ·have:=qbW (show(1:Int)<=b by omega) hs
   omega
  ·have:=qbW (show(1:Int)<=b by omega) (show 0<=-q by omega)
   rw[Int.mul_neg b q]at this
   omega
 rw[co hq.1 hq.2]
 simp;intro _ h;omega
def b_rem_nn{k:IntKind}{a b:Int}{K:Int->Prop}(h:0<=a)(hb:0<b):(PH C Sg T).ari .rem k a b K=K (a%b):=by
 show(b≠0/\K (a.tmod b))=_
 rw[qcH h]
 simp;intro _ h;omega
def b_rem_np{k:IntKind}{a b:Int}{K:Int->Prop}(h:a<=0)(hb:0<b):(PH C Sg T).ari .rem k a b K=K (-((-a)%b)):=by
 show(b≠0/\K (a.tmod b))=_
 have:a.tmod b = -((-a)%b):=by
  have h1:=Int.neg_tmod a b
  rw[qcH (a:=-a) (by omega)]at h1
  omega
 rw[this]
 simp;intro _ h;omega
def b_and1{a:Int}{K:Int->Prop}:(PH C Sg T).ari .and .i64 a 1 K=K (a%2):=by
 show(((1:Int)=1/\K (a%2))∨((1:Int)≠1/\∃n,ny .and .i64 a 1 n/\K n))=K (a%2)
 simp
def b_conv{a:Int}{K:Int->Prop}(h1:-9223372036854775808<=a)(h2:a<=9223372036854775807):(PH C Sg T).conv .i64 a K=K a:=by
 show K (IntKind.wrap .i64 a)=_;rw[co h1 h2]
def b_conv8{a:Int}{K:Int->Prop}(h1:0<=a)(h2:a<=255):(PH C Sg T).conv .u8 a K=K a:=by
 show K (IntKind.wrap .u8 a)=_;rw[oX h1 h2]
def b_sel_t{a b:Int}{K:Int->Prop}:(PH C Sg T).sel true a b K=K a:=rfl
def b_sel_f{a b:Int}{K:Int->Prop}:(PH C Sg T).sel false a b K=K b:=rfl
def b_opt{α:Type}{x:α}{K:α->Prop}:(PH C Sg T).opt (some x) K=K x:=by
 show(∃y,some x=some y/\K y)=K x
 simp
def b_inB{n:Nat}{i:Int}{K:Unit->Prop}(h1:0<=i)(h2:i<(n:Int)):(PH C Sg T).opt (inB n i) K=K ():=by
 rw[show inB n i=some ()from(inB_eq n i).trans (if_pos ⟨h1,h2⟩),b_opt]
def b_join{b:List Lf->HL->Prop}{m:(List Lf->HL->Prop)->Prop}:(PH C Sg T).join b m=m b:=rfl
def b_eqs0{K:Bool->Prop}:(PH C Sg T).eqs [] K=K true:=rfl
def b_eqs_t{a b:Int}{l:List (Lf×Lf)}{K:Bool->Prop}(h:a=b):(PH C Sg T).eqs ((.i a,.i b) :: l) K=(PH C Sg T).eqs l K:=by
 show K (ce _)=K (ce l)
 subst h
 simp[ce,gp]
def b_eqs_f{a b:Int}{l:List (Lf×Lf)}{K:Bool->Prop}(h:a≠b):(PH C Sg T).eqs ((.i a,.i b) :: l) K=K false:=by
 show K (ce _)=K false
 have:(a==b)=false:=beq_false_of_ne h
 simp[ce,gp,this]
def b_it{F:(List Lf->HL->Prop)->List Lf->HL->Prop}{n:Nat}{ls:List Lf}{h:HL}:itH F (n+1) ls h=F (itH F n) ls h:=rfl
def dY{g:FuncId}{ls rs:List Lf}{h:HL}{K:List Lf->HL->Prop}(hc:∀H,aR C Sg g ls H rs H)(hk:K rs h):(PH C Sg T).call g ls h (@hid _ ⟨K⟩):=⟨rs,h,hc _,hk⟩
def b_eqsb_t{a b:Bool}{l:List (Lf×Lf)}{K:Bool->Prop}(h:a=b):(PH C Sg T).eqs ((.b a,.b b) :: l) K=(PH C Sg T).eqs l K:=by
 show K (ce _)=K (ce l)
 subst h
 simp[ce,gp]
def b_eqsb_tf{l:List (Lf×Lf)}{K:Bool->Prop}:(PH C Sg T).eqs ((.b true,.b false) :: l) K=K false:=rfl
def b_eqsb_ft{l:List (Lf×Lf)}{K:Bool->Prop}:(PH C Sg T).eqs ((.b false,.b true) :: l) K=K false:=rfl
def b_mul_1{b:Int}{K:Int->Prop}(h1:-9223372036854775808<=b)(h2:b<=9223372036854775807):(PH C Sg T).ari .mul .i64 1 b K=K b:=by
 show K (IntKind.wrap .i64 (1*b))=_;rw[Int.one_mul,co h1 h2]
def b_mul_0{b:Int}{K:Int->Prop}:(PH C Sg T).ari .mul .i64 0 b K=K 0:=by
 show K (IntKind.wrap .i64 (0*b))=_;rw[Int.zero_mul];rfl
def b_mul_m{b:Int}{K:Int->Prop}(h1:-9223372036854775808<=-b)(h2:-b<=9223372036854775807):(PH C Sg T).ari .mul .i64 (-1) b K=K (-b):=by
 show K (IntKind.wrap .i64 (-1*b))=_
 have:(-1*b:Int) = -b:=by omega
 rw[this,co h1 h2]
def b_mul_r1{b:Int}{K:Int->Prop}(h1:-9223372036854775808<=b)(h2:b<=9223372036854775807):(PH C Sg T).ari .mul .i64 b 1 K=K b:=by
 show K (IntKind.wrap .i64 (b*1))=_;rw[Int.mul_one,co h1 h2]
def b_mul_r0{b:Int}{K:Int->Prop}:(PH C Sg T).ari .mul .i64 b 0 K=K 0:=by
 show K (IntKind.wrap .i64 (b*0))=_;rw[Int.mul_zero];rfl
def b_mul_rm{b:Int}{K:Int->Prop}(h1:-9223372036854775808<=-b)(h2:-b<=9223372036854775807):(PH C Sg T).ari .mul .i64 b (-1) K=K (-b):=by
 show K (IntKind.wrap .i64 (b * -1))=_
 have:(b * -1:Int) = -b:=by omega
 rw[this,co h1 h2]
def b_add_0{b:Int}{K:Int->Prop}(h1:-9223372036854775808<=b)(h2:b<=9223372036854775807):(PH C Sg T).ari .add .i64 0 b K=K b:=by
 show K (IntKind.wrap .i64 (0+b))=_;rw[Int.zero_add,co h1 h2]
def b_add_r0{b:Int}{K:Int->Prop}(h1:-9223372036854775808<=b)(h2:b<=9223372036854775807):(PH C Sg T).ari .add .i64 b 0 K=K b:=by
 show K (IntKind.wrap .i64 (b+0))=_;rw[Int.add_zero,co h1 h2]
def b_add_11{K:Int->Prop}:(PH C Sg T).ari .add .i64 1 1 K=K 2:=by
 show K (IntKind.wrap .i64 (1+1))=_;rfl
def b_quo_1{a:Int}{K:Int->Prop}(h1:-9223372036854775808<=a)(h2:a<=9223372036854775807):(PH C Sg T).ari .quo .i64 a 1 K=K a:=by
 show((1:Int)≠0/\K (IntKind.wrap .i64 (a.tdiv 1)))=_
 rw[Int.tdiv_one,co h1 h2];simp
def ay{α:Type}{o:Option α}{x:α}{K:α->Prop}(h:o=some x)(hk:K x):(PH C Sg T).opt o (@hid _ ⟨K⟩):=⟨x,h,hk⟩
theorem p_unI{n:Int}{r:List Lf}{K:Int->List Lf->Prop}:(PH C Sg T).unI (.i n :: r) (@hid _ ⟨K⟩)=K n r:=b_unI
theorem p_unB{n:Bool}{r:List Lf}{K:Bool->List Lf->Prop}:(PH C Sg T).unB (.b n :: r) (@hid _ ⟨K⟩)=K n r:=b_unB
theorem p_unV{n:Value}{r:List Lf}{K:Value->List Lf->Prop}:(PH C Sg T).unV (.v n :: r) (@hid _ ⟨K⟩)=K n r:=b_unV
theorem p_un0{K:Prop}:(PH C Sg T).un0 [] (@hid _ ⟨K⟩)=K:=b_un0
theorem p_ucI{k:IntKind}{n:Int}{r:List Value}{K:Int->List Value->Prop}:(PH C Sg T).ucI k (.int k n :: r) (@hid _ ⟨K⟩)=K n r:=b_ucI
theorem p_ucB{n:Bool}{r:List Value}{K:Bool->List Value->Prop}:(PH C Sg T).ucB (.bool n :: r) (@hid _ ⟨K⟩)=K n r:=b_ucB
theorem p_ucV{n:Value}{r:List Value}{K:Value->List Value->Prop}:(PH C Sg T).ucV (n :: r) (@hid _ ⟨K⟩)=K n r:=b_ucV
theorem p_uc0{K:Prop}:(PH C Sg T).uc0 [] (@hid _ ⟨K⟩)=K:=b_uc0
theorem p_cond_t{X Y:Prop}:(PH C Sg T).cond true (@hid _ ⟨X⟩) Y=X:=b_cond_t
theorem p_cond_f{X Y:Prop}:(PH C Sg T).cond false X (@hid _ ⟨Y⟩)=Y:=b_cond_f
theorem p_lss_t{a b:Int}{K:Bool->Prop}(h:a<b):(PH C Sg T).cmp .lss a b (@hid _ ⟨K⟩)=K true:=b_lss_t h
theorem p_lss_f{a b:Int}{K:Bool->Prop}(h:b<=a):(PH C Sg T).cmp .lss a b (@hid _ ⟨K⟩)=K false:=b_lss_f h
theorem p_leq_t{a b:Int}{K:Bool->Prop}(h:a<=b):(PH C Sg T).cmp .leq a b (@hid _ ⟨K⟩)=K true:=b_leq_t h
theorem p_leq_f{a b:Int}{K:Bool->Prop}(h:b<a):(PH C Sg T).cmp .leq a b (@hid _ ⟨K⟩)=K false:=b_leq_f h
theorem p_gtr_t{a b:Int}{K:Bool->Prop}(h:b<a):(PH C Sg T).cmp .gtr a b (@hid _ ⟨K⟩)=K true:=b_gtr_t h
theorem p_gtr_f{a b:Int}{K:Bool->Prop}(h:a<=b):(PH C Sg T).cmp .gtr a b (@hid _ ⟨K⟩)=K false:=b_gtr_f h
theorem p_geq_t{a b:Int}{K:Bool->Prop}(h:b<=a):(PH C Sg T).cmp .geq a b (@hid _ ⟨K⟩)=K true:=b_geq_t h
theorem p_geq_f{a b:Int}{K:Bool->Prop}(h:a<b):(PH C Sg T).cmp .geq a b (@hid _ ⟨K⟩)=K false:=b_geq_f h
theorem p_eql_t{a b:Int}{K:Bool->Prop}(h:a=b):(PH C Sg T).cmp .eql a b (@hid _ ⟨K⟩)=K true:=b_eql_t h
theorem p_eql_f{a b:Int}{K:Bool->Prop}(h:a≠b):(PH C Sg T).cmp .eql a b (@hid _ ⟨K⟩)=K false:=b_eql_f h
theorem p_neq_t{a b:Int}{K:Bool->Prop}(h:a≠b):(PH C Sg T).cmp .neq a b (@hid _ ⟨K⟩)=K true:=b_neq_t h
theorem p_neq_f{a b:Int}{K:Bool->Prop}(h:a=b):(PH C Sg T).cmp .neq a b (@hid _ ⟨K⟩)=K false:=b_neq_f h
theorem p_add{a b:Int}{K:Int->Prop}(h1:-9223372036854775808<=a+b)(h2:a+b<=9223372036854775807):(PH C Sg T).ari .add .i64 a b (@hid _ ⟨K⟩)=K (a+b):=b_add h1 h2
theorem p_sub{a b:Int}{K:Int->Prop}(h1:-9223372036854775808<=a - b)(h2:a - b<=9223372036854775807):(PH C Sg T).ari .sub .i64 a b (@hid _ ⟨K⟩)=K (a - b):=b_sub h1 h2
theorem p_mul{a b:Int}{K:Int->Prop}(h1:-9223372036854775808<=a*b)(h2:a*b<=9223372036854775807):(PH C Sg T).ari .mul .i64 a b (@hid _ ⟨K⟩)=K (a*b):=b_mul h1 h2
theorem p_add8{a b:Int}{K:Int->Prop}(h1:0<=a+b)(h2:a+b<=255):(PH C Sg T).ari .add .u8 a b (@hid _ ⟨K⟩)=K (a+b):=b_add8 h1 h2
theorem p_sub8{a b:Int}{K:Int->Prop}(h1:0<=a - b)(h2:a - b<=255):(PH C Sg T).ari .sub .u8 a b (@hid _ ⟨K⟩)=K (a - b):=b_sub8 h1 h2
theorem p_mul8{a b:Int}{K:Int->Prop}(h1:0<=a*b)(h2:a*b<=255):(PH C Sg T).ari .mul .u8 a b (@hid _ ⟨K⟩)=K (a*b):=b_mul8 h1 h2
theorem p_quo_nn{a b:Int}{K:Int->Prop}(h:0<=a)(hb:0<b)(h2:a<=9223372036854775807):(PH C Sg T).ari .quo .i64 a b (@hid _ ⟨K⟩)=K (a / b):=b_quo_nn h hb h2
theorem p_quo_dv{a b:Int}{K:Int->Prop}(h:a%b=0)(hb:0<b)(h1:-9223372036854775808<=a)(h2:a<=9223372036854775807):(PH C Sg T).ari .quo .i64 a b (@hid _ ⟨K⟩)=K (a / b):=b_quo_dv h hb h1 h2
theorem p_rem_nn{k:IntKind}{a b:Int}{K:Int->Prop}(h:0<=a)(hb:0<b):(PH C Sg T).ari .rem k a b (@hid _ ⟨K⟩)=K (a%b):=b_rem_nn h hb
theorem p_rem_np{k:IntKind}{a b:Int}{K:Int->Prop}(h:a<=0)(hb:0<b):(PH C Sg T).ari .rem k a b (@hid _ ⟨K⟩)=K (-((-a)%b)):=b_rem_np h hb
theorem p_and1{a:Int}{K:Int->Prop}:(PH C Sg T).ari .and .i64 a 1 (@hid _ ⟨K⟩)=K (a%2):=b_and1
theorem p_conv{a:Int}{K:Int->Prop}(h1:-9223372036854775808<=a)(h2:a<=9223372036854775807):(PH C Sg T).conv .i64 a (@hid _ ⟨K⟩)=K a:=b_conv h1 h2
theorem p_conv8{a:Int}{K:Int->Prop}(h1:0<=a)(h2:a<=255):(PH C Sg T).conv .u8 a (@hid _ ⟨K⟩)=K a:=b_conv8 h1 h2
theorem p_sel_t{a b:Int}{K:Int->Prop}:(PH C Sg T).sel true a b (@hid _ ⟨K⟩)=K a:=b_sel_t
theorem p_sel_f{a b:Int}{K:Int->Prop}:(PH C Sg T).sel false a b (@hid _ ⟨K⟩)=K b:=b_sel_f
theorem p_opt{α:Type}{x:α}{K:α->Prop}:(PH C Sg T).opt (some x) (@hid _ ⟨K⟩)=K x:=b_opt
theorem p_inB{n:Nat}{i:Int}{K:Unit->Prop}(h1:0<=i)(h2:i<(n:Int)):(PH C Sg T).opt (inB n i) (@hid _ ⟨K⟩)=K ():=b_inB h1 h2
theorem p_join{b:List Lf->HL->Prop}{m:(List Lf->HL->Prop)->Prop}:(PH C Sg T).join (@hid _ ⟨b⟩) (@hid _ ⟨m⟩)=m (@hid _ ⟨b⟩):=b_join
theorem p_eqs0{K:Bool->Prop}:(PH C Sg T).eqs [] (@hid _ ⟨K⟩)=K true:=b_eqs0
theorem p_eqs_t{a b:Int}{l:List (Lf×Lf)}{K:Bool->Prop}(h:a=b):(PH C Sg T).eqs ((.i a,.i b) :: l) (@hid _ ⟨K⟩)=(PH C Sg T).eqs l (@hid _ ⟨K⟩):=b_eqs_t h
theorem p_eqs_f{a b:Int}{l:List (Lf×Lf)}{K:Bool->Prop}(h:a≠b):(PH C Sg T).eqs ((.i a,.i b) :: l) (@hid _ ⟨K⟩)=K false:=b_eqs_f h
theorem p_it{F:(List Lf->HL->Prop)->List Lf->HL->Prop}{n:Nat}{ls:List Lf}{h:HL}:itH (@hid _ ⟨F⟩) (n+1) ls h=F (itH (@hid _ ⟨F⟩) n) ls h:=b_it
theorem p_eqsb_t{a b:Bool}{l:List (Lf×Lf)}{K:Bool->Prop}(h:a=b):(PH C Sg T).eqs ((.b a,.b b) :: l) (@hid _ ⟨K⟩)=(PH C Sg T).eqs l (@hid _ ⟨K⟩):=b_eqsb_t h
theorem p_eqsb_tf{l:List (Lf×Lf)}{K:Bool->Prop}:(PH C Sg T).eqs ((.b true,.b false) :: l) (@hid _ ⟨K⟩)=K false:=b_eqsb_tf
theorem p_eqsb_ft{l:List (Lf×Lf)}{K:Bool->Prop}:(PH C Sg T).eqs ((.b false,.b true) :: l) (@hid _ ⟨K⟩)=K false:=b_eqsb_ft
theorem p_mul_1{b:Int}{K:Int->Prop}(h1:-9223372036854775808<=b)(h2:b<=9223372036854775807):(PH C Sg T).ari .mul .i64 1 b (@hid _ ⟨K⟩)=K b:=b_mul_1 h1 h2
theorem p_mul_0{b:Int}{K:Int->Prop}:(PH C Sg T).ari .mul .i64 0 b (@hid _ ⟨K⟩)=K 0:=b_mul_0
theorem p_mul_m{b:Int}{K:Int->Prop}(h1:-9223372036854775808<=-b)(h2:-b<=9223372036854775807):(PH C Sg T).ari .mul .i64 (-1) b (@hid _ ⟨K⟩)=K (-b):=b_mul_m h1 h2
theorem p_mul_r1{b:Int}{K:Int->Prop}(h1:-9223372036854775808<=b)(h2:b<=9223372036854775807):(PH C Sg T).ari .mul .i64 b 1 (@hid _ ⟨K⟩)=K b:=b_mul_r1 h1 h2
theorem p_mul_r0{b:Int}{K:Int->Prop}:(PH C Sg T).ari .mul .i64 b 0 (@hid _ ⟨K⟩)=K 0:=b_mul_r0
theorem p_mul_rm{b:Int}{K:Int->Prop}(h1:-9223372036854775808<=-b)(h2:-b<=9223372036854775807):(PH C Sg T).ari .mul .i64 b (-1) (@hid _ ⟨K⟩)=K (-b):=b_mul_rm h1 h2
theorem p_add_0{b:Int}{K:Int->Prop}(h1:-9223372036854775808<=b)(h2:b<=9223372036854775807):(PH C Sg T).ari .add .i64 0 b (@hid _ ⟨K⟩)=K b:=b_add_0 h1 h2
theorem p_add_r0{b:Int}{K:Int->Prop}(h1:-9223372036854775808<=b)(h2:b<=9223372036854775807):(PH C Sg T).ari .add .i64 b 0 (@hid _ ⟨K⟩)=K b:=b_add_r0 h1 h2
theorem p_add_11{K:Int->Prop}:(PH C Sg T).ari .add .i64 1 1 (@hid _ ⟨K⟩)=K 2:=b_add_11
theorem p_quo_1{a:Int}{K:Int->Prop}(h1:-9223372036854775808<=a)(h2:a<=9223372036854775807):(PH C Sg T).ari .quo .i64 a 1 (@hid _ ⟨K⟩)=K a:=b_quo_1 h1 h2
theorem p_hid2{f:List Lf->HL->Prop}{a:List Lf}{b:HL}:@hid _ ⟨f⟩ a b=f a b:=rfl
theorem p_eqs2_f{a b c d:Int}{K:Bool->Prop}(h:¬(a=c/\b=d)):(PH C Sg T).eqs [(.i a,.i c),(.i b,.i d)] (@hid _ ⟨K⟩)=K false:=by
 show K (ce _)=K false
 have:ce [(.i a,.i c),(.i b,.i d)]=false:=by
  rw[Bool.eq_false_iff]
  simpa[ce,gp]using h
 rw[this]
theorem p_eqs3_f{a b c d e f:Int}{K:Bool->Prop}(h:¬(a=d/\b=e/\c=f)):(PH C Sg T).eqs [(.i a,.i d),(.i b,.i e),(.i c,.i f)] (@hid _ ⟨K⟩)=K false:=by
 show K (ce _)=K false
 have:ce [(.i a,.i d),(.i b,.i e),(.i c,.i f)]=false:=by
  rw[Bool.eq_false_iff]
  simpa[ce,gp]using h
 rw[this]
def bf{g:FuncId}{ls rs:List Lf}{h h':HL}{K:List Lf->HL->Prop}(hc:aR C Sg g ls (absH T h) rs (absH T h'))(hk:K rs h'):(PH C Sg T).call g ls h (@hid _ ⟨K⟩):=⟨rs,h',hc,hk⟩
def rU{g:FuncId}{sg:Sig}{ls rs:List Lf}{H H':List HObj}(hc:aR C Sg g ls H rs H')(hs:Sg g=some sg)(xs:List S0)(h1:bA xs sg.ps=true)(h2:bC xs=ls) :
  qO C (.func (.func g) #[] #[]) (ae xs) sg.rs H rs H':=by
 obtain⟨sg',xs',ys,c1,c2,c3,c4⟩:=hc
 rw[hs]at c1
 cases c1
 obtain⟨w1,_⟩:=bq c2.1 h1 (c2.2.1.trans h2.symm)
 rw[w1]at c4
 exact⟨ys,c3,.inl ⟨g,#[],#[],rfl,by simpa using c4⟩⟩
def iT{v:Value}{args:List Value}{hs:List SK}{rs:List Lf}{h h':HL}{K:List Lf->HL->Prop}(hc:qO C v args hs (absH T h) rs (absH T h'))(hk:K rs h'):(PH C Sg T).callv v args hs h (@hid _ ⟨K⟩):=⟨rs,h',hc,hk⟩
theorem p_new{o:HObj}{h:HL}{K:Nat->HL->Prop}:(PH C Sg T).new o h (@hid _ ⟨K⟩)=K h.length (h++[.o o]):=rfl
def av{v:Value}{K:Prop}(h:aV v=true)(hk:K):(PH C Sg T).chk v (@hid _ ⟨K⟩):=⟨h,hk⟩
def cf{f:Hp}{h:HL}{K:List Value->HL->Prop}{acts:List Act1}{cs:List Value}(e:f.run (getH T h) h.length=some (acts,cs))(hk:K cs (bZ h acts)):(PH C Sg T).heap f h (@hid _ ⟨K⟩):=⟨acts,cs,e,hk⟩
def dt{f:Pk}{h:HL}{K:List Value->Prop}{cs:List Value}(e:f.run (getH T h)=some cs)(hk:K cs):(PH C Sg T).peek f h (@hid _ ⟨K⟩):=⟨cs,e,hk⟩
def pxs(C:Cfg)(Sg:FuncId->Option Sig)(T:Nat->Site):=And.intro @p_hid2 (And.intro (@p_new _ _ C Sg T) (And.intro (@p_unI _ _ C Sg T) (And.intro (@p_unB _ _ C Sg T) (And.intro (@p_unV _ _ C Sg T) (And.intro (@p_un0 _ _ C Sg T) (And.intro (@p_ucI _ _ C Sg T) (And.intro (@p_ucB _ _ C Sg T) (And.intro (@p_ucV _ _ C Sg T) (And.intro (@p_uc0 _ _ C Sg T) (And.intro (@p_cond_t _ _ C Sg T) (And.intro (@p_cond_f _ _ C Sg T) (And.intro (@p_opt _ _ C Sg T) (And.intro (@p_inB _ _ C Sg T) (And.intro (@p_join _ _ C Sg T) (And.intro (@p_sel_t _ _ C Sg T) (And.intro (@p_sel_f _ _ C Sg T) ((@p_it))))))))))))))))))
def pxc(C:Cfg)(Sg:FuncId->Option Sig)(T:Nat->Site):=And.intro (@p_lss_t _ _ C Sg T) (And.intro (@p_lss_f _ _ C Sg T) (And.intro (@p_leq_t _ _ C Sg T) (And.intro (@p_leq_f _ _ C Sg T) (And.intro (@p_gtr_t _ _ C Sg T) (And.intro (@p_gtr_f _ _ C Sg T) (And.intro (@p_geq_t _ _ C Sg T) (And.intro (@p_geq_f _ _ C Sg T) (And.intro (@p_eql_t _ _ C Sg T) (And.intro (@p_eql_f _ _ C Sg T) (And.intro (@p_neq_t _ _ C Sg T) (And.intro (@p_neq_f _ _ C Sg T) (And.intro (@p_eqs0 _ _ C Sg T) (And.intro (@p_eqs_t _ _ C Sg T) (And.intro (@p_eqs_f _ _ C Sg T) (And.intro (@p_eqs2_f _ _ C Sg T) (And.intro (@p_eqs3_f _ _ C Sg T) (And.intro (@p_eqsb_t _ _ C Sg T) (And.intro (@p_eqsb_tf _ _ C Sg T) ((@p_eqsb_ft _ _ C Sg T))))))))))))))))))))
def pxa(C:Cfg)(Sg:FuncId->Option Sig)(T:Nat->Site):=And.intro (@p_mul_1 _ _ C Sg T) (And.intro (@p_mul_0 _ _ C Sg T) (And.intro (@p_mul_m _ _ C Sg T) (And.intro (@p_mul_r1 _ _ C Sg T) (And.intro (@p_mul_r0 _ _ C Sg T) (And.intro (@p_mul_rm _ _ C Sg T) (And.intro (@p_add_0 _ _ C Sg T) (And.intro (@p_add_r0 _ _ C Sg T) (And.intro (@p_add_11 _ _ C Sg T) (And.intro (@p_quo_1 _ _ C Sg T) (And.intro (@p_add _ _ C Sg T) (And.intro (@p_sub _ _ C Sg T) (And.intro (@p_mul _ _ C Sg T) (And.intro (@p_add8 _ _ C Sg T) (And.intro (@p_sub8 _ _ C Sg T) (And.intro (@p_mul8 _ _ C Sg T) (And.intro (@p_quo_nn _ _ C Sg T) (And.intro (@p_quo_dv _ _ C Sg T) (And.intro (@p_rem_nn _ _ C Sg T) (And.intro (@p_rem_np _ _ C Sg T) (And.intro (@p_and1 _ _ C Sg T) (And.intro (@p_conv _ _ C Sg T) ((@p_conv8 _ _ C Sg T)))))))))))))))))))))))
end
end Sx
namespace Sx
section
variable [Val] [Kno]
variable {C:Cfg} {Sg:FuncId->Option Sig} {T:Nat->Site}
end
end Sx
namespace Sx
open Go.Proofs
def hA(A:Alg Prop HL):Alg Prop HL where
 fail:=A.fail
 cond b x y:=A.cond b (@hid _ ⟨x⟩) (@hid _ ⟨y⟩)
 ari o k a b K:=A.ari o k a b (@hid _ ⟨K⟩)
 shf o k a l b K:=A.shf o k a l b (@hid _ ⟨K⟩)
 cmp o a b K:=A.cmp o a b (@hid _ ⟨K⟩)
 eqs l K:=A.eqs l (@hid _ ⟨K⟩)
 conv k a K:=A.conv k a (@hid _ ⟨K⟩)
 sel t a b K:=A.sel t a b (@hid _ ⟨K⟩)
 opt o K:=A.opt o (@hid _ ⟨K⟩)
 chk v x:=A.chk v (@hid _ ⟨x⟩)
 unI l K:=A.unI l (@hid _ ⟨K⟩)
 unB l K:=A.unB l (@hid _ ⟨K⟩)
 unV l K:=A.unV l (@hid _ ⟨K⟩)
 un0 l x:=A.un0 l (@hid _ ⟨x⟩)
 ucI k l K:=A.ucI k l (@hid _ ⟨K⟩)
 ucB l K:=A.ucB l (@hid _ ⟨K⟩)
 ucV l K:=A.ucV l (@hid _ ⟨K⟩)
 uc0 l x:=A.uc0 l (@hid _ ⟨x⟩)
 peek f h K:=A.peek f h (@hid _ ⟨K⟩)
 heap f h K:=A.heap f h (@hid _ ⟨K⟩)
 new o h K:=A.new o h (@hid _ ⟨K⟩)
 call g l h K:=A.call g l h (@hid _ ⟨K⟩)
 callv v a s h K:=A.callv v a s h (@hid _ ⟨K⟩)
 join b m:=A.join (@hid _ ⟨b⟩) (@hid _ ⟨m⟩)
 loop F l h:=A.loop (@hid _ ⟨F⟩) l h
 rfun n v a h K:=A.rfun n v a h (@hid _ ⟨K⟩)
 pend o x y l:=A.pend o (@hid _ ⟨x⟩) (@hid _ ⟨y⟩) l
 lp1 n h K:=A.lp1 n h (@hid _ ⟨K⟩)
 lp2 n o h K:=A.lp2 n o h (@hid _ ⟨K⟩)
def hA_eq(A:Alg Prop HL):hA A=A:=rfl
section
variable {A:Alg Prop HL}
theorem h_cond{b:Bool}{x y:Prop}:(hA A).cond b x y=A.cond b (@hid _ ⟨x⟩) (@hid _ ⟨y⟩):=rfl
theorem h_ari{o:BinOp}{k:IntKind}{a b:Int}{K:Int->Prop}:(hA A).ari o k a b K=A.ari o k a b (@hid _ ⟨K⟩):=rfl
theorem h_shf{o:BinOp}{k l:IntKind}{a b:Int}{K:Int->Prop}:(hA A).shf o k a l b K=A.shf o k a l b (@hid _ ⟨K⟩):=rfl
theorem h_cmp{o:BinOp}{a b:Int}{K:Bool->Prop}:(hA A).cmp o a b K=A.cmp o a b (@hid _ ⟨K⟩):=rfl
theorem h_eqs{l:List (Lf×Lf)}{K:Bool->Prop}:(hA A).eqs l K=A.eqs l (@hid _ ⟨K⟩):=rfl
theorem h_conv{k:IntKind}{a:Int}{K:Int->Prop}:(hA A).conv k a K=A.conv k a (@hid _ ⟨K⟩):=rfl
theorem h_sel{t:Bool}{a b:Int}{K:Int->Prop}:(hA A).sel t a b K=A.sel t a b (@hid _ ⟨K⟩):=rfl
theorem h_opt{α:Type}{o:Option α}{K:α->Prop}:(hA A).opt o K=A.opt o (@hid _ ⟨K⟩):=rfl
theorem h_chk{v:Value}{x:Prop}:(hA A).chk v x=A.chk v (@hid _ ⟨x⟩):=rfl
theorem h_unI{l:List Lf}{K:Int->List Lf->Prop}:(hA A).unI l K=A.unI l (@hid _ ⟨K⟩):=rfl
theorem h_unB{l:List Lf}{K:Bool->List Lf->Prop}:(hA A).unB l K=A.unB l (@hid _ ⟨K⟩):=rfl
theorem h_unV{l:List Lf}{K:Value->List Lf->Prop}:(hA A).unV l K=A.unV l (@hid _ ⟨K⟩):=rfl
theorem h_un0{l:List Lf}{x:Prop}:(hA A).un0 l x=A.un0 l (@hid _ ⟨x⟩):=rfl
theorem h_ucI{k:IntKind}{l:List Value}{K:Int->List Value->Prop}:(hA A).ucI k l K=A.ucI k l (@hid _ ⟨K⟩):=rfl
theorem h_ucB{l:List Value}{K:Bool->List Value->Prop}:(hA A).ucB l K=A.ucB l (@hid _ ⟨K⟩):=rfl
theorem h_ucV{l:List Value}{K:Value->List Value->Prop}:(hA A).ucV l K=A.ucV l (@hid _ ⟨K⟩):=rfl
theorem h_uc0{l:List Value}{x:Prop}:(hA A).uc0 l x=A.uc0 l (@hid _ ⟨x⟩):=rfl
theorem h_peek{f:Pk}{h:HL}{K:List Value->Prop}:(hA A).peek f h K=A.peek f h (@hid _ ⟨K⟩):=rfl
theorem h_heap{f:Hp}{h:HL}{K:List Value->HL->Prop}:(hA A).heap f h K=A.heap f h (@hid _ ⟨K⟩):=rfl
theorem h_new{o:HObj}{h:HL}{K:Nat->HL->Prop}:(hA A).new o h K=A.new o h (@hid _ ⟨K⟩):=rfl
theorem h_call{g:FuncId}{l:List Lf}{h:HL}{K:List Lf->HL->Prop}:(hA A).call g l h K=A.call g l h (@hid _ ⟨K⟩):=rfl
theorem h_callv{v:Value}{a:List Value}{s:List SK}{h:HL}{K:List Lf->HL->Prop}:(hA A).callv v a s h K=A.callv v a s h (@hid _ ⟨K⟩):=rfl
theorem h_join{b:List Lf->HL->Prop}{m:(List Lf->HL->Prop)->Prop}:(hA A).join b m=A.join (@hid _ ⟨b⟩) (@hid _ ⟨m⟩):=rfl
theorem h_loop{F:(List Lf->HL->Prop)->List Lf->HL->Prop}{l:List Lf}{h:HL}:(hA A).loop F l h=A.loop (@hid _ ⟨F⟩) l h:=rfl
theorem h_rfun{n:Nat}{v:Value}{a:List Value}{h:HL}{K:Option Code->HL->Prop}:(hA A).rfun n v a h K=A.rfun n v a h (@hid _ ⟨K⟩):=rfl
theorem h_pend{o:Option Code}{x y:Prop}{l:List (Nat×Prop)}:(hA A).pend o x y l=A.pend o (@hid _ ⟨x⟩) (@hid _ ⟨y⟩) l:=rfl
theorem h_lp1{n:Nat}{h:HL}{K:HL->Prop}:(hA A).lp1 n h K=A.lp1 n h (@hid _ ⟨K⟩):=rfl
theorem h_lp2{n:Nat}{o:Option Code}{h:HL}{K:HL->Prop}:(hA A).lp2 n o h K=A.lp2 n o h (@hid _ ⟨K⟩):=rfl
end
def pxh(A:Alg Prop HL):=And.intro (@h_cond A) (And.intro (@h_ari A) (And.intro (@h_shf A) (And.intro (@h_cmp A) (And.intro (@h_eqs A) (And.intro (@h_conv A) (And.intro (@h_sel A) (And.intro (@h_opt A) (And.intro (@h_chk A) (And.intro (@h_unI A) (And.intro (@h_unB A) (And.intro (@h_unV A) (And.intro (@h_un0 A) (And.intro (@h_ucI A) (And.intro (@h_ucB A) (And.intro (@h_ucV A) (And.intro (@h_uc0 A) (And.intro (@h_peek A) (And.intro (@h_heap A) (And.intro (@h_new A) (And.intro (@h_call A) (And.intro (@h_callv A) (And.intro (@h_join A) (And.intro (@h_loop A) (And.intro (@h_rfun A) (And.intro (@h_pend A) (And.intro (@h_lp1 A) ((@h_lp2 A))))))))))))))))))))))))))))
end Sx
end Go.Am
set_option maxRecDepth 100000
namespace Go.Am
open Sx Go.Proofs
def gl_cell(g:Nat)(vs:List Value)(h:cc.G g=some vs):vs.all aF=true:=by
 unfold cc at h
 simp only at h
 split at h<;>first|(cases h;done)|(obtain rfl:=qaj h;kernel_rfl)|(unfold glx at h;split at h<;>first|(cases h;done)|(obtain rfl:=qaj h;kernel_rfl))
abbrev P1:Alg Prop HL:=PH cc ab aa
abbrev Cc(g:FuncId)(ls rs:List Lf):Prop:=∀H,aR cc ab g ls H rs H
def fn_ok{f:FuncId}{fn:Fn1}(hi:FnIs (xc f) ab f fn){ls:List Lf}{H:HL}{K:List Lf->HL->Prop}(hls:jm ls=true)
  (h:ai P1 (xc f) ab drN fn ls H K):∃rs H',aR cc ab f ls (absH aa H) rs (absH aa H')/\K rs H':=by
 obtain⟨rs,h',a1,_,a3⟩:=nW (X:=xc f) (holds:=id) (abs:=absH aa) (PH_ok cc ab aa) rY hi (ca hls) h
 exact⟨rs,h',a1,a3⟩
def fn_okG{f:FuncId}{fn:Fn1}(hi:FnIs (xc f) ab f fn){ls:List Lf}{H:HL}{K:List Lf->HL->Prop}(hls:cG ls)
  (h:ai P1 (xc f) ab drN fn ls H K):∃rs H',aR cc ab f ls (absH aa H) rs (absH aa H')/\K rs H':=by
 obtain⟨rs,h',a1,_,a3⟩:=nW (X:=xc f) (holds:=id) (abs:=absH aa) (PH_ok cc ab aa) rY hi hls h
 exact⟨rs,h',a1,a3⟩
def gls0:cG []:=λ_ h=>by cases h
def glsI{n:Int}{ls:List Lf}(h:cG ls):cG (.i n :: ls):=λl hl=>by
 rcases qaq.1 hl with rfl|hl
 ·trivial
 ·exact h l hl
def glsV{x:Value}{ls:List Lf}(hx:aV x=true)(h:cG ls):cG (.v x :: ls):=λl hl=>by
 rcases qaq.1 hl with rfl|hl
 ·exact hx
 ·exact h l hl
abbrev FP:=List Lf->HL->(List Lf->HL->Prop)->Prop
abbrev UG(k:FuncId)(p:FP):Prop:=∀ {ls:List Lf} {H:HL} {K:List Lf->HL->Prop},jm ls=true->p ls H K->∃rs H',aR cc ab k ls (absH aa H) rs (absH aa H')/\K rs H'
abbrev XG(k:FuncId)(p:FP):Prop:=∀ {ls:List Lf} {H:HL} {K:List Lf->HL->Prop},cG ls->p ls H K->∃rs H',aR cc ab k ls (absH aa H) rs (absH aa H')/\K rs H'
abbrev QG(k:FuncId)(p:FP):Prop:=∀ {ls rs:List Lf},jm ls=true->p ls [] (λrs' _=>rs'=rs)->Cc k ls rs
def uu{k:FuncId}{fn:Fn1}{f:{R HT:Type}->Alg R HT->List Lf->HT->(List Lf->HT->R)->R}(hi:FnIs (xc k) ab k fn)(e:@f=λR HT A ls h K=>ai A (xc k) ab drN fn ls h K):UG k (f (hA P1)):=by
 intro ls H K hls h
 rw[hA_eq,e]at h
 exact fn_ok hi hls h
def xx{k:FuncId}{fn:Fn1}{f:{R HT:Type}->Alg R HT->List Lf->HT->(List Lf->HT->R)->R}(hi:FnIs (xc k) ab k fn)(e:@f=λR HT A ls h K=>ai A (xc k) ab drN fn ls h K):XG k (f (hA P1)):=by
 intro ls H K hls h
 rw[hA_eq,e]at h
 exact fn_okG hi hls h
def qq{k:FuncId}{sg:Sig}{p:FP}(hu:UG k p)(hs:ab k=some sg)(hf:sg.plain=true):QG k p:=λhls h=>by
 obtain⟨_,_,h1,rfl⟩:=hu hls h
 exact ct_of mixed iH hs hf h1
def qxs:=pxs cc ab aa
def qxh:=And.intro (qeq (hA P1)) (pxh P1)
def qxc:=pxc cc ab aa
def qxa:=pxa cc ab aa
def qXX:=And.intro qxs (And.intro qxc qxa)
def x3:XG 3 (f3 (hA P1)):=xx i3 e3
def x4:XG 4 (f4 (hA P1)):=xx i4 e4
def x5:XG 5 (f5 (hA P1)):=xx i5 e5
def x6:XG 6 (f6 (hA P1)):=xx i6 e6
def x7:XG 7 (f7 (hA P1)):=xx i7 e7
def u8:UG 8 (f8 (hA P1)):=uu i8 e8
def x8:XG 8 (f8 (hA P1)):=xx i8 e8
def u10:UG 10 (f10 (hA P1)):=uu i10 e10
def q10:QG 10 (f10 (hA P1)):=qq u10 rfl (by kernel_rfl)
def x11:XG 11 (f11 (hA P1)):=xx i11 e11
def x12:XG 12 (f12 (hA P1)):=xx i12 e12
def x13:XG 13 (f13 (hA P1)):=xx i13 e13
def x14:XG 14 (f14 (hA P1)):=xx i14 e14
def u15:UG 15 (f15 (hA P1)):=uu i15 e15
def q15:QG 15 (f15 (hA P1)):=qq u15 rfl (by kernel_rfl)
def u16:UG 16 (f16 (hA P1)):=uu i16 e16
def x16:XG 16 (f16 (hA P1)):=xx i16 e16
def x17:XG 17 (f17 (hA P1)):=xx i17 e17
def x18:XG 18 (f18 (hA P1)):=xx i18 e18
def x23:XG 23 (f23 (hA P1)):=xx i23 e23
def x24:XG 24 (f24 (hA P1)):=xx i24 e24
def x25:XG 25 (f25 (hA P1)):=xx i25 e25
def u26:UG 26 (f26 (hA P1)):=uu i26 e26
def q26:QG 26 (f26 (hA P1)):=qq u26 rfl (by kernel_rfl)
def u27:UG 27 (f27 (hA P1)):=uu i27 e27
def q27:QG 27 (f27 (hA P1)):=qq u27 rfl (by kernel_rfl)
def x36:XG 36 (f36 (hA P1)):=xx i36 e36
def u37:UG 37 (f37 (hA P1)):=uu i37 e37
def q37:QG 37 (f37 (hA P1)):=qq u37 rfl (by kernel_rfl)
def x38:XG 38 (f38 (hA P1)):=xx i38 e38
def x45:XG 45 (f45 (hA P1)):=xx i45 e45
def u46:UG 46 (f46 (hA P1)):=uu i46 e46
def q46:QG 46 (f46 (hA P1)):=qq u46 rfl (by kernel_rfl)
def u47:UG 47 (f47 (hA P1)):=uu i47 e47
def q47:QG 47 (f47 (hA P1)):=qq u47 rfl (by kernel_rfl)
def x48:XG 48 (f48 (hA P1)):=xx i48 e48
def x58:XG 58 (f58 (hA P1)):=xx i58 e58
def u59:UG 59 (f59 (hA P1)):=uu i59 e59
def q59:QG 59 (f59 (hA P1)):=qq u59 rfl (by kernel_rfl)
def u67:UG 67 (f67 (hA P1)):=uu i67 e67
def q67:QG 67 (f67 (hA P1)):=qq u67 rfl (by kernel_rfl)
def xK{k:FuncId}{p:FP}(hx:XG k p){ls R:List Lf}{H H':HL}(hg:cG ls)(h:p ls H λrs h'=>rs=R/\h'=H'):aR cc ab k ls (absH aa H) R (absH aa H'):=by
 obtain⟨rs,h',h1,rfl,rfl⟩:=hx hg h
 exact h1
end Go.Am
set_option maxRecDepth 100000
namespace Go.Am
namespace Sx
def cut_some{vs:List Value}{off n:Nat}{cs:List Value}:cut vs off n=some cs↔off+n<=vs.length/\(vs.drop off).take n=cs:=by
 unfold cut
 split
 next h=>simp[h]
 next h=>simp[h]
def cut_len{vs:List Value}{off n:Nat}{cs:List Value}(h:cut vs off n=some cs):cs.length=n:=by
 obtain⟨h1,rfl⟩:=cut_some.1 h
 rw[qa3,qb0];omega
def qX{vs:List Value}{off n:Nat}{cs:List Value}(h:cut vs off n=some cs){o k:Nat}(hk:o+k<=n):cut vs (off+o) k=some ((cs.drop o).take k):=by
 obtain⟨h1,rfl⟩:=cut_some.1 h
 refine cut_some.2 ⟨by omega,?_⟩
 rw[List.drop_take,qby,List.take_take,qb7 (by omega)]
def cut_all{vs:List Value}{n:Nat}(h:vs.length=n):cut vs 0 n=some vs:=cut_some.2 ⟨by omega,by rw[qaz,qaP (by omega)]⟩
def Pre(h0 h:HL):Prop:=∃G,h=h0++G
def Pre.refl(h:HL):Pre h h:=⟨[],by simp⟩
def Pre.trans{a b c:HL}(h:Pre a b)(k:Pre b c):Pre a c:=by
 obtain⟨G,rfl⟩:=h
 obtain⟨G',rfl⟩:=k
 exact⟨G++G',by simp⟩
def Pre.app{a b:HL}(h:Pre a b)(G:HL):Pre a (b++G):=h.trans ⟨G,rfl⟩
def Pre.len{a b:HL}(h:Pre a b):a.length<=b.length:=by obtain⟨G,rfl⟩:=h;simp
def Pre.get{a b:HL}(h:Pre a b){i:Nat}{o:HO}(hi:a[i]?=some o):b[i]?=some o:=by
 obtain⟨G,rfl⟩:=h
 have:i<a.length:=by
  rcases qaE i a.length with h|h
  ·exact h
  ·rw[qag h]at hi;cases hi
 rw[qah this];exact hi
def Pre.set{a b:HL}(h:Pre a b){i:Nat}(hi:a.length<=i)(o:HO):Pre a (b.set i o):=by
 obtain⟨G,rfl⟩:=h
 rw[qcr _ _ hi]
 exact⟨_,rfl⟩
def Ptr(h:HL)(p:Value)(cs:List Value):Prop:=∃id o vs e rw,p = .pointer (some ⟨id,o,none⟩)/\h[id]?=some (.o (.cells vs e rw))/\cut vs o cs.length=some cs
def SlC(h:HL)(v:Value)(e n:Nat)(cs:List Value):Prop:=
 cs.length=n*e/\((v = .slice none 0 0/\n=0)∨∃id off cx vs rw,v = .slice (some ⟨id,off,tag e⟩) n cx/\h[id]?=some (.o (.cells vs e rw))/\cut vs off (n*e)=some cs)
def LsH{α:Type}(h:HL)(v:Value)(e:Nat)(enc:α->List Value)(l:List α):Prop:=(∀a∈l,(enc a).length=e)/\SlC h v e l.length (l.flatMap enc)
def Mk(n0:Nat)(h:HL)(v:Value)(e n:Nat)(cs:List Value):Prop:=
 cs.length=n*e/\((v = .slice none 0 0/\n=0)∨∃id,n0<=id/\v = .slice (some ⟨id,0,tag e⟩) n 0/\h[id]?=some (.o (.cells cs e true)))
def MkL{α:Type}(n0:Nat)(h:HL)(v:Value)(e:Nat)(enc:α->List Value)(l:List α):Prop:=(∀a∈l,(enc a).length=e)/\Mk n0 h v e l.length (l.flatMap enc)
def blk:Value->Option Nat
 | .slice (some a) _ _=>some a.block
 |_=>none
def Ptr.keep{h h':HL}{p:Value}{cs:List Value}(hp:Ptr h p cs)(hk:∀(j:Nat) o,h[j]?=some o->h'[j]?=some o):Ptr h' p cs:=by
 obtain⟨id,o,vs,e,rw',h1,h2,h3⟩:=hp
 exact⟨id,o,vs,e,rw',h1,hk _ _ h2,h3⟩
def SlC.keep{h h':HL}{v:Value}{e n:Nat}{cs:List Value}(hs:SlC h v e n cs)(hk:∀(j:Nat) o,h[j]?=some o->blk v=some j->h'[j]?=some o):SlC h' v e n cs:=by
 obtain⟨h0,h1|⟨id,off,cx,vs,rw',rfl,h2,h3⟩⟩:=hs
 ·exact⟨h0,.inl h1⟩
 ·exact⟨h0,.inr ⟨id,off,cx,vs,rw',rfl,hk _ _ h2 rfl,h3⟩⟩
def SlC.pre{h h':HL}{v:Value}{e n:Nat}{cs:List Value}(hs:SlC h v e n cs)(hp:Pre h h'):SlC h' v e n cs:=hs.keep λ_ _ h _=>hp.get h
def LsH.keep{α:Type}{h h':HL}{v:Value}{e:Nat}{enc:α->List Value}{l:List α}(hs:LsH h v e enc l)(hk:∀(j:Nat) o,h[j]?=some o->blk v=some j->h'[j]?=some o):LsH h' v e enc l:=⟨hs.1,hs.2.keep hk⟩
def LsH.pre{α:Type}{h h':HL}{v:Value}{e:Nat}{enc:α->List Value}{l:List α}(hs:LsH h v e enc l)(hp:Pre h h'):LsH h' v e enc l:=⟨hs.1,hs.2.pre hp⟩
def SlC.len{h:HL}{v:Value}{e n:Nat}{cs:List Value}(hs:SlC h v e n cs):lenS v=some (.ofNat n):=by
 obtain⟨_,⟨rfl,rfl⟩|⟨id,off,cx,vs,rw',rfl,_⟩⟩:=hs<;>rfl
def LsH.len{α:Type}{h:HL}{v:Value}{e:Nat}{enc:α->List Value}{l:List α}(hs:LsH h v e enc l):lenS v=some (.ofNat l.length):=hs.2.len
def Mk.sl{n0:Nat}{h:HL}{v:Value}{e n:Nat}{cs:List Value}(hs:Mk n0 h v e n cs):SlC h v e n cs:=by
 obtain⟨h0,h1|⟨id,_,rfl,h2⟩⟩:=hs
 ·exact⟨h0,.inl h1⟩
 ·exact⟨h0,.inr ⟨id,0,0,cs,true,rfl,h2,cut_all h0⟩⟩
def MkL.ls{α:Type}{n0:Nat}{h:HL}{v:Value}{e:Nat}{enc:α->List Value}{l:List α}(hs:MkL n0 h v e enc l):LsH h v e enc l:=⟨hs.1,hs.2.sl⟩
def Mk.nil(n0:Nat)(h:HL)(e:Nat):Mk n0 h (.slice none 0 0) e 0 []:=⟨by simp,.inl ⟨rfl,rfl⟩⟩
def MkL.nil{α:Type}(n0:Nat)(h:HL)(e:Nat)(enc:α->List Value):MkL n0 h (.slice none 0 0) e enc []:=⟨by simp,Mk.nil n0 h e⟩
def LsH.nil{α:Type}(h:HL)(e:Nat)(enc:α->List Value):LsH h (.slice none 0 0) e enc []:=(MkL.nil 0 h e enc).ls
def Mk.keep{n0:Nat}{h h':HL}{v:Value}{e n:Nat}{cs:List Value}(hs:Mk n0 h v e n cs)(hk:∀(j:Nat) o,h[j]?=some o->blk v=some j->h'[j]?=some o):Mk n0 h' v e n cs:=by
 obtain⟨h0,h1|⟨id,h1,rfl,h2⟩⟩:=hs
 ·exact⟨h0,.inl h1⟩
 ·exact⟨h0,.inr ⟨id,h1,rfl,hk _ _ h2 rfl⟩⟩
def Mk.pre{n0:Nat}{h h':HL}{v:Value}{e n:Nat}{cs:List Value}(hs:Mk n0 h v e n cs)(hp:Pre h h'):Mk n0 h' v e n cs:=hs.keep λ_ _ h _=>hp.get h
def MkL.keep{α:Type}{n0:Nat}{h h':HL}{v:Value}{e:Nat}{enc:α->List Value}{l:List α}(hs:MkL n0 h v e enc l)(hk:∀(j:Nat) o,h[j]?=some o->blk v=some j->h'[j]?=some o):MkL n0 h' v e enc l:=⟨hs.1,hs.2.keep hk⟩
def MkL.pre{α:Type}{n0:Nat}{h h':HL}{v:Value}{e:Nat}{enc:α->List Value}{l:List α}(hs:MkL n0 h v e enc l)(hp:Pre h h'):MkL n0 h' v e enc l:=⟨hs.1,hs.2.pre hp⟩
def bR{α:Type}{e:Nat}{enc:α->List Value}:∀ {l:List α},(∀a∈l,(enc a).length=e)->(l.flatMap enc).length=l.length*e
 | [],_=>by simp
 |a :: l,h=>by
  rw[qbp,qaI,h a qaJ,bR λb hb=>h b (qal _ hb),qbg,qbl,qbM,Nat.add_comm]
def mB{α:Type}{e:Nat}{enc:α->List Value}:∀ {l:List α},(∀a∈l,(enc a).length=e)->∀ {i:Nat} {a:α},l[i]?=some a->((l.flatMap enc).drop (i*e)).take e=enc a
 |b :: l,h,0,a,hi=>by
  simp only[qa1,qar]at hi
  subst hi
  have:=h b qaJ
  rw[qcg,qaz,qbp,qct (by omega),qaP (by omega)]
 |b :: l,h,i+1,a,hi=>by
  simp only[qbX]at hi
  have hb:=h b qaJ
  have:=mB (λb hb=>h b (qal _ hb)) hi
  rw[qbp,qbl,qbM,←this]
  have e1:i*e+e=(enc b).length+i*e:=by omega
  rw[e1,qcs,qb1 (by omega),qbD,qck]
 | [],_,_,_,hi=>by simp at hi
def SlC.at{h:HL}{v:Value}{e n:Nat}{cs:List Value}(hs:SlC h v e n cs){i:Nat}(hi:i<n):∃p,idS e v (.ofNat i)=some p/\Ptr h p ((cs.drop (i*e)).take e):=by
 obtain⟨h0,⟨rfl,rfl⟩|⟨id,off,cx,vs,rw',rfl,h2,h3⟩⟩:=hs
 ·omega
 ·have hle:i*e+e<=n*e:=by
   have:=qa8 e (show i+1<=n by omega)
   rw[qbl,qbM]at this;exact this
  refine⟨.pointer (some ⟨id,off+i*e,none⟩),?_,id,off+i*e,vs,e,rw',rfl,h2,?_⟩
  ·rw[so]
   have hh:0<=Int.ofNat i/\Int.ofNat i<(n:Int):=⟨qbs i,by show(i:Int)<n;omega⟩
   simp only[if_pos hh]
   have:¬(tag e=some 1):=by simp[tag]
   simp only[if_neg this]
   rfl
  ·have hc:=qX h3 hle
   have hl:=cut_len hc
   rw[hl];exact hc
def LsH.at{α:Type}{h:HL}{v:Value}{e:Nat}{enc:α->List Value}{l:List α}(hs:LsH h v e enc l){i:Nat}{a:α}(hi:l[i]?=some a):∃p,idS e v (.ofNat i)=some p/\Ptr h p (enc a):=by
 have hlt:i<l.length:=by
  rcases qaE i l.length with h|h
  ·exact h
  ·rw[qag h]at hi;cases hi
 obtain⟨p,h1,h2⟩:=hs.2.at hlt
 rw[mB hs.1 hi]at h2
 exact⟨p,h1,h2⟩
def Ptr.fd{h:HL}{p:Value}{cs:List Value}(hp:Ptr h p cs)(o k:Nat)(hk:o+k<=cs.length):∃p',fdP o p=some p'/\Ptr h p' ((cs.drop o).take k):=by
 obtain⟨id,o',vs,e,rw',rfl,h2,h3⟩:=hp
 refine⟨_,rfl,id,o'+o,vs,e,rw',rfl,h2,?_⟩
 have hc:=qX h3 hk
 rw[cut_len hc];exact hc
section
variable [Val] [Kno]
def cy{T:Nat->Site}{h:HL}{i:Nat}{o:HObj}(hi:h[i]?=some (.o o)):getH T h i=some o:=by
 unfold getH;rw[hi];rfl
def Ptr.ld{T:Nat->Site}{h:HL}{p:Value}{cs:List Value}(hp:Ptr h p cs){n:Nat}(hn:cs.length=n):(Pk.ld n p).run (getH T h)=some cs:=by
 obtain⟨id,o,vs,e,rw',rfl,h2,h3⟩:=hp
 subst hn
 show(match (none:Option Nat)with|none=>(fj (getH T h) id).bind λvs=>cut vs o cs.length|some _=>none)=_
 unfold fj
 rw[cy h2]
 exact h3
def Ptr.lg{C:Cfg}{T:Nat->Site}{h:HL}{p:Value}{cs:List Value}(hp:Ptr h p cs){n:Nat}(hn:cs.length=n):(Pk.lg C n p).run (getH T h)=some cs:=by
 obtain⟨id,o,vs,e,rw',rfl,h2,h3⟩:=hp
 subst hn
 show(fj (getH T h) id).bind (λvs=>cut vs o cs.length)=_
 unfold fj
 rw[cy h2]
 exact h3
def slG_sl{C:Cfg}{T:Nat->Site}{h:HL}{v:Value}{e n:Nat}{cs:List Value}(hs:SlC h v e n cs):slG C e (getH T h) v=some (cs,n):=by
 obtain⟨h0,⟨rfl,rfl⟩|⟨id,off,cx,vs,rw',rfl,h2,h3⟩⟩:=hs
 ·simp only[qcg,qa9]at h0
  subst h0;rfl
 ·unfold slG
  have:¬(tag e=some 1):=by simp[tag]
  simp only[if_neg this,if_true]
  rw[cy h2]
  simp only[if_true]
  rw[h3];rfl
variable {C:Cfg} {Sg:FuncId->Option Sig} {T:Nat->Site}
end
end Sx
namespace Sx
def Ptr.good{h:HL}{p:Value}{cs:List Value}(hp:Ptr h p cs):aV p=true:=by
 obtain⟨id,o,vs,e,rw',rfl,_⟩:=hp
 simp[aV,noLoc,aW,bW,bt,aU,aB]
def SlC.good{h:HL}{v:Value}{e n:Nat}{cs:List Value}(hs:SlC h v e n cs):aV v=true:=by
 obtain⟨_,⟨rfl,_⟩|⟨id,off,cx,vs,rw',rfl,_⟩⟩:=hs
 ·rfl
 ·simp[aV,noLoc,aW,bW,bt,aU,aB,tag]
def LsH.good{α:Type}{h:HL}{v:Value}{e:Nat}{enc:α->List Value}{l:List α}(hs:LsH h v e enc l):aV v=true:=hs.2.good
section
variable [Val] [Kno] {C:Cfg} {Sg:FuncId->Option Sig} {T:Nat->Site}
def hidL{F:(List Lf->HL->Prop)->List Lf->HL->Prop}{s:List Lf->HL->Prop}{l:List Lf}{h:HL}(hf:F s l h):@hid _ ⟨F⟩ s l h:=hf
def em{σ:Type}{F:(List Lf->HL->Prop)->List Lf->HL->Prop}(n:Nat)(S:Nat->σ->List Lf)(HP:Nat->σ->HL)(Inv:Nat->σ->Prop){j0:Nat}{s0:σ}{ls:List Lf}{h:HL}(hls:ls=S j0 s0)(hh:h=HP j0 s0)(hj:j0<=n)(hi:Inv j0 s0)
  (step:∀j s,j<=n->Inv j s->∀self:List Lf->HL->Prop,(∀s',j<n->Inv (j+1) s'->self (S (j+1) s') (HP (j+1) s'))->F self (S j s) (HP j s)):(PH C Sg T).loop (@hid _ ⟨F⟩) ls h:=by
 subst hls hh
 refine iL (m:=n - j0) (λm ls h=>∃j s,ls=S j s/\h=HP j s/\j<=n/\m=n - j/\Inv j s) ⟨j0,s0,rfl,rfl,hj,rfl,hi⟩ ?_
 rintro m ls h ⟨j,s,rfl,rfl,hj,rfl,hi⟩ self hself
 exact hidL (step j s hj hi self λs' hlt hi'=>hself (n - (j+1)) _ _ (by omega) ⟨j+1,s',rfl,rfl,by omega,rfl,hi'⟩)
def ou{F:(List Lf->HL->Prop)->List Lf->HL->Prop}(n:Nat)(Inv:Nat->Prop){j0:Nat}{h:HL}{ls:List Lf}(hls:ls=[.i (Int.ofNat j0)])(hj:j0<=n)(hi:Inv j0)
  (step:∀j,j<=n->Inv j->∀self:List Lf->HL->Prop,(j<n->Inv (j+1)->self [.i (Int.ofNat j+1)] h)->F self [.i (Int.ofNat j)] h):(PH C Sg T).loop (@hid _ ⟨F⟩) ls h:=
 em (σ:=Unit) n (λj _=>[.i (Int.ofNat j)]) (λ_ _=>h) (λj _=>Inv j) (s0:=()) hls rfl hj hi λj _ hj hi self hs=>step j hj hi self (λa b=>hs () a b)
def hZ{α:Type}{h:HL}{v:Value}{e:Nat}{enc:α->List Value}{l:List α}{K:Int->Prop}(hs:LsH h v e enc l)(hk:K (Int.ofNat l.length)):(PH C Sg T).opt (lenS v) (@hid _ ⟨K⟩):=ay hs.len hk
def hU{α:Type}{h:HL}{v:Value}{e:Nat}{enc:α->List Value}{l:List α}{i:Nat}{a:α}{n:Int}{K:List Value->Prop}(hs:LsH h v e enc l)(hn:n=Int.ofNat i)(hi:l[i]?=some a)(hk:K (enc a)) :
  (PH C Sg T).opt (idS e v n) (@hid _ ⟨λx=>(PH C Sg T).peek (.lg C e x) h (@hid _ ⟨K⟩)⟩):=by
 subst hn
 obtain⟨p,h1,h2⟩:=hs.at hi
 exact ay h1 (dt (h2.lg (hs.1 a (qaf hi))) hk)
def tW{α:Type}{h:HL}{v:Value}{e:Nat}{enc:α->List Value}{l:List α}{i:Nat}{a:α}{n:Int}{o k:Nat}{cs:List Value}{K:List Value->Prop}(hs:LsH h v e enc l)(hn:n=Int.ofNat i)(hi:l[i]?=some a)(hcs:cs=((enc a).drop o).take k)(hok:o+k<=e)(hk:K cs) :
  (PH C Sg T).opt (idS e v n) (@hid _ ⟨λx=>(PH C Sg T).opt (fdP o x) (@hid _ ⟨λy=>(PH C Sg T).chk y (@hid _ ⟨(PH C Sg T).peek (.lg C k y) h (@hid _ ⟨K⟩)⟩)⟩)⟩):=by
 subst hn hcs
 obtain⟨p,h1,h2⟩:=hs.at hi
 have he:=hs.1 a (qaf hi)
 have hok:o+k<=(enc a).length:=by omega
 have hlen:(((enc a).drop o).take k).length=k:=by rw[qa3,qb0];omega
 obtain⟨q,h3,h4⟩:=h2.fd o k hok
 refine ay h1 (ay h3 ?_)
 show aV q=true/\_
 exact⟨h4.good,dt (h4.lg hlen) hk⟩
end
end Sx
namespace Sx
section
variable [Val] [Kno] {C:Cfg} {Sg:FuncId->Option Sig} {T:Nat->Site}
def eO{j:Nat}{K:Int->Prop}(h:j<=4294967296):(PH C Sg T).ari .add .i64 (Int.ofNat j) 1 (@hid _ ⟨K⟩)=K (Int.ofNat j+1):=
 p_add (by show -9223372036854775808<=(j:Int)+1;omega) (by show(j:Int)+1<=9223372036854775807;omega)
def tU{j:Nat}{K:Int->Prop}(h1:1<=j)(h:j<=4294967296):(PH C Sg T).ari .sub .i64 (Int.ofNat j) 1 (@hid _ ⟨K⟩)=K (Int.ofNat (j - 1)):=by
 rw[p_sub (by show -9223372036854775808<=(j:Int) - 1;omega) (by show(j:Int) - 1<=9223372036854775807;omega)]
 congr 1
 show(j:Int) - 1=((j - 1:Nat):Int)
 omega
def eo{j n:Nat}{K:Bool->Prop}(h:j<n):(PH C Sg T).cmp .lss (Int.ofNat j) (Int.ofNat n) (@hid _ ⟨K⟩)=K true:=p_lss_t (by show(j:Int)<n;omega)
def en{j n:Nat}{K:Bool->Prop}(h:n<=j):(PH C Sg T).cmp .lss (Int.ofNat j) (Int.ofNat n) (@hid _ ⟨K⟩)=K false:=p_lss_f (by show(n:Int)<=j;omega)
end
def bV{α:Type}{l:List α}{i:Nat}{a:α}(h:l[i]?=some a):i<l.length:=by
 rcases qaE i l.length with h1|h1
 ·exact h1
 ·rw[qag h1]at h;cases h
def dj{α:Type}{l:List α}{i:Nat}(h:i<l.length):∃a,l[i]?=some a:=⟨_,qas h⟩
end Sx
namespace Sx
section
variable [Val] [Kno]
variable {C:Cfg} {Sg:FuncId->Option Sig} {T:Nat->Site} {α:Type}
def putE(h:HL)(id e:Nat)(enc:α->List Value)(l:List α):HL:=h.set id (.o (.cells (l.flatMap enc) e true))
def oF{h:HL}{id e:Nat}{enc:α->List Value}{l:List α}(hlt:id<h.length):(putE h id e enc l)[id]?=some (.o (.cells (l.flatMap enc) e true)):=by
 unfold putE
 rw[qaO hlt]
def putE_put{h:HL}{id e:Nat}{enc:α->List Value}{l l':List α}:(putE h id e enc l).set id (.o (.cells (l'.flatMap enc) e true))=putE h id e enc l':=by
 unfold putE
 rw[List.set_set]
def putE_ls{h:HL}{id e cx:Nat}{enc:α->List Value}(henc:∀a,(enc a).length=e){l:List α}(hlt:id<h.length):LsH (putE h id e enc l) (.slice (some ⟨id,0,tag e⟩) l.length cx) e enc l:=by
 have hl:=bR (e:=e) (enc:=enc) (l:=l) λa _=>henc a
 exact⟨λa _=>henc a,hl,.inr ⟨id,0,cx,_,true,rfl,oF hlt,cut_all hl⟩⟩
def kL{e:Nat}{enc:α->List Value}(henc:∀a,(enc a).length=e):∀ {l:List α} {i:Nat} (a:α),i<l.length->(l.flatMap enc).take (i*e)++enc a++(l.flatMap enc).drop (i*e+e)=(l.set i a).flatMap enc
 | [],_,_,h=>by simp at h
 |b :: l,0,a,_=>by
  have hb:=henc b
  simp only[qcg,qaL,qbD,qaG,List.set_cons_zero,qbp]
  rw[qcs,qb1 (by omega),qbD,show e - (enc b).length=0 by omega,qaz]
 |b :: l,i+1,a,h=>by
  have hb:=henc b
  have ih:=kL henc (l:=l) (i:=i) a (by simpa using h)
  simp only[List.set_cons_succ,qbp]
  rw[←ih,qbl,qbM,List.take_append,qcs]
  rw[qaP (by omega),qb1 (by omega),qbD]
  rw[show i*e+e - (enc b).length=i*e by omega,show i*e+e+e - (enc b).length=i*e+e by omega]
  simp[qaH]
def r_set{h:HL}{id e cx len:Nat}{enc:α->List Value}(henc:∀a,(enc a).length=e){l:List α}{i:Nat}{a:α}{n:Int}{new:List Value}{K:List Value->HL->Prop}(hlt:id<h.length)(hn:n=Int.ofNat i)(hi:i<l.length)(hlen:l.length=len)(hnew:new=enc a)
  (hk:K [] (putE h id e enc (l.set i a))):(PH C Sg T).opt (idS e (.slice (some ⟨id,0,tag e⟩) len cx) n) (@hid _ ⟨λx=>(PH C Sg T).heap (.st x new) (putE h id e enc l) (@hid _ ⟨K⟩)⟩):=by
 subst hn hlen hnew
 have hx:idS e (.slice (some ⟨id,0,tag e⟩) l.length cx) (Int.ofNat i)=some (.pointer (some ⟨id,i*e,none⟩)):=by
  rw[so]
  have hh:0<=Int.ofNat i/\Int.ofNat i<(l.length:Int):=⟨qbs i,by show(i:Int)<l.length;omega⟩
  simp only[if_pos hh]
  have:¬(tag e=some 1):=by simp[tag]
  simp only[if_neg this,qaG]
  rfl
 refine ay hx ?_
 have hl:=bR (e:=e) (enc:=enc) (l:=l) λa _=>henc a
 have hle:i*e+e<=l.length*e:=by
  have:=qa8 e (show i+1<=l.length by omega)
  rw[qbl,qbM]at this;exact this
 have hrun:(Hp.st (.pointer (some ⟨id,i*e,none⟩)) (enc a)).run (getH T (putE h id e enc l)) (putE h id e enc l).length=some ([.set id (.cells ((l.set i a).flatMap enc) e true)],[]):=by
  show stP (.pointer (some ⟨id,i*e,none⟩)) (enc a) (getH T (putE h id e enc l)) (putE h id e enc l).length=_
  unfold stP
  simp only
  rw[cy (oF hlt)]
  simp only
  unfold splice
  rw[henc a,hl,if_pos hle,kL henc a hi]
  rfl
 refine cf hrun ?_
 show K [] (bZ _ _)
 have:bZ (putE h id e enc l) [.set id (.cells ((l.set i a).flatMap enc) e true)]=putE h id e enc (l.set i a):=putE_put
 rw[this]
 exact hk
end
end Sx
namespace Sx
section
variable [Val] [Kno]
variable {C:Cfg} {Sg:FuncId->Option Sig} {T:Nat->Site} {α:Type}
def newE(h:HL)(e:Nat)(enc:α->List Value)(l:List α):HL:=h++[.o (.cells (l.flatMap enc) e true)]
def newE_put{h:HL}{e:Nat}{enc:α->List Value}{l:List α}:putE (h++[.o .dead]) h.length e enc l=newE h e enc l:=by
 unfold putE newE
 rw[qcr _ _ (qai _),qbx];rfl
def newE_ls{h:HL}{e cx:Nat}{enc:α->List Value}(henc:∀a,(enc a).length=e){l:List α}{n:Nat}(hn:n=l.length):LsH (newE h e enc l) (.slice (some ⟨h.length,0,tag e⟩) n cx) e enc l:=by
 subst hn
 rw[←newE_put]
 exact putE_ls henc (by simp)
end
end Sx
namespace Sx
section
variable [Val] [Kno]
variable {C:Cfg} {Sg:FuncId->Option Sig} {T:Nat->Site} {α:Type}
def lE{l:List α}{i:Nat}{a:α}(h:l[i]?=some a):l.set i a=l:=by
 apply qaR
 intro k
 by_cases hk:i=k
 ·subst hk
  rw[qaO (bV h),h]
 ·rw[qaB hk]
end
end Sx
namespace Sx
section
variable [Val] [Kno] {C:Cfg} {T:Nat->Site}
abbrev Ku:=Int×Int
def kvU(k:Ku):Value:=.agg ⟨[.int .i64 k.1,.int .u8 k.2]⟩
def EntS(es:List MapEntry)(ks:List Ku):Prop:=es.map (·.key)=ks.map kvU/\∀e∈es,e.val = .bool true
def eqZ_dec(a b:Int):eqZ a b=decide (a=b):=by
 have hb:∀m n:Nat,Nat.beq m n=decide (m=n):=λm n=>by
  by_cases h:m=n
  ·subst h;simp
  ·rw[decide_eq_false h]
   cases hq:Nat.beq m n with
   |true=>exact absurd (qab hq) h
   |false=>rfl
 cases a<;>cases b<;>simp[eqZ,hb]
 omega
variable {kt:TypeId}
def EntS.push{es:List MapEntry}{ks:List Ku}(he:EntS es ks)(k:Ku)(c:Nat):EntS (es++[{ key:=kvU k,val:=.bool true,born:=c }]) (ks++[k]):=by
 refine⟨by simp[he.1],λe hm=>?_⟩
 rcases qaA.1 hm with hm|hm
 ·exact he.2 e hm
 ·simp only[qao]at hm
  subst hm;rfl
end
end Sx
namespace Sx
section
variable [Val] [Kno] {C:Cfg} {T:Nat->Site}
abbrev K3:=Int×Int×Nat
def cc3(k:K3):List Value:=[.int .i64 k.1,.int .i64 k.2.1,.int .u8 (Int.ofNat k.2.2)]
def kv3(k:K3):Value:=.agg ⟨cc3 k⟩
abbrev kk3:List LK:=[.i .i64,.i .i64,.i .u8]
def difK_3(a b:K3):difK kk3 (cc3 a) (cc3 b)=some (decide (a=b)):=by
 have e1:di .i64 .i64=true:=rfl
 have e2:di .u8 .u8=true:=rfl
 obtain⟨a1,a2,a3⟩:=a
 obtain⟨b1,b2,b3⟩:=b
 simp only[cc3,difK,e1,e2,eqZ_dec,qcl]
 have e3:decide (Int.ofNat a3=Int.ofNat b3)=decide (a3=b3):=decide_eq_decide.2 ⟨λh=>qc6 h,λh=>by rw[h]⟩
 rw[e3]
 by_cases h1:a1=b1<;>by_cases h2:a2=b2<;>by_cases h3:a3=b3<;>simp[h1,h2,h3]
def tJ(k:K3):∀ {es:List MapEntry} {ks:List K3} (i:Nat),es.map (·.key)=ks.map kv3->lZ kk3 (cc3 k) es i=some ((ks.idxOf? k).map (i + ·))
 | [],[],i,_=>rfl
 | [],_ :: _,i,h=>by simp at h
 |_ :: _,[],i,h=>by simp at h
 |e :: es,q :: ks,i,h=>by
  simp only[qat,qa5]at h
  have ih:=tJ k (i+1) h.2
  have hq:lZ kk3 (cc3 k) (e :: es) i=if k=q then some (some i)else lZ kk3 (cc3 k) es (i+1):=by
   simp only[lZ,h.1,kv3]
   rw[difK_3]
   by_cases hk:k=q<;>simp[hk]
  rw[hq,List.idxOf?_cons]
  by_cases hk:k=q
  ·subst hk
   simp
  ·rw[if_neg hk,ih,if_neg (by simp;exact λe=>hk e.symm),Option.map_map]
   congr 2
   funext j
   simp only[Function.comp];omega
variable {kt:TypeId} (h1:aggT C.P kt=some true) (h2:gV C.P 10000 kt=some kk3)
include h1 h2
theorem qb(k:K3):keyF C.P kt (kv3 k)=true:=by
 have e1:di .i64 .i64=true:=rfl
 have e2:di .u8 .u8=true:=rfl
 unfold keyF kv3 cc3
 simp only[h1,h2,gT,e1,e2,eqZ_dec]
 simp
theorem kH(k:K3){es:List MapEntry}{r:Option Nat}(hr:lZ kk3 (cc3 k) es 0=some r):pO C.P kt (kv3 k) es=some r:=by
 unfold pO kv3
 simp only[h1,h2,oa,hr]
omit h1 h2 in
omit h1 h2 in
omit h1 h2 in
omit h1 h2 in
theorem gZ{h:HL}{id c:Nat}{es:List MapEntry}(hm:h[id]?=some (.o (.map es c))):mapG (getH T h) id=some (es,c):=by
 unfold mapG
 rw[cy hm]
end
section
variable [Val] [Kno] {T:Nat->Site}
end
end Sx
namespace Sx
section
variable [Val] [Kno] {C:Cfg} {Sg:FuncId->Option Sig} {T:Nat->Site}
def kV{α β:Type}(f:α->β):∀(l:List α) (j:Nat),(l.eraseIdx j).map f=(l.map f).eraseIdx j
 | [],_=>rfl
 |_ :: _,0=>rfl
 |a :: l,j+1=>by simp only[List.eraseIdx_cons_succ,qat,kV f l j]
def Set3(h:HL)(id:Nat)(ks:List K3):Prop:=∃es c,h[id]?=some (.o (.map es c))/\es.map (·.key)=ks.map kv3/\∀e∈es,e.val = .bool true
def Set3.keep{h h':HL}{id:Nat}{ks:List K3}(hs:Set3 h id ks)(hk:∀o,h[id]?=some o->h'[id]?=some o):Set3 h' id ks:=by
 obtain⟨es,c,h1,h2⟩:=hs
 exact⟨es,c,hk _ h1,h2⟩
def Set3.lt{h:HL}{id:Nat}{ks:List K3}(hs:Set3 h id ks):id<h.length:=by
 obtain⟨es,c,h1,_⟩:=hs
 exact bV h1
variable {kt:TypeId} (h1:aggT C.P kt=some true) (h2:gV C.P 10000 kt=some kk3)
include h1 h2
theorem r_lu3{h:HL}{id:Nat}{ks:List K3}{K:List Value->Prop}(hs:Set3 h id ks)(k:K3)(hk:K [.bool (decide (k∈ks))]) :
  (PH C Sg T).peek (.fn (luG C kt false (.bool false) (.map (some id)) (kv3 k) false)) h (@hid _ ⟨K⟩):=by
 obtain⟨es,c,a1,a2,a3⟩:=hs
 refine dt (cs:=[.bool (decide (k∈ks))]) ?_ hk
 show luG C kt false (.bool false) (.map (some id)) (kv3 k) false (getH T h)=_
 unfold luG
 rw[qb h1 h2]
 simp only[qa7,qan,if_false]
 rw[gZ a1]
 simp only
 rw[kH h1 h2 k (tJ k 0 a2)]
 cases hi:ks.idxOf? k with
 |none=>
  rw[decide_eq_false (qci.1 hi)]
  simp[fi]
 |some j=>
  obtain⟨hj,hjk,_⟩:=qcR.1 hi
  have hlen:es.length=ks.length:=by
   have:=congrArg List.length a2
   simpa using this
  have he:es[j]?=some (es[j]'(by omega)):=qas _
  have hv:=a3 _ (qbZ (show j<es.length by omega))
  rw[decide_eq_true (hjk▸qbZ hj)]
  simp only[qau,qaG]
  have hv2:eK es j=some (.bool true):=by
   unfold eK
   rw[he]
   simp[hv]
  rw[hv2]
  simp[fi]
theorem r_mu3{h:HL}{id:Nat}{ks:List K3}{K:List Value->HL->Prop}(hs:Set3 h id ks)(k:K3)(hk:∀o,Set3 (h.set id o) id (if k∈ks then ks else ks++[k])->K [] (h.set id o)) :
  (PH C Sg T).heap (.fn (muG C kt (.map (some id)) (kv3 k) (.bool true))) h (@hid _ ⟨K⟩):=by
 have hlt:=hs.lt
 obtain⟨es,c,a1,a2,a3⟩:=hs
 cases hi:ks.idxOf? k with
 |none=>
  have hn:k∉ks:=qci.1 hi
  have hrun:(Hp.fn (muG C kt (.map (some id)) (kv3 k) (.bool true))).run (getH T h) h.length=some ([.set id (.map (es++[{ key:=kv3 k,val:=.bool true,born:=c }]) (c+1))],[]):=by
   show muG C kt (.map (some id)) (kv3 k) (.bool true) (getH T h) h.length=_
   unfold muG
   simp only
   rw[qb h1 h2]
   simp only[qa7,qan,if_false]
   rw[gZ a1]
   simp only
   rw[kH h1 h2 k (tJ k 0 a2),hi]
   rfl
  refine cf hrun (hk _ ?_)
  rw[if_neg hn]
  refine⟨_,_,qaO hlt,by simp[a2],λe hm=>?_⟩
  rcases qaA.1 hm with hm|hm
  ·exact a3 e hm
  ·simp only[qao]at hm
   subst hm;rfl
 |some j=>
  obtain⟨hj,hjk,_⟩:=qcR.1 hi
  have hm:k∈ks:=hjk▸qbZ hj
  have hlen:es.length=ks.length:=by
   have:=congrArg List.length a2
   simpa using this
  have he:es[j]?=some (es[j]'(by omega)):=qas _
  have hkey:(es[j]'(by omega)).key=kv3 k:=by
   have e1:(es.map (·.key))[j]?=(ks.map kv3)[j]?:=by rw[a2]
   rw[qaw,qaw,he,qas hj,hjk]at e1
   simpa using e1
  have hsb:Instr.sameBits 10000 (kv3 k) (kv3 k)=true:=by simp[kv3,cc3,Instr.sameBits]
  have hrun:(Hp.fn (muG C kt (.map (some id)) (kv3 k) (.bool true))).run (getH T h) h.length=some ([.set id (.map (es.modify j λe=>{ e with key:=kv3 k,val:=.bool true }) c)],[]):=by
   show muG C kt (.map (some id)) (kv3 k) (.bool true) (getH T h) h.length=_
   unfold muG
   simp only
   rw[qb h1 h2]
   simp only[qa7,qan,if_false]
   rw[gZ a1]
   simp only
   rw[kH h1 h2 k (tJ k 0 a2),hi]
   simp only[qau,qaG]
   rw[he]
   simp only[Option.all_some,hkey,hsb,if_true]
  refine cf hrun (hk _ ?_)
  rw[if_pos hm]
  refine⟨_,_,qaO hlt,?_,λe hme=>?_⟩
  ·rw[←a2]
   apply qaR
   intro i
   rw[qaw,qaw,qcx]
   by_cases hij:j=i
   ·subst hij
    rw[he]
    simp[hkey]
   ·simp[hij]
  ·obtain⟨i,hi'⟩:=qaZ hme
   rw[qcx]at hi'
   by_cases hij:j=i
   ·subst hij
    rw[he]at hi'
    simp at hi'
    rw[←hi']
   ·simp[hij]at hi'
    exact a3 e (qaf hi')
theorem r_de3{h:HL}{id:Nat}{ks:List K3}{K:List Value->HL->Prop}(hs:Set3 h id ks)(k:K3)(hk:∀h',(h'=h∨∃o,h'=h.set id o)->Set3 h' id (ks.erase k)->K [] h') :
  (PH C Sg T).heap (.fn (deG C kt (.map (some id)) (kv3 k))) h (@hid _ ⟨K⟩):=by
 have hlt:=hs.lt
 have hs':=hs
 obtain⟨es,c,a1,a2,a3⟩:=hs
 cases hi:ks.idxOf? k with
 |none=>
  have hn:k∉ks:=qci.1 hi
  have hrun:(Hp.fn (deG C kt (.map (some id)) (kv3 k))).run (getH T h) h.length=some ([],[]):=by
   show deG C kt (.map (some id)) (kv3 k) (getH T h) h.length=_
   unfold deG
   rw[qb h1 h2]
   simp only[qa7,qan,if_false]
   rw[gZ a1]
   simp only
   rw[kH h1 h2 k (tJ k 0 a2),hi]
   rfl
  refine cf hrun (hk _ (.inl rfl) ?_)
  rw[List.erase_of_not_mem hn]
  exact hs'
 |some j=>
  have hrun:(Hp.fn (deG C kt (.map (some id)) (kv3 k))).run (getH T h) h.length=some ([.set id (.map (es.eraseIdx j) c)],[]):=by
   show deG C kt (.map (some id)) (kv3 k) (getH T h) h.length=_
   unfold deG
   rw[qb h1 h2]
   simp only[qa7,qan,if_false]
   rw[gZ a1]
   simp only
   rw[kH h1 h2 k (tJ k 0 a2),hi]
   simp only[qau,qaG]
  refine cf hrun (hk _ (.inr ⟨_,rfl⟩) ⟨_,_,qaO hlt,?_,λe he=>a3 e (List.mem_of_mem_eraseIdx he)⟩)
  have e1:ks.erase k=ks.eraseIdx j:=by
   rw[List.erase_eq_eraseIdx,hi]
  rw[e1,kV,a2,kV]
omit h1 h2 in
theorem r_len3{h:HL}{id:Nat}{ks:List K3}{K:List Value->Prop}(hs:Set3 h id ks)(hk:K [.int .i64 (Int.ofNat ks.length)]):(PH C Sg T).peek (.fn (lenM (.map (some id)))) h (@hid _ ⟨K⟩):=by
 obtain⟨es,c,a1,a2,a3⟩:=hs
 have hlen:es.length=ks.length:=by
  have:=congrArg List.length a2
  simpa using this
 refine dt (cs:=[.int .i64 (Int.ofNat ks.length)]) ?_ hk
 show lenM (.map (some id)) (getH T h)=_
 unfold lenM
 simp only
 rw[cy a1]
 simp only
 rw[hlen]
 rfl
end
end Sx
end Go.Am
set_option maxRecDepth 100000
set_option maxHeartbeats 4000000
namespace Go.Am
open Sx Go.Proofs
def gO{g:FuncId}{sg:Sig}{cap:List Value}{ls rs:List Lf}{H H':List HObj}{args:List Value}(hc:aR cc ab g ls H rs H')(hs:ab g=some sg)(xs:List S0)(h1:bA xs sg.ps=true)(h2:bC xs=ls)(h3:ae xs=args++cap) :
  qO cc (.func (.func g) ⟨[]⟩ ⟨cap⟩) args sg.rs H rs H':=by
 obtain⟨sg',xs',ys,c1,c2,c3,c4⟩:=hc
 rw[hs]at c1
 cases c1
 obtain⟨w1,_⟩:=bq c2.1 h1 (c2.2.1.trans h2.symm)
 rw[w1,h3]at c4
 exact⟨ys,c3,.inl ⟨g,⟨[]⟩,⟨cap⟩,rfl,by simpa using c4⟩⟩
abbrev ptrB(b:Nat):Value:=.pointer (some ⟨b,0,none⟩)
def bX{h:HL}{b e:Nat}{cs:List Value}(hb:h[b]?=some (.o (.cells cs e true))):Ptr h (ptrB b) cs:=⟨b,0,cs,e,true,rfl,hb,Sx.cut_all rfl⟩
def cg(b:Nat):aV (ptrB b)=true:=by simp[aV,noLoc,aW,bW,bt,aU,aB]
def dN{h:HL}{p:Value}{cs:List Value}{K:List Value->Prop}{n:Nat}(hp:Ptr h p cs)(hn:cs.length=n)(hk:K cs):P1.peek (.lg cc n p) h (@hid _ ⟨K⟩):=dt (hp.lg hn) hk
def p_ptrf{h:HL}{p:Value}{cs ds:List Value}{K:List Value->Prop}{o n:Nat}(hp:Ptr h p cs)(hn:o+n<=cs.length)(hd:ds=(cs.drop o).take n)(hk:K ds) :
  P1.opt (fdP o p) (@hid _ ⟨λy=>P1.chk y (@hid _ ⟨P1.peek (.lg cc n y) h (@hid _ ⟨K⟩)⟩)⟩):=by
 subst hd
 obtain⟨q,h3,h4⟩:=hp.fd o n hn
 refine ay h3 (av h4.good (dt (h4.lg ?_) hk))
 rw[qa3,qb0];omega
def gC{h:HL}{b e:Nat}{cs ds:List Value}{K:List Value->Prop}{o n:Nat}(hb:h[b]?=some (.o (.cells cs e true)))(hn:o+n<=cs.length)(hd:ds=(cs.drop o).take n)(hk:K ds) :
  P1.opt (nilP (ptrB b)) (@hid _ ⟨λx=>P1.chk x (@hid _ ⟨P1.opt (fdP o x) (@hid _ ⟨λy=>P1.chk y (@hid _ ⟨P1.peek (.lg cc n y) h (@hid _ ⟨K⟩)⟩)⟩)⟩)⟩):=
 ay (x:=ptrB b) rfl (av (cg b) (p_ptrf (bX hb) hn hd hk))
def mU{h:HL}{b e:Nat}{cs new:List Value}{K:List Value->HL->Prop}{o:Nat}(hb:h[b]?=some (.o (.cells cs e true)))(hn:o+new.length<=cs.length)(hk:K [] (h.set b (.o (.cells (cs.take o++new++cs.drop (o+new.length)) e true)))) :
  P1.opt (nilP (ptrB b)) (@hid _ ⟨λx=>P1.chk x (@hid _ ⟨P1.opt (fdP o x) (@hid _ ⟨λy=>P1.chk y (@hid _ ⟨P1.heap (.st y new) h (@hid _ ⟨K⟩)⟩)⟩)⟩)⟩):=by
 refine ay (x:=ptrB b) rfl (av (cg b) (ay (x:=.pointer (some ⟨b,0+o,none⟩)) rfl (av (by simp[aV,noLoc,aW,bW,bt,aU,aB]) ?_)))
 have hrun:(Hp.st (.pointer (some ⟨b,0+o,none⟩)) new).run (getH aa h) h.length=some ([.set b (.cells (cs.take o++new++cs.drop (o+new.length)) e true)],[]):=by
  show stP (.pointer (some ⟨b,0+o,none⟩)) new (getH aa h) h.length=_
  unfold stP
  simp only
  rw[cy hb]
  simp only
  unfold splice
  rw[qaG,if_pos hn]
  rfl
 exact cf hrun hk
def ic{h:HL}{b e:Nat}{vs new:List Value}{K:List Value->HL->Prop}(hb:h[b]?=some (.o (.cells vs e true)))(hl:new.length=vs.length)(hk:K [] (h.set b (.o (.cells new e true)))):P1.heap (.st (ptrB b) new) h (@hid _ ⟨K⟩):=by
 have hrun:(Hp.st (ptrB b) new).run (getH aa h) h.length=some ([.set b (.cells new e true)],[]):=by
  show stP (ptrB b) new (getH aa h) h.length=_
  unfold stP
  simp only
  rw[cy hb]
  simp only
  unfold splice
  rw[if_pos (by omega)]
  simp[hl]
 exact cf hrun hk
def jU{b:List Lf->HL->Prop}{m:(List Lf->HL->Prop)->Prop}(P:List Lf->HL->Prop)(h1:∀l h,P l h->b l h)(h2:∀j:List Lf->HL->Prop,(∀l h,P l h->j l h)->m j):P1.join (@hid _ ⟨b⟩) (@hid _ ⟨m⟩):=h2 _ h1
def p_eqlT{a b:Int}{K:Bool->Prop}(h:∀t,t=decide (a=b)->K t):P1.cmp .eql a b (@hid _ ⟨K⟩):=by
 show K (a==b)
 exact h _ (by rw[qbA];simp)
def ea{h:HL}{a b:HO}:(h++[a]).set h.length b=h++[b]:=by simp
def aT{h:HL}{a:HO}:(h++[a])[h.length]?=some a:=by simp
def aS{h:HL}{a:HO}{i:Nat}{o:HO}(hi:h[i]?=some o):(h++[a])[i]?=some o:=Pre.get ⟨_,rfl⟩ hi
def aI{h:HL}{a:HO}{i j:Nat}{o:HO}(hi:h[i]?=some o)(hne:j≠i):(h.set j a)[i]?=some o:=by
 rw[qaB hne];exact hi
def gt{h:HL}{a b:HO}{i:Nat}(hi:h[i]?=some a):(h.set i b)[i]?=some b:=qaO (bV hi)
def Low(n0:Nat)(h h':HL):Prop:=∀(j:Nat) o,j<n0->h[j]?=some o->h'[j]?=some o
def Low.refl{n0:Nat}(h:HL):Low n0 h h:=λ_ _ _ h=>h
def Low.trans{n0:Nat}{a b c:HL}(h:Low n0 a b)(k:Low n0 b c):Low n0 a c:=λj o hj ho=>k j o hj (h j o hj ho)
def Low.app{n0:Nat}{a b:HL}(h:Low n0 a b)(G:HL):Low n0 a (b++G):=λj o hj ho=>Pre.get ⟨_,rfl⟩ (h j o hj ho)
def Low.set{n0:Nat}{a b:HL}(h:Low n0 a b){i:Nat}(hi:n0<=i)(o:HO):Low n0 a (b.set i o):=λj o' hj ho=>aI (h j o' hj ho) (by omega)
def Low.le{n0 n1:Nat}{a b:HL}(h:Low n0 a b)(hn:n1<=n0):Low n1 a b:=λj o hj ho=>h j o (by omega) ho
def Low.ls{α:Type}{n0:Nat}{h h':HL}(hl:Low n0 h h'){v:Value}{e:Nat}{enc:α->List Value}{l:List α}(hs:LsH h v e enc l)(hb:∀i,blk v=some i->i<n0):LsH h' v e enc l:=hs.keep λj o ho hj=>hl j o (hb j hj) ho
def Sx.LsH.blkLt{α:Type}{h:HL}{v:Value}{e:Nat}{enc:α->List Value}{l:List α}(hs:LsH h v e enc l){i:Nat}(hb:blk v=some i):i<h.length:=by
 obtain⟨_,_,⟨rfl,_⟩|⟨id,off,cx,vs,rw',rfl,h2,_⟩⟩:=hs
 ·cases hb
 ·cases hb
  exact bV h2
def Sx.LsH.low{α:Type}{h h':HL}{v:Value}{e:Nat}{enc:α->List Value}{l:List α}(hs:LsH h v e enc l)(hl:Low h.length h h'):LsH h' v e enc l:=hl.ls hs λ_ hb=>hs.blkLt hb
def cp(a:K3):(cc3 a).length=3:=rfl
def eqs3{a b:K3}{K:Bool->Prop}:P1.eqs [(.i a.1,.i b.1),(.i a.2.1,.i b.2.1),(.i (Int.ofNat a.2.2),.i (Int.ofNat b.2.2))] (@hid _ ⟨K⟩)=K (decide (a=b)):=by
 show K (ce _)=_
 have e:ce [(.i a.1,.i b.1),(.i a.2.1,.i b.2.1),(.i (Int.ofNat a.2.2),.i (Int.ofNat b.2.2))]=decide (a=b):=by
  rw[qbA]
  simp[ce,gp,Prod.ext_iff]
  intro _ _
  omega
 rw[e]
def OwnL{α:Type}(n0:Nat)(h:HL)(v:Value)(e:Nat)(enc:α->List Value)(l:List α):Prop:=
 (v = .slice none 0 0/\l=[])∨∃id cx,v = .slice (some ⟨id,0,tag e⟩) l.length cx/\n0<=id/\h[id]?=some (.o (.cells (l.flatMap enc) e true))/\(cx=0∨cx=l.length+1)
section
variable {α:Type} {n0 e:Nat} {enc:α->List Value} {l:List α} {h:HL} {v:Value}
def OwnL.nil(n0:Nat)(h:HL)(e:Nat)(enc:α->List Value):OwnL n0 h (.slice none 0 0) e enc []:=.inl ⟨rfl,rfl⟩
def OwnL.ls(henc:∀a,(enc a).length=e)(ho:OwnL n0 h v e enc l):LsH h v e enc l:=by
 have hl:=bR (e:=e) (enc:=enc) (l:=l) λa _=>henc a
 rcases ho with⟨rfl,rfl⟩|⟨id,cx,rfl,_,h2,_⟩
 ·exact LsH.nil h e enc
 ·exact⟨λa _=>henc a,hl,.inr ⟨id,0,cx,_,true,rfl,h2,Sx.cut_all hl⟩⟩
def OwnL.keep{h':HL}(ho:OwnL n0 h v e enc l)(hk:∀(j:Nat) o,h[j]?=some o->blk v=some j->h'[j]?=some o):OwnL n0 h' v e enc l:=by
 rcases ho with h0|⟨id,cx,rfl,h1,h2,h3⟩
 ·exact .inl h0
 ·exact .inr ⟨id,cx,rfl,h1,hk _ _ h2 rfl,h3⟩
def OwnL.app(ho:OwnL n0 h v e enc l)(G:HL):OwnL n0 (h++G) v e enc l:=ho.keep λ_ _ h _=>Pre.get ⟨_,rfl⟩ h
def OwnL.blk(ho:OwnL n0 h v e enc l){j:Nat}(hb:blk v=some j):n0<=j/\j<h.length:=by
 rcases ho with⟨rfl,_⟩|⟨id,cx,rfl,h1,h2,_⟩
 ·cases hb
 ·cases hb
  exact⟨h1,bV h2⟩
def OwnL.good(henc:∀a,(enc a).length=e)(ho:OwnL n0 h v e enc l):aV v=true:=(ho.ls henc).good
def OwnL.ap{bytes k:Nat}{x:Value}{new:List α}{K:List Value->HL->Prop}(henc:∀a,(enc a).length=e)(ho:OwnL n0 h v e enc l)(hn0:n0<=h.length)(hx:slG cc e (getH aa h) x=some (new.flatMap enc,k))(hkn:k=new.length)(hs:cb (l.length+k) bytes=true)
  (hk:∀v' h',OwnL n0 h' v' e enc (l++new)->aV v'=true->(∀(j:Nat) o,h[j]?=some o->Sx.blk v≠some j->h'[j]?=some o)->h.length<=h'.length->(Sx.blk v'=Sx.blk v∨∃j,Sx.blk v'=some j/\h.length<=j)->K [v'] h') :
  P1.heap (.ap cc e bytes v x) h (@hid _ ⟨K⟩):=by
 subst hkn
 have hll:(l++new).length=l.length+new.length:=qaI
 have hfm:l.flatMap enc++new.flatMap enc=(l++new).flatMap enc:=by simp
 have gd:∀i n c,aV (.slice (some ⟨i,0,tag e⟩) n c)=true:=λi n c=>by simp[aV,noLoc,aW,bW,bt,aU,aB,tag]
 rcases ho with⟨rfl,rfl⟩|⟨id,cx,rfl,h1,h2,h3⟩
 ·by_cases hk0:new.length=0
  ·have hnil:new=[]:=qa9.1 hk0
   subst hnil
   have hrun:(Hp.ap cc e bytes (.slice none 0 0) x).run (getH aa h) h.length=some ([],[.slice none 0 0]):=by
    show apG cc e bytes (.slice none 0 0) x (getH aa h) h.length=_
    unfold apG
    rw[hx]
    rfl
   exact cf hrun (hk _ _ (.inl ⟨rfl,rfl⟩) rfl (λj o hj _=>hj) (qai _) (.inl rfl))
  ·have hrun:(Hp.ap cc e bytes (.slice none 0 0) x).run (getH aa h) h.length=some ([.push (.cells (new.flatMap enc) e true)],[.slice (some ⟨h.length,0,tag e⟩) new.length 0]):=by
    show apG cc e bytes (.slice none 0 0) x (getH aa h) h.length=_
    unfold apG
    rw[hx]
    simp only[if_neg hk0]
    rw[qbU,qaG]at hs
    rw[if_pos hs]
   refine cf hrun (hk _ _ (.inr ⟨h.length,0,by simp,hn0,by simp[bZ,Act1.onH],.inl rfl⟩) (gd _ _ _) (λj o hj _=>Pre.get ⟨_,rfl⟩ hj) (by simp[bZ,Act1.onH]) (.inr ⟨h.length,rfl,qai _⟩))
 ·have hcut:cut (l.flatMap enc) 0 (l.length*e)=some (l.flatMap enc):=Sx.cut_all (bR λa _=>henc a)
  have hlt:=bV h2
  rcases h3 with rfl|rfl
  ·by_cases hk0:new.length=0
   ·have hnil:new=[]:=qa9.1 hk0
    subst hnil
    have hrun:(Hp.ap cc e bytes (.slice (some ⟨id,0,tag e⟩) l.length 0) x).run (getH aa h) h.length=some ([],[.slice (some ⟨id,0,tag e⟩) l.length 0]):=by
     show apG cc e bytes (.slice (some ⟨id,0,tag e⟩) l.length 0) x (getH aa h) h.length=_
     unfold apG
     rw[hx]
     simp only[ne_eq,not_true_eq_false,if_false]
     rw[cy h2]
     simp only[ne_eq,not_true_eq_false,if_false]
     rw[hcut]
     rfl
    exact cf hrun (hk _ _ (.inr ⟨id,0,by simp,h1,by simpa[bZ]using h2,.inl rfl⟩) (gd _ _ _) (λj o hj _=>hj) (qai _) (.inl rfl))
   ·have hrun:(Hp.ap cc e bytes (.slice (some ⟨id,0,tag e⟩) l.length 0) x).run (getH aa h) h.length=some ([.set id .dead,.push (.cells ((l++new).flatMap enc) e true)],[.slice (some ⟨h.length,0,tag e⟩) (l.length+new.length) 0]):=by
     show apG cc e bytes (.slice (some ⟨id,0,tag e⟩) l.length 0) x (getH aa h) h.length=_
     unfold apG
     rw[hx]
     simp only[ne_eq,not_true_eq_false,if_false]
     rw[cy h2]
     simp only[ne_eq,not_true_eq_false,if_false]
     rw[hcut]
     simp only[if_neg hk0,qc5]
     rw[if_pos hs,hfm]
    have e1:bZ h [.set id .dead,.push (.cells ((l++new).flatMap enc) e true)]=h.set id (.o .dead)++[.o (.cells ((l++new).flatMap enc) e true)]:=rfl
    refine cf hrun ?_
    rw[e1]
    refine hk _ _ (.inr ⟨h.length,0,by rw[hll],hn0,?_,.inl rfl⟩) (gd _ _ _) (λj o hj hb=>?_) (by simp) (.inr ⟨h.length,rfl,qai _⟩)
    ·rw[qam (by simp)]
     simp
    ·exact aS (aI hj λe=>hb (by subst e;rfl))
  ·by_cases hk0:l.length+new.length<=l.length
   ·have hnil:new=[]:=qa9.1 (by omega)
    subst hnil
    have hrun:(Hp.ap cc e bytes (.slice (some ⟨id,0,tag e⟩) l.length (l.length+1)) x).run (getH aa h) h.length=some ([.set id (.cells (l.flatMap enc) e true)],[.slice (some ⟨id,0,tag e⟩) l.length (l.length+1)]):=by
     show apG cc e bytes (.slice (some ⟨id,0,tag e⟩) l.length (l.length+1)) x (getH aa h) h.length=_
     unfold apG
     rw[hx]
     simp only[ne_eq,not_true_eq_false,if_false]
     rw[cy h2]
     simp only[ne_eq,not_true_eq_false,if_false]
     rw[hcut]
     simp only[qbU,qcf,qai,if_true]
     unfold splice
     have hl:=bR (e:=e) (enc:=enc) (l:=l) λa _=>henc a
     simp[hl]
    have e1:bZ h [.set id (.cells (l.flatMap enc) e true)]=h:=lE h2
    refine cf hrun ?_
    rw[e1]
    exact hk _ _ (.inr ⟨id,l.length+1,by simp,h1,by simpa using h2,.inr (by simp)⟩) (gd _ _ _) (λj o hj _=>hj) (qai _) (.inl rfl)
   ·have hrun:(Hp.ap cc e bytes (.slice (some ⟨id,0,tag e⟩) l.length (l.length+1)) x).run (getH aa h) h.length=some ([.push (.cells ((l++new).flatMap enc) e true)],[.slice (some ⟨h.length,0,tag e⟩) (l.length+new.length) 0]):=by
     show apG cc e bytes (.slice (some ⟨id,0,tag e⟩) l.length (l.length+1)) x (getH aa h) h.length=_
     unfold apG
     rw[hx]
     simp only[ne_eq,not_true_eq_false,if_false]
     rw[cy h2]
     simp only[ne_eq,not_true_eq_false,if_false]
     rw[hcut]
     simp only[if_neg hk0]
     rw[if_pos hs,hfm]
    refine cf hrun (hk _ _ (.inr ⟨h.length,0,by rw[hll],hn0,by simp[bZ,Act1.onH],.inl rfl⟩) (gd _ _ _) (λj o hj _=>Pre.get ⟨_,rfl⟩ hj) (by simp[bZ,Act1.onH]) (.inr ⟨h.length,rfl,qai _⟩))
def OwnL.ap1{bytes m:Nat}{a:α}{new:List Value}{sp:Option Nat}{K:List Value->HL->Prop}(henc:∀a,(enc a).length=e)(ho:OwnL n0 h v e enc l)(hn0:n0<=h.length)(hm:m=h.length)(hnew:new=enc a)(hsp:sp=some (e+10))(hs:cb (l.length+1) bytes=true)
  (hk:∀v' h',OwnL n0 h' v' e enc (l++[a])->aV v'=true->(∀(j:Nat) o,h[j]?=some o->Sx.blk v≠some j->h'[j]?=some o)->h.length<=h'.length->(Sx.blk v'=Sx.blk v∨∃j,Sx.blk v'=some j/\h.length<=j)->K [v'] h') :
  P1.heap (.ap cc e bytes v (.slice (some ⟨m,0,sp⟩) 1 2)) (h++[.o (.cells new e true)]) (@hid _ ⟨K⟩):=by
 subst hm hnew hsp
 have ho':OwnL n0 (h++[HO.o (.cells (enc a) e true)]) v e enc l:=ho.app _
 refine ho'.ap (new:=[a]) (k:=1) henc (by simp;omega) ?_ rfl hs λv' h' a1 a2 a3 a4 a5=>hk v' h' a1 a2 (λj o hj hb=>a3 j o (aS hj) hb) (by simp at a4;omega) ?_
 ·have hx:SlC (h++[HO.o (.cells (enc a) e true)]) (.slice (some ⟨h.length,0,tag e⟩) 1 2) e 1 (enc a):=⟨by rw[henc,qbM],.inr ⟨h.length,0,2,enc a,true,rfl,aT,Sx.cut_all (by rw[henc,qbM])⟩⟩
  have h1:slG cc e (getH aa (h++[HO.o (.cells (enc a) e true)])) (.slice (some ⟨h.length,0,tag e⟩) 1 2)=some ([a].flatMap enc,1):=by
   rw[slG_sl hx]
   simp
  exact h1
 ·rcases a5 with a5|⟨j,h1,h2⟩
  ·exact .inl a5
  ·exact .inr ⟨j,h1,by simp at h2;omega⟩
end
end Go.Am
set_option maxRecDepth 100000
namespace Go.Am
namespace Tw
open Sx
abbrev Sq:=Int×Int
def bes(c:Sq)(k:Nat):Sq:=match k with
 |0=>(c.1+1,c.2)
 |1=>(c.1,c.2+1)
 |2=>(c.1 - 1,c.2)
 |_=>(c.1,c.2 - 1)
def bes_back(c:Sq){k:Nat}(hk:k<4):bes (bes c k) ((k+2)%4)=c:=by
 have:k=0∨k=1∨k=2∨k=3:=by omega
 obtain⟨x,y⟩:=c
 rcases this with rfl|rfl|rfl|rfl<;>simp[bes]
def wayN:Nat->List Nat
 |0=>[1]
 |1=>[2,4,1]
 |2=>[2,1]
 |_=>[2,3,1]
structure TS where
 been:List Sq
 steps:List Nat
 head:Nat
 last:Nat
def goT(s:TS)(k:Nat):TS:={ s with steps:=s.steps++wayN ((k+4 - s.head)%4),head:=k }
def rndT(v:Sq->TS->TS)(L:List Sq)(c:Sq)(s:TS)(k:Nat):TS:=
 if bes c k∈L/\bes c k∉s.been then goT (v (bes c k) (goT s k)) ((k+2)%4)else s
def rnds(v:Sq->TS->TS)(L:List Sq)(c:Sq)(s:TS):Nat->TS
 |0=>s
 |j+1=>rndT v L c (rnds v L c s j) j
def inT(s:TS)(c:Sq):TS:={ s with been:=s.been++[c],last:=s.steps.length }
def visT(L:List Sq):Nat->Sq->TS->TS
 |0,_,s=>s
 |n+1,c,s=>rnds (visT L n) L c (inT s c) 4
def Ok3(l:List Nat):Prop:=∀(i a b:Nat),l[i]?=some a->l[i+1]?=some b->¬(3<=a/\3<=b)
def tr(d:Nat):Ok3 (wayN d)/\(∀a∈wayN d,1<=a/\a<=4)/\(wayN d).length<=3/\∃a r,wayN d=a :: r/\a<3:=by
 match d with
 |0=>exact⟨λi a b h1 h2=>by simp[wayN]at h2,by simp[wayN],by simp[wayN],1,[],rfl,by omega⟩
 |1=>exact⟨λi a b h1 h2=>by
   match i with
   |0=>simp[wayN]at h1 h2;omega
   |1=>simp[wayN]at h1 h2;omega
   |i+2=>simp[wayN]at h2,by simp[wayN],by simp[wayN],2,[4,1],rfl,by omega⟩
 |2=>exact⟨λi a b h1 h2=>by
   match i with
   |0=>simp[wayN]at h1 h2;omega
   |i+1=>simp[wayN]at h2,by simp[wayN],by simp[wayN],2,[1],rfl,by omega⟩
 |d+3=>exact⟨λi a b h1 h2=>by
   match i with
   |0=>simp[wayN]at h1 h2;omega
   |1=>simp[wayN]at h1 h2;omega
   |i+2=>simp[wayN]at h2,by simp[wayN],by simp[wayN],2,[3,1],rfl,by omega⟩
def Ok3.way{l:List Nat}(h:Ok3 l)(d:Nat):Ok3 (l++wayN d):=by
 obtain⟨w1,_,_,a0,r,w4,w5⟩:=tr d
 intro i a b h1 h2
 by_cases e1:i+1<l.length
 ·rw[qah (by omega)]at h1
  rw[qah e1]at h2
  exact h i a b h1 h2
 ·rw[qam (by omega)]at h2
  by_cases e2:i+1=l.length
  ·rw[e2,qbx,w4]at h2
   simp only[qa1,qar]at h2
   omega
  ·rw[qam (by omega)]at h1
   rw[show i+1 - l.length=i - l.length+1 by omega]at h2
   exact w1 _ a b h1 h2
def Ok3.take{l:List Nat}(h:Ok3 l)(n:Nat):Ok3 (l.take n):=by
 intro i a b h1 h2
 rw[qaT]at h1 h2
 split at h1
 ·split at h2
  ·exact h i a b h1 h2
  ·cases h2
 ·cases h1
def free(L been:List Sq):Nat:=(L.filter λx=>decide (x∉been)).length
def fA{L b b':List Sq}(h:∀x∈b,x∈b'):free L b'<=free L b:=by
 unfold free
 induction L with
 |nil=>simp
 |cons x L ih=>
  simp only[qbO]
  by_cases h1:x∈b'
  ·by_cases h2:x∈b
   ·simpa[h1,h2]using ih
   ·simp[h1,h2];simp at ih;omega
  ·have h2:x∉b:=λh2=>h1 (h x h2)
   simpa[h1,h2]using ih
def kM{L b b':List Sq}(h:∀x∈b,x∈b'){c:Sq}(hc:c∈L)(h1:c∉b)(h2:c∈b'):free L b'<free L b:=by
 unfold free
 induction L with
 |nil=>cases hc
 |cons x L ih=>
  simp only[qbO]
  by_cases hx:x=c
  ·subst hx
   have:=fA (L:=L) h
   unfold free at this
   simp[h1,h2];simp at this;omega
  ·have hc':c∈L:=by
    rcases qaq.1 hc with e|e
    ·exact absurd e.symm hx
    ·exact e
   have ih:=ih hc'
   by_cases g1:x∈b'
   ·by_cases g2:x∈b
    ·simpa[g1,g2]using ih
    ·simp[g1,g2];simp at ih;omega
   ·have g2:x∉b:=λg2=>g1 (h x g2)
    simpa[g1,g2]using ih
structure Ev(L:List Sq)(s t:TS):Prop where
 g:∃G,t.been=s.been++G
 nd:t.been.Nodup
 sub:∀x∈t.been,x∈L
 hd:t.head<4
 st:∀a∈t.steps,1<=a/\a<=4
 ok:Ok3 t.steps
 la:t.last<=t.steps.length
 le:t.steps.length+6*s.been.length<=s.steps.length+6*t.been.length
def Ev.self{L:List Sq}{s t:TS}(h:Ev L s t):Ev L t t:=⟨⟨[],by simp⟩,h.nd,h.sub,h.hd,h.st,h.ok,h.la,qai _⟩
def Ev.trans{L:List Sq}{s t u:TS}(h:Ev L s t)(k:Ev L t u):Ev L s u:=by
 obtain⟨G,hG⟩:=h.g
 obtain⟨G',hG'⟩:=k.g
 have:=h.le
 have:=k.le
 exact⟨⟨G++G',by rw[hG',hG,qaH]⟩,k.nd,k.sub,k.hd,k.st,k.ok,k.la,by omega⟩
def Ev.mem{L:List Sq}{s t:TS}(h:Ev L s t){x:Sq}(hx:x∈s.been):x∈t.been:=by
 obtain⟨G,hG⟩:=h.g
 rw[hG];exact qay _ hx
def eA{α:Type} [DecidableEq α]:∀ {a b:List α},a.Nodup->(∀x∈a,x∈b)->a.length<=b.length
 | [],b,_,_=>qbb _
 |x :: a,b,h,hs=>by
  rw[qbV]at h
  have hx:=hs x qaJ
  have:=eA (a:=a) (b:=b.erase x) h.2 (λy hy=>by
   have hne:y≠x:=λe=>h.1 (e▸hy)
   exact(List.mem_erase_of_ne hne).2 (hs y (qal _ hy)))
  rw[List.length_erase_of_mem hx]at this
  have:0<b.length:=List.length_pos_of_mem hx
  simp only[qbg];omega
def Ev.small{L:List Sq}{s t:TS}(h:Ev L s t):t.been.length<=L.length:=eA h.nd h.sub
def go_ev{L:List Sq}{s t:TS}(h:Ev L s t){k:Nat}(hk:k<4):(goT t k).been=t.been/\(goT t k).steps.length<=t.steps.length+3/\(∀a∈(goT t k).steps,1<=a/\a<=4)/\Ok3 (goT t k).steps/\(goT t k).last<=(goT t k).steps.length/\(goT t k).head<4:=by
 obtain⟨w1,w2,w3,_⟩:=tr ((k+4 - t.head)%4)
 have:=h.la
 refine⟨rfl,?_,?_,h.ok.way _,?_,hk⟩
 ·show(t.steps++wayN _).length<=_
  rw[qaI];omega
 ·intro a ha
  rcases qaA.1 ha with ha|ha
  ·exact h.st a ha
  ·exact w2 a ha
 ·show t.last<=(t.steps++wayN _).length
  rw[qaI];omega
def VOk(L:List Sq)(n:Nat)(v:Sq->TS->TS):Prop:=∀d t,Ev L t t->d∈L->d∉t.been->free L t.been<=n->Ev L t (v d t)/\(v d t).steps.length+6*t.been.length+6<=t.steps.length+6*(v d t).been.length
def rnd_ev{L:List Sq}{n:Nat}{v:Sq->TS->TS}(hv:VOk L n v){s:TS}{c:Sq}(hs:Ev L s s)(hf:free L s.been<=n){k:Nat}(hk:k<4):Ev L s (rndT v L c s k):=by
 unfold rndT
 split
 next h=>
  obtain⟨a1,a2,a3,a4,a5,a6⟩:=go_ev hs hk
  have hg:Ev L (goT s k) (goT s k):=⟨⟨[],by simp⟩,hs.nd,hs.sub,a6,a3,a4,a5,qai _⟩
  obtain⟨b1,b2⟩:=hv (bes c k) (goT s k) hg h.1 h.2 hf
  obtain⟨c1,c2,c3,c4,c5,c6⟩:=go_ev b1 (k:=(k+2)%4) (by omega)
  refine⟨?_,b1.nd,b1.sub,c6,c3,c4,c5,?_⟩
  ·obtain⟨G,hG⟩:=b1.g
   exact⟨G,hG⟩
  ·rw[a1]at b2
   have e:(goT (v (bes c k) (goT s k)) ((k+2)%4)).been.length=(v (bes c k) (goT s k)).been.length:=rfl
   rw[e]
   omega
 ·exact hs
def oK{L:List Sq}{n:Nat}{v:Sq->TS->TS}(hv:VOk L n v){s:TS}{c:Sq}(hs:Ev L s s)(hf:free L s.been<=n):∀j,j<=4->Ev L s (rnds v L c s j)
 |0,_=>hs
 |j+1,hj=>by
  have h:=oK hv (c:=c) hs hf j (by omega)
  exact h.trans (rnd_ev hv h.self (qbH (fA λx hx=>h.mem hx) hf) (by omega))
def in_ev{L:List Sq}{s:TS}{c:Sq}(hs:Ev L s s)(hc:c∈L)(hn:c∉s.been):Ev L (inT s c) (inT s c):=by
 refine⟨⟨[],by simp⟩,?_,?_,hs.hd,hs.st,hs.ok,qai _,qai _⟩
 ·show(s.been++[c]).Nodup
  rw[qca]
  refine⟨hs.nd,by simp,?_⟩
  intro a ha b hb
  simp only[qao]at hb
  subst hb
  exact λe=>hn (e▸ha)
 ·intro x hx
  rcases qaA.1 hx with hx|hx
  ·exact hs.sub x hx
  ·simp only[qao]at hx
   subst hx;exact hc
def rn{L:List Sq}{s:TS}{c:Sq}(hc:c∈L)(hn:c∉s.been):free L (inT s c).been<free L s.been:=kM (λx hx=>qay _ hx) hc hn (qaC _ (by simp))
def nr(L:List Sq):∀n,VOk L n (visT L n)
 |0=>λd t _ hd hn hf=>by
  have:=kM (L:=L) (b:=t.been) (b':=t.been++[d]) (λx hx=>qay _ hx) hd hn (qaC _ (by simp))
  omega
 |n+1=>λd t ht hd hn hf=>by
  have h1:=in_ev ht hd hn
  have h2:=rn (s:=t) hd hn
  have h3:=oK (nr L n) (c:=d) h1 (by omega) 4 (by omega)
  have h4:=h3.le
  have e1:(inT t d).been.length=t.been.length+1:=by
   show(t.been++[d]).length=_
   simp
  have e2:(inT t d).steps=t.steps:=rfl
  rw[e1,e2]at h4
  show Ev L t (rnds (visT L n) L d (inT t d) 4)/\(rnds (visT L n) L d (inT t d) 4).steps.length+6*t.been.length+6<=t.steps.length+6*(rnds (visT L n) L d (inT t d) 4).been.length
  refine⟨⟨?_,h3.nd,h3.sub,h3.hd,h3.st,h3.ok,h3.la,by omega⟩,by omega⟩
  obtain⟨G,hG⟩:=h3.g
  exact⟨d :: G,by rw[hG];show(t.been++[d])++G=_;simp⟩
def Con(L:List Sq):Prop:=∀(i:Nat) (c:Sq),L[i]?=some c->0<i->∃(j:Nat) (d:Sq) (k:Nat),j<i/\L[j]?=some d/\k<4/\bes d k=c
def con_all{L:List Sq}(hL:Con L){S:List Sq}(hs:∀x∈S,x∈L)(hne:∃x,x∈S)(hcl:∀x∈S,∀k,k<4->bes x k∈L->bes x k∈S):∀x∈L,x∈S:=by
 have h0:∀(i:Nat) (c:Sq),L[i]?=some c->c∈S->∃c0,L[0]?=some c0/\c0∈S:=by
  intro i
  induction i using Nat.strongRecOn with
  |ind i ih=>
   intro c hc hm
   by_cases hi:i=0
   ·subst hi
    exact⟨c,hc,hm⟩
   ·obtain⟨j,d,k,hj,hd,hk,e⟩:=hL i c hc (by omega)
    have hdS:d∈S:=by
     have hb:=bes_back d hk
     rw[e]at hb
     rw[←hb]
     exact hcl c hm _ (by omega) (by rw[hb];exact qaf hd)
    exact ih j hj d hd hdS
 obtain⟨x,hx⟩:=hne
 obtain⟨i,hi⟩:=qaZ (hs x hx)
 obtain⟨c0,hc0,hm0⟩:=h0 i x hi hx
 have h1:∀(i:Nat) (c:Sq),L[i]?=some c->c∈S:=by
  intro i
  induction i using Nat.strongRecOn with
  |ind i ih=>
   intro c hc
   by_cases hi:i=0
   ·subst hi
    rw[hc0]at hc
    cases hc
    exact hm0
   ·obtain⟨j,d,k,hj,hd,hk,e⟩:=hL i c hc (by omega)
    rw[←e]
    exact hcl d (ih j hj d hd) k hk (by rw[e];exact qaf hc)
 intro y hy
 obtain⟨i,hi⟩:=qaZ hy
 exact h1 i y hi
end Tw
end Go.Am
set_option maxRecDepth 100000
set_option maxHeartbeats 8000000
namespace Go.Am
open Sx Go.Proofs Tw
def has_c{h:HL}{x:Value}{l:List K3}(hl:LsH h x 3 cc3 l)(hn:l.length<=100000)(a:K3){p q r:Int}(ha:p=a.1/\q=a.2.1/\r=Int.ofNat a.2.2) :
  aR cc ab 11 [.v x,.i p,.i q,.i r] (absH aa h) [.b (decide (a∈l))] (absH aa h):=by
 obtain⟨rfl,rfl,rfl⟩:=ha
 exact xK x11 (glsV hl.good (glsI (glsI (glsI gls0)))) (by
  unfold f11;simp only[qxh]
  simp(disch:=omega)only[↓qXX]
  refine ou l.length (λj=>∀i,i<j->l[i]?≠some a) (j0:=0) rfl (qbb _) (λi hi=>by omega) ?_
  intro j hj he self hself
  simp(disch:=omega)only[↓qXX]
  refine hZ hl ?_
  by_cases hlt:j<l.length
  ·rw[eo hlt]
   simp(disch:=omega)only[↓qXX]
   obtain⟨b,hb⟩:=dj hlt
   refine hU hl rfl hb ?_
   unfold cc3
   simp(disch:=omega)only[↓qXX]
   rw[eqs3]
   by_cases hba:b=a
   ·subst hba
    rw[decide_eq_true rfl]
    simp(disch:=omega)only[↓qXX]
    exact⟨by rw[decide_eq_true (qaf hb)],by trivial⟩
   ·rw[decide_eq_false hba]
    simp(disch:=omega)only[↓qXX]
    rw[eO (by omega)]
    refine hself hlt λi hi=>?_
    by_cases hij:i=j
    ·subst hij
     rw[hb]
     exact λe=>hba (qaj e)
    ·exact he i (by omega)
  ·rw[en (by omega)]
   simp(disch:=omega)only[↓qXX]
   refine⟨?_,by trivial⟩
   rw[decide_eq_false]
   intro hm
   obtain⟨i,hi⟩:=qaZ hm
   exact he i (by have:=bV hi;omega) hi)
def sqC(c:Sq):K3:=(c.1,c.2,0)
def lI{a b:Sq}(h:sqC a=sqC b):a=b:=by
 unfold sqC at h
 simp only[qcl,and_true]at h
 exact Prod.ext h.1 h.2
def gH{a:Sq}{l:List Sq}:sqC a∈l.map sqC↔a∈l:=by
 rw[qaK]
 constructor
 ·rintro⟨b,hb,e⟩
  exact lI e▸hb
 ·exact λh=>⟨a,h,rfl⟩
structure Grown(b:Int)(L:List Sq):Prop where
 ne:0<L.length
 le:L.length<=12
 nd:L.Nodup
 con:Con L
 bd:∀c∈L,-b<=c.1/\c.1<=b/\-b<=c.2/\c.2<=b
def Grown.mono{b b':Int}{L:List Sq}(h:Grown b L)(hb:b<=b'):Grown b' L:=⟨h.ne,h.le,h.nd,h.con,λc hc=>by have:=h.bd c hc;omega⟩
def Grown.push{b:Int}{L:List Sq}(h:Grown b L){d:Sq}{k:Nat}(hd:d∈L)(hk:k<4)(hn:bes d k∉L)(hl:L.length<12):Grown (b+1) (L++[bes d k]):=by
 refine⟨by simp,by simp;omega,?_,?_,?_⟩
 ·rw[qca]
  refine⟨h.nd,by simp,?_⟩
  intro a ha c hc
  simp only[qao]at hc
  subst hc
  exact λe=>hn (e▸ha)
 ·intro i c hi h0
  by_cases hlt:i<L.length
  ·rw[qah hlt]at hi
   obtain⟨j,d',k',a1,a2,a3,a4⟩:=h.con i c hi h0
   exact⟨j,d',k',a1,by rw[qah (bV a2)];exact a2,a3,a4⟩
  ·have hi':=bV hi
   simp only[qaI,qbg,qbU]at hi'
   obtain rfl:i=L.length:=by omega
   rw[qam (qai _),qbx]at hi
   simp only[qa1,qar]at hi
   obtain⟨j,hj⟩:=qaZ hd
   exact⟨j,d,k,bV hj,by rw[qah (bV hj)];exact hj,hk,hi⟩
 ·intro c hc
  rcases qaA.1 hc with hc|hc
  ·have:=h.bd c hc;omega
  ·simp only[qao]at hc
   subst hc
   have:=h.bd d hd
   have hk':k=0∨k=1∨k=2∨k=3:=by omega
   rcases hk' with rfl|rfl|rfl|rfl<;>simp only[bes]<;>omega
def OwnL.lenB{α:Type}{n0 e:Nat}{enc:α->List Value}{l:List α}{h:HL}{v:Value}(ho:OwnL n0 h v e enc l):lenS v=some (.ofNat l.length):=by
 rcases ho with⟨rfl,rfl⟩|⟨id,cx,rfl,_⟩<;>rfl
def size3{n:Nat}(h:n<=1000000):cb n 24=true:=by
 unfold cb
 rw[qbh (by omega),qbh (by omega)];rfl
def nP(p:Int×Int):List Value:=[.int .u8 p.1,.int .u8 p.2]
def pJ(p:Int×Int):(nP p).length=2:=rfl
def r_idx{h:HL}{v:Value}{l:List (Int×Int)}{i o:Nat}{a:Int×Int}{n:Int}{cs:List Value}{K:List Value->Prop}(hs:LsH h v 2 nP l)(hn:n=Int.ofNat i)(hi:l[i]?=some a)(ho:o<2)(hcs:cs=((nP a).drop o).take 1)(hk:K cs) :
  P1.opt (idS 2 v n) (@hid _ ⟨λx=>P1.opt (idP 2 1 x (Int.ofNat o)) (@hid _ ⟨λy=>P1.chk y (@hid _ ⟨P1.peek (.lg cc 1 y) h (@hid _ ⟨K⟩)⟩)⟩)⟩):=by
 subst hn hcs
 obtain⟨p,h1,h2⟩:=hs.at hi
 obtain⟨q,h3,h4⟩:=h2.fd o 1 (by rw[pJ];omega)
 refine ay h1 (ay (x:=q) ?_ (av h4.good (dt (h4.lg ?_) hk)))
 ·obtain⟨id,o',vs,e,rw',rfl,_,_⟩:=h2
  have ho':o=0∨o=1:=by omega
  rcases ho' with rfl|rfl<;>· rw[←h3];rfl
 ·rw[qa3,qb0,pJ];omega
def rem_nat{k:IntKind}{a b:Nat}{K:Int->Prop}(hb:0<b):P1.ari .rem k (Int.ofNat a) (Int.ofNat b) (@hid _ ⟨K⟩)=K (Int.ofNat (a%b)):=by
 rw[p_rem_nn (show(0:Int)<=Int.ofNat a from qbs a) (by show(0:Int)<(b:Int);omega)]
 rfl
def OfOk(H:HL)(rs:List Lf)(h':HL):Prop:=∃v L,rs=[.v v]/\Grown 43 L/\OwnL H.length h' v 3 cc3 (L.map sqC)/\Low H.length H h'/\H.length<=h'.length
def of_c{H:HL}{x:Value}{G:List (Int×Int)}(hG:LsH H x 2 nP G)(hb:∀a∈G,(0<=a.1/\a.1<=255)/\0<=a.2/\a.2<=255){X Y:Int}(hX:0<=X/\X<=255)(hY:0<=Y/\Y<=255) :
  ∃rs h',aR cc ab 5 [.i X,.i Y,.v x] (absH aa H) rs (absH aa h')/\OfOk H rs h':=by
 exact x5 (K:=OfOk H) (glsI (glsI (glsV hG.good gls0))) (by
  unfold f5;simp only[qxh]
  simp(disch:=omega)only[↓qXX]
  have hx7:0<=X%7/\X%7<7:=by omega
  have hy7:0<=Y%7/\Y%7<7:=by omega
  generalize X%7=x7 at *
  generalize Y%7=y7 at *
  refine em (σ:=Value×HL×List Sq) G.length (λj s=>[.v s.1,.i (Int.ofNat j)]) (λ_ s=>s.2.1) (λj s=>OwnL H.length s.2.1 s.1 3 cc3 (s.2.2.map sqC)/\Grown (3+Int.ofNat (min j 40)) s.2.2/\Low H.length H s.2.1/\H.length<=s.2.1.length) (j0:=0)
   (s0:=(.slice (some ⟨H.length,0,some 13⟩) 1 2,H++[.o (.cells [.int .i64 (x7 - 3),.int .i64 (y7 - 3),.int .u8 0] 3 true)],[(x7 - 3,y7 - 3)])) rfl rfl (qbb _) ⟨.inr ⟨H.length,2,rfl,qai _,aT,.inr rfl⟩,⟨by simp,by simp,by simp,λi c hi h0=>by
    have:=bV hi
    simp only[qbg,qbU]at this
    omega,λc hc=>by
    simp only[qao]at hc
    subst hc
    simp only[qbb,qb7]
    show -(3+((0:Nat):Int))<=x7 - 3/\x7 - 3<=3+((0:Nat):Int)/\-(3+((0:Nat):Int))<=y7 - 3/\y7 - 3<=3+((0:Nat):Int)
    omega⟩,(Low.refl H).app _,by simp⟩ ?_
  rintro j ⟨v,h,L⟩ hj ⟨ho,hg,hlow,hlen⟩ self hself
  simp only at ho hg hlow hlen hself
  have hfin:OfOk H [.v v] h:=⟨v,L,rfl,hg.mono (by
   have:=Nat.min_le_right j 40
   show 3+((min j 40:Nat):Int)<=43
   omega),ho,hlow,hlen⟩
  simp(disch:=omega)only[↓qXX]
  refine hZ (hG.low hlow) ?_
  by_cases hlt:j<G.length
  case neg=>
   rw[en (by omega)]
   simp(disch:=omega)only[↓qXX]
   exact hfin
  rw[eo hlt]
  simp(disch:=omega)only[↓qXX]
  refine ay ho.lenB ?_
  rw[qaQ]
  by_cases h12:L.length<12
  case neg=>
   rw[p_lss_f (by show(12:Int)<=(L.length:Int);omega)]
   simp(disch:=omega)only[↓qXX]
   exact hfin
  rw[p_lss_t (by show(L.length:Int)<12;omega)]
  simp(disch:=omega)only[↓qXX]
  by_cases h40:j<40
  case neg=>
   rw[p_lss_f (by show(40:Int)<=(j:Int);omega)]
   simp(disch:=omega)only[↓qXX]
   exact hfin
  rw[p_lss_t (by show(j:Int)<40;omega)]
  simp(disch:=omega)only[↓qXX]
  obtain⟨a,ha⟩:=dj hlt
  obtain⟨⟨a1,a2⟩,a3,a4⟩:=hb a (qaf ha)
  refine r_idx (o:=0) (hG.low hlow) rfl ha (by omega) rfl ?_
  simp only[nP,qaz,qax,qaL]
  simp(disch:=omega)only[↓qXX]
  refine ay ho.lenB ?_
  rw[qaQ]
  obtain⟨u,hu⟩ : ∃u:Nat,a.1=Int.ofNat u:=⟨a.1.toNat,by show a.1=((a.1.toNat:Nat):Int);omega⟩
  rw[hu,rem_nat hg.ne]
  have hlt2:u%L.length<L.length:=qbK _ hg.ne
  obtain⟨c,hc⟩:=dj hlt2
  refine hU (ho.ls cp) rfl (by rw[qaw,hc];rfl) ?_
  simp only[sqC,cc3]
  simp(disch:=omega)only[↓qXX]
  refine r_idx (o:=1) (hG.low hlow) rfl ha (by omega) rfl ?_
  simp only[nP,qaD,qaz,qax,qaL]
  simp(disch:=omega)only[↓qXX]
  have hcm:=qaf hc
  have hcb:=hg.bd c hcm
  have hmn:Int.ofNat (min j 40)=(j:Int):=by
   rw[qb7 (by omega)];rfl
  have hm1:Int.ofNat (min (j+1) 40)=(j:Int)+1:=by
   rw[qb7 (by omega)];rfl
  rw[hmn]at hg hcb
  have body:∀k,k<4->∀v',(bes c k∉L->∀h',OwnL H.length h' v' 3 cc3 ((L++[bes c k]).map sqC)->Low H.length H h'->H.length<=h'.length->self [.v v',.i (Int.ofNat j+1)] h')/\(bes c k∈L->self [.v v,.i (Int.ofNat j+1)] h):=λk hk v'=>⟨λhn h' b1 b2 b3=>hself (v',h',L++[bes c k]) hlt ⟨b1,by
   rw[hm1]
   have:=hg.push hcm hk hn h12
   exact this.mono (by omega),b2,b3⟩,λ_=>hself (v,h,L) hlt ⟨ho,by rw[hm1];exact hg.mono (by omega),hlow,hlen⟩⟩
  refine p_eqlT λt ht=>?_
  refine jU (λl' h'=>∃k,k<4/\l'=[.i (bes c k).1,.i (bes c k).2,.i 0]/\h'=h) ?_ ?_
  ·rintro _ _ ⟨k,hk,rfl,rfl⟩
   simp(disch:=omega)only[↓qXX]
   refine bf (has_c (ho.ls cp) (by rw[qaQ];have:=hg.le;omega) (sqC (bes c k)) ⟨rfl,rfl,rfl⟩) ?_
   simp(disch:=omega)only[↓qXX]
   by_cases hm:bes c k∈L
   ·rw[decide_eq_true (gH.2 hm)]
    simp(disch:=omega)only[↓qXX,qa7]
    rw[eO (by omega)]
    exact(body k hk v).2 hm
   ·rw[decide_eq_false (λe=>hm (gH.1 e))]
    simp(disch:=omega)only[↓qXX,qco]
    refine ho.ap1 (a:=sqC (bes c k)) cp hlen rfl rfl rfl (size3 (by rw[qaQ];omega)) λv' h' b1 b2 b3 b4 b5=>?_
    simp(disch:=omega)only[↓qXX]
    refine av b2 ?_
    simp(disch:=omega)only[↓qXX]
    rw[eO (by omega)]
    refine(body k hk v').1 hm h' (by rw[qbC];exact b1) (λi o hi hoo=>b3 i o (hlow i o hi hoo) λe=>?_) (by omega)
    have:=ho.blk e
    omega
  ·intro jn hjn
   have e4:a.2%4=0∨a.2%4=1∨a.2%4=2∨a.2%4=3:=by omega
   have k0:=hjn _ _ ⟨0,by omega,rfl,rfl⟩
   have k1:=hjn _ _ ⟨1,by omega,rfl,rfl⟩
   have k2:=hjn _ _ ⟨2,by omega,rfl,rfl⟩
   have k3:=hjn _ _ ⟨3,by omega,rfl,rfl⟩
   simp only[bes]at k0 k1 k2 k3
   rcases e4 with e|e|e|e<;>rw[e]at ht ⊢
   ·obtain rfl:t=true:=ht
    simp(disch:=omega)only[↓qXX]
    exact k0
   ·obtain rfl:t=false:=ht
    simp(disch:=omega)only[↓qXX]
    exact k1
   ·obtain rfl:t=false:=ht
    simp(disch:=omega)only[↓qXX]
    exact k2
   ·obtain rfl:t=false:=ht
    simp(disch:=omega)only[↓qXX]
    exact k3)
end Go.Am
set_option maxRecDepth 100000
namespace Go.Am
open Sx Go.Proofs
section
variable {α:Type} {key:α->Int}
def SP(a b:Nat)(l l':List α):Prop:=l'.Perm l/\∀i,(i<a∨b<=i)->l'[i]?=l[i]?
def SP.refl(a b:Nat)(l:List α):SP a b l l:=⟨List.Perm.refl _,λ_ _=>rfl⟩
def SP.len{a b:Nat}{l l':List α}(h:SP a b l l'):l'.length=l.length:=h.1.length_eq
def SP.trans{a b:Nat}{l l' l'':List α}(h:SP a b l l')(k:SP a b l' l''):SP a b l l'':=⟨k.1.trans h.1,λi hi=>(k.2 i hi).trans (h.2 i hi)⟩
def SP.mono{a b a' b':Nat}{l l':List α}(h:SP a b l l')(ha:a'<=a)(hb:b<=b'):SP a' b' l l':=⟨h.1,λi hi=>h.2 i (by omega)⟩
def get_eq{l:List α}{i:Nat}{x:α}(h:l[i]?=some x):∃hi:i<l.length,l[i]=x:=qaF.1 h
def SP.swap{a b i j:Nat}{l:List α}{x y:α}(hx:l[i]?=some x)(hy:l[j]?=some y)(hi:a<=i/\i<b)(hj:a<=j/\j<b):SP a b l ((l.set i y).set j x):=by
 obtain⟨h1,e1⟩:=get_eq hx
 obtain⟨h2,e2⟩:=get_eq hy
 refine⟨?_,λk hk=>?_⟩
 ·have:=@List.set_set_perm α l i j h1 h2
  rw[e1,e2]at this
  exact this
 ·rw[qaB (by omega),qaB (by omega)]
def tb{l:List α}{i j k:Nat}{x y:α}(hx:l[i]?=some x)(hy:l[j]?=some y):((l.set i y).set j x)[k]?=if k=j then some x else if k=i then some y else l[k]?:=by
 have h1:=bV hx
 have h2:=bV hy
 by_cases hj:k=j
 ·subst hj
  rw[if_pos rfl,qaO (by rw[qcE];exact h2)]
 ·rw[if_neg hj,qaB (qcn hj)]
  by_cases hi:k=i
  ·subst hi
   rw[if_pos rfl,qaO h1]
  ·rw[if_neg hi,qaB (qcn hi)]
def seg_eq{a b:Nat}{l:List α}(hab:a<=b):l=l.take a++((l.drop a).take (b - a)++l.drop b):=by
 have h1:=qbG a l
 have h2:=qbG (b - a) (l.drop a)
 rw[qby,show a+(b - a)=b by omega]at h2
 rw[h2,h1]
def SP.mem{a b:Nat}{l l':List α}(h:SP a b l l')(hab:a<=b)(hb:b<=l.length){i:Nat}{x:α}(hi:a<=i/\i<b)(hx:l'[i]?=some x):∃j,a<=j/\j<b/\l[j]?=some x:=by
 have e1:l'.take a=l.take a:=by
  apply qaR
  intro k
  rw[qaT,qaT]
  split
  ·exact h.2 k (.inl (by omega))
  ·rfl
 have e2:l'.drop b=l.drop b:=by
  apply qaR
  intro k
  rw[qaX,qaX]
  exact h.2 _ (.inr (by omega))
 have hp:=h.1
 rw[seg_eq (l:=l) hab,seg_eq (l:=l') hab,e1,e2,List.perm_append_left_iff,List.perm_append_right_iff]at hp
 have hm:x∈(l'.drop a).take (b - a):=by
  refine qaf (i:=i - a) ?_
  rw[qaT,if_pos (by omega),qaX,show a+(i - a)=i by omega]
  exact hx
 obtain⟨k,hk⟩:=qaZ (hp.mem_iff.1 hm)
 rw[qaT]at hk
 split at hk
 ·rw[qaX]at hk
  exact⟨a+k,by omega,by omega,hk⟩
 ·cases hk
def SS(key:α->Int)(a b:Nat)(l:List α):Prop:=∀i j x y,a<=i->i<j->j<b->l[i]?=some x->l[j]?=some y->key x<=key y
def SS.one{a b:Nat}{l:List α}(h:b<=a+1):SS key a b l:=λi j x y h1 h2 h3=>by omega
def BL(key:α->Int)(a b c d:Nat)(l:List α):Prop:=∀i j x y,a<=i->i<b->c<=j->j<d->l[i]?=some x->l[j]?=some y->key x<=key y
def SS.join{a m b:Nat}{l:List α}(h1:SS key a m l)(h2:SS key m b l)(h:BL key a m m b l):SS key a b l:=by
 intro i j x y hi hij hj hx hy
 by_cases h3:j<m
 ·exact h1 i j x y hi hij h3 hx hy
 ·by_cases h4:m<=i
  ·exact h2 i j x y h4 hij hj hx hy
  ·exact h i j x y hi (by omega) (by omega) hj hx hy
def SS.keep{a b c d:Nat}{l l':List α}(h:SS key a b l)(hp:SP c d l l')(hd:b<=c∨d<=a):SS key a b l':=by
 intro i j x y hi hij hj hx hy
 rw[hp.2 i (by omega)]at hx
 rw[hp.2 j (by omega)]at hy
 exact h i j x y hi hij hj hx hy
def BL.keep{a b c d p q:Nat}{l l':List α}(h:BL key a b c d l)(hp:SP p q l l')(hpq:p<=q/\q<=l.length)(h1:(a<=p/\q<=b)∨b<=p∨q<=a)(h2:(c<=p/\q<=d)∨d<=p∨q<=c):BL key a b c d l':=by
 intro i j x y hi hib hj hjd hx hy
 have fx:∃i',a<=i'/\i'<b/\l[i']?=some x:=by
  by_cases hin:p<=i/\i<q
  ·obtain⟨k,k1,k2,k3⟩:=hp.mem hpq.1 hpq.2 hin hx
   exact⟨k,by omega,by omega,k3⟩
  ·rw[hp.2 i (by omega)]at hx
   exact⟨i,hi,hib,hx⟩
 have fy:∃j',c<=j'/\j'<d/\l[j']?=some y:=by
  by_cases hin:p<=j/\j<q
  ·obtain⟨k,k1,k2,k3⟩:=hp.mem hpq.1 hpq.2 hin hy
   exact⟨k,by omega,by omega,k3⟩
  ·rw[hp.2 j (by omega)]at hy
   exact⟨j,hj,hjd,hy⟩
 obtain⟨i',i1,i2,i3⟩:=fx
 obtain⟨j',j1,j2,j3⟩:=fy
 exact h i' j' x y i1 i2 j1 j2 i3 j3
structure InsI(key:α->Int)(a i j:Nat)(l:List α):Prop where
 srt:∀p q x y,a<=p->p<q->q<=i->p≠j->q≠j->l[p]?=some x->l[q]?=some y->key x<=key y
 low:∀q x y,j<q->q<=i->l[j]?=some x->l[q]?=some y->key x<=key y
def InsI.start{a i:Nat}{l:List α}(h:SS key a i l):InsI key a i i l:=⟨λp q x y h1 h2 h3 h4 h5=>h p q x y h1 h2 (by omega),λq x y h1 h2=>by omega⟩
def InsI.done{a i j:Nat}{l:List α}(h:InsI key a i j l)(hj:a<=j/\j<=i)(hl:j=a∨∃x y,l[j]?=some x/\l[j - 1]?=some y/\key y<=key x):SS key a (i+1) l:=by
 intro p q x y hp hpq hq hx hy
 by_cases h1:p=j
 ·subst h1
  exact h.low q x y hpq (by omega) hx hy
 ·by_cases h2:q=j
  ·subst h2
   rcases hl with hl|⟨u,v,hu,hv,huv⟩
   ·omega
   ·rw[hy]at hu
    cases hu
    by_cases h3:p=q - 1
    ·subst h3
     rw[hx]at hv
     cases hv
     exact huv
    ·have:=h.srt p (q - 1) x v hp (by omega) (by omega) h1 (by omega) hx hv
     omega
  ·exact h.srt p q x y hp hpq (by omega) h1 h2 hx hy
def InsI.step{a i j:Nat}{l:List α}{x y:α}(h:InsI key a i j l)(hj:a<j/\j<=i)(hx:l[j]?=some x)(hy:l[j - 1]?=some y)(hlt:key x<key y):InsI key a i (j - 1) ((l.set j y).set (j - 1) x):=by
 have g:∀k,((l.set j y).set (j - 1) x)[k]?=if k=j - 1 then some x else if k=j then some y else l[k]?:=λk=>tb hx hy
 refine⟨λp q u v hp hpq hq h1 h2 hu hv=>?_,λq u v hq hqi hu hv=>?_⟩
 ·rw[g,if_neg h1]at hu
  rw[g,if_neg h2]at hv
  by_cases hpj:p=j
  ·rw[if_pos hpj]at hu
   cases hu
   rw[if_neg (by omega)]at hv
   exact h.srt (j - 1) q y v (by omega) (by omega) hq (by omega) (by omega) hy hv
  ·rw[if_neg hpj]at hu
   by_cases hqj:q=j
   ·rw[if_pos hqj]at hv
    cases hv
    exact h.srt p (j - 1) u y hp (by omega) (by omega) (by omega) (by omega) hu hy
   ·rw[if_neg hqj]at hv
    exact h.srt p q u v hp hpq hq hpj hqj hu hv
 ·rw[g,if_pos rfl]at hu
  cases hu
  rw[g,if_neg (by omega)]at hv
  by_cases hqj:q=j
  ·rw[if_pos hqj]at hv
   cases hv
   omega
  ·rw[if_neg hqj]at hv
   exact h.low q x v (by omega) hqi hx hv
def HpX(key:α->Int)(lo hi f r:Nat)(l:List α):Prop:=∀k c x y,lo<=k->k≠r->(c=2*k+1∨c=2*k+2)->c<hi->l[f+k]?=some x->l[f+c]?=some y->key y<=key x
def Hp1(key:α->Int)(lo hi f:Nat)(l:List α):Prop:=∀k c x y,lo<=k->(c=2*k+1∨c=2*k+2)->c<hi->l[f+k]?=some x->l[f+c]?=some y->key y<=key x
def HpP(key:α->Int)(lo hi f r:Nat)(l:List α):Prop:=∀k c x y,lo<=k->(r=2*k+1∨r=2*k+2)->(c=2*r+1∨c=2*r+2)->c<hi->l[f+k]?=some x->l[f+c]?=some y->key y<=key x
def HpX.done{lo hi f r:Nat}{l:List α}(h:HpX key lo hi f r l)(hr:∀c x y,(c=2*r+1∨c=2*r+2)->c<hi->l[f+r]?=some x->l[f+c]?=some y->key y<=key x):Hp1 key lo hi f l:=by
 intro k c x y hk hc hch hx hy
 by_cases e:k=r
 ·subst e
  exact hr c x y hc hch hx hy
 ·exact h k c x y hk e hc hch hx hy
def HpX.step{lo hi f r c:Nat}{l:List α}{x y:α}(h:HpX key lo hi f r l)(hp:HpP key lo hi f r l)(hr:lo<=r)(hc:c=2*r+1∨c=2*r+2)(hch:c<hi)(hx:l[f+r]?=some x)(hy:l[f+c]?=some y)(hxy:key x<key y)
  (hmax:∀d z,(d=2*r+1∨d=2*r+2)->d<hi->l[f+d]?=some z->key z<=key y):HpX key lo hi f c ((l.set (f+r) y).set (f+c) x)/\HpP key lo hi f c ((l.set (f+r) y).set (f+c) x):=by
 have g:∀k,((l.set (f+r) y).set (f+c) x)[f+k]?=if k=c then some x else if k=r then some y else l[f+k]?:=λk=>by
  rw[tb hx hy]
  simp only[Nat.add_left_cancel_iff]
 refine⟨λk d u v hk hkc hd hdh hu hv=>?_,λk d u v hk hkc hd hdh hu hv=>?_⟩
 ·rw[g,if_neg hkc]at hu
  rw[g]at hv
  by_cases hkr:k=r
  ·rw[if_pos hkr]at hu
   cases hu
   by_cases hdc:d=c
   ·rw[if_pos hdc]at hv
    cases hv
    omega
   ·rw[if_neg hdc,if_neg (by omega)]at hv
    exact hmax d v (by omega) hdh hv
  ·rw[if_neg hkr]at hu
   by_cases hdc:d=c
   ·omega
   ·rw[if_neg hdc]at hv
    by_cases hdr:d=r
    ·rw[if_pos hdr]at hv
     cases hv
     exact hp k c u y hk (by omega) hc hch hu hy
    ·rw[if_neg hdr]at hv
     exact h k d u v hk hkr hd hdh hu hv
 ·rw[g]at hu hv
  have hkr:k=r:=by omega
  rw[if_neg (by omega),if_pos hkr]at hu
  cases hu
  rw[if_neg (by omega),if_neg (by omega)]at hv
  exact h c d y v (by omega) (by omega) hd hdh hy hv
end
end Go.Am
set_option maxRecDepth 100000
set_option maxHeartbeats 8000000
namespace Go.Am
open Sx Go.Proofs Tw
def OwnL.set{α:Type}{n0 e:Nat}{enc:α->List Value}{l:List α}{h:HL}{v:Value}(henc:∀a,(enc a).length=e)(ho:OwnL n0 h v e enc l){i:Nat}{a:α}{n:Int}{new:List Value}{K:List Value->HL->Prop}(hn:n=Int.ofNat i)(hi:i<l.length)(hnew:new=enc a)
  (hk:∀h',OwnL n0 h' v e enc (l.set i a)->(∀(j:Nat) o,h[j]?=some o->Sx.blk v≠some j->h'[j]?=some o)->h'.length=h.length->K [] h'):P1.opt (idS e v n) (@hid _ ⟨λx=>P1.heap (.st x new) h (@hid _ ⟨K⟩)⟩):=by
 rcases ho with⟨rfl,rfl⟩|⟨id,cx,rfl,h1,h2,h3⟩
 ·simp at hi
 ·have hp:putE h id e enc l=h:=by
   unfold putE
   exact lE h2
  have:=r_set (C:=cc) (Sg:=ab) (T:=aa) (h:=h) (id:=id) (cx:=cx) (len:=l.length) (l:=l) (K:=K) henc (bV h2) hn hi rfl hnew (hk (putE h id e enc (l.set i a)) (.inr ⟨id,cx,by rw[qcE],h1,oF (bV h2),by rw[qcE];exact h3⟩) (λj o hj hb=>by
   unfold putE
   rw[qaB (λe=>hb (by subst e;rfl))]
   exact hj) (by simp[putE]))
  rw[hp]at this
  exact this
def quad(c:Sq):List K3:=[(c.1,c.2,0),(c.1,c.2,1),(c.1,c.2,2),(c.1,c.2,3)]
def oJ{c:Sq}{a:K3}:a∈quad c↔(a.1,a.2.1)=c/\a.2.2<4:=by
 obtain⟨x,y,q⟩:=a
 obtain⟨u,v⟩:=c
 simp only[quad,qaq,qcc,or_false,qcl]
 omega
def quad_take{c:Sq}{q:Nat}(hq:q<4):(quad c).take (q+1)=(quad c).take q++[(c.1,c.2,q)]:=by
 have:q=0∨q=1∨q=2∨q=3:=by omega
 rcases this with rfl|rfl|rfl|rfl<;>rfl
def ly(L:List Sq):(L.flatMap quad).length=4*L.length:=by
 induction L with
 |nil=>rfl
 |cons a L ih=>rw[qbp,qaI,ih,qbg];show 4+_=_;omega
def quads_nd{L:List Sq}(h:L.Nodup):(L.flatMap quad).Nodup:=by
 induction L with
 |nil=>simp
 |cons a L ih=>
  rw[qbV]at h
  rw[qbp,qca]
  refine⟨by simp[quad],ih h.2,?_⟩
  intro x hx y hy e
  subst e
  obtain⟨b,hb,hxb⟩:=qbP.1 hy
  rw[oJ]at hx hxb
  exact h.1 (hx.1.symm.trans hxb.1▸hb)
def lz{L:List Sq}{a:K3}:a∈L.flatMap quad↔(a.1,a.2.1)∈L/\a.2.2<4:=by
 rw[qbP]
 constructor
 ·rintro⟨c,hc,h⟩
  rw[oJ]at h
  exact⟨h.1▸hc,h.2⟩
 ·rintro⟨h1,h2⟩
  exact⟨_,h1,oJ.2 ⟨rfl,h2⟩⟩
def keyC(a:K3):Int:=(a.2.1*1000+a.1)*4+Int.ofNat a.2.2
def inC(a:K3):Prop:=(-100<=a.1/\a.1<=100)/\(-100<=a.2.1/\a.2.1<=100)/\a.2.2<4
def ltC3(a b:K3):Prop:=a.2.1<b.2.1∨(a.2.1=b.2.1/\(a.1<b.1∨(a.1=b.1/\a.2.2<b.2.2)))
instance (a b : K3) : Decidable (ltC3 a b) := by unfold ltC3; exact inferInstance
def key_lt{a b:K3}(ha:inC a)(hb:inC b):keyC a<keyC b↔ltC3 a b:=by
 obtain⟨⟨a1,a2⟩,⟨a3,a4⟩,a5⟩:=ha
 obtain⟨⟨b1,b2⟩,⟨b3,b4⟩,b5⟩:=hb
 unfold keyC ltC3
 show(a.2.1*1000+a.1)*4+((a.2.2:Nat):Int)<(b.2.1*1000+b.1)*4+((b.2.2:Nat):Int)↔_
 omega
def before_c{a b:K3}(ha:inC a)(hb:inC b){p q r p' q' r':Int}(h1:p=a.1/\q=a.2.1/\r=Int.ofNat a.2.2)(h2:p'=b.1/\q'=b.2.1/\r'=Int.ofNat b.2.2):Cc 10 [.i p,.i q,.i r,.i p',.i q',.i r'] [.b (decide (keyC a<keyC b))]:=by
 obtain⟨rfl,rfl,rfl⟩:=h1
 obtain⟨rfl,rfl,rfl⟩:=h2
 rw[show decide (keyC a<keyC b)=decide (ltC3 a b)from decide_eq_decide.2 (key_lt ha hb)]
 have hq:∀u w:Nat,(Int.ofNat u<Int.ofNat w)=(u<w):=λu w=>by
  show((u:Int)<(w:Int))=_
  simp
 refine q10 rfl ?_;unfold f10;simp only[qxh]
 unfold ltC3
 by_cases hy:a.2.1=b.2.1
 ·by_cases hx:a.1=b.1
  ·by_cases hz:a.2.2<b.2.2
   ·have hz':Int.ofNat a.2.2<Int.ofNat b.2.2:=by rw[hq];exact hz
    simp(disch:=omega)only[↓qXX]
    simp[hx,hy,hz]
   ·have hz':¬Int.ofNat a.2.2<Int.ofNat b.2.2:=by rw[hq];exact hz
    simp(disch:=omega)only[↓qXX]
    simp[hx,hy,hz]
  ·by_cases hz:a.1<b.1
   ·simp(disch:=omega)only[↓qXX]
    simp[hx,hy,hz]
   ·simp(disch:=omega)only[↓qXX]
    simp[hx,hy,hz]
 ·by_cases hz:a.2.1<b.2.1
  ·simp(disch:=omega)only[↓qXX]
   simp[hy,hz]
  ·simp(disch:=omega)only[↓qXX]
   simp[hy,hz]
structure SetOf(L:List Sq)(D:List K3):Prop where
 perm:D.Perm (L.flatMap quad)
 srt:∀(i j:Nat) x y,i<j->D[i]?=some x->D[j]?=some y->ltC3 x y
def SetOf.mem{L:List Sq}{D:List K3}(h:SetOf L D){a:K3}:a∈D↔(a.1,a.2.1)∈L/\a.2.2<4:=h.perm.mem_iff.trans lz
def SetOf.len{L:List Sq}{D:List K3}(h:SetOf L D):D.length=4*L.length:=h.perm.length_eq.trans (ly L)
def set_of{L:List Sq}{D:List K3}(hL:L.Nodup)(hb:∀c∈L,-100<=c.1/\c.1<=100/\-100<=c.2/\c.2<=100)(hp:D.Perm (L.flatMap quad))(hs:SS keyC 0 D.length D):SetOf L D:=by
 refine⟨hp,λi j x y hij hx hy=>?_⟩
 have hin:∀a∈D,inC a:=λa ha=>by
  have h:=lz.1 (hp.mem_iff.1 ha)
  have:=hb _ h.1
  exact⟨⟨this.1,this.2.1⟩,⟨this.2.2.1,this.2.2.2⟩,h.2⟩
 have hx':=hin x (qaf hx)
 have hy':=hin y (qaf hy)
 have hle:=hs i j x y (qbb _) hij (bV hy) hx hy
 rw[←key_lt hx' hy']
 have hne:x≠y:=by
  have hnd:D.Nodup:=hp.nodup_iff.2 (quads_nd hL)
  intro e
  subst e
  have h1:=bV hx
  have h2:=bV hy
  rw[qas h1]at hx
  rw[qas h2]at hy
  exact List.pairwise_iff_getElem.1 hnd i j h1 h2 hij ((qaj hx).trans (qaj hy).symm)
 have:¬keyC x=keyC y:=by
  intro e
  apply hne
  obtain⟨⟨a1,a2⟩,⟨a3,a4⟩,a5⟩:=hx'
  obtain⟨⟨b1,b2⟩,⟨b3,b4⟩,b5⟩:=hy'
  have e':(x.2.1*1000+x.1)*4+((x.2.2:Nat):Int)=(y.2.1*1000+y.1)*4+((y.2.2:Nat):Int):=e
  exact Prod.ext (by omega) (Prod.ext (by omega) (by omega))
 omega
def SetOk(H:HL)(L:List Sq)(rs:List Lf)(h':HL):Prop:=∃v D,rs=[.v v]/\SetOf L D/\OwnL H.length h' v 3 cc3 D/\Low H.length H h'/\H.length<=h'.length
def set_c{H:HL}{x:Value}{L:List Sq}(hG:LsH H x 3 cc3 (L.map sqC))(h0:0<L.length)(hn:L.length<=1000)(hnd:L.Nodup)(hb:∀c∈L,-100<=c.1/\c.1<=100/\-100<=c.2/\c.2<=100) :
  ∃rs h',aR cc ab 4 [.v x] (absH aa H) rs (absH aa h')/\SetOk H L rs h':=by
 exact x4 (K:=SetOk H L) (glsV hG.good gls0) (by
  unfold f4;simp only[qxh]
  simp(disch:=omega)only[↓qXX]
  refine em (σ:=Value×HL) L.length (λj s=>[.v s.1,.i (Int.ofNat j)]) (λ_ s=>s.2) (λj s=>OwnL H.length s.2 s.1 3 cc3 ((L.take j).flatMap quad)/\Low H.length H s.2/\H.length<=s.2.length) (j0:=0) (s0:=(.slice none 0 0,H)) rfl rfl (qbb _) ⟨OwnL.nil _ _ _ _,Low.refl H,qai _⟩ ?_
  rintro j ⟨v,h⟩ hj ⟨ho,hlow,hlen⟩ self hself
  simp only at ho hlow hlen hself
  have hGh:=hG.low hlow
  simp(disch:=omega)only[↓qXX]
  refine hZ hGh ?_
  rw[qaQ]
  by_cases hlt:j<L.length
  ·rw[eo hlt]
   simp(disch:=omega)only[↓qXX]
   obtain⟨c,hc⟩:=dj hlt
   refine em (σ:=Value×HL) 4 (λq s=>[.v s.1,.i (Int.ofNat q)]) (λ_ s=>s.2) (λq s=>OwnL H.length s.2 s.1 3 cc3 ((L.take j).flatMap quad++(quad c).take q)/\Low H.length H s.2/\H.length<=s.2.length) (j0:=0) (s0:=(v,h)) rfl rfl (qbb _) ⟨by simpa using ho,hlow,hlen⟩ ?_
   rintro q ⟨v2,h2⟩ hq ⟨ho2,hlow2,hlen2⟩ self2 hself2
   simp only at ho2 hlow2 hlen2 hself2
   have hG2:=hG.low hlow2
   simp(disch:=omega)only[↓qXX]
   by_cases hq4:q<4
   ·rw[p_lss_t (by show(q:Int)<4;omega)]
    simp(disch:=omega)only[↓qXX]
    refine tW (o:=0) (k:=1) (a:=sqC c) hG2 rfl (by rw[qaw,hc];rfl) rfl (by omega) ?_
    simp only[sqC,cc3,qaz,qax,qaL]
    simp(disch:=omega)only[↓qXX]
    refine tW (o:=1) (k:=1) (a:=sqC c) hG2 rfl (by rw[qaw,hc];rfl) rfl (by omega) ?_
    simp only[sqC,cc3,qaD,qaz,qax,qaL]
    simp(disch:=omega)only[↓qXX]
    refine ho2.ap1 (a:=(c.1,c.2,q)) cp hlen2 rfl rfl rfl (size3 ?_) λv' h' b1 b2 b3 b4 b5=>?_
    ·have:=ly (L.take j)
     rw[qaI,this,qa3,qa3]
     have:=Nat.min_le_left q (quad c).length
     omega
    simp(disch:=omega)only[↓qXX]
    refine av b2 ?_
    simp(disch:=omega)only[↓qXX]
    rw[p_add8 (by show(0:Int)<=(q:Int)+1;omega) (by show(q:Int)+1<=255;omega)]
    refine hself2 (v',h') hq4 ⟨?_,λi o hi hoo=>b3 i o (hlow2 i o hi hoo) λe=>?_,by show H.length<=h'.length;omega⟩
    ·rw[quad_take hq4,←qaH]
     exact b1
    ·have:=ho2.blk e
     omega
   ·obtain rfl:q=4:=by omega
    rw[p_lss_f (by show(4:Int)<=((4:Nat):Int);omega)]
    simp(disch:=omega)only[↓qXX]
    rw[eO (by omega)]
    refine hself (v2,h2) hlt ⟨?_,hlow2,hlen2⟩
    have e1:(L.take (j+1)).flatMap quad=(L.take j).flatMap quad++quad c:=by
     rw[List.take_add_one,hc,List.flatMap_append]
     simp
    rw[e1]
    exact ho2
  ·obtain rfl:j=L.length:=by omega
   rw[en (qai _)]
   simp(disch:=omega)only[↓qXX]
   rw[List.take_length]at ho
   have hD:=ly L
   refine em (σ:=HL×List K3) (4*L.length) (λi _=>[.i (Int.ofNat i)]) (λ_ s=>s.1) (λi s=>OwnL H.length s.1 v 3 cc3 s.2/\Low H.length H s.1/\H.length<=s.1.length/\s.2.Perm (L.flatMap quad)/\SS keyC 0 i s.2) (j0:=1) (s0:=(h,L.flatMap quad)) rfl rfl (by omega) ⟨ho,hlow,hlen,List.Perm.refl _,SS.one (by omega)⟩ ?_
   clear ho hlow hlen hself hGh
   rintro i ⟨h,D⟩ hi ⟨ho,hlow,hlen,hp,hs⟩ self hself
   simp only at ho hlow hlen hp hs hself
   have hDl:D.length=4*L.length:=hp.length_eq.trans hD
   simp(disch:=omega)only[↓qXX]
   refine ay ho.lenB ?_
   rw[hDl]
   by_cases hlt:i<4*L.length
   case neg=>
    obtain rfl:i=4*L.length:=by omega
    rw[en (qai _)]
    simp(disch:=omega)only[↓qXX]
    exact⟨v,D,rfl,set_of hnd hb hp (by rw[hDl];exact hs),ho,hlow,hlen⟩
   rw[eo hlt]
   simp only[p_cond_t]
   refine jU (λl' h'=>l'=[]/\∃D',OwnL H.length h' v 3 cc3 D'/\Low H.length H h'/\H.length<=h'.length/\D'.Perm (L.flatMap quad)/\SS keyC 0 (i+1) D') ?_ ?_
   ·rintro _ h' ⟨rfl,D',b1,b2,b3,b4,b5⟩
    simp(disch:=omega)only[↓qXX]
    rw[eO (by omega)]
    exact hself (h',D') hlt ⟨b1,b2,b3,b4,b5⟩
   ·intro jn hjn
    refine iL (m:=i) (λm ls h'=>∃k D',ls=[.i (Int.ofNat k)]/\k=m/\k<=i/\OwnL H.length h' v 3 cc3 D'/\Low H.length H h'/\H.length<=h'.length/\D'.Perm (L.flatMap quad)/\InsI keyC 0 i k D') ⟨i,D,rfl,rfl,qai _,ho,hlow,hlen,hp,InsI.start hs⟩ ?_
    clear ho hlow hlen hp hs hDl
    rintro m ls h' ⟨k,D',rfl,rfl,hki,ho,hlow,hlen,hp,hI⟩ self2 hself2
    have hDl:D'.length=4*L.length:=hp.length_eq.trans hD
    have hin:∀a∈D',inC a:=λa ha=>by
     have h:=lz.1 (hp.mem_iff.1 ha)
     have:=hb _ h.1
     exact⟨⟨this.1,this.2.1⟩,⟨this.2.2.1,this.2.2.2⟩,h.2⟩
    refine hidL ?_
    simp(disch:=omega)only[↓qXX]
    by_cases hk0:k=0
    ·subst hk0
     rw[p_gtr_f (by show((0:Nat):Int)<=0;omega)]
     simp(disch:=omega)only[↓qXX]
     exact hjn _ _ ⟨rfl,D',ho,hlow,hlen,hp,hI.done ⟨qai _,by omega⟩ (.inl rfl)⟩
    ·rw[p_gtr_t (by show(0:Int)<(k:Int);omega)]
     simp(disch:=omega)only[↓qXX]
     obtain⟨a,ha⟩:=dj (l:=D') (i:=k) (by omega)
     obtain⟨b,hb'⟩:=dj (l:=D') (i:=k - 1) (by omega)
     have hia:=hin a (qaf ha)
     have hib:=hin b (qaf hb')
     refine hU (ho.ls cp) rfl ha ?_
     simp only[cc3]
     simp(disch:=omega)only[↓qXX]
     rw[tU (by omega) (by omega)]
     refine hU (ho.ls cp) rfl hb' ?_
     simp only[cc3]
     simp(disch:=omega)only[↓qXX]
     refine dY (before_c (a:=a) (b:=b) hia hib ⟨rfl,rfl,rfl⟩ ⟨rfl,rfl,rfl⟩) ?_
     simp(disch:=omega)only[↓qXX]
     by_cases hlt2:keyC a<keyC b
     ·rw[decide_eq_true hlt2]
      simp(disch:=omega)only[↓qXX]
      rw[tU (by omega) (by omega)]
      try rw[tU (by omega) (by omega)]
      refine hU (ho.ls cp) rfl hb' ?_
      simp only[cc3]
      simp(disch:=omega)only[↓qXX]
      refine hU (ho.ls cp) rfl ha ?_
      simp only[cc3]
      simp(disch:=omega)only[↓qXX]
      refine ho.set (i:=k) (a:=b) cp rfl (by omega) rfl λh3 c1 c2 c3=>?_
      try simp(disch:=omega)only[↓qXX]
      refine c1.set (i:=k - 1) (a:=a) cp rfl (by rw[qcE];omega) rfl λh4 d1 d2 d3=>?_
      try simp(disch:=omega)only[↓qXX]
      try rw[tU (by omega) (by omega)]
      refine hself2 (k - 1) _ _ (by omega) ⟨k - 1,_,rfl,rfl,by omega,d1,λi' o hi' hoo=>d2 i' o (c2 i' o (hlow i' o hi' hoo) λe=>?_) λe=>?_,by omega,?_,hI.step ⟨by omega,hki⟩ ha hb' hlt2⟩
      ·have:=ho.blk e;omega
      ·have:=ho.blk e;omega
      ·exact(SP.swap (a:=0) (b:=4*L.length) ha hb' (by omega) (by omega)).1.trans hp
     ·rw[decide_eq_false hlt2]
      simp(disch:=omega)only[↓qXX]
      exact hjn _ _ ⟨rfl,D',ho,hlow,hlen,hp,hI.done ⟨qbb _,hki⟩ (.inr ⟨a,b,ha,hb',by omega⟩)⟩)
def cmpI(a b:Int):Int:=if a<b then -1 else if b<a then 1 else 0
def orI:List Int->Int
 | []=>0
 |a :: l=>if a=0 then orI l else a
def encQ(p:Int×Int):List Value:=[.int .i64 p.1,.int .i64 p.2]
def encQ_len(p:Int×Int):(encQ p).length=2:=rfl
def nan_c(a:Int):Cc 67 [.i a] [.b false]:=by
 refine q67 rfl ?_;unfold f67;simp only[qxh]
 simp(disch:=omega)only[↓qXX]
def cmp_c(a b:Int):Cc 59 [.i a,.i b] [.i (cmpI a b)]:=by
 refine q59 rfl ?_;unfold f59;simp only[qxh]
 repeat (first|simp(disch:=omega)only[↓qXX]|refine dY (nan_c a) ?_|refine dY (nan_c b) ?_)
 unfold cmpI
 by_cases h1:a<b
 ·simp(disch:=omega)only[↓qXX]
  simp[h1]
 ·by_cases h2:b<a
  ·simp(disch:=omega)only[↓qXX]
   simp[h1,h2]
  ·simp(disch:=omega)only[↓qXX]
   simp[h1,h2]
def orI_drop{l:List Int}{j:Nat}{a:Int}(ha:l[j]?=some a):orI (l.drop j)=if a=0 then orI (l.drop (j+1))else a:=by
 rw[qbk (bV ha)]
 have h1:l[j]'(bV ha)=a:=by rw[qas (bV ha)]at ha;exact qaj ha
 rw[h1]
 rfl
def ord_c{h:HL}{x:Value}{l:List (Int×Int)}(hl:LsH h x 2 encQ l)(hb:l.length<=1000) :
  aR cc ab 48 [.v x] (absH aa h) [.i (orI (l.map λp=>cmpI p.1 p.2))] (absH aa h):=by
 exact xK x48 (glsV hl.good gls0) (by
  unfold f48;simp only[qxh]
  simp(disch:=omega)only[↓qXX]
  refine hZ hl ?_
  refine ou l.length (λj=>orI (l.map λp=>cmpI p.1 p.2)=orI ((l.map λp=>cmpI p.1 p.2).drop j)) (j0:=0) rfl (qbb _) rfl ?_
  intro j hj he self hself
  simp(disch:=omega)only[↓qXX]
  by_cases hlt:j<l.length
  ·rw[eo hlt]
   simp(disch:=omega)only[↓qXX]
   obtain⟨p,hp⟩:=dj hlt
   refine hU hl rfl hp ?_
   unfold encQ
   repeat (first|simp(disch:=omega)only[↓qXX]|refine dY (cmp_c p.1 p.2) ?_)
   rw[orI_drop (a:=cmpI p.1 p.2) (by rw[qaw,hp];rfl)]at he
   by_cases h0:cmpI p.1 p.2=0
   ·rw[p_neq_f h0]
    simp(disch:=omega)only[↓qXX]
    rw[eO (by omega)]
    rw[if_pos h0]at he
    exact hself hlt he
   ·rw[p_neq_t h0]
    simp(disch:=omega)only[↓qXX]
    rw[if_neg h0]at he
    exact⟨by rw[he],by trivial⟩
  ·obtain rfl:j=l.length:=by omega
   rw[en (qai _)]
   simp(disch:=omega)only[↓qXX]
   refine⟨?_,by trivial⟩
   rw[he,qb1 (by rw[qaQ];exact qai _)]
   rfl)
def cell_c{x y q x' y' q':Int}(hq:0<=q/\q<=255)(hq':0<=q'/\q'<=255):Cc 37 [.i x,.i y,.i q,.i x',.i y',.i q'] [.i (orI [cmpI y y',cmpI x x',cmpI q q'])]:=by
 refine q37 rfl ?_;unfold f37;simp only[qxh]
 simp(disch:=omega)only[↓qXX]
 refine bf (h':=[]++[HO.o (.cells [.int .i64 y,.int .i64 y',.int .i64 x,.int .i64 x',.int .i64 q,.int .i64 q'] 2 true)]) (ord_c (l:=[(y,y'),(x,x'),(q,q')]) ?_ (by simp)) ?_
 ·exact newE_ls (h:=[]) (e:=2) (enc:=encQ) (l:=[(y,y'),(x,x'),(q,q')]) encQ_len (by rfl)
 ·simp(disch:=omega)only[↓qXX]
  rfl
def cell_lt{a b:K3}(ha:a.2.2<4)(hb:b.2.2<4)(h:ltC3 a b):Cc 37 [.i a.1,.i a.2.1,.i (Int.ofNat a.2.2),.i b.1,.i b.2.1,.i (Int.ofNat b.2.2)] [.i (-1)]:=by
 have hc:=cell_c (x:=a.1) (y:=a.2.1) (q:=Int.ofNat a.2.2) (x':=b.1) (y':=b.2.1) (q':=Int.ofNat b.2.2) (by show(0:Int)<=((a.2.2:Nat):Int)/\((a.2.2:Nat):Int)<=255;omega) (by show(0:Int)<=((b.2.2:Nat):Int)/\((b.2.2:Nat):Int)<=255;omega)
 have e:orI [cmpI a.2.1 b.2.1,cmpI a.1 b.1,cmpI (Int.ofNat a.2.2) (Int.ofNat b.2.2)] = -1:=by
  have e3:(Int.ofNat a.2.2<Int.ofNat b.2.2)=(a.2.2<b.2.2):=by
   show((a.2.2:Int)<(b.2.2:Int))=_
   simp
  unfold ltC3 at h
  simp only[orI,cmpI,e3]
  rcases h with h|⟨h1,h|⟨h2,h⟩⟩
  ·simp[h]
  ·simp[h1,h]
  ·simp[h1,h2,h]
 rw[e]at hc
 exact hc
abbrev cloW:Value:=.func (.func 46) ⟨[]⟩ ⟨[]⟩
def cchk_c{a:K3}(h:inC a):Cc 47 [.i a.1,.i a.2.1,.i (Int.ofNat a.2.2)] [.i 0]:=by
 obtain⟨⟨a1,a2⟩,⟨a3,a4⟩,a5⟩:=h
 have hq:Int.ofNat a.2.2<=3:=by show((a.2.2:Nat):Int)<=3;omega
 refine q47 rfl ?_;unfold f47;simp only[qxh]
 simp(disch:=omega)only[↓qXX]
def wrong1_c{a:K3}(h:inC a):Cc 46 [.i a.1,.i a.2.1,.i (Int.ofNat a.2.2)] [.b false]:=by
 refine q46 rfl ?_;unfold f46;simp only[qxh]
 simp(disch:=omega)only[↓qXX]
 refine dY (cchk_c h) ?_
 simp(disch:=omega)only[↓qXX]
def indexW_c{h:HL}{x:Value}{l:List K3}(hl:LsH h x 3 cc3 l)(hok:∀c∈l,inC c)(hn:l.length<=100000):aR cc ab 58 [.v x,.v cloW] (absH aa h) [.i (-1)] (absH aa h):=by
 exact xK x58 (glsV hl.good (glsV rfl gls0)) (by
  unfold f58;simp only[qxh]
  simp(disch:=omega)only[↓qXX]
  refine hZ hl ?_
  refine ou l.length (λ_=>True) rfl (qbb _) trivial ?_
  intro j hj _ self hself
  simp(disch:=omega)only[↓qXX]
  by_cases hlt:j<l.length
  ·rw[eo hlt]
   simp(disch:=omega)only[↓qXX]
   obtain⟨c,hc⟩:=dj hlt
   refine hU hl rfl hc ?_
   unfold cc3
   repeat (first|simp(disch:=omega)only[↓qXX]|refine iT (rU (wrong1_c (hok c (qaf hc)) _) rfl [.agg [.i .i64 c.1,.i .i64 c.2.1,.i .u8 (Int.ofNat c.2.2)]] rfl rfl) ?_)
   rw[eO (by omega)]
   exact hself hlt trivial
  ·rw[en (by omega)]
   simp(disch:=omega)only[↓qXX]
   exact⟨by trivial,by trivial⟩)
def wrong_c{h:HL}{x:Value}{l:List K3}(hl:LsH h x 3 cc3 l)(hok:∀c∈l,inC c)(hn:l.length<=100000):aR cc ab 36 [.v x] (absH aa h) [.b false] (absH aa h):=by
 have h1:=indexW_c hl hok hn
 have h3:aR cc ab 45 [.v x,.v cloW] (absH aa h) [.b false] (absH aa h):=xK x45 (glsV hl.good (glsV rfl gls0)) (by
  unfold f45;simp only[qxh]
  repeat (first|simp(disch:=omega)only[↓qXX]|refine bf h1 ?_)
  exact⟨by trivial,by trivial⟩)
 exact xK x36 (glsV hl.good gls0) (by
  unfold f36;simp only[qxh]
  repeat (first|simp(disch:=omega)only[↓qXX]|refine av rfl ?_|refine bf h3 ?_)
  exact⟨by trivial,by trivial⟩)
def scheck_c{h:HL}{x:Value}{l:List K3}(hl:LsH h x 3 cc3 l)(hok:∀c∈l,inC c)(hn:l.length<=1000)(hs:∀(i j:Nat) a b,i<j->l[i]?=some a->l[j]?=some b->ltC3 a b):aR cc ab 23 [.v x] (absH aa h) [.i 0] (absH aa h):=by
 exact xK x23 (glsV hl.good gls0) (by
  unfold f23;simp only[qxh]
  simp(disch:=omega)only[↓qXX]
  refine hZ hl ?_
  rw[p_gtr_f (by show(l.length:Int)<=1024;omega)]
  repeat (first|simp(disch:=omega)only[↓qXX]|refine bf (wrong_c hl hok (by omega)) ?_)
  refine iL (m:=l.length) (λm ls h'=>h'=h/\∃j:Nat,ls=[.i (Int.ofNat j)]/\1<=j/\m=l.length+1 - j/\j<=l.length+1) ⟨rfl,1,rfl,qai _,by omega,by omega⟩ ?_
  rintro m ls _ ⟨rfl,j,rfl,hj1,rfl,hj2⟩ self hself
  refine hidL ?_
  simp(disch:=omega)only[↓qXX]
  refine hZ hl ?_
  by_cases hlt:j<l.length
  ·rw[eo hlt]
   simp(disch:=omega)only[↓qXX]
   obtain⟨a,ha⟩:=dj (l:=l) (i:=j - 1) (by omega)
   obtain⟨b,hb⟩:=dj hlt
   rw[tU hj1 (by omega)]
   refine hU hl rfl ha ?_
   unfold cc3
   simp(disch:=omega)only[↓qXX]
   refine hU hl rfl hb ?_
   unfold cc3
   simp(disch:=omega)only[↓qXX]
   refine dY (cell_lt (hok a (qaf ha)).2.2 (hok b (qaf hb)).2.2 (hs (j - 1) j a b (by omega) ha hb)) ?_
   simp(disch:=omega)only[↓qXX]
   rw[eO (by omega)]
   exact hself _ _ _ (by omega) ⟨rfl,j+1,rfl,by omega,rfl,by omega⟩
  ·rw[en (by omega)]
   simp(disch:=omega)only[↓qXX]
   exact⟨by trivial,by trivial⟩)
def fO:aggT cc.P 30=some true:=by kernel_rfl
def ey:gV cc.P 10000 30=some kk3:=by kernel_rfl
def qK{H:HL}{x:Value}{L:List Sq}{D:List K3}(hD:SetOf L D)(hl:LsH H x 3 cc3 D)(hn:D.length<=1000) :
  ∃rs h',aR cc ab 13 [.v x] (absH aa H) rs (absH aa h')/\∃o ks,rs=[.v (.map (some H.length))]/\h'=H++[o]/\Set3 h' H.length ks/\ks.Nodup/\∀a,a∈ks↔∃c,c∈L/\a=sqC c:=by
 exact x13 (K:=λrs h'=>∃o ks,rs=[.v (.map (some H.length))]/\h'=H++[o]/\Set3 h' H.length ks/\ks.Nodup/\∀a,a∈ks↔∃c,c∈L/\a=sqC c) (glsV hl.good gls0) (by
  unfold f13;simp only[qxh]
  simp(disch:=omega)only[↓qXX]
  refine hZ hl ?_
  refine em (σ:=HO×List K3) D.length (λj _=>[.i (Int.ofNat j)]) (λ_ s=>H++[s.1]) (λj s=>Set3 (H++[s.1]) H.length s.2/\s.2.Nodup/\∀a,a∈s.2↔∃d i,i<j/\D[i]?=some d/\a=sqC (d.1,d.2.1)) (j0:=0) (s0:=(.o (.map [] 0),[])) rfl rfl (qbb _) ⟨⟨[],0,aT,rfl,λe he=>by cases he⟩,qc2,λa=>⟨λh=>(by cases h),λ⟨d,i,hi,_⟩=>(by omega)⟩⟩ ?_
  rintro j ⟨o,ks⟩ hj ⟨hs,hnd,hm⟩ self hself
  simp only at hs hnd hm hself
  simp(disch:=omega)only[↓qXX]
  by_cases hlt:j<D.length
  ·rw[eo hlt]
   simp(disch:=omega)only[↓qXX]
   obtain⟨d,hd⟩:=dj hlt
   refine hU (hl.pre (h':=H++[o]) ⟨_,rfl⟩) rfl hd ?_
   unfold cc3
   simp(disch:=omega)only[↓qXX]
   refine r_mu3 (kt:=30) fO ey hs (sqC (d.1,d.2.1)) λo' hs'=>?_
   have e1:(H++[o]).set H.length o'=H++[o']:=ea
   rw[e1]at hs' ⊢
   rw[eO (by omega)]
   generalize hke:(if sqC (d.1,d.2.1)∈ks then ks else ks++[sqC (d.1,d.2.1)])=ks' at hs'
   refine hself (o',ks') hlt ⟨hs',?_,λa=>?_⟩
   ·show ks'.Nodup
    rw[←hke]
    split
    ·exact hnd
    next hk=>
     rw[qca]
     refine⟨hnd,by simp,λa ha b hb=>?_⟩
     simp only[qao]at hb
     subst hb
     exact λe=>hk (e▸ha)
   ·show a∈ks'↔_
    rw[←hke]
    have e2:a∈(if sqC (d.1,d.2.1)∈ks then ks else ks++[sqC (d.1,d.2.1)])↔a∈ks∨a=sqC (d.1,d.2.1):=by
     split
     next hk=>
      exact⟨.inl,λh=>h.elim id λe=>e▸hk⟩
     ·simp
    rw[e2,hm]
    constructor
    ·rintro(⟨d',i,hi,h1,h2⟩|h)
     ·exact⟨d',i,by omega,h1,h2⟩
     ·exact⟨d,j,by omega,hd,h⟩
    ·rintro⟨d',i,hi,h1,h2⟩
     by_cases hij:i=j
     ·subst hij
      rw[hd]at h1
      cases h1
      exact .inr h2
     ·exact .inl ⟨d',i,by omega,h1,h2⟩
  ·obtain rfl:j=D.length:=by omega
   rw[en (qai _)]
   simp(disch:=omega)only[↓qXX]
   refine⟨o,ks,by trivial,by trivial,hs,hnd,λa=>(hm a).trans ⟨?_,?_⟩⟩
   ·rintro⟨d,i,_,h1,h2⟩
    exact⟨_,(hD.mem.1 (qaf h1)).1,h2⟩
   ·rintro⟨c,hc,h2⟩
    have hq:((c.1,c.2,0):K3)∈D:=hD.mem.2 ⟨hc,by show 0<4;omega⟩
    obtain⟨i,hi⟩:=qaZ hq
    exact⟨_,i,bV hi,hi,h2⟩)
def rS{c:Sq}{k:Nat}(hk:k<4)(hc:(-1000<=c.1/\c.1<=1000)/\-1000<=c.2/\c.2<=1000){q:Int}:Cc 15 [.i c.1,.i c.2,.i q,.i (Int.ofNat k)] [.i (bes c k).1,.i (bes c k).2,.i 0]:=by
 have hk':k=0∨k=1∨k=2∨k=3:=by omega
 refine q15 rfl ?_;unfold f15;simp only[qxh]
 rcases hk' with rfl|rfl|rfl|rfl
 ·try simp(disch:=omega)only[↓qXX]
  try refine ay (x:=()) (by kernel_rfl) ?_
  refine ay (x:=[.int .i64 1]) (by kernel_rfl) ?_
  simp(disch:=omega)only[↓qXX]
  try refine ay (x:=()) (by kernel_rfl) ?_
  refine ay (x:=[.int .i64 0]) (by kernel_rfl) ?_
  simp(disch:=omega)only[↓qXX]
  simp[bes]
  try omega
 ·try simp(disch:=omega)only[↓qXX]
  try refine ay (x:=()) (by kernel_rfl) ?_
  refine ay (x:=[.int .i64 0]) (by kernel_rfl) ?_
  simp(disch:=omega)only[↓qXX]
  try refine ay (x:=()) (by kernel_rfl) ?_
  refine ay (x:=[.int .i64 1]) (by kernel_rfl) ?_
  simp(disch:=omega)only[↓qXX]
  simp[bes]
  try omega
 ·try simp(disch:=omega)only[↓qXX]
  try refine ay (x:=()) (by kernel_rfl) ?_
  refine ay (x:=[.int .i64 (-1)]) (by kernel_rfl) ?_
  simp(disch:=omega)only[↓qXX]
  try refine ay (x:=()) (by kernel_rfl) ?_
  refine ay (x:=[.int .i64 0]) (by kernel_rfl) ?_
  simp(disch:=omega)only[↓qXX]
  simp[bes]
  try omega
 ·try simp(disch:=omega)only[↓qXX]
  try refine ay (x:=()) (by kernel_rfl) ?_
  refine ay (x:=[.int .i64 0]) (by kernel_rfl) ?_
  simp(disch:=omega)only[↓qXX]
  try refine ay (x:=()) (by kernel_rfl) ?_
  refine ay (x:=[.int .i64 (-1)]) (by kernel_rfl) ?_
  simp(disch:=omega)only[↓qXX]
  simp[bes]
  try omega
def bes_bd{c:Sq}{k:Nat}(hk:k<4){b:Int}(hc:(-b<=c.1/\c.1<=b)/\-b<=c.2/\c.2<=b):(-(b+1)<=(bes c k).1/\(bes c k).1<=b+1)/\-(b+1)<=(bes c k).2/\(bes c k).2<=b+1:=by
 have hk':k=0∨k=1∨k=2∨k=3:=by omega
 rcases hk' with rfl|rfl|rfl|rfl<;>simp only[bes]<;>omega
def Keys(L:List Sq)(ks:List K3):Prop:=ks.Nodup/\∀a,a∈ks↔∃c,c∈L/\a=sqC c
def Keys.sq{L:List Sq}{ks:List K3}(h:Keys L ks){c:Sq}:sqC c∈ks↔c∈L:=by
 rw[h.2]
 exact⟨λ⟨d,hd,e⟩=>lI e▸hd,λhc=>⟨c,hc,rfl⟩⟩
def Keys.len{L:List Sq}{ks:List K3}(h:Keys L ks)(hL:L.Nodup):ks.length=L.length:=by
 have h1:(L.map sqC).Nodup:=by
  exact List.pairwise_map.2 (List.Pairwise.imp (λh e=>h (lI e)) hL)
 have h2:=eA (a:=ks) (b:=L.map sqC) h.1 λa ha=>by
  obtain⟨c,hc,rfl⟩:=(h.2 a).1 ha
  exact qce hc
 have h3:=eA (a:=L.map sqC) (b:=ks) h1 λa ha=>by
  obtain⟨c,hc,rfl⟩:=qaK.1 ha
  exact(h.2 _).2 ⟨c,hc,rfl⟩
 simp only[qaQ]at h2 h3
 omega
abbrev cloK(b:Nat):Value:=.func (.func 24) ⟨[]⟩ ⟨[ptrB (b+1),ptrB (b+3),ptrB (b+4)]⟩
structure CS(b:Nat)(L:List Sq)(h:HL)(S:List Sq):Prop where
 al:∃ks,Set3 h b ks/\Keys L ks
 pa:h[b+1]?=some (.o (.cells [.map (some b)] 1 true))
 st:Set3 h (b+2) (S.map sqC)
 ps:h[b+3]?=some (.o (.cells [.map (some (b+2))] 1 true))
 pv:h[b+4]?=some (.o (.cells [cloK b] 1 true))
def CS.put{b:Nat}{L:List Sq}{h:HL}{S S':List Sq}(hc:CS b L h S){o:HO}(hs:Set3 (h.set (b+2) o) (b+2) (S'.map sqC)):CS b L (h.set (b+2) o) S':=by
 obtain⟨ks,h1,h2⟩:=hc.al
 exact⟨⟨ks,h1.keep λo' ho=>aI ho (by omega),h2⟩,aI hc.pa (by omega),hs,aI hc.ps (by omega),aI hc.pv (by omega)⟩
def seen_c{b:Nat}{L:List Sq}(hL:∀c∈L,(-100<=c.1/\c.1<=100)/\-100<=c.2/\c.2<=100):∀n,∀(c:Sq) (h:HL) (S:List Sq),CS b L h S->S.Nodup->(∀x∈S,x∈L)->((-200<=c.1/\c.1<=200)/\-200<=c.2/\c.2<=200)->free L S<=n->
  ∃rs h',aR cc ab 24 [.i c.1,.i c.2,.i 0,.v (ptrB (b+1)),.v (ptrB (b+3)),.v (ptrB (b+4))] (absH aa h) rs (absH aa h')/\rs=[]/\
   ∃S',CS b L h' S'/\Low b h h'/\h'.length=h.length/\(∀x∈S,x∈S')/\S'.Nodup/\(∀x∈S',x∈L)/\(c∈L->c∈S')/\∀x∈S',x∉S->∀k,k<4->bes x k∈L->bes x k∈S':=by
 intro n
 induction n using Nat.strongRecOn with
 |ind n ih=>
  intro c h S hS hnd hsub hc hf
  refine x24 (K:=λrs h'=>rs=[]/\∃S',CS b L h' S'/\Low b h h'/\h'.length=h.length/\(∀x∈S,x∈S')/\S'.Nodup/\(∀x∈S',x∈L)/\(c∈L->c∈S')/\∀x∈S',x∉S->∀k,k<4->bes x k∈L->bes x k∈S') (glsI (glsI (glsI (glsV (cg _) (glsV (cg _) (glsV (cg _) gls0)))))) ?_
  obtain⟨ks,hall,hkeys⟩:=hS.al
  unfold f24;simp only[qxh]
  simp(disch:=omega)only[↓qXX]
  refine dN (bX hS.pa) rfl ?_
  simp(disch:=omega)only[↓qXX]
  refine av rfl ?_
  simp(disch:=omega)only[↓qXX]
  refine r_lu3 (kt:=30) fO ey hall (sqC c) ?_
  simp(disch:=omega)only[↓qXX]
  by_cases hcL:c∈L
  case neg=>
   rw[decide_eq_false (λe=>hcL (hkeys.sq.1 e))]
   simp(disch:=omega)only[↓qXX,qco]
   exact⟨trivial,S,hS,Low.refl _,by trivial,λx hx=>hx,hnd,hsub,λe=>absurd e hcL,λx hx hn=>absurd hx hn⟩
  rw[decide_eq_true (hkeys.sq.2 hcL)]
  simp(disch:=omega)only[↓qXX,qa7]
  refine dN (bX hS.ps) rfl ?_
  simp(disch:=omega)only[↓qXX]
  refine av rfl ?_
  simp(disch:=omega)only[↓qXX]
  refine r_lu3 (kt:=30) fO ey hS.st (sqC c) ?_
  simp(disch:=omega)only[↓qXX]
  by_cases hcS:c∈S
  ·rw[decide_eq_true (gH.2 hcS)]
   simp(disch:=omega)only[↓qXX]
   exact⟨trivial,S,hS,Low.refl _,by trivial,λx hx=>hx,hnd,hsub,λ_=>hcS,λx hx hn=>absurd hx hn⟩
  rw[decide_eq_false (λe=>hcS (gH.1 e))]
  simp(disch:=omega)only[↓qXX]
  refine dN (bX hS.ps) rfl ?_
  simp(disch:=omega)only[↓qXX]
  refine av rfl ?_
  simp(disch:=omega)only[↓qXX]
  refine r_mu3 (kt:=30) fO ey hS.st (sqC c) λo ho=>?_
  rw[if_neg (λe=>hcS (gH.1 e))]at ho
  have ho':Set3 (h.set (b+2) o) (b+2) ((S++[c]).map sqC):=by rw[qbC];exact ho
  have hS1:=hS.put ho'
  have hf1:free L (S++[c])<free L S:=kM (λx hx=>qay _ hx) hcL hcS (qaC _ (by simp))
  have hnd1:(S++[c]).Nodup:=by
   rw[qca]
   refine⟨hnd,by simp,λa ha d hd=>?_⟩
   simp only[qao]at hd
   subst hd
   exact λe=>hcS (e▸ha)
  have hsub1:∀x∈S++[c],x∈L:=λx hx=>by
   rcases qaA.1 hx with hx|hx
   ·exact hsub x hx
   ·simp only[qao]at hx
    subst hx;exact hcL
  have hcb:=hL c hcL
  refine em (σ:=HL×List Sq) 4 (λj _=>[.i (Int.ofNat j)]) (λ_ s=>s.1) (λj s=>CS b L s.1 s.2/\Low b h s.1/\s.1.length=h.length/\(∀x∈S++[c],x∈s.2)/\s.2.Nodup/\(∀x∈s.2,x∈L)/\(∀x∈s.2,x∉S++[c]->∀k,k<4->bes x k∈L->bes x k∈s.2)/\∀k,k<j->bes c k∈L->bes c k∈s.2) (j0:=0) (s0:=(h.set (b+2) o,S++[c])) rfl rfl (qbb _) ⟨hS1,(Low.refl h).set (by omega) _,by simp,λx hx=>hx,hnd1,hsub1,λx hx hn=>absurd hx hn,λk hk=>by omega⟩ ?_
  rintro j ⟨h2,S2⟩ hj ⟨hS2,hlow,hlen,hin,hnd2,hsub2,hcl,hdone⟩ self hself
  simp only at hS2 hlow hlen hin hnd2 hsub2 hcl hdone hself
  simp(disch:=omega)only[↓qXX]
  by_cases hlt:j<4
  ·rw[p_lss_t (by show(j:Int)<4;omega)]
   simp(disch:=omega)only[↓qXX]
   refine dN (bX hS2.pv) rfl ?_
   simp(disch:=omega)only[↓qXX]
   refine av rfl ?_
   simp(disch:=omega)only[↓qXX]
   refine dY (rS (c:=c) hlt ⟨by omega,by omega⟩) ?_
   simp(disch:=omega)only[↓qXX]
   have hbb:=bes_bd hlt hcb
   obtain⟨rs,h3,hcall,rfl,S3,hS3,hlow3,hlen3,hin3,hnd3,hsub3,hc3,hcl3⟩:=ih (free L (S++[c])) (by omega) (bes c j) h2 S2 hS2 hnd2 hsub2 ⟨by omega,by omega⟩ (fA hin)
   refine iT (gO (args:=[.agg ⟨cc3 (sqC (bes c j))⟩]) hcall rfl [.agg [.i .i64 (bes c j).1,.i .i64 (bes c j).2,.i .u8 0],.leaf (.v (ptrB (b+1))),.leaf (.v (ptrB (b+3))),.leaf (.v (ptrB (b+4)))] rfl rfl rfl) ?_
   simp(disch:=omega)only[↓qXX]
   rw[eO (by omega)]
   refine hself (h3,S3) hlt ⟨hS3,hlow.trans hlow3,by show h3.length=h.length;omega,λx hx=>hin3 x (hin x hx),hnd3,hsub3,λx hx hn k hk hb=>?_,λk hk hb=>?_⟩
   ·by_cases hx2:x∈S2
    ·exact hin3 _ (hcl x hx2 hn k hk hb)
    ·exact hcl3 x hx hx2 k hk hb
   ·by_cases hkj:k=j
    ·subst hkj
     exact hc3 hb
    ·exact hin3 _ (hdone k (by omega) hb)
  ·obtain rfl:j=4:=by omega
   rw[p_lss_f (by show(4:Int)<=((4:Nat):Int);omega)]
   simp(disch:=omega)only[↓qXX]
   refine⟨trivial,S2,hS2,hlow,hlen,λx hx=>hin x (qay _ hx),hnd2,hsub2,λ_=>hin c (qaC _ (by simp)),λx hx hn k hk hb=>?_⟩
   by_cases hxc:x=c
   ·subst hxc
    exact hdone k hk hb
   ·exact hcl x hx (λe=>by
     rcases qaA.1 e with e|e
     ·exact hn e
     ·exact hxc (by simpa using e)) k hk hb
def check_c{H:HL}{x:Value}{L:List Sq}{D:List K3}(hl:LsH H x 3 cc3 D)(hD:SetOf L D)(h0:0<L.length)(hn:L.length<=200)(hnd:L.Nodup)(hcon:Con L)(hb:∀c∈L,(-100<=c.1/\c.1<=100)/\-100<=c.2/\c.2<=100) :
  ∃h',aR cc ab 12 [.v x] (absH aa H) [.i 0] (absH aa h')/\Low H.length H h'/\H.length<=h'.length:=by
 have hDl:=hD.len
 have hin:∀a∈D,inC a:=λa ha=>by
  have h:=hD.mem.1 ha
  have:=hb _ h.1
  exact⟨this.1,this.2,h.2⟩
 obtain⟨a0,ha0⟩:=dj (l:=D) (i:=0) (by omega)
 have hm0:=(hD.mem.1 (qaf ha0)).1
 have hb0:=hb _ hm0
 obtain⟨rs,h',e1,rfl,e2⟩:=x12 (ls:=[.v x]) (H:=H) (K:=λrs h'=>rs=[.i 0]/\Low H.length H h'/\H.length<=h'.length) (glsV hl.good gls0) (by
  unfold f12;simp only[qxh]
  repeat (first|simp(disch:=omega)only[↓qXX]|refine bf (scheck_c hl hin (by omega) hD.srt) ?_)
  refine hZ hl ?_
  rw[p_eql_f (by show((D.length:Nat):Int)≠0;omega)]
  simp(disch:=omega)only[↓qXX]
  obtain⟨rs,h1,hcall,o,ks,rfl,rfl,hset,hknd,hkm⟩:=qK hD hl (by omega)
  refine bf hcall ?_
  have hkeys:Keys L ks:=⟨hknd,hkm⟩
  simp(disch:=omega)only[↓qXX]
  have g0:(H++[o]).length=H.length+1:=by simp
  refine ic aT rfl ?_
  rw[ea,g0]
  try simp(disch:=omega)only[↓qXX]
  refine dN (bX (h:=H++[o]++[HO.o (.cells [.map (some H.length)] 1 true)]) (b:=H.length+1) (by rw[←g0];exact aT)) rfl ?_
  simp(disch:=omega)only[↓qXX]
  refine av rfl ?_
  simp(disch:=omega)only[↓qXX]
  have hset2:Set3 (H++[o]++[HO.o (.cells [.map (some H.length)] 1 true)]) H.length ks:=hset.keep λ_ ho=>aS ho
  refine r_len3 hset2 ?_
  simp(disch:=omega)only[↓qXX]
  rw[hkeys.len hnd]
  rw[p_mul (by show(-9223372036854775808:Int)<=4*(L.length:Int);omega) (by show 4*(L.length:Int)<=9223372036854775807;omega)]
  refine hZ (hl.pre (h':=H++[o]++[HO.o (.cells [.map (some H.length)] 1 true)]) ((Pre.refl H).app _ |>.app _)) ?_
  rw[p_neq_f (by show 4*(L.length:Int)=(D.length:Int);omega)]
  simp(disch:=omega)only[↓qXX]
  have hp1:(H++[o]++[HO.o (.cells [.map (some H.length)] 1 true)])[H.length+1]?=some (.o (.cells [.map (some H.length)] 1 true)):=by rw[←g0];exact aT
  have hP1:Pre H (H++[o]++[HO.o (.cells [.map (some H.length)] 1 true)]):=(Pre.refl H).app _ |>.app _
  have g1:(H++[o]++[HO.o (.cells [.map (some H.length)] 1 true)]).length=H.length+2:=by simp
  generalize H++[o]++[HO.o (.cells [.map (some H.length)] 1 true)]=h1 at *
  have g2:(h1++[HO.o (.map [] 0)]).length=H.length+3:=by simp[g1]
  rw[g1,g2]
  refine ic (vs:=[.map none]) (by rw[←g2];exact aT) rfl ?_
  rw[←g2,ea,g2]
  try simp(disch:=omega)only[↓qXX]
  have g3:(h1++[HO.o (.map [] 0)]++[HO.o (.cells [.map (some (H.length+2))] 1 true)]).length=H.length+4:=by simp[g1]
  have hS0:Set3 (h1++[HO.o (.map [] 0)]++[HO.o (.cells [.map (some (H.length+2))] 1 true)]) (H.length+2) []:=⟨[],0,aS (by rw[←g1];exact aT),rfl,λe he=>by cases he⟩
  have hA:Set3 (h1++[HO.o (.map [] 0)]++[HO.o (.cells [.map (some (H.length+2))] 1 true)]) H.length ks:=hset2.keep λ_ ho=>aS (aS ho)
  have hp1':(h1++[HO.o (.map [] 0)]++[HO.o (.cells [.map (some (H.length+2))] 1 true)])[H.length+1]?=some (.o (.cells [.map (some H.length)] 1 true)):=aS (aS hp1)
  have hp3:(h1++[HO.o (.map [] 0)]++[HO.o (.cells [.map (some (H.length+2))] 1 true)])[H.length+3]?=some (.o (.cells [.map (some (H.length+2))] 1 true)):=by rw[←g2];exact aT
  have hP2:Pre H (h1++[HO.o (.map [] 0)]++[HO.o (.cells [.map (some (H.length+2))] 1 true)]):=(hP1.app _).app _
  generalize h1++[HO.o (.map [] 0)]++[HO.o (.cells [.map (some (H.length+2))] 1 true)]=h2 at *
  clear hset2 hp1 hP1 g1 g2
  rw[g3]
  refine av rfl ?_
  refine ic (vs:=[.nilFunc]) (by rw[←g3];exact aT) rfl ?_
  rw[←g3,ea,g3]
  try simp(disch:=omega)only[↓qXX]
  have hv:(h2++[HO.o (.cells [cloK H.length] 1 true)])[H.length+4]?=some (.o (.cells [cloK H.length] 1 true)):=by rw[←g3];exact aT
  have hCS:CS H.length L (h2++[HO.o (.cells [cloK H.length] 1 true)]) []:=⟨⟨ks,hA.keep λ_ ho=>aS ho,hkeys⟩,aS hp1',hS0.keep λ_ ho=>aS ho,aS hp3,hv⟩
  have hP3:Pre H (h2++[HO.o (.cells [cloK H.length] 1 true)]):=hP2.app _
  refine dN (bX hv) rfl ?_
  simp(disch:=omega)only[↓qXX]
  refine av rfl ?_
  simp(disch:=omega)only[↓qXX]
  refine tW (o:=0) (k:=1) (a:=a0) (i:=0) (hl.pre hP3) rfl ha0 rfl (by omega) ?_
  simp only[cc3,qaz,qax,qaL]
  simp(disch:=omega)only[↓qXX]
  refine tW (o:=1) (k:=1) (a:=a0) (i:=0) (hl.pre hP3) rfl ha0 rfl (by omega) ?_
  simp only[cc3,qaD,qaz,qax,qaL]
  simp(disch:=omega)only[↓qXX]
  obtain⟨rs,h3,hcall,rfl,S3,hS3,hlow3,hlen3,hin3,hnd3,hsub3,hc3,hcl3⟩:=seen_c (b:=H.length) hb (free L []) (a0.1,a0.2.1) _ [] hCS qc2 (λx hx=>by cases hx) ⟨by omega,by omega⟩ (qai _)
  refine iT (gO (args:=[.agg ⟨cc3 (sqC (a0.1,a0.2.1))⟩]) hcall rfl [.agg [.i .i64 a0.1,.i .i64 a0.2.1,.i .u8 0],.leaf (.v (ptrB (H.length+1))),.leaf (.v (ptrB (H.length+3))),.leaf (.v (ptrB (H.length+4)))] rfl rfl rfl) ?_
  simp(disch:=omega)only[↓qXX]
  have hall:=con_all hcon hsub3 ⟨_,hc3 hm0⟩ λx hx k hk hb=>hcl3 x hx (by simp) k hk hb
  have hlenS:S3.length=L.length:=Nat.le_antisymm (eA hnd3 hsub3) (eA hnd hall)
  obtain⟨ks3,hall3,hkeys3⟩:=hS3.al
  refine dN (bX hS3.ps) rfl ?_
  simp(disch:=omega)only[↓qXX]
  refine av rfl ?_
  simp(disch:=omega)only[↓qXX]
  refine r_len3 hS3.st ?_
  simp(disch:=omega)only[↓qXX]
  refine dN (bX hS3.pa) rfl ?_
  simp(disch:=omega)only[↓qXX]
  refine av rfl ?_
  simp(disch:=omega)only[↓qXX]
  refine r_len3 hall3 ?_
  simp(disch:=omega)only[↓qXX]
  rw[qaQ,hlenS,hkeys3.len hnd]
  rw[p_neq_f rfl]
  simp(disch:=omega)only[↓qXX]
  refine⟨by trivial,λj o hj ho=>hlow3 j o hj (hP3.get ho),?_⟩
  rw[hlen3]
  exact hP3.len)
 exact⟨h',e1,e2⟩
def encS(z:Nat):List Value:=[.int .u8 (Int.ofNat z)]
def bG(z:Nat):(encS z).length=1:=rfl
def rem4{a:Nat}{K:Int->Prop}:P1.ari .rem .i64 (Int.ofNat a) 4 (@hid _ ⟨K⟩)=K (Int.ofNat (a%4)):=by
 rw[p_rem_nn (show(0:Int)<=Int.ofNat a from qbs a) (by omega)]
 rfl
def size1{n:Nat}(h:n<=1000000):cb n 1=true:=by
 unfold cb
 rw[qbh (by omega),qbh (by omega)];rfl
def waySl(d:Nat):Value:=.slice (some ⟨1000000+d,0,some 1⟩) (wayN d).length 0
def tt{d:Nat}(hd:d<4){K:Unit->Prop}{K2:List Value->Prop}(hK:K ()):P1.opt (inB 4 (Int.ofNat d)) (@hid _ ⟨K⟩):=by
 refine ay (x:=()) ?_ hK
 rw[inB_eq,if_pos ⟨qbs d,by show(d:Int)<((4:Nat):Int);omega⟩]
def qN{d:Nat}(hd:d<4):hP gl0 0 [(Int.ofNat d,1)] 1=some [waySl d]:=by
 have:d=0∨d=1∨d=2∨d=3:=by omega
 rcases this with rfl|rfl|rfl|rfl<;>rfl
def tq(d:Nat):aV (waySl d)=true:=by simp[waySl,aV,noLoc,aW,bW,bt,aU,aB]
def way_slG{d:Nat}(hd:d<4)(g:bp):slG cc 1 g (waySl d)=some ((wayN d).flatMap encS,(wayN d).length):=by
 have h0:cc.G 1000000=some gl4:=by kernel_rfl
 have h1:cc.G 1000001=some gl5:=by kernel_rfl
 have h2:cc.G 1000002=some gl6:=by kernel_rfl
 have h3:cc.G 1000003=some gl7:=by kernel_rfl
 have:d=0∨d=1∨d=2∨d=3:=by omega
 rcases this with rfl|rfl|rfl|rfl
 ·show(((cc.G 1000000).bind λvs=>cut vs 0 (1*1)).map λx=>(x,1))=_
  rw[h0];rfl
 ·show(((cc.G 1000001).bind λvs=>cut vs 0 (3*1)).map λx=>(x,3))=_
  rw[h1];rfl
 ·show(((cc.G 1000002).bind λvs=>cut vs 0 (2*1)).map λx=>(x,2))=_
  rw[h2];rfl
 ·show(((cc.G 1000003).bind λvs=>cut vs 0 (3*1)).map λx=>(x,3))=_
  rw[h3];rfl
abbrev cloV(bw b:Nat):Value:=.func (.func 14) ⟨[]⟩ ⟨[ptrB (b+1),ptrB bw,ptrB (b+3),ptrB (b+2),ptrB (b+4)]⟩
structure WS(bw b:Nat)(L:List Sq)(h:HL)(s:TS)(x:Value):Prop where
 lt:bw<b
 mp:∃ks,Set3 h b ks/\ks.Nodup/\∀a,a∈ks↔∃c,c∈L/\c∉s.been/\a=sqC c
 pl:h[b+1]?=some (.o (.cells [.map (some b)] 1 true))
 pw:h[bw]?=some (.o (.cells [x] 1 true))
 ow:OwnL (b+5) h x 1 encS s.steps
 ph:h[b+2]?=some (.o (.cells [.int .i64 (.ofNat s.head)] 1 true))
 pt:h[b+3]?=some (.o (.cells [.int .i64 (.ofNat s.last)] 1 true))
 pv:h[b+4]?=some (.o (.cells [cloV bw b] 1 true))
 ln:b+5<=h.length
section
variable {bw b:Nat} {L:List Sq} {h:HL} {s:TS} {x:Value}
def WS.has(hw:WS bw b L h s x):∃ks,Set3 h b ks/\∀c,sqC c∈ks↔c∈L/\c∉s.been:=by
 obtain⟨ks,h1,_,h2⟩:=hw.mp
 exact⟨ks,h1,λc=>(h2 _).trans ⟨λ⟨d,h3,h4,e⟩=>lI e▸⟨h3,h4⟩,λ⟨h3,h4⟩=>⟨c,h3,h4,rfl⟩⟩⟩
def WS.go(hw:WS bw b L h s x){k:Nat}{h':HL}{x':Value}(ho:OwnL (b+5) h' x' 1 encS (s.steps++wayN ((k+4 - s.head)%4)))(hk:∀(j:Nat) o,h[j]?=some o->blk x≠some j->h'[j]?=some o)(hl:h.length<=h'.length) :
  WS bw b L ((h'.set bw (.o (.cells [x'] 1 true))).set (b+2) (.o (.cells [.int .i64 (.ofNat k)] 1 true))) (goT s k) x':=by
 have hlt:=hw.lt
 have hln:=hw.ln
 have old:∀(j:Nat) o,j<b+5->h[j]?=some o->h'[j]?=some o:=λj o hj ho'=>hk j o ho' λe=>by
  have:=(hw.ow.blk e).1
  omega
 obtain⟨ks,m1,m2,m3⟩:=hw.mp
 refine⟨hlt,⟨ks,(m1.keep λo ho'=>aI (aI (old _ _ (by omega) ho') (by omega)) (by omega)),m2,m3⟩,aI (aI (old _ _ (by omega) hw.pl) (by omega)) (by omega),aI (gt (old _ _ (by omega) hw.pw)) (by omega),?_,gt (aI (old _ _ (by omega) hw.ph) (by omega)),aI (aI (old _ _ (by omega) hw.pt) (by omega)) (by omega),aI (aI (old _ _ (by omega) hw.pv) (by omega)) (by omega),by simp;omega⟩
 refine ho.keep λj o hj hb=>?_
 have:=(ho.blk hb).1
 exact aI (aI hj (by omega)) (by omega)
def WS.go_low(hw:WS bw b L h s x){h':HL}{o1 o2:HO}(hk:∀(j:Nat) o,h[j]?=some o->blk x≠some j->h'[j]?=some o):Low bw h ((h'.set bw o1).set (b+2) o2):=by
 have hlt:=hw.lt
 intro j o hj ho
 refine aI (aI (hk j o ho λe=>?_) (by omega)) (by omega)
 have:=(hw.ow.blk e).1
 omega
def WS.vis(hw:WS bw b L h s x){c:Sq}{ks:List K3}(hks:ks.Nodup/\∀a,a∈ks↔∃c,c∈L/\c∉s.been/\a=sqC c){h':HL}(h1:h'=h∨∃o,h'=h.set b o)(h2:Set3 h' b (ks.erase (sqC c))) :
  WS bw b L (h'.set (b+3) (.o (.cells [.int .i64 (.ofNat s.steps.length)] 1 true))) (inT s c) x/\Low bw h (h'.set (b+3) (.o (.cells [.int .i64 (.ofNat s.steps.length)] 1 true))):=by
 have hlt:=hw.lt
 have hln:=hw.ln
 have old:∀(j:Nat) o,j≠b->h[j]?=some o->h'[j]?=some o:=λj o hj ho=>by
  rcases h1 with rfl|⟨o',rfl⟩
  ·exact ho
  ·exact aI ho (by omega)
 have hlen:h'.length=h.length:=by
  rcases h1 with rfl|⟨o',rfl⟩
  ·rfl
  ·simp
 refine⟨⟨hlt,⟨ks.erase (sqC c),h2.keep λo ho'=>aI ho' (by omega),hks.1.erase _,λa=>?_⟩,aI (old _ _ (by omega) hw.pl) (by omega),aI (old _ _ (by omega) hw.pw) (by omega),?_,aI (old _ _ (by omega) hw.ph) (by omega),gt (old _ _ (by omega) hw.pt),aI (old _ _ (by omega) hw.pv) (by omega),by simp;omega⟩,λj o hj ho=>aI (old j o (by omega) ho) (by omega)⟩
 ·rw[hks.1.mem_erase_iff,hks.2]
  constructor
  ·rintro⟨hne,d,hd,hn,rfl⟩
   refine⟨d,hd,λhm=>?_,rfl⟩
   rcases qaA.1 hm with hm|hm
   ·exact hn hm
   ·simp only[qao]at hm
    exact hne (hm▸rfl)
  ·rintro⟨d,hd,hn,rfl⟩
   refine⟨λe=>hn (qaC _ ?_),d,hd,λhm=>hn (qay _ hm),rfl⟩
   rw[lI e]
   exact List.mem_singleton_self _
 ·refine hw.ow.keep λj o hj hb=>?_
  have:=(hw.ow.blk hb).1
  exact aI (old j o (by omega) hj) (by omega)
end
def sub4{a b:Nat}(hb:b<4)(ha:a<=100):Int.ofNat a - Int.ofNat b+4=Int.ofNat (a+4 - b):=by
 show((a:Nat):Int) - ((b:Nat):Int)+4=((a+4 - b:Nat):Int)
 omega
def walk1_c{bw b:Nat}{L:List Sq}(hL:∀c∈L,(-100<=c.1/\c.1<=100)/\-100<=c.2/\c.2<=100)(hLn:L.length<=1000):∀n,∀(c:Sq) (h:HL) (s:TS) (x:Value),WS bw b L h s x->Ev L s s->s.steps.length<=6*s.been.length->c∈L->c∉s.been->free L s.been<=n->
  ∃rs h',aR cc ab 14 [.i c.1,.i c.2,.i 0,.v (ptrB (b+1)),.v (ptrB bw),.v (ptrB (b+3)),.v (ptrB (b+2)),.v (ptrB (b+4))] (absH aa h) rs (absH aa h')/\rs=[]/\
   ∃x',WS bw b L h' (visT L n c s) x'/\Low bw h h':=by
 intro n
 induction n with
 |zero=>
  intro c h s x _ _ _ hc hn hf
  have:=kM (L:=L) (b:=s.been) (b':=s.been++[c]) (λx hx=>qay _ hx) hc hn (qaC _ (by simp))
  omega
 |succ n ih=>
  intro c h s x hw hev hbd hc hn hf
  refine x14 (K:=λrs h'=>rs=[]/\∃x',WS bw b L h' (visT L (n+1) c s) x'/\Low bw h h') (glsI (glsI (glsI (glsV (cg _) (glsV (cg _) (glsV (cg _) (glsV (cg _) (glsV (cg _) gls0)))))))) ?_
  have hlt:=hw.lt
  have hsm:=hev.small
  have hcb:=hL c hc
  obtain⟨ks,hset,hks⟩:=hw.mp
  unfold f14;simp only[qxh]
  simp(disch:=omega)only[↓qXX]
  refine dN (bX hw.pl) rfl ?_
  simp(disch:=omega)only[↓qXX]
  refine av rfl ?_
  simp(disch:=omega)only[↓qXX]
  refine r_de3 (kt:=30) fO ey hset (sqC c) λh1 e1 hs1=>?_
  obtain⟨hw1,hlow1⟩:=hw.vis hks e1 hs1
  have hpw1:h1[bw]?=some (.o (.cells [x] 1 true)):=by
   rcases e1 with rfl|⟨o',rfl⟩
   ·exact hw.pw
   ·exact aI hw.pw (by omega)
  have hpt1:h1[b+3]?=some (.o (.cells [.int .i64 (.ofNat s.last)] 1 true)):=by
   rcases e1 with rfl|⟨o',rfl⟩
   ·exact hw.pt
   ·exact aI hw.pt (by omega)
  refine dN (bX hpw1) rfl ?_
  simp(disch:=omega)only[↓qXX]
  refine av (hw.ow.good bG) ?_
  simp(disch:=omega)only[↓qXX]
  refine ay hw.ow.lenB ?_
  refine ic hpt1 rfl ?_
  try simp(disch:=omega)only[↓qXX]
  generalize h1.set (b+3) (.o (.cells [.int .i64 (.ofNat s.steps.length)] 1 true))=h2 at *
  clear hset hks hpw1 hpt1 hs1 e1
  have hev1:=in_ev hev hc hn
  have hfr1:=rn (L:=L) (s:=s) hc hn
  have hbd1:(inT s c).steps.length+6<=6*(inT s c).been.length:=by
   show s.steps.length+6<=6*(s.been++[c]).length
   simp;omega
  refine em (σ:=HL×Value) 4 (λj _=>[.i (Int.ofNat j)]) (λ_ s=>s.1) (λj t=>WS bw b L t.1 (rnds (visT L n) L c (inT s c) j) t.2/\Low bw h t.1) (j0:=0) (s0:=(h2,x)) rfl rfl (qbb _) ⟨hw1,hlow1⟩ ?_
  rintro j ⟨h3,x3⟩ hj ⟨hw3,hlow3⟩ self hself
  simp only at hw3 hlow3 hself
  have hev3:=oK (nr L n) (c:=c) hev1 (by omega) j hj
  have hbd3:(rnds (visT L n) L c (inT s c) j).steps.length+6<=6*(rnds (visT L n) L c (inT s c) j).been.length:=by
   have:=hev3.le
   omega
  simp(disch:=omega)only[↓qXX]
  by_cases hj4:j<4
  case neg=>
   obtain rfl:j=4:=by omega
   rw[p_lss_f (by show(4:Int)<=((4:Nat):Int);omega)]
   simp(disch:=omega)only[↓qXX]
   exact⟨trivial,x3,hw3,hlow3⟩
  rw[p_lss_t (by show(j:Int)<4;omega)]
  have hstep:∀(h':HL) (x':Value),WS bw b L h' (rndT (visT L n) L c (rnds (visT L n) L c (inT s c) j) j) x'->Low bw h h'->self [.i (Int.ofNat j+1)] h':=λh' x' a1 a2=>hself (h',x') hj4 ⟨a1,a2⟩
  have hfj:free L (rnds (visT L n) L c (inT s c) j).been<=n:=qbH (fA λy hy=>hev3.mem hy) (by omega)
  generalize rnds (visT L n) L c (inT s c) j=t at *
  clear hself hw1 hlow1 hev1 hbd1
  simp only[p_cond_t]
  refine jU (λl' h'=>l'=[]/\∃x',WS bw b L h' (rndT (visT L n) L c t j) x'/\Low bw h h') ?_ ?_
  ·rintro _ h' ⟨rfl,x',a1,a2⟩
   simp(disch:=omega)only[↓qXX]
   rw[eO (by omega)]
   exact hstep h' x' a1 a2
  intro jn hjn
  simp(disch:=omega)only[↓qXX]
  refine dY (rS (c:=c) hj4 ⟨by omega,by omega⟩) ?_
  simp(disch:=omega)only[↓qXX]
  obtain⟨ks,hset,hks⟩:=hw3.has
  refine dN (bX hw3.pl) rfl ?_
  simp(disch:=omega)only[↓qXX]
  refine av rfl ?_
  simp(disch:=omega)only[↓qXX]
  refine r_lu3 (kt:=30) fO ey hset (sqC (bes c j)) ?_
  simp(disch:=omega)only[↓qXX]
  by_cases hnew:bes c j∈L/\bes c j∉t.been
  case neg=>
   rw[decide_eq_false (λe=>hnew ((hks _).1 e))]
   simp(disch:=omega)only[↓qXX,qco]
   exact hjn _ _ ⟨rfl,x3,by unfold rndT;rw[if_neg hnew];exact hw3,hlow3⟩
  rw[decide_eq_true ((hks _).2 hnew)]
  simp(disch:=omega)only[↓qXX,qa7]
  unfold rndT at hjn
  rw[if_pos hnew]at hjn
  have hev4:=hev3.self
  have hsm4:=hev4.small
  have hhd:=hev4.hd
  refine dN (bX hw3.pw) rfl ?_
  simp(disch:=omega)only[↓qXX]
  refine av (hw3.ow.good bG) ?_
  simp(disch:=omega)only[↓qXX]
  refine dN (bX hw3.ph) rfl ?_
  simp(disch:=omega)only[↓qXX]
  rw[p_sub (by show(-9223372036854775808:Int)<=((j:Nat):Int) - ((t.head:Nat):Int);omega) (by show((j:Nat):Int) - ((t.head:Nat):Int)<=9223372036854775807;omega),p_add (by show(-9223372036854775808:Int)<=((j:Nat):Int) - ((t.head:Nat):Int)+4;omega) (by show((j:Nat):Int) - ((t.head:Nat):Int)+4<=9223372036854775807;omega),sub4 hhd (by omega),rem4]
  have hd4:(j+4 - t.head)%4<4:=qbK _ (by omega)
  refine tt (K2:=λ_=>True) hd4 ?_
  refine ay (qN hd4) ?_
  simp(disch:=omega)only[↓qXX]
  refine av (tq _) ?_
  simp(disch:=omega)only[↓qXX]
  have hw4len:=(tr ((j+4 - t.head)%4)).2.2.1
  refine hw3.ow.ap (k:=(wayN ((j+4 - t.head)%4)).length) (new:=wayN ((j+4 - t.head)%4)) bG hw3.ln (way_slG hd4 _) rfl (size1 (by omega)) λx4 h4 b1 b2 b3 b4 b5=>?_
  simp(disch:=omega)only[↓qXX]
  refine av b2 ?_
  simp(disch:=omega)only[↓qXX]
  have hw5:=hw3.go (k:=j) b1 b3 b4
  have hlow5:=hlow3.trans (hw3.go_low (o1:=.o (.cells [x4] 1 true)) (o2:=.o (.cells [.int .i64 (.ofNat j)] 1 true)) b3)
  have old4:∀(i:Nat) o,i<b+5->h3[i]?=some o->h4[i]?=some o:=λi o hi ho=>b3 i o ho λe=>by
   have:=(hw3.ow.blk e).1
   omega
  refine ic (old4 _ _ (by omega) hw3.pw) rfl ?_
  try simp(disch:=omega)only[↓qXX]
  refine ic (aI (old4 _ _ (by omega) hw3.ph) (by omega)) rfl ?_
  try simp(disch:=omega)only[↓qXX]
  generalize (h4.set bw (.o (.cells [x4] 1 true))).set (b+2) (.o (.cells [.int .i64 (.ofNat j)] 1 true))=h5 at *
  clear old4 b1 b2 b3 b4 b5 hset hks
  refine dN (bX hw5.pv) rfl ?_
  simp(disch:=omega)only[↓qXX]
  refine av rfl ?_
  simp(disch:=omega)only[↓qXX]
  obtain⟨g1,g2,g3,g4,g5,g6⟩:=go_ev hev4 hj4
  have hev5:Ev L (goT t j) (goT t j):=⟨⟨[],by simp⟩,hev4.nd,hev4.sub,g6,g3,g4,g5,qai _⟩
  have hbd5:(goT t j).steps.length<=6*(goT t j).been.length:=by
   rw[g1]
   omega
  have hev6:=(nr L n (bes c j) (goT t j) hev5 hnew.1 hnew.2 hfj).1
  have hbd6:(visT L n (bes c j) (goT t j)).steps.length<=6*(visT L n (bes c j) (goT t j)).been.length:=by
   have:=hev6.le
   omega
  have key:=ih (bes c j) h5 (goT t j) x4 hw5 hev5 hbd5 hnew.1 hnew.2 hfj
  obtain⟨rs,h6,hcall,rfl,x6,hw6,hlow6⟩:=key
  refine iT (gO (args:=[.agg ⟨cc3 (sqC (bes c j))⟩]) hcall rfl [.agg [.i .i64 (bes c j).1,.i .i64 (bes c j).2,.i .u8 0],.leaf (.v (ptrB (b+1))),.leaf (.v (ptrB bw)),.leaf (.v (ptrB (b+3))),.leaf (.v (ptrB (b+2))),.leaf (.v (ptrB (b+4)))] rfl rfl rfl) ?_
  simp(disch:=omega)only[↓qXX]
  have hsm6:=hev6.small
  have hhd6:=hev6.hd
  generalize visT L n (bes c j) (goT t j)=u at *
  have hlow6':=hlow5.trans hlow6
  clear hw5 hev5 ih
  have e2:Int.ofNat j+2=Int.ofNat (j+2):=rfl
  rw[p_add (by show(-9223372036854775808:Int)<=((j:Nat):Int)+2;omega) (by show((j:Nat):Int)+2<=9223372036854775807;omega),e2,rem4]
  have hk4:(j+2)%4<4:=qbK _ (by omega)
  generalize (j+2)%4=k at *
  refine dN (bX hw6.pw) rfl ?_
  simp(disch:=omega)only[↓qXX]
  refine av (hw6.ow.good bG) ?_
  simp(disch:=omega)only[↓qXX]
  refine dN (bX hw6.ph) rfl ?_
  simp(disch:=omega)only[↓qXX]
  rw[p_sub (by show(-9223372036854775808:Int)<=((k:Nat):Int) - ((u.head:Nat):Int);omega) (by show((k:Nat):Int) - ((u.head:Nat):Int)<=9223372036854775807;omega),p_add (by show(-9223372036854775808:Int)<=((k:Nat):Int) - ((u.head:Nat):Int)+4;omega) (by show((k:Nat):Int) - ((u.head:Nat):Int)+4<=9223372036854775807;omega),sub4 hhd6 (by omega),rem4]
  have hd4':(k+4 - u.head)%4<4:=qbK _ (by omega)
  refine tt (K2:=λ_=>True) hd4' ?_
  refine ay (qN hd4') ?_
  simp(disch:=omega)only[↓qXX]
  refine av (tq _) ?_
  simp(disch:=omega)only[↓qXX]
  have hw4len':=(tr ((k+4 - u.head)%4)).2.2.1
  refine hw6.ow.ap (k:=(wayN ((k+4 - u.head)%4)).length) (new:=wayN ((k+4 - u.head)%4)) bG hw6.ln (way_slG hd4' _) rfl (size1 (by omega)) λx7 h7 b1 b2 b3 b4 b5=>?_
  simp(disch:=omega)only[↓qXX]
  refine av b2 ?_
  simp(disch:=omega)only[↓qXX]
  have hw8:=hw6.go (k:=k) b1 b3 b4
  have hlow8:=hlow6'.trans (hw6.go_low (o1:=.o (.cells [x7] 1 true)) (o2:=.o (.cells [.int .i64 (.ofNat k)] 1 true)) b3)
  have old7:∀(i:Nat) o,i<b+5->h6[i]?=some o->h7[i]?=some o:=λi o hi ho=>b3 i o ho λe=>by
   have:=(hw6.ow.blk e).1
   omega
  refine ic (old7 _ _ (by omega) hw6.pw) rfl ?_
  try simp(disch:=omega)only[↓qXX]
  refine ic (aI (old7 _ _ (by omega) hw6.ph) (by omega)) rfl ?_
  try simp(disch:=omega)only[↓qXX]
  exact hjn _ _ ⟨rfl,x7,hw8,hlow8⟩
def sl_take{α:Type}{h:HL}{v:Value}{e:Nat}{enc:α->List Value}{l:List α}(hs:LsH h v e enc l){n:Nat}(hn:n<=l.length):∃v',slS e v none (some (Int.ofNat n)) none=some v'/\LsH h v' e enc (l.take n)/\aV v'=true/\blk v'=blk v:=by
 have hl:=bR (l:=l) hs.1
 have hl2:=bR (l:=l.take n) λa ha=>hs.1 a (qaV ha)
 have hlen:(l.take n).length=n:=by rw[qa3];omega
 obtain⟨h1,h2,⟨rfl,h3⟩|⟨id,off,cx,vs,rw',rfl,h3,h4⟩⟩:=hs
 ·have hn0:n=0:=by omega
  have hl0:l=[]:=qa9.1 h3
  subst hn0 hl0
  exact⟨.slice none 0 0,rfl,LsH.nil _ _ _,rfl,rfl⟩
 ·have hr:slS e (.slice (some ⟨id,off,tag e⟩) l.length cx) none (some (Int.ofNat n)) none=some (.slice (some ⟨id,off,tag e⟩) n cx):=by
   unfold slS
   have e1:¬(tag e≠some 1/\tag e≠tag e):=by simp
   simp only[if_neg e1]
   have e2:(0:Int)<=(none:Option Int).getD 0/\(none:Option Int).getD 0<=(some (Int.ofNat n)).getD ((l.length:Nat):Int)/\cv l.length cx (some (Int.ofNat n)) none:=by
    refine⟨by simp,by simp,?_⟩
    unfold cv
    left
    show((n:Nat):Int)<=(l.length:Int)
    omega
   rw[if_pos e2,dn,dn,dn]
   simp[bH]
  have hls:LsH h (.slice (some ⟨id,off,tag e⟩) n cx) e enc (l.take n):=by
   refine⟨λa ha=>h1 a (qaV ha),by rw[hl2],.inr ⟨id,off,cx,vs,rw',by rw[hlen],h3,?_⟩⟩
   have hc:=qX h4 (o:=0) (k:=n*e) (by
    rw[qaG]
    exact qa8 e hn)
   rw[qcf,qaz]at hc
   rw[hlen,hc]
   congr 1
   have e1:l.flatMap enc=(l.take n).flatMap enc++(l.drop n).flatMap enc:=by rw[←List.flatMap_append,qbG]
   rw[e1,qct (by rw[hl2,hlen];exact qai _),qaP (by rw[hl2,hlen];exact qai _)]
  exact⟨_,hr,hls,hls.good,rfl⟩
def sl_clip{α:Type}{h:HL}{v:Value}{e:Nat}{enc:α->List Value}{l:List α}(hs:LsH h v e enc l):∃v',slS e v none (some (Int.ofNat l.length)) (some (Int.ofNat l.length))=some v'/\LsH h v' e enc l/\aV v'=true/\blk v'=blk v:=by
 have hs':=hs
 obtain⟨h1,h2,⟨rfl,h3⟩|⟨id,off,cx,vs,rw',rfl,h3,h4⟩⟩:=hs
 ·have hl0:l=[]:=qa9.1 h3
  subst hl0
  exact⟨.slice none 0 0,rfl,LsH.nil _ _ _,rfl,rfl⟩
 ·have hr:slS e (.slice (some ⟨id,off,tag e⟩) l.length cx) none (some (Int.ofNat l.length)) (some (Int.ofNat l.length))=some (.slice (some ⟨id,off,tag e⟩) l.length (l.length+1)):=by
   unfold slS
   have e1:¬(tag e≠some 1/\tag e≠tag e):=by simp
   simp only[if_neg e1]
   have e2:(0:Int)<=(none:Option Int).getD 0/\(none:Option Int).getD 0<=(some (Int.ofNat l.length)).getD ((l.length:Nat):Int)/\cv l.length cx (some (Int.ofNat l.length)) (some (Int.ofNat l.length)):=by
    refine⟨by simp,by simp,?_⟩
    unfold cv
    refine⟨rfl,by simp,.inl (by show(l.length:Int)<=(l.length:Int);omega)⟩
   rw[if_pos e2,dn,dn,dn]
   simp[bH]
  have hls:LsH h (.slice (some ⟨id,off,tag e⟩) l.length (l.length+1)) e enc l:=⟨h1,h2,.inr ⟨id,off,_,vs,rw',rfl,h3,h4⟩⟩
  exact⟨_,hr,hls,hls.good,rfl⟩
def clipS_c{h:HL}{x:Value}{l:List Nat}(hl:LsH h x 1 encS l):∃x',aR cc ab 16 [.v x] (absH aa h) [.v x'] (absH aa h)/\LsH h x' 1 encS l/\aV x'=true/\blk x'=blk x:=by
 obtain⟨x',h1,h2,h3,h4⟩:=sl_clip hl
 refine⟨x',xK x16 (glsV hl.good gls0) ?_,h2,h3,h4⟩
 unfold f16;simp only[qxh]
 simp(disch:=omega)only[↓qXX]
 refine hZ hl (hZ hl (ay h1 (av h3 ?_)))
 exact⟨by trivial,by trivial⟩
def lO{a:Nat}(h:1<=a/\a<=4):Cc 27 [.i (Int.ofNat a)] [.b (decide (3<=a))]:=by
 have:a=1∨a=2∨a=3∨a=4:=by omega
 refine q27 rfl ?_;unfold f27;simp only[qxh]
 rcases this with rfl|rfl|rfl|rfl
 all_goals
  simp only[show Int.ofNat 1=(1:Int)from rfl,show Int.ofNat 2=(2:Int)from rfl,show Int.ofNat 3=(3:Int)from rfl,show Int.ofNat 4=(4:Int)from rfl]
  simp(disch:=omega)only[↓qXX]
  try rfl
abbrev cloP:Value:=.func (.func 26) ⟨[]⟩ ⟨[]⟩
def check1_c{a:Nat}(h:1<=a/\a<=4):Cc 26 [.i (Int.ofNat a)] [.b false]:=by
 have:a=1∨a=2∨a=3∨a=4:=by omega
 refine q26 rfl ?_;unfold f26;simp only[qxh]
 rcases this with rfl|rfl|rfl|rfl
 all_goals
  simp only[show Int.ofNat 1=(1:Int)from rfl,show Int.ofNat 2=(2:Int)from rfl,show Int.ofNat 3=(3:Int)from rfl,show Int.ofNat 4=(4:Int)from rfl]
  simp(disch:=omega)only[↓qXX]
  try rfl
def anyP_c{h:HL}{x:Value}{l:List Nat}(hl:LsH h x 1 encS l)(hok:∀a∈l,1<=a/\a<=4)(hn:l.length<=100000):aR cc ab 25 [.v x,.v cloP] (absH aa h) [.b false] (absH aa h):=by
 have h1:aR cc ab 38 [.v x,.v cloP] (absH aa h) [.i (-1)] (absH aa h):=by
  refine xK x38 (glsV hl.good (glsV rfl gls0)) ?_
  unfold f38;simp only[qxh]
  simp(disch:=omega)only[↓qXX]
  refine hZ hl ?_
  refine ou l.length (λ_=>True) rfl (qbb _) trivial ?_
  intro j hj _ self hself
  simp(disch:=omega)only[↓qXX]
  by_cases hlt:j<l.length
  ·rw[eo hlt]
   simp(disch:=omega)only[↓qXX]
   obtain⟨c,hc⟩:=dj hlt
   refine hU hl rfl hc ?_
   unfold encS
   repeat (first|simp(disch:=omega)only[↓qXX]|refine iT (rU (check1_c (hok c (qaf hc)) _) rfl [.leaf (.i .u8 (Int.ofNat c))] rfl rfl) ?_)
   rw[eO (by omega)]
   exact hself hlt trivial
  ·rw[en (by omega)]
   simp(disch:=omega)only[↓qXX]
   exact⟨by trivial,by trivial⟩
 refine xK x25 (glsV hl.good (glsV rfl gls0)) ?_
 unfold f25;simp only[qxh]
 repeat (first|simp(disch:=omega)only[↓qXX]|refine bf h1 ?_)
 exact⟨by trivial,by trivial⟩
def sR{h:HL}{x:Value}{l:List Nat}(hl:LsH h x 1 encS l)(hok:∀a∈l,1<=a/\a<=4)(h3:Ok3 l)(hn:l.length<=255):aR cc ab 17 [.v x] (absH aa h) [.i 0] (absH aa h):=by
 exact xK x17 (glsV hl.good gls0) (by
  unfold f17;simp only[qxh]
  simp(disch:=omega)only[↓qXX]
  try refine av rfl ?_
  refine bf (anyP_c hl hok (by omega)) ?_
  simp(disch:=omega)only[↓qXX]
  refine hZ hl ?_
  refine em (σ:=Nat) l.length (λj s=>[.i (Int.ofNat s),.i (Int.ofNat j)]) (λ_ _=>h) (λj s=>s<=1+j) (j0:=0) (s0:=1) rfl rfl (qbb _) (qai _) ?_
  intro j s hj hs self hself
  simp(disch:=omega)only[↓qXX]
  by_cases hlt:j<l.length
  ·rw[eo hlt]
   simp(disch:=omega)only[↓qXX]
   obtain⟨a,ha⟩:=dj hlt
   have ha4:=hok a (qaf ha)
   refine hU hl rfl ha ?_
   unfold encS
   simp(disch:=omega)only[↓qXX]
   refine dY (lO ha4) ?_
   simp(disch:=omega)only[↓qXX]
   by_cases ht:3<=a
   ·have hnext:=hself s hlt (by omega)
    rw[decide_eq_true ht]
    simp(disch:=omega)only[↓qXX]
    by_cases hj0:j=0
    ·subst hj0
     rw[p_gtr_f (by show((0:Nat):Int)<=0;omega)]
     simp(disch:=omega)only[↓qXX]
     refine dY (lO ha4) ?_
     simp(disch:=omega)only[↓qXX]
     rw[decide_eq_true ht]
     simp(disch:=omega)only[↓qXX,qa7]
     rw[eO (by omega)]
     exact hnext
    ·rw[p_gtr_t (by show(0:Int)<(j:Int);omega)]
     simp(disch:=omega)only[↓qXX]
     rw[tU (by omega) (by omega)]
     obtain⟨b,hb⟩:=dj (l:=l) (i:=j - 1) (by omega)
     refine hU hl rfl hb ?_
     unfold encS
     simp(disch:=omega)only[↓qXX]
     refine dY (lO (hok b (qaf hb))) ?_
     have hb3:¬3<=b:=λh=>h3 (j - 1) b a hb (by rw[show j - 1+1=j by omega];exact ha) ⟨h,ht⟩
     simp(disch:=omega)only[↓qXX]
     rw[decide_eq_false hb3]
     simp(disch:=omega)only[↓qXX]
     refine dY (lO ha4) ?_
     simp(disch:=omega)only[↓qXX]
     rw[decide_eq_true ht]
     simp(disch:=omega)only[↓qXX,qa7]
     rw[eO (by omega)]
     exact hnext
   ·have hnext:=hself (s+1) hlt (by omega)
    rw[decide_eq_false ht]
    simp(disch:=omega)only[↓qXX]
    refine dY (lO ha4) ?_
    simp(disch:=omega)only[↓qXX]
    rw[decide_eq_false ht]
    simp(disch:=omega)only[↓qXX,qco]
    rw[eO (by omega)]
    simp(disch:=omega)only[↓qXX]
    rw[eO (by omega)]
    exact hnext
  ·rw[en (by omega)]
   simp(disch:=omega)only[↓qXX]
   rw[p_gtr_f (by show(s:Int)<=256;omega)]
   simp(disch:=omega)only[↓qXX]
   exact⟨by trivial,by trivial⟩)
def lJ:∀ {l:List Nat},(∀a∈l,1<=a/\a<=4)->gI (l.flatMap encS)=some l
 | [],_=>rfl
 |a :: l,h=>by
  have ha:=h a qaJ
  have ih:=lJ (l:=l) λb hb=>h b (qal _ hb)
  show gI (.int .u8 (.ofNat a) :: l.flatMap encS)=_
  unfold gI
  rw[qbh ha.1,qbh ha.2,ih]
  rfl
def text_c{h:HL}{x:Value}{l:List Nat}(hl:LsH h x 1 encS l)(hok:∀a∈l,1<=a/\a<=4)(h3:Ok3 l)(hn:l.length<=255):aR cc ab 8 [.v x] (absH aa h) [.v (.string ⟨(l.map Tx.letter).toArray⟩)] (absH aa h):=by
 have hck:cK cc 17 [x] (absH aa h) (.int .i64 0) (absH aa h):=by
  obtain⟨sg,xs,ys,c1,c2,c3,c4⟩:=sR hl hok h3 hn
  have c1':ab 17=some ⟨[lv],[li]⟩:=rfl
  rw[c1']at c1
  cases c1
  have hx:ae xs=[x]:=(bq (b:=[.leaf (.v x)]) c2.1 rfl c2.2.1).1
  have hy:ae ys=[.int .i64 0]:=(bq (b:=[.leaf (.i .i64 0)]) c3.1 rfl c3.2.1).1
  rw[hx,hy]at c4
  exact fM mixed c4
 have ht:txG x (λi=>(absH aa h)[i]?)=some [.string ⟨(l.map Tx.letter).toArray⟩]:=by
  rw[←gr]
  unfold txG
  rw[hl.len,slG_sl hl.2]
  simp only
  rw[qbh (by omega),lJ hok]
 have hT:=lM hck ht
 have h1:aR cc ab 19 [.v x] (absH aa h) [.v (.string ⟨(l.map Tx.letter).toArray⟩)] (absH aa h):=⟨⟨[lv],[lv]⟩,[.leaf (.v x)],[.leaf (.v (.string ⟨(l.map Tx.letter).toArray⟩))],rfl,⟨rfl,rfl,λy hy=>by
   simp only[qao]at hy
   subst hy
   exact aj hl.good⟩,⟨rfl,rfl,λy hy=>by
   simp only[qao]at hy
   subst hy
   exact aj rfl⟩,⟨0,.inr ⟨.inr ⟨by kernel_rfl,rfl⟩,hT⟩⟩⟩
 exact xK x8 (glsV hl.good gls0) (by
  unfold f8;simp only[qxh]
  repeat (first|simp(disch:=omega)only[↓qXX]|refine bf h1 ?_)
  exact⟨by trivial,by trivial⟩)
def topT(L:List Sq)(c:Sq):TS:=visT L (free L []) c ⟨[],[],0,0⟩
def ev0{L:List Sq}:Ev L ⟨[],[],0,0⟩ ⟨[],[],0,0⟩:=⟨⟨[],rfl⟩,qc2,λx hx=>(by cases hx),(by show 0<4;omega),λa ha=>(by cases ha),λi a b h=>(by simp at h),qai _,qai _⟩
def top_ev{L:List Sq}{c:Sq}(hc:c∈L):Ev L ⟨[],[],0,0⟩ (topT L c):=by
 exact(nr L (free L []) c ⟨[],[],0,0⟩ ev0 hc (by simp) (qai _)).1
def top_len{L:List Sq}{c:Sq}(hc:c∈L):(topT L c).steps.length<=6*L.length:=by
 have h:=top_ev hc
 have h1:=h.le
 have h2:=h.small
 simp only[qbU]at h1
 omega
def WalkOk(H:HL)(L:List Sq)(c:Sq)(rs:List Lf)(h':HL):Prop:=∃v,rs=[.v v,.i c.1,.i c.2,.i 0,.i 0]/\LsH h' v 1 encS ((topT L c).steps.take (topT L c).last)/\Low H.length H h'/\H.length<=h'.length/\∀i,blk v=some i->H.length<=i
def walk_c{H:HL}{x:Value}{L:List Sq}{D:List K3}(hl:LsH H x 3 cc3 D)(hD:SetOf L D)(h0:0<L.length)(hn:L.length<=40)(hnd:L.Nodup)(hcon:Con L)(hb:∀c∈L,(-100<=c.1/\c.1<=100)/\-100<=c.2/\c.2<=100){a0:K3}(ha0:D[0]?=some a0) :
  ∃rs h',aR cc ab 6 [.v x] (absH aa H) rs (absH aa h')/\WalkOk H L (a0.1,a0.2.1) rs h':=by
 have hDl:=hD.len
 have hm0:=(hD.mem.1 (qaf ha0)).1
 have hb0:=hb _ hm0
 have htl:=top_len hm0
 have hte:=top_ev hm0
 exact x6 (K:=WalkOk H L (a0.1,a0.2.1)) (glsV hl.good gls0) (by
  unfold f6;simp only[qxh]
  simp(disch:=omega)only[↓qXX]
  have hl1:LsH (H++[HO.o (.cells [.slice none 0 0] 1 true)]) x 3 cc3 D:=hl.pre ⟨_,rfl⟩
  have hlen1:(H++[HO.o (.cells [.slice none 0 0] 1 true)]).length=H.length+1:=by simp
  obtain⟨h2,hcall,hlow2,hle2⟩:=check_c hl1 hD h0 (by omega) hnd hcon hb
  refine bf hcall ?_
  have hl2:=hl1.low hlow2
  have hw2:h2[H.length]?=some (.o (.cells [.slice none 0 0] 1 true)):=hlow2 _ _ (by rw[hlen1];omega) aT
  have hH2:Low H.length H h2:=((Low.refl H).app _).trans (hlow2.le (by rw[hlen1];omega))
  rw[hlen1]at hle2
  clear hcall hlow2 hl1 hlen1
  simp(disch:=omega)only[↓qXX]
  obtain⟨rs,h3,hcall,o,ks,rfl,rfl,hset,hknd,hkm⟩:=qK hD hl2 (by omega)
  refine bf hcall ?_
  have hl3:LsH (h2++[o]) x 3 cc3 D:=hl2.pre ⟨_,rfl⟩
  have hw3:(h2++[o])[H.length]?=some (.o (.cells [.slice none 0 0] 1 true)):=aS hw2
  have hH3:Low H.length H (h2++[o]):=hH2.app _
  have g3:(h2++[o]).length=h2.length+1:=by simp
  clear hcall hl2 hw2 hH2
  simp(disch:=omega)only[↓qXX]
  generalize h2++[o]=h3 at *
  generalize hbd:h2.length=b at *
  rw[g3]
  refine ic (vs:=[.map none]) (by rw[←g3];exact aT) rfl ?_
  rw[←g3,ea,g3]
  have p4:(h3++[HO.o (.cells [.map (some b)] 1 true)])[b+1]?=some (.o (.cells [.map (some b)] 1 true)):=by rw[←g3];exact aT
  have s4:Set3 (h3++[HO.o (.cells [.map (some b)] 1 true)]) b ks:=hset.keep λ_ ho=>aS ho
  have w4:(h3++[HO.o (.cells [.map (some b)] 1 true)])[H.length]?=some (.o (.cells [.slice none 0 0] 1 true)):=aS hw3
  have l4:LsH (h3++[HO.o (.cells [.map (some b)] 1 true)]) x 3 cc3 D:=hl3.pre ⟨_,rfl⟩
  have H4:Low H.length H (h3++[HO.o (.cells [.map (some b)] 1 true)]):=hH3.app _
  have g4:(h3++[HO.o (.cells [.map (some b)] 1 true)]).length=b+2:=by simp[g3]
  clear hset hw3 hl3 hH3 g3
  generalize h3++[HO.o (.cells [.map (some b)] 1 true)]=h4 at *
  try simp(disch:=omega)only[↓qXX]
  refine tW (o:=0) (k:=1) (a:=a0) (i:=0) l4 rfl ha0 rfl (by omega) ?_
  simp only[cc3,qaz,qax,qaL]
  simp(disch:=omega)only[↓qXX]
  refine tW (o:=1) (k:=1) (a:=a0) (i:=0) l4 rfl ha0 rfl (by omega) ?_
  simp only[cc3,qaD,qaz,qax,qaL]
  simp(disch:=omega)only[↓qXX]
  rw[g4]
  refine ic (vs:=[.int .i64 0]) (by rw[←g4];exact aT) rfl ?_
  rw[←g4,ea,g4]
  try simp(disch:=omega)only[↓qXX]
  have g5:(h4++[HO.o (.cells [.int .i64 0] 1 true)]).length=b+3:=by simp[g4]
  rw[g5]
  refine ic (vs:=[.int .i64 0]) (by rw[←g5];exact aT) rfl ?_
  rw[←g5,ea,g5]
  try simp(disch:=omega)only[↓qXX]
  have g6:(h4++[HO.o (.cells [.int .i64 0] 1 true)]++[HO.o (.cells [.int .i64 0] 1 true)]).length=b+4:=by simp[g4]
  rw[g6]
  refine av rfl ?_
  refine ic (vs:=[.nilFunc]) (by rw[←g6];exact aT) rfl ?_
  rw[←g6,ea,g6]
  try simp(disch:=omega)only[↓qXX]
  have hWS:WS H.length b L (h4++[HO.o (.cells [.int .i64 0] 1 true)]++[HO.o (.cells [.int .i64 0] 1 true)]++[HO.o (.cells [cloV H.length b] 1 true)]) ⟨[],[],0,0⟩ (.slice none 0 0):=
   ⟨by omega,⟨ks,s4.keep λ_ ho=>aS (aS (aS ho)),hknd,λa=>(hkm a).trans ⟨λ⟨c,h1,h2⟩=>⟨c,h1,(by simp),h2⟩,λ⟨c,h1,_,h2⟩=>⟨c,h1,h2⟩⟩⟩,aS (aS (aS p4)),aS (aS (aS w4)),OwnL.nil _ _ _ _,aS (aS (by rw[←g4];exact aT)),aS (by rw[←g5];exact aT),by rw[←g6];exact aT,by simp[g4]⟩
  have H7:Low H.length H (h4++[HO.o (.cells [.int .i64 0] 1 true)]++[HO.o (.cells [.int .i64 0] 1 true)]++[HO.o (.cells [cloV H.length b] 1 true)]):=((H4.app _).app _).app _
  generalize h4++[HO.o (.cells [.int .i64 0] 1 true)]++[HO.o (.cells [.int .i64 0] 1 true)]++[HO.o (.cells [cloV H.length b] 1 true)]=h7 at *
  clear g4 g5 g6 p4 s4 w4 l4 H4
  refine dN (bX hWS.pv) rfl ?_
  simp(disch:=omega)only[↓qXX]
  refine av rfl ?_
  simp(disch:=omega)only[↓qXX]
  obtain⟨rs,h8,hcall,rfl,x8,hw8,hlow8⟩:=walk1_c hb (by omega) (free L []) (a0.1,a0.2.1) h7 ⟨[],[],0,0⟩ (.slice none 0 0) hWS ev0 (qai _) hm0 (by simp) (qai _)
  refine iT (gO (args:=[.agg ⟨cc3 (sqC (a0.1,a0.2.1))⟩]) hcall rfl [.agg [.i .i64 a0.1,.i .i64 a0.2.1,.i .u8 0],.leaf (.v (ptrB (b+1))),.leaf (.v (ptrB H.length)),.leaf (.v (ptrB (b+3))),.leaf (.v (ptrB (b+2))),.leaf (.v (ptrB (b+4)))] rfl rfl rfl) ?_
  clear hWS hcall
  have H8:=H7.trans hlow8
  change WS H.length b L h8 (topT L (a0.1,a0.2.1)) x8 at hw8
  obtain⟨t,ht⟩ : ∃t,t=topT L (a0.1,a0.2.1):=⟨_,rfl⟩
  rw[←ht]at hw8 hte htl
  simp(disch:=omega)only[↓qXX]
  refine dN (bX hw8.pw) rfl ?_
  simp(disch:=omega)only[↓qXX]
  refine av (hw8.ow.good bG) ?_
  simp(disch:=omega)only[↓qXX]
  refine dN (bX hw8.pt) rfl ?_
  simp(disch:=omega)only[↓qXX]
  obtain⟨x9,e9,l9,gd9,b9⟩:=sl_take (hw8.ow.ls bG) hte.la
  refine ay e9 ?_
  refine av gd9 ?_
  obtain⟨x10,hcall,l10,gd10,b10⟩:=clipS_c l9
  refine bf hcall ?_
  simp(disch:=omega)only[↓qXX]
  refine ic hw8.pw rfl ?_
  try simp(disch:=omega)only[↓qXX]
  have hbk:∀i,blk x10=some i->b+5<=i:=λi hi=>by
   rw[b10,b9]at hi
   exact(hw8.ow.blk hi).1
  have hlt:=hw8.lt
  have hlnn:=hw8.ln
  have l11:LsH (h8.set H.length (.o (.cells [x10] 1 true))) x10 1 encS (t.steps.take t.last):=l10.keep λj o hj hb=>by
   have:=hbk j hb
   exact aI hj (by omega)
  have w11:(h8.set H.length (.o (.cells [x10] 1 true)))[H.length]?=some (.o (.cells [x10] 1 true)):=gt hw8.pw
  have H11:Low H.length H (h8.set H.length (.o (.cells [x10] 1 true))):=H8.set (qai _) _
  have n11:(h8.set H.length (.o (.cells [x10] 1 true))).length=h8.length:=by simp
  generalize h8.set H.length (.o (.cells [x10] 1 true))=h11 at *
  refine dN (bX w11) rfl ?_
  simp(disch:=omega)only[↓qXX]
  refine av gd10 ?_
  simp(disch:=omega)only[↓qXX]
  refine bf (sR l11 (λa ha=>hte.st a (qaV ha)) (hte.ok.take _) (by rw[qa3];omega)) ?_
  simp(disch:=omega)only[↓qXX]
  refine dN (bX w11) rfl ?_
  simp(disch:=omega)only[↓qXX]
  refine av gd10 ?_
  simp(disch:=omega)only[↓qXX]
  refine ic w11 rfl ?_
  try simp(disch:=omega)only[↓qXX]
  have e12:h11.set H.length (.o (.cells [x10] 1 true))=h11:=lE w11
  rw[e12]
  refine dt ((bX w11).ld rfl) ?_
  simp(disch:=omega)only[↓qXX]
  refine av gd10 ?_
  simp(disch:=omega)only[↓qXX]
  exact⟨x10,rfl,ht▸l11,H11,by omega,λi hi=>by
   have:=hbk i hi
   omega⟩)
def lit_slG{h:HL}{new:List Nat}{n cx:Nat}(hn:n=new.length):slG cc 1 (getH aa (h++[HO.o (.cells (new.flatMap encS) 1 true)])) (.slice (some ⟨h.length,0,some 11⟩) n cx)=some (new.flatMap encS,n):=by
 subst hn
 have hl:=bR (e:=1) (enc:=encS) (l:=new) λa _=>bG a
 exact slG_sl (C:=cc) (T:=aa) (⟨hl,.inr ⟨h.length,0,cx,_,true,rfl,aT,Sx.cut_all hl⟩⟩ : SlC (h++[HO.o (.cells (new.flatMap encS) 1 true)]) (.slice (some ⟨h.length,0,tag 1⟩) new.length cx) 1 new.length (new.flatMap encS))
structure VS(t:Nat)(D:List K3)(h:HL)(s:TS)(sv xb xs:Value):Prop where
 bk:h[t]?=some (.o (.cells [sv,xb,xs,.int .i64 (.ofNat s.head),.int .i64 (.ofNat s.last)] 5 true))
 set:LsH h sv 3 cc3 D
 sb:∀i,blk sv=some i->i<t
 be:OwnL (t+1) h xb 3 cc3 (s.been.map sqC)
 st:OwnL (t+1) h xs 1 encS s.steps
 ne:∀i,blk xb=some i->blk xs≠some i
 ln:t+1<=h.length
section
variable {t:Nat} {D:List K3} {h:HL} {s:TS} {sv xb xs:Value}
def VS.app(hv:VS t D h s sv xb xs)(o:HO):VS t D (h++[o]) s sv xb xs:=⟨aS hv.bk,hv.set.pre ⟨_,rfl⟩,hv.sb,hv.be.app _,hv.st.app _,hv.ne,by have:=hv.ln;simp;omega⟩
def VS.steps(hv:VS t D h s sv xb xs){h':HL}{x':Value}{l:List Nat}(ho:OwnL (t+1) h' x' 1 encS l)(hk:∀(j:Nat) o,h[j]?=some o->blk xs≠some j->h'[j]?=some o)(hl:h.length<=h'.length)(hb:blk x'=blk xs∨∃j,blk x'=some j/\h.length<=j) :
  VS t D (h'.set t (.o (.cells [sv,xb,x',.int .i64 (.ofNat s.head),.int .i64 (.ofNat s.last)] 5 true))) { s with steps:=l } sv xb x'/\h'[t]?=some (.o (.cells [sv,xb,xs,.int .i64 (.ofNat s.head),.int .i64 (.ofNat s.last)] 5 true))/\Low t h (h'.set t (.o (.cells [sv,xb,x',.int .i64 (.ofNat s.head),.int .i64 (.ofNat s.last)] 5 true))):=by
 have hln:=hv.ln
 have old:∀(j:Nat) o,j<=t->h[j]?=some o->h'[j]?=some o:=λj o hj ho'=>hk j o ho' λe=>by
  have:=(hv.st.blk e).1
  omega
 refine⟨⟨gt (old _ _ (qai _) hv.bk),?_,hv.sb,?_,?_,λi hi e=>?_,by simp;omega⟩,old _ _ (qai _) hv.bk,λj o hj ho'=>aI (old j o (by omega) ho') (by omega)⟩
 ·refine hv.set.keep λj o hj hb'=>?_
  have:=hv.sb j hb'
  exact aI (old j o (by omega) hj) (by omega)
 ·refine hv.be.keep λj o hj hb'=>?_
  have:=(hv.be.blk hb').1
  exact aI (hk j o hj (hv.ne j hb')) (by omega)
 ·refine ho.keep λj o hj hb'=>?_
  have:=(ho.blk hb').1
  exact aI hj (by omega)
 ·rcases hb with hb|⟨j,hb,hj⟩
  ·rw[hb]at e
   exact hv.ne i hi e
  ·rw[hb]at e
   cases e
   have:=(hv.be.blk hi).2
   omega
def VS.nums(hv:VS t D h s sv xb xs){s':TS}(h1:s'.been=s.been)(h2:s'.steps=s.steps):VS t D (h.set t (.o (.cells [sv,xb,xs,.int .i64 (.ofNat s'.head),.int .i64 (.ofNat s'.last)] 5 true))) s' sv xb xs:=by
 have hln:=hv.ln
 refine⟨gt hv.bk,?_,hv.sb,?_,?_,hv.ne,by simp;omega⟩
 ·refine hv.set.keep λj o hj hb'=>?_
  have:=hv.sb j hb'
  exact aI hj (by omega)
 ·rw[h1]
  refine hv.be.keep λj o hj hb'=>?_
  have:=(hv.be.blk hb').1
  exact aI hj (by omega)
 ·rw[h2]
  refine hv.st.keep λj o hj hb'=>?_
  have:=(hv.st.blk hb').1
  exact aI hj (by omega)
def VS.been(hv:VS t D h s sv xb xs){h':HL}{x':Value}{c:Sq}(ho:OwnL (t+1) h' x' 3 cc3 (s.been.map sqC++[sqC c]))(hk:∀(j:Nat) o,h[j]?=some o->blk xb≠some j->h'[j]?=some o)(hl:h.length<=h'.length)(hb:blk x'=blk xb∨∃j,blk x'=some j/\h.length<=j) :
  VS t D (h'.set t (.o (.cells [sv,x',xs,.int .i64 (.ofNat s.head),.int .i64 (.ofNat s.last)] 5 true))) { s with been:=s.been++[c] } sv x' xs/\h'[t]?=some (.o (.cells [sv,xb,xs,.int .i64 (.ofNat s.head),.int .i64 (.ofNat s.last)] 5 true))/\Low t h (h'.set t (.o (.cells [sv,x',xs,.int .i64 (.ofNat s.head),.int .i64 (.ofNat s.last)] 5 true))):=by
 have hln:=hv.ln
 have old:∀(j:Nat) o,j<=t->h[j]?=some o->h'[j]?=some o:=λj o hj ho'=>hk j o ho' λe=>by
  have:=(hv.be.blk e).1
  omega
 refine⟨⟨gt (old _ _ (qai _) hv.bk),?_,hv.sb,?_,?_,λi hi e=>?_,by simp;omega⟩,old _ _ (qai _) hv.bk,λj o hj ho'=>aI (old j o (by omega) ho') (by omega)⟩
 ·refine hv.set.keep λj o hj hb'=>?_
  have:=hv.sb j hb'
  exact aI (old j o (by omega) hj) (by omega)
 ·rw[qbC]
  refine ho.keep λj o hj hb'=>?_
  have:=(ho.blk hb').1
  exact aI hj (by omega)
 ·refine hv.st.keep λj o hj hb'=>?_
  have:=(hv.st.blk hb').1
  exact aI (hk j o hj λe=>hv.ne j e hb') (by omega)
 ·rcases hb with hb|⟨j,hb,hj⟩
  ·rw[hb]at hi
   exact hv.ne i hi e
  ·rw[hb]at hi
   cases hi
   have:=(hv.st.blk e).2
   omega
end
def step_c{t:Nat}{D:List K3}{h:HL}{s:TS}{sv xb xs:Value}(hv:VS t D h s sv xb xs){k:Nat}(hk:k<4)(hh:s.head<4)(hs:s.steps.length<=100000) :
  ∃rs h',aR cc ab 18 [.v (ptrB t),.i (Int.ofNat k)] (absH aa h) rs (absH aa h')/\rs=[]/\∃xs',VS t D h' (goT s k) sv xb xs'/\Low t h h':=by
 exact x18 (K:=λrs h'=>rs=[]/\∃xs',VS t D h' (goT s k) sv xb xs'/\Low t h h') (glsV (cg _) (glsI gls0)) (by
  have hln:=hv.ln
  unfold f18;simp only[qxh]
  simp(disch:=omega)only[↓qXX]
  refine gC (o:=3) (n:=1) hv.bk (by simp) rfl ?_
  simp only[qaD,qaz,qax,qaL]
  simp(disch:=omega)only[↓qXX]
  refine p_eqlT λb0 hb0=>?_
  refine jU (λl' h'=>l'=[]/\∃xs',VS t D h' { s with steps:=s.steps++wayN ((k+4 - s.head)%4) } sv xb xs'/\Low t h h') ?_ ?_
  ·rintro _ h' ⟨rfl,xs',a1,a2⟩
   simp(disch:=omega)only[↓qXX]
   refine mU (o:=3) a1.bk (by simp) ?_
   try simp(disch:=omega)only[↓qXX]
   refine⟨trivial,xs',a1.nums (s':=goT s k) rfl rfl,λj o hj ho=>aI (a2 j o hj ho) (by omega)⟩
  intro jn hjn
  have body:∀ {new:List Nat} {n cx:Nat} {K:List Value->HL->Prop},n=new.length->new.length<=3->new=wayN ((k+4 - s.head)%4)->
    (∀x' h2,aV x'=true->h2[t]?=some (.o (.cells [sv,xb,xs,.int .i64 (.ofNat s.head),.int .i64 (.ofNat s.last)] 5 true))->jn [] (h2.set t (.o (.cells [sv,xb,x',.int .i64 (.ofNat s.head),.int .i64 (.ofNat s.last)] 5 true)))->K [x'] h2)->
    P1.heap (.ap cc 1 1 xs (.slice (some ⟨h.length,0,some 11⟩) n cx)) (h++[HO.o (.cells (new.flatMap encS) 1 true)]) (@hid _ ⟨K⟩):=by
   intro new n cx K hn hn3 hnew hK
   have hv':=hv.app (HO.o (.cells (new.flatMap encS) 1 true))
   refine hv'.st.ap (k:=n) (new:=new) bG (by simp;omega) (lit_slG hn) hn (size1 (by omega)) λx4 h4 b1 b2 b3 b4 b5=>?_
   obtain⟨c1,c2,c3⟩:=hv'.steps b1 b3 b4 b5
   refine hK x4 h4 b2 c2 (hjn _ _ ⟨rfl,x4,hnew▸c1,λj o hj ho=>c3 j o hj (aS ho)⟩)
  have facts:((k+4 - s.head)%4=0/\k=s.head)∨((k+4 - s.head)%4=1/\k=(s.head+1)%4/\k≠s.head)∨((k+4 - s.head)%4=2/\k=(s.head+2)%4/\k≠s.head/\k≠(s.head+1)%4)∨((k+4 - s.head)%4=3/\k≠s.head/\k≠(s.head+1)%4/\k≠(s.head+2)%4):=by omega
  have ofne:∀ {a b:Nat},a≠b->(Int.ofNat a:Int)≠Int.ofNat b:=λh e=>h (qc6 e)
  have add1:∀ {a:Nat} {K:Int->Prop},a<=10->P1.ari .add .i64 (Int.ofNat s.head) (Int.ofNat a) (@hid _ ⟨K⟩)=K (Int.ofNat (s.head+a)):=λ{a K} ha=>by
   rw[p_add (by show(-9223372036854775808:Int)<=((s.head:Nat):Int)+((a:Nat):Int);omega) (by show((s.head:Nat):Int)+((a:Nat):Int)<=9223372036854775807;omega)]
   rfl
  rcases facts with⟨e,f1⟩|⟨e,f1,f2⟩|⟨e,f1,f2,f3⟩|⟨e,f1,f2,f3⟩
  ·obtain rfl:b0=true:=by rw[hb0,decide_eq_true (by rw[f1])]
   simp(disch:=omega)only[↓qXX]
   refine gC (o:=2) (n:=1) hv.bk (by simp) rfl ?_
   simp only[qaD,qaz,qax,qaL]
   simp(disch:=omega)only[↓qXX]
   refine av (hv.st.good bG) ?_
   simp(disch:=omega)only[↓qXX]
   refine body (new:=[1]) rfl (by simp) (by rw[e];rfl) λx' h2 g1 g2 g3=>?_
   simp(disch:=omega)only[↓qXX]
   refine av g1 ?_
   simp(disch:=omega)only[↓qXX]
   exact mU (o:=2) g2 (by simp) g3
  ·obtain rfl:b0=false:=by rw[hb0,decide_eq_false (ofne f2)]
   simp(disch:=omega)only[↓qXX]
   refine gC (o:=3) (n:=1) hv.bk (by simp) rfl ?_
   simp only[qaD,qaz,qax,qaL]
   simp(disch:=omega)only[↓qXX]
   rw[show(1:Int)=Int.ofNat 1 from rfl,add1 (by omega),rem4,p_eql_t (by rw[←f1])]
   simp(disch:=omega)only[↓qXX]
   refine gC (o:=2) (n:=1) hv.bk (by simp) rfl ?_
   simp only[qaD,qaz,qax,qaL]
   simp(disch:=omega)only[↓qXX]
   refine av (hv.st.good bG) ?_
   simp(disch:=omega)only[↓qXX]
   refine body (new:=[2,4,1]) rfl (by simp) (by rw[e];rfl) λx' h2 g1 g2 g3=>?_
   simp(disch:=omega)only[↓qXX]
   refine av g1 ?_
   simp(disch:=omega)only[↓qXX]
   refine mU (o:=2) g2 (by simp) ?_
   try simp(disch:=omega)only[↓qXX]
   exact g3
  ·obtain rfl:b0=false:=by rw[hb0,decide_eq_false (ofne f2)]
   simp(disch:=omega)only[↓qXX]
   refine gC (o:=3) (n:=1) hv.bk (by simp) rfl ?_
   simp only[qaD,qaz,qax,qaL]
   simp(disch:=omega)only[↓qXX]
   rw[show(1:Int)=Int.ofNat 1 from rfl,add1 (by omega),rem4,p_eql_f (ofne f3)]
   simp(disch:=omega)only[↓qXX]
   refine gC (o:=3) (n:=1) hv.bk (by simp) rfl ?_
   simp only[qaD,qaz,qax,qaL]
   simp(disch:=omega)only[↓qXX]
   rw[show(2:Int)=Int.ofNat 2 from rfl,add1 (by omega),rem4,p_eql_t (by rw[←f1])]
   simp(disch:=omega)only[↓qXX]
   refine gC (o:=2) (n:=1) hv.bk (by simp) rfl ?_
   simp only[qaD,qaz,qax,qaL]
   simp(disch:=omega)only[↓qXX]
   refine av (hv.st.good bG) ?_
   simp(disch:=omega)only[↓qXX]
   refine body (new:=[2,1]) rfl (by simp) (by rw[e];rfl) λx' h2 g1 g2 g3=>?_
   simp(disch:=omega)only[↓qXX]
   refine av g1 ?_
   simp(disch:=omega)only[↓qXX]
   refine mU (o:=2) g2 (by simp) ?_
   try simp(disch:=omega)only[↓qXX]
   exact g3
  ·obtain rfl:b0=false:=by rw[hb0,decide_eq_false (ofne f1)]
   simp(disch:=omega)only[↓qXX]
   refine gC (o:=3) (n:=1) hv.bk (by simp) rfl ?_
   simp only[qaD,qaz,qax,qaL]
   simp(disch:=omega)only[↓qXX]
   rw[show(1:Int)=Int.ofNat 1 from rfl,add1 (by omega),rem4,p_eql_f (ofne f2)]
   simp(disch:=omega)only[↓qXX]
   refine gC (o:=3) (n:=1) hv.bk (by simp) rfl ?_
   simp only[qaD,qaz,qax,qaL]
   simp(disch:=omega)only[↓qXX]
   rw[show(2:Int)=Int.ofNat 2 from rfl,add1 (by omega),rem4,p_eql_f (ofne f3)]
   simp(disch:=omega)only[↓qXX]
   refine gC (o:=2) (n:=1) hv.bk (by simp) rfl ?_
   simp only[qaD,qaz,qax,qaL]
   simp(disch:=omega)only[↓qXX]
   refine av (hv.st.good bG) ?_
   simp(disch:=omega)only[↓qXX]
   refine body (new:=[2,3,1]) rfl (by simp) (by rw[e];rfl) λx' h2 g1 g2 g3=>?_
   simp(disch:=omega)only[↓qXX]
   refine av g1 ?_
   simp(disch:=omega)only[↓qXX]
   refine mU (o:=2) g2 (by simp) ?_
   try simp(disch:=omega)only[↓qXX]
   exact g3)
def p_setf'{h:HL}{b e:Nat}{cs cs' new:List Value}{K:List Value->HL->Prop}{o:Nat}(hb:h[b]?=some (.o (.cells cs e true)))(hn:o+new.length<=cs.length)(hcs:cs'=cs.take o++new++cs.drop (o+new.length))(hk:K [] (h.set b (.o (.cells cs' e true)))) :
  P1.opt (nilP (ptrB b)) (@hid _ ⟨λx=>P1.chk x (@hid _ ⟨P1.opt (fdP o x) (@hid _ ⟨λy=>P1.chk y (@hid _ ⟨P1.heap (.st y new) h (@hid _ ⟨K⟩)⟩)⟩)⟩)⟩):=by
 subst hcs
 exact mU hb hn hk
def sep_ok{a b:Nat}(h:a≠b):lX [a] [b]=true:=by
 have:Nat.beq a b=false:=by
  cases e:Nat.beq a b with
  |true=>exact absurd (qab e) h
  |false=>rfl
 simp[lX,memN,this]
def lit_at{h:HL}{l:List Int}{j n cx:Nat}{a:Int}(ha:l[j]?=some a)(hn:n=l.length):idS 1 (.slice (some ⟨h.length,0,some 11⟩) n cx) (Int.ofNat j)=some (.pointer (some ⟨h.length,0+j*1,none⟩))/\Ptr (h++[HO.o (.cells (l.map (Value.int .i64)) 1 true)]) (.pointer (some ⟨h.length,0+j*1,none⟩)) [.int .i64 a]:=by
 subst hn
 have hj:=bV ha
 refine⟨?_,h.length,0+j*1,_,1,true,rfl,aT,?_⟩
 ·rw[so]
  have hh:0<=Int.ofNat j/\Int.ofNat j<(l.length:Int):=⟨qbs j,by show(j:Int)<l.length;omega⟩
  simp only[if_pos hh]
  rfl
 ·rw[Sx.cut_some]
  have hj':j<(l.map (Value.int .i64)).length:=by rw[qaQ];exact hj
  refine⟨by simp;omega,?_⟩
  rw[show 0+j*1=j by omega,qbk hj']
  have e:(l.map (Value.int .i64))[j] = .int .i64 a:=by
   rw[List.getElem_map]
   rw[qas hj]at ha
   rw[qaj ha]
  rw[e]
  rfl
def bes_lit(c:Sq){j:Nat}(hj:j<4):∃a b:Int,([1,0,-1,0]:List Int)[j]?=some a/\([0,1,0,-1]:List Int)[j]?=some b/\(bes c j).1=c.1+a/\(bes c j).2=c.2+b/\(-1<=a/\a<=1)/\-1<=b/\b<=1:=by
 have:j=0∨j=1∨j=2∨j=3:=by omega
 rcases this with rfl|rfl|rfl|rfl
 ·exact⟨1,0,rfl,rfl,rfl,by simp[bes],by omega,by omega⟩
 ·exact⟨0,1,rfl,rfl,by simp[bes],rfl,by omega,by omega⟩
 ·exact⟨-1,0,rfl,rfl,by simp[bes];omega,by simp[bes],by omega,by omega⟩
 ·exact⟨0,-1,rfl,rfl,by simp[bes],by simp[bes];omega,by omega,by omega⟩
def visit_c{t:Nat}{L:List Sq}{D:List K3}(hD:SetOf L D)(hL:∀c∈L,(-100<=c.1/\c.1<=100)/\-100<=c.2/\c.2<=100)(hLn:L.length<=200){sv:Value}:∀n,∀(c:Sq) (h:HL) (s:TS) (xb xs:Value),VS t D h s sv xb xs->Ev L s s->s.steps.length<=6*s.been.length->c∈L->c∉s.been->free L s.been<=n->
  ∃rs h',aR cc ab 7 [.v (ptrB t),.i c.1,.i c.2,.i 0] (absH aa h) rs (absH aa h')/\rs=[]/\
   ∃xb' xs',VS t D h' (visT L n c s) sv xb' xs'/\Low t h h':=by
 intro n
 induction n with
 |zero=>
  intro c h s xb xs _ _ _ hc hn hf
  have:=kM (L:=L) (b:=s.been) (b':=s.been++[c]) (λx hx=>qay _ hx) hc hn (qaC _ (by simp))
  omega
 |succ n ih=>
  intro c h s xb xs hv hev hbd hc hn hf
  have hsm:=hev.small
  have hcb:=hL c hc
  have hln:=hv.ln
  have hDl:=hD.len
  refine x7 (K:=λrs h'=>rs=[]/\∃xb' xs',VS t D h' (visT L (n+1) c s) sv xb' xs'/\Low t h h') (glsV (cg _) (glsI (glsI (glsI gls0)))) ?_
  unfold f7;simp only[qxh]
  simp(disch:=omega)only[↓qXX]
  obtain⟨p1,e1,q1⟩:=(bX hv.bk).fd 1 1 (by simp)
  have e1':p1 = .pointer (some ⟨t,0+1,none⟩):=(qaj e1).symm
  refine ay (x:=ptrB t) rfl (av (cg _) ?_)
  refine ay e1 (av q1.good (dt (q1.lg (by simp)) ?_))
  simp only[qaD,qaz,qax,qaL]
  simp(disch:=omega)only[↓qXX]
  refine av (hv.be.good cp) ?_
  simp(disch:=omega)only[↓qXX]
  refine hv.be.ap1 (a:=sqC c) cp hln rfl rfl rfl (size3 (by rw[qaQ];omega)) λx2 h2 b1 b2 b3 b4 b5=>?_
  simp(disch:=omega)only[↓qXX]
  refine av b2 ?_
  simp(disch:=omega)only[↓qXX]
  obtain⟨hv3,c2,c3⟩:=hv.been b1 b3 b4 b5
  refine p_setf' (o:=1) (cs':=[sv,x2,xs,.int .i64 (.ofNat s.head),.int .i64 (.ofNat s.last)]) c2 (by simp) rfl ?_
  try simp(disch:=omega)only[↓qXX]
  have hsep:Sx.sepL [(.slice (some ⟨h.length,0,some 13⟩) 1 2,(0,p1))]=some ():=by
   rw[e1']
   show(match lX [h.length] [t]with|true=>Sx.sepL []|false=>none)=some ()
   rw[sep_ok (by omega)]
   rfl
  refine ay (x:=()) hsep ?_
  generalize h2.set t (.o (.cells [sv,x2,xs,.int .i64 (.ofNat s.head),.int .i64 (.ofNat s.last)] 5 true))=h3 at *
  clear hsep e1 e1' q1 b1 b2 b3 b4 b5 c2
  refine gC (o:=2) (n:=1) hv3.bk (by simp) rfl ?_
  simp only[qaD,qaz,qax,qaL]
  simp(disch:=omega)only[↓qXX]
  refine av (hv3.st.good bG) ?_
  simp(disch:=omega)only[↓qXX]
  refine ay hv3.st.lenB ?_
  refine p_setf' (o:=4) (cs':=[sv,x2,xs,.int .i64 (.ofNat s.head),.int .i64 (.ofNat s.steps.length)]) hv3.bk (by simp) rfl ?_
  try simp(disch:=omega)only[↓qXX]
  have hv4:=hv3.nums (s':=inT s c) rfl rfl
  have hlow4:Low t h (h3.set t (.o (.cells [sv,x2,xs,.int .i64 (.ofNat (inT s c).head),.int .i64 (.ofNat (inT s c).last)] 5 true))):=c3.set (qai _) _
  have e4:h3.set t (.o (.cells [sv,x2,xs,.int .i64 (.ofNat s.head),.int .i64 (.ofNat s.steps.length)] 5 true))=h3.set t (.o (.cells [sv,x2,xs,.int .i64 (.ofNat (inT s c).head),.int .i64 (.ofNat (inT s c).last)] 5 true)):=rfl
  rw[e4]
  generalize h3.set t (.o (.cells [sv,x2,xs,.int .i64 (.ofNat (inT s c).head),.int .i64 (.ofNat (inT s c).last)] 5 true))=h4 at *
  clear e4 c3 hv3
  have hev1:=in_ev hev hc hn
  have hfr1:=rn (L:=L) (s:=s) hc hn
  have hbd1:(inT s c).steps.length+6<=6*(inT s c).been.length:=by
   show s.steps.length+6<=6*(s.been++[c]).length
   simp;omega
  refine em (σ:=HL×Value×Value) 4 (λj _=>[.i (Int.ofNat j)]) (λ_ s=>s.1) (λj u=>VS t D u.1 (rnds (visT L n) L c (inT s c) j) sv u.2.1 u.2.2/\Low t h u.1) (j0:=0) (s0:=(h4,x2,xs)) rfl rfl (qbb _) ⟨hv4,hlow4⟩ ?_
  rintro j ⟨h5,xb5,xs5⟩ hj ⟨hv5,hlow5⟩ self hself
  simp only at hv5 hlow5 hself
  have hev5:=oK (nr L n) (c:=c) hev1 (by omega) j hj
  have hbd5:(rnds (visT L n) L c (inT s c) j).steps.length+6<=6*(rnds (visT L n) L c (inT s c) j).been.length:=by
   have:=hev5.le
   omega
  simp(disch:=omega)only[↓qXX]
  by_cases hj4:j<4
  case neg=>
   obtain rfl:j=4:=by omega
   rw[p_lss_f (by show(4:Int)<=((4:Nat):Int);omega)]
   simp(disch:=omega)only[↓qXX]
   exact⟨trivial,xb5,xs5,hv5,hlow5⟩
  rw[p_lss_t (by show(j:Int)<4;omega)]
  simp(disch:=omega)only[↓qXX]
  have hstep:∀(h':HL) (x' x'':Value),VS t D h' (rndT (visT L n) L c (rnds (visT L n) L c (inT s c) j) j) sv x' x''->Low t h h'->self [.i (Int.ofNat j+1)] h':=λh' x' x'' a1 a2=>hself (h',x',x'') hj4 ⟨a1,a2⟩
  have hfj:free L (rnds (visT L n) L c (inT s c) j).been<=n:=qbH (fA λy hy=>hev5.mem hy) (by omega)
  generalize rnds (visT L n) L c (inT s c) j=u at *
  clear hself hv4 hlow4 hev1 hbd1 hv
  have hln5:=hv5.ln
  have hev6:=hev5.self
  have hsm6:=hev6.small
  have hhd:=hev6.hd
  obtain⟨da,db,d1,d2,d3,d4,d5,d6⟩:=bes_lit c hj4
  obtain⟨i1,i2⟩:=lit_at (h:=h5) (cx:=5) (n:=4) d1 rfl
  refine ay i1 ?_
  refine dN i2 rfl ?_
  simp(disch:=omega)only[↓qXX]
  try rw[p_add (by omega) (by omega)]
  try simp(disch:=omega)only[↓qXX]
  obtain⟨i3,i4⟩:=lit_at (h:=h5++[HO.o (.cells [.int .i64 1,.int .i64 0,.int .i64 (-1),.int .i64 0] 1 true)]) (cx:=5) (n:=4) d2 rfl
  refine ay i3 ?_
  refine dN i4 rfl ?_
  simp(disch:=omega)only[↓qXX]
  try rw[p_add (by omega) (by omega)]
  rw[←d3,←d4]
  have hlen6:(h5++[HO.o (.cells [.int .i64 1,.int .i64 0,.int .i64 (-1),.int .i64 0] 1 true)]).length=h5.length+1:=by simp
  have hsep:Sx.sepL [(.slice (some ⟨h5.length,0,some 11⟩) 4 5,(0,.slice (some ⟨(h5++[HO.o (.cells [.int .i64 1,.int .i64 0,.int .i64 (-1),.int .i64 0] 1 true)]).length,0,some 11⟩) 4 5)),(.slice (some ⟨(h5++[HO.o (.cells [.int .i64 1,.int .i64 0,.int .i64 (-1),.int .i64 0] 1 true)]).length,0,some 11⟩) 4 5,(0,.pointer (some ⟨h5.length,0+j*1,none⟩))),(.slice (some ⟨h5.length,0,some 11⟩) 4 5,(0,.pointer (some ⟨(h5++[HO.o (.cells [.int .i64 1,.int .i64 0,.int .i64 (-1),.int .i64 0] 1 true)]).length,0+j*1,none⟩)))]=some ():=by
   rw[hlen6]
   show(match lX [h5.length] [h5.length+1]with|true=>(match lX [h5.length+1] [h5.length]with|true=>(match lX [h5.length] [h5.length+1]with|true=>Sx.sepL []|false=>none)|false=>none)|false=>none)=some ()
   rw[sep_ok (by omega),sep_ok (by omega)]
   rfl
  refine ay (x:=()) hsep ?_
  have hv7:=(hv5.app (HO.o (.cells [.int .i64 1,.int .i64 0,.int .i64 (-1),.int .i64 0] 1 true))).app (HO.o (.cells [.int .i64 0,.int .i64 1,.int .i64 0,.int .i64 (-1)] 1 true))
  have hlow7:Low t h (h5++[HO.o (.cells [.int .i64 1,.int .i64 0,.int .i64 (-1),.int .i64 0] 1 true)]++[HO.o (.cells [.int .i64 0,.int .i64 1,.int .i64 0,.int .i64 (-1)] 1 true)]):=(hlow5.app _).app _
  change P1.opt _ _
  clear i1 i2 i3 i4 hsep hlen6 hv5 hlow5
  generalize h5++[HO.o (.cells [.int .i64 1,.int .i64 0,.int .i64 (-1),.int .i64 0] 1 true)]++[HO.o (.cells [.int .i64 0,.int .i64 1,.int .i64 0,.int .i64 (-1)] 1 true)]=h7 at *
  refine gC (o:=0) (n:=1) hv7.bk (by simp) rfl ?_
  simp only[qaz,qax,qaL]
  simp(disch:=omega)only[↓qXX]
  refine av hv7.set.good ?_
  simp(disch:=omega)only[↓qXX]
  refine bf (has_c hv7.set (by omega) (sqC (bes c j)) ⟨rfl,rfl,rfl⟩) ?_
  simp(disch:=omega)only[↓qXX]
  have hmD:sqC (bes c j)∈D↔bes c j∈L:=by
   rw[hD.mem]
   exact⟨λh=>h.1,λh=>⟨h,by show 0<4;omega⟩⟩
  by_cases hnL:bes c j∈L
  case neg=>
   rw[decide_eq_false (λe=>hnL (hmD.1 e))]
   simp(disch:=omega)only[↓qXX]
   rw[eO (by omega)]
   refine hstep _ xb5 xs5 ?_ hlow7
   unfold rndT
   rw[if_neg (λe=>hnL e.1)]
   exact hv7
  rw[decide_eq_true (hmD.2 hnL)]
  simp(disch:=omega)only[↓qXX]
  refine gC (o:=1) (n:=1) hv7.bk (by simp) rfl ?_
  simp only[qaD,qaz,qax,qaL]
  simp(disch:=omega)only[↓qXX]
  refine av (hv7.be.good cp) ?_
  simp(disch:=omega)only[↓qXX]
  refine bf (has_c (hv7.be.ls cp) (by rw[qaQ];omega) (sqC (bes c j)) ⟨rfl,rfl,rfl⟩) ?_
  simp(disch:=omega)only[↓qXX]
  by_cases hnB:bes c j∈u.been
  case pos=>
   rw[decide_eq_true (gH.2 hnB)]
   simp(disch:=omega)only[↓qXX,qa7]
   rw[eO (by omega)]
   refine hstep _ xb5 xs5 ?_ hlow7
   unfold rndT
   rw[if_neg (λe=>e.2 hnB)]
   exact hv7
  rw[decide_eq_false (λe=>hnB (gH.1 e))]
  simp(disch:=omega)only[↓qXX,qco]
  unfold rndT at hstep
  rw[if_pos ⟨hnL,hnB⟩]at hstep
  obtain⟨rs,h8,hcall,rfl,xs8,hv8,hlow8⟩:=step_c hv7 hj4 hhd (by omega)
  refine bf hcall ?_
  clear hcall
  simp(disch:=omega)only[↓qXX]
  obtain⟨g1,g2,g3,g4,g5,g6⟩:=go_ev hev6 hj4
  have hev7:Ev L (goT u j) (goT u j):=⟨⟨[],by simp⟩,hev6.nd,hev6.sub,g6,g3,g4,g5,qai _⟩
  have hbd7:(goT u j).steps.length<=6*(goT u j).been.length:=by
   rw[g1]
   omega
  have hev8:=(nr L n (bes c j) (goT u j) hev7 hnL hnB hfj).1
  have hbd8:(visT L n (bes c j) (goT u j)).steps.length<=6*(visT L n (bes c j) (goT u j)).been.length:=by
   have:=hev8.le
   omega
  have hsm8:=hev8.small
  have hhd8:=hev8.hd
  obtain⟨rs,h9,hcall,rfl,xb9,xs9,hv9,hlow9⟩:=ih (bes c j) h8 (goT u j) xb5 xs8 hv8 hev7 hbd7 hnL hnB hfj
  refine bf hcall ?_
  clear hcall
  simp(disch:=omega)only[↓qXX]
  have e2:Int.ofNat j+2=Int.ofNat (j+2):=rfl
  rw[p_add (by show(-9223372036854775808:Int)<=((j:Nat):Int)+2;omega) (by show((j:Nat):Int)+2<=9223372036854775807;omega),e2,rem4]
  obtain⟨rs,h10,hcall,rfl,xs10,hv10,hlow10⟩:=step_c hv9 (k:=(j+2)%4) (qbK _ (by omega)) hhd8 (by omega)
  refine bf hcall ?_
  clear hcall
  simp(disch:=omega)only[↓qXX]
  rw[eO (by omega)]
  exact hstep h10 xb9 xs10 hv10 (((hlow7.trans hlow8).trans hlow9).trans hlow10)
end Go.Am
namespace Go.Am
namespace Sx
section
variable [Val]
end
section
variable [Val]
end
end Sx
end Go.Am
set_option maxRecDepth 100000
namespace Go.Am
open Sx Go.Proofs
def isAns(rs':List Lf):Option (List Lf)->Bool:=λo=>@Option.rec _ (λ_=>Bool) false (λrs=>eqLs rs rs') o
def eqCell(a b:Value):Bool:=match a,b with
 | .int k n,.int k' n'=>di k k'&&eqZK n n'
 | .bool t,.bool t'=>eqBK t t'
 |_,_=>false
def eqCell_ok{a b:Value}(h:eqCell a b=true):a=b/\flat b=true:=by
 unfold eqCell at h
 split at h
 ·simp only[qaa]at h
  have h2:=h.2
  rw[nU,beq_iff_eq]at h2
  rw[cO h.1,h2]
  exact⟨rfl,rfl⟩
 next a b=>
  cases a<;>cases b<;>first|exact⟨rfl,rfl⟩|cases h
 ·cases h
def nS(c:Tr Value):List Value->Nat->Bool
 | [],_=>true
 |v :: l,i=>eqCell ((ba i).get nilV c) v&&nS c l (i+1)
def mw{c:Tr Value}:∀ {l:List Value} {i:Nat},nS c l i=true->(∀j (h:j<l.length),(ba (i+j)).get nilV c=l[j])/\l.all flat=true
 | [],i,_=>⟨λj h=>by simp at h,rfl⟩
 |v :: l,i,h=>by
  simp only[nS,qaa]at h
  obtain⟨h1,h2⟩:=eqCell_ok h.1
  obtain⟨h3,h4⟩:=mw h.2
  refine⟨λj hj=>?_,by simp[h2,h4]⟩
  cases j with
  |zero=>exact h1
  |succ j=>
   have:=h3 j (by simpa using hj)
   rw[show i+(j+1)=i+1+j by omega]
   simpa using this
def eqOn(a b:Option Nat):Bool:=match a,b with
 |none,none=>true
 |some a,some b=>Nat.beq a b
 |_,_=>false
def eqOn_ok{a b:Option Nat}(h:eqOn a b=true):a=b:=by
 cases a<;>cases b<;>first|rfl|(cases h;done)|exact congrArg some (qab h)
def eqVs(x y:Value):Bool:=match x,y with
 | .slice (some a) n c,.slice (some b) m d=>Nat.beq a.block b.block&&(Nat.beq a.off b.off&&(eqOn a.spot b.spot&&(Nat.beq n m&&Nat.beq c d)))
 | .slice none 0 0,.slice none 0 0=>true
 |_,_=>false
def eqVs_ok{x y:Value}(h:eqVs x y=true):x=y:=by
 unfold eqVs at h
 split at h
 next a n c b m d=>
  simp only[qaa]at h
  obtain⟨h1,h2,h3,h4,h5⟩:=h
  have h1:=qab h1
  have h2:=qab h2
  have h3:=eqOn_ok h3
  have h4:=qab h4
  have h5:=qab h5
  have e:a=b:=by
   cases a;cases b
   simp only at *
   simp_all
  rw[e,h4,h5]
 ·rfl
 ·cases h
def eqLg(x y:Lf):Bool:=match x,y with
 | .v x,.v y=>eqVs x y
 |x,y=>eqLf x y
def eqLg_ok{x y:Lf}(h:eqLg x y=true):x=y:=by
 unfold eqLg at h
 split at h
 ·rw[eqVs_ok h]
 ·exact my h
def eqLgs:List Lf->List Lf->Bool
 | [],[]=>true
 |x :: l,y :: m=>eqLg x y&&eqLgs l m
 |_,_=>false
def se:∀ {l m:List Lf},eqLgs l m=true->l=m
 | [],[],_=>rfl
 |x :: l,y :: m,h=>by
  simp only[eqLgs,qaa]at h
  rw[eqLg_ok h.1,se h.2]
 | [],_ :: _,h=>by cases h
 |_ :: _,[],h=>by cases h
abbrev Bls:=List (Nat×List Value)
def blH(bl:Bls):List HObj:=bl.map λb=>.cells b.2 b.1 false
def isBl:Bls->HTr->Nat->Bool
 | [],h,i=>Nat.beq h.n i
 |b :: bl,h,i=>(match h.at i with
  |some (.t n e false c)=>Nat.beq n b.2.length&&(Nat.beq e b.1&&nS c b.2 0)
  |_=>false)&&isBl bl h (i+1)
def isBl_ok:∀ {bl:Bls} {h:HTr} {i:Nat},isBl bl h i=true->h.n=i+bl.length/\∀j (hj:j<bl.length),(toL h)[i+j]?=some (.o (.cells bl[j].2 bl[j].1 false))/\bl[j].2.all flat=true
 | [],h,i,hb=>⟨(qab hb),λj hj=>by simp at hj⟩
 |b :: bl,h,i,hb=>by
  simp only[isBl,qaa]at hb
  obtain⟨h1,h2⟩:=hb
  obtain⟨h3,h4⟩:=isBl_ok h2
  refine⟨by rw[h3];simp;omega,λj hj=>?_⟩
  cases j with
  |succ j=>
   have:=h4 j (by simpa using hj)
   rw[show i+(j+1)=i+1+j by omega]
   simpa using this
  |zero=>
   split at h1
   next n e c hat=>
    simp only[qaa]at h1
    obtain⟨q1,q2,q3⟩:=h1
    have q1:=qab q1
    have q2:=qab q2
    obtain⟨q4,q5⟩:=mw q3
    refine⟨?_,q5⟩
    rw[qcf,gJ,hat]
    show some (HO.o (.cells (bn c n) e false))=some (HO.o (.cells b.2 b.1 false))
    subst q1 q2
    have hc:bn c b.2.length=b.2:=by
     apply List.ext_getElem
     ·rw[aK]
     ·intro k hk hk'
      have:=cT c (i:=k) (n:=b.2.length) hk'
      rw[qas hk]at this
      rw[qaj this,←q4 k hk',qaG]
    rw[hc]
   ·cases h1
def isBl_abs{T:Nat->Site}{bl:Bls}{h:HTr}(hb:isBl bl h 0=true):absH T (toL h)=blH bl/\h.n=bl.length:=by
 obtain⟨h1,h2⟩:=isBl_ok hb
 refine⟨?_,by rw[h1];omega⟩
 apply qaR
 intro j
 unfold absH blH
 rw[qaw,qaw]
 by_cases hj:j<bl.length
 ·have:=(h2 j hj).1
  rw[qaG]at this
  rw[this,qas hj];rfl
 ·rw[qag (by rw[cr];omega),qag (by omega)];rfl
structure KR1 where
 f:Nat
 ls:List Lf
 bl:Bls
 rs:List Lf
def ot(l:List KR1)(f:Nat)(ls:List Lf)(h:HTr):Option (List Lf):=match l with
 | []=>none
 |p :: l=>match Nat.beq p.f f with
  |false=>ot l f ls h
  |true=>match eqLgs p.ls ls with
   |false=>ot l f ls h
   |true=>match isBl p.bl h 0 with
    |false=>ot l f ls h
    |true=>some p.rs
def qh{f:Nat}{ls rs:List Lf}{h:HTr}:∀ {l:List KR1},ot l f ls h=some rs->∃p∈l,p.f=f/\p.ls=ls/\isBl p.bl h 0=true/\p.rs=rs
 | [],hh=>by cases hh
 |p :: l,hh=>by
  have rec_:ot l f ls h=some rs->∃p'∈p :: l,p'.f=f/\p'.ls=ls/\isBl p'.bl h 0=true/\p'.rs=rs:=λh1=>by
   obtain⟨q,q1,q2⟩:=qh h1
   exact⟨q,qal _ q1,q2⟩
  unfold ot at hh
  split at hh
  ·exact rec_ hh
  next e1=>
   split at hh
   ·exact rec_ hh
   next e2=>
    split at hh
    ·exact rec_ hh
    next e3=>
     cases hh
     exact⟨p,qaJ,qab e1,se e2,e3,rfl⟩
def hasR(l:List KR1)(f:Nat):Bool:=match l with
 | []=>false
 |p :: l=>match Nat.beq p.f f with
  |true=>true
  |false=>hasR l f
def runKR(l:List KR1)(c:ac):ac:=λck=>match ck with
 | .f f=>match hasR l f with
  |false=>c (.f f)
  |true=>λls h K=>ext h (c (.f f) ls h K) ls .empty λls0 h0=>@Option.rec _ (λ_=>RT) (c (.f f) ls h K) (λrs=>K rs h) (ot l f ls0 h0)
 | .y κ vs i=>c (.y κ vs i)
def KROk(p:KR1):Prop:=∃sg H',ab p.f=some sg/\sg.rs.all SK.plain=true/\neuN p.f=none/\aR cc ab p.f p.ls (blH p.bl) p.rs H'
def AllR(l:List KR1):Prop:=∀p∈l,KROk p
def AllR.nil:AllR []:=λ_ h=>by cases h
def AllR.cons{p:KR1}{l:List KR1}(h:KROk p)(hl:AllR l):AllR (p :: l):=λq hq=>by
 rcases qaq.1 hq with rfl|hq
 ·exact h
 ·exact hl q hq
def AllR.app{l m:List KR1}(h:AllR l)(hm:AllR m):AllR (l++m):=λp hp=>by
 rcases qaA.1 hp with hp|hp
 ·exact h p hp
 ·exact hm p hp
def runKR_ok{l:List KR1}{c:ac}(hc:Cok c)(hl:AllR l):Cok (runKR l c):=by
 refine⟨λf ls h K w hls hk=>?_,λκ vs i ls h K w st pd xs e hy hk=>hc.y κ vs i ls h K w st pd xs e hy hk⟩
 have hk:(match hasR l f with
  |false=>c (.f f)
  |true=>λls h K=>ext h (c (.f f) ls h K) ls .empty λls0 h0=>@Option.rec _ (λ_=>RT) (c (.f f) ls h K) (λrs=>K rs h) (ot l f ls0 h0)) ls h K=some w:=hk
 cases ef:hasR l f with
 |false=>rw[ef]at hk;exact hc.f f ls h K w hls hk
 |true=>
  rw[ef]at hk
  rcases kG (T:=aa) ls .empty _ id (λj o hj=>by cases hj) hk with h1|⟨ls0,h1,σ,a1,_,_,a4,a5,a6⟩
  ·exact hc.f f ls h K w hls h1
  ·cases e:ot l f ls0 h1 with
   |none=>rw[e]at a1;exact hc.f f ls h K w hls a1
   |some rs=>
    rw[e]at a1
    obtain⟨p,hp,rfl,rfl,q3,rfl⟩:=qh e
    obtain⟨sg,H',s1,s2,s3,s4⟩:=hl p hp
    obtain⟨q4,q5⟩:=isBl_abs (T:=aa) q3
    rw[←q4]at s4
    have key:=qT (N:=neuN) mixed iH s1 s2 s3 (H:=absH aa (toL h)) σ s4 a4 (λx hx=>by
     have:=a6 x hx
     rw[cL,cr]
     exact this)
    rw[a5]at key
    exact⟨_,h,key,a1⟩
def mkBl(bl:Bls):HTr->(HTr->RT)->RT:=@List.rec _ (λ_=>HTr->(HTr->RT)->RT) (λh k=>k h) (λb _ ih h k=>ma (.cells b.2 b.1 false) λx=>fE h x λh=>ih h k) bl
def mkBl_ok:∀(bl:Bls) (h:HTr) (k:HTr->RT),∃h',mkBl bl h k=k h'/\absH aa (toL h')=absH aa (toL h)++blH bl
 | [],h,k=>⟨h,rfl,by simp[blH]⟩
 |b :: bl,h,k=>by
  have e:mkBl (b :: bl) h k=ma (.cells b.2 b.1 false) λx=>fE h x λh=>mkBl bl h k:=rfl
  obtain⟨x,x1,x2⟩:=fS (o:=.cells b.2 b.1 false) (k:=λx=>fE h x λh=>mkBl bl h k)
  obtain⟨h',a1,a2⟩:=mkBl_ok bl (h.push x) k
  refine⟨h',by rw[e,x2,dZ,a1],?_⟩
  rw[a2,ee,x1]
  simp[absH,absO,blH]
def kS{p:KR1}{g:FB}(hc:Ent p.f g){sg:Sig}(h1:ab p.f=some sg)(h2:sg.rs.all SK.plain=true)(h3:neuN p.f=none)(h4:cG p.ls)(h:(mkBl p.bl .empty λh=>@Option.rec _ (λ_=>RT) none (λrs=>ans (eqLs rs p.rs)) (g p.ls h tell))=yes):KROk p:=by
 obtain⟨h',a1,a2⟩:=mkBl_ok p.bl .empty λh=>@Option.rec _ (λ_=>RT) none (λrs=>ans (eqLs rs p.rs)) (g p.ls h tell)
 rw[a1]at h
 cases e:g p.ls h' tell with
 |none=>rw[e]at h;cases h
 |some rs=>
  rw[e]at h
  have h:ans (eqLs rs p.rs)=yes:=h
  have h:=iB (ans_yes h)
  subst h
  obtain⟨rs',h'',b1,b2⟩:=hc p.ls h' tell _ h4 e
  rw[lL]at b2
  cases b2
  have e0:absH aa (toL HTr.empty)=[]:=rfl
  rw[e0,qbD]at a2
  rw[a2]at b1
  exact⟨sg,_,h1,h2,h3,b1⟩
def known_c{g:Nat}{w:FB}(hc:Ent g w){ls rs:List Lf}{sg:Sig}(hs:ab g=some sg)(hp:sg.plain=true)(hg:jm ls=true)(h:isAns rs (w ls .empty tell)=true):∀H,aR cc ab g ls H rs H:=by
 cases e:w ls .empty tell with
 |none=>rw[e]at h;cases h
 |some rs'=>
  rw[e]at h
  have h:eqLs rs' rs=true:=h
  rw[iB h]at e
  obtain⟨rs'',h',a1,a2⟩:=hc ls .empty tell _ (ca hg) e
  rw[lL]at a2
  cases a2
  exact sN g sg ls _ _ hs hp a1
end Go.Am
end

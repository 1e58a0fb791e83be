/-
  PART 6 OF THE PROOF (no conditions).
-/
import Derived.Test.YtijdjcjlfbgpgaaGreatDoorCL5
set_option linter.unusedSectionVars false
set_option linter.unusedSimpArgs false
set_option linter.unusedVariables false
set_option linter.constructorNameAsVariable false
set_option linter.defProp false
noncomputable section
namespace Go.Am
namespace Sx
section
variable [Val] [Kno]
def peekH(T:Nat->Site)(f:Pk)(h:HL)(K:List Value->Prop):Prop:=∃cs,f.run (getH T h)=some cs/\K cs
def heapH(T:Nat->Site)(f:Hp)(h:HL)(K:List Value->HL->Prop):Prop:=∃acts cs,f.run (getH T h) h.length=some (acts,cs)/\K cs (cj h acts)
def callH(C:Cfg)(Sg:FuncId->Option Sig)(T:Nat->Site)(g:FuncId)(ls:List Lf)(h:HL)(K:List Lf->HL->Prop):Prop:=∃rs h',aQ C Sg g ls (absH T h) rs (absH T h')/\K rs h'
def callvH(C:Cfg)(T:Nat->Site)(v:Value)(args:List Value)(hs:List SK)(h:HL)(K:List Lf->HL->Prop):Prop:=∃rs h',ry C v args hs (absH T h) rs (absH T h')/\K rs h'
def itH(F:(List Lf->HL->Prop)->List Lf->HL->Prop)(n:Nat):List Lf->HL->Prop:=
 match n with
 |0=>λ_ _=>False
 |n+1=>F (itH F n)
def loopH(F:(List Lf->HL->Prop)->List Lf->HL->Prop)(ls:List Lf)(h:HL):Prop:=∃n,itH F n ls h
def rfunH(C:Cfg)(T:Nat->Site)(κ:Nat)(v:Value)(vals:List Value)(h:HL)(K:Option Code->HL->Prop):Prop:=
 ∃g first cap r H1 lp h2,v = .func (.func g) first cap/\
  gp C g (first.toList++[.func (.yield (absH T h).length) #[] #[]]++cap.toList) (absH T h++[.loop (lpOf (T κ) κ vals)]) r H1/\
  dE H1 (absH T h).length=some lp/\lp.state≠.busy/\absH T h2=H1.set (absH T h).length (.loop { lp with state:=.exhausted })/\K lp.pending h2
def lp1H(T:Nat->Site)(l:Nat)(h:HL)(K:HL->Prop):Prop:=∃lp h',dE (absH T h) l=some lp/\lp.state = .ready/\absH T h'=(absH T h).set l (.loop { lp with state:=.busy })/\K h'
def lp2H(T:Nat->Site)(l:Nat)(j:Option Code)(h:HL)(K:HL->Prop):Prop:=∃lp h',dE (absH T h) l=some lp/\absH T h'=(absH T h).set l (.loop { lp with state:=if j.isNone then .ready else .done,pending:=j })/\K h'
def PH(C:Cfg)(Sg:FuncId->Option Sig)(T:Nat->Site):Alg Prop HL where
 fail:=False
 cond:=condP
 ari:=ariP
 shf:=λop k a k' b K=>∃n,ShRun op k a k' b n/\K n
 cmp:=cmpP
 eqs:=λl K=>K (cm l)
 conv:=λk a K=>K (k.wrap a)
 sel:=λt a b K=>K (if t then a else b)
 opt:=optP
 chk:=λv K=>aX v=true/\K
 unI:=unIP
 unB:=unBP
 unV:=unVP
 un0:=un0P
 ucI:=ucIP
 ucB:=ucBP
 ucV:=ucVP
 uc0:=uc0P
 peek:=peekH T
 heap:=heapH T
 new:=λo h K=>K h.length (h++[.o o])
 call:=callH C Sg T
 callv:=callvH C T
 join:=λb m=>m b
 loop:=loopH
 rfun:=rfunH C T
 pend:=pendP
 lp1:=lp1H T
 lp2:=lp2H T
def PH_ok(C:Cfg)(Sg:FuncId->Option Sig)(T:Nat->Site):AlgOk (PH C Sg T) C Sg T id (absH T) where
 fail:=(eM C Sg T).fail
 cond:=(eM C Sg T).cond
 ari:=(eM C Sg T).ari
 shf:=(eM C Sg T).shf
 cmp:=(eM C Sg T).cmp
 eqs:=(eM C Sg T).eqs
 conv:=(eM C Sg T).conv
 sel:=(eM C Sg T).sel
 opt:=(eM C Sg T).opt
 chk:=(eM C Sg T).chk
 unI:=(eM C Sg T).unI
 unB:=(eM C Sg T).unB
 unV:=(eM C Sg T).unV
 un0:=(eM C Sg T).un0
 ucI:=(eM C Sg T).ucI
 ucB:=(eM C Sg T).ucB
 ucV:=(eM C Sg T).ucV
 uc0:=(eM C Sg T).uc0
 peek:=by
  intro f h K hk
  obtain⟨cs,h1,h2⟩:=hk
  exact⟨cs,by rw[←iU];exact h1,h2⟩
 heap:=by
  intro f h K hk
  obtain⟨acts,cs,h1,h2⟩:=hk
  exact⟨acts,cs,_,by rw[←iU,cQ];exact h1,iJ T acts h,h2⟩
 new:=λo h K hk=>⟨_,fo T h _,by rw[cQ];exact hk⟩
 call:=λg ls h K hk=>hk
 callv:=λv args hs h K hk=>hk
 join:=λb m h=>h
 loop:=by
  intro F ls h hk
  obtain⟨n,hk⟩:=hk
  exact⟨itH F,λls h=>(id:False->False),λn ls h=>rfl,n,hk⟩
 rfun:=λκ v vals h K hk=>hk
 pend:=(eM C Sg T).pend
 lp1:=λl h K hk=>hk
 lp2:=λl j h K hk=>hk
section
variable {C:Cfg} {Sg:FuncId->Option Sig} {T:Nat->Site} {call:ac} (hc:CallBOk C Sg T call)
include hc
inductive SL2:List (Nat×RT)->List (Nat×Prop)->Prop
 |nil:SL2 [] []
 |cons {id:Nat} {x:RT} {x':Prop} {l:List (Nat×RT)} {l':List (Nat×Prop)} (hx:x=yes->x') (hl:SL2 l l'):SL2 ((id,x) :: l) ((id,x') :: l')
omit hc in
theorem SL2.mem{l:List (Nat×RT)}{l':List (Nat×Prop)}(h:SL2 l l'){id:Nat}{x:RT}(hm:(id,x)∈l)(hx:x=yes):∃y,(id,y)∈l'/\y:=by
 induction h with
 |nil=>cases hm
 |cons h1 h2 ih=>
  rcases qaq.1 hm with e|hm
  ·cases e;exact⟨_,qaJ,h1 hx⟩
  ·obtain⟨y,a,b⟩:=ih hm
   exact⟨y,qan _ a,b⟩
end
def ti{F:(List Lf->HL->Prop)->List Lf->HL->Prop}(Inv:Nat->List Lf->HL->Prop)
  (step:∀m ls h,Inv m ls h->∀self:List Lf->HL->Prop,(∀m' ls h,m'<m->Inv m' ls h->self ls h)->F self ls h):∀n m ls h,m<n->Inv m ls h->itH F n ls h
 |0,_,_,_,hm,_=>absurd hm (Nat.not_lt_zero _)
 |n+1,m,ls,h,hm,hi=>step m ls h hi (itH F n) λm' ls h h' hi'=>ti Inv step n m' ls h (by omega) hi'
def ge{F:(List Lf->HL->Prop)->List Lf->HL->Prop}(Inv:Nat->List Lf->HL->Prop){m:Nat}{ls:List Lf}{h:HL}(hi:Inv m ls h)
  (step:∀m ls h,Inv m ls h->∀self:List Lf->HL->Prop,(∀m' ls h,m'<m->Inv m' ls h->self ls h)->F self ls h):loopH F ls h:=
 ⟨m+1,ti Inv step (m+1) m ls h (Nat.lt_succ_self m) hi⟩
end
end Sx
namespace Sx
class Bx (α:Sort _) where
 v:α
def hid{α:Sort _} [b:Bx α]:α:=b.v
section
variable [Val] [Kno] {C:Cfg} {Sg:FuncId->Option Sig} {T:Nat->Site}
def b_unI{n:Int}{r:List Lf}{K:Int->List Lf->Prop}:(PH C Sg T).unI (.i n :: r) K=K n r:=rfl
def b_unB{n:Bool}{r:List Lf}{K:Bool->List Lf->Prop}:(PH C Sg T).unB (.b n :: r) K=K n r:=rfl
def b_unV{n:Value}{r:List Lf}{K:Value->List Lf->Prop}:(PH C Sg T).unV (.v n :: r) K=K n r:=rfl
def b_un0{K:Prop}:(PH C Sg T).un0 [] K=K:=rfl
def b_ucI{k:IntKind}{n:Int}{r:List Value}{K:Int->List Value->Prop}:(PH C Sg T).ucI k (.int k n :: r) K=K n r:=by
 show(k=k/\K n r)=K n r
 simp
def b_ucB{n:Bool}{r:List Value}{K:Bool->List Value->Prop}:(PH C Sg T).ucB (.bool n :: r) K=K n r:=rfl
def b_ucV{n:Value}{r:List Value}{K:Value->List Value->Prop}:(PH C Sg T).ucV (n :: r) K=K n r:=rfl
def b_uc0{K:Prop}:(PH C Sg T).uc0 [] K=K:=rfl
def b_cond_t{X Y:Prop}:(PH C Sg T).cond true X Y=X:=by
 show((true=true->X)/\(true=false->Y))=X
 simp
def b_cond_f{X Y:Prop}:(PH C Sg T).cond false X Y=Y:=by
 show((false=true->X)/\(false=false->Y))=Y
 simp
def b_lss_t{a b:Int}{K:Bool->Prop}(h:a<b):(PH C Sg T).cmp .lss a b K=K true:=by
 show K (decide (a<b))=_;rw[decide_eq_true h]
def b_lss_f{a b:Int}{K:Bool->Prop}(h:b<=a):(PH C Sg T).cmp .lss a b K=K false:=by
 show K (decide (a<b))=_;rw[decide_eq_false (by omega)]
def b_leq_t{a b:Int}{K:Bool->Prop}(h:a<=b):(PH C Sg T).cmp .leq a b K=K true:=by
 show K (decide (a<=b))=_;rw[decide_eq_true h]
def b_leq_f{a b:Int}{K:Bool->Prop}(h:b<a):(PH C Sg T).cmp .leq a b K=K false:=by
 show K (decide (a<=b))=_;rw[decide_eq_false (by omega)]
def b_gtr_t{a b:Int}{K:Bool->Prop}(h:b<a):(PH C Sg T).cmp .gtr a b K=K true:=by
 show K (decide (a > b))=_;rw[decide_eq_true h]
def b_gtr_f{a b:Int}{K:Bool->Prop}(h:a<=b):(PH C Sg T).cmp .gtr a b K=K false:=by
 show K (decide (a > b))=_;rw[decide_eq_false (by omega)]
def b_geq_t{a b:Int}{K:Bool->Prop}(h:b<=a):(PH C Sg T).cmp .geq a b K=K true:=by
 show K (decide (a ≥ b))=_;rw[decide_eq_true h]
def b_geq_f{a b:Int}{K:Bool->Prop}(h:a<b):(PH C Sg T).cmp .geq a b K=K false:=by
 show K (decide (a ≥ b))=_;rw[decide_eq_false (by omega)]
def b_eql_t{a b:Int}{K:Bool->Prop}(h:a=b):(PH C Sg T).cmp .eql a b K=K true:=by
 show K (a==b)=_;rw[beq_iff_eq.2 h]
def b_eql_f{a b:Int}{K:Bool->Prop}(h:a≠b):(PH C Sg T).cmp .eql a b K=K false:=by
 show K (a==b)=_;rw[beq_false_of_ne h]
def b_neq_t{a b:Int}{K:Bool->Prop}(h:a≠b):(PH C Sg T).cmp .neq a b K=K true:=by
 show K (a != b)=_;rw[bne_iff_ne.2 h]
def b_neq_f{a b:Int}{K:Bool->Prop}(h:a=b):(PH C Sg T).cmp .neq a b K=K false:=by
 show K (a != b)=_;subst h;simp
def b_add{a b:Int}{K:Int->Prop}(h1:-9223372036854775808<=a+b)(h2:a+b<=9223372036854775807):(PH C Sg T).ari .add .i64 a b K=K (a+b):=by
 show K (IntKind.wrap .i64 (a+b))=_;rw[cy h1 h2]
def b_sub{a b:Int}{K:Int->Prop}(h1:-9223372036854775808<=a - b)(h2:a - b<=9223372036854775807):(PH C Sg T).ari .sub .i64 a b K=K (a - b):=by
 show K (IntKind.wrap .i64 (a - b))=_;rw[cy h1 h2]
def b_mul{a b:Int}{K:Int->Prop}(h1:-9223372036854775808<=a*b)(h2:a*b<=9223372036854775807):(PH C Sg T).ari .mul .i64 a b K=K (a*b):=by
 show K (IntKind.wrap .i64 (a*b))=_;rw[cy h1 h2]
def b_add8{a b:Int}{K:Int->Prop}(h1:0<=a+b)(h2:a+b<=255):(PH C Sg T).ari .add .u8 a b K=K (a+b):=by
 show K (IntKind.wrap .u8 (a+b))=_;rw[pI h1 h2]
def b_sub8{a b:Int}{K:Int->Prop}(h1:0<=a - b)(h2:a - b<=255):(PH C Sg T).ari .sub .u8 a b K=K (a - b):=by
 show K (IntKind.wrap .u8 (a - b))=_;rw[pI h1 h2]
def b_mul8{a b:Int}{K:Int->Prop}(h1:0<=a*b)(h2:a*b<=255):(PH C Sg T).ari .mul .u8 a b K=K (a*b):=by
 show K (IntKind.wrap .u8 (a*b))=_;rw[pI h1 h2]
def tdiv_nn{a b:Int}(h:0<=a):a.tdiv b=a / b:=Int.tdiv_eq_ediv_of_nonneg h
def b_quo_nn{a b:Int}{K:Int->Prop}(h:0<=a)(hb:0<b)(h2:a<=9223372036854775807):(PH C Sg T).ari .quo .i64 a b K=K (a / b):=by
 show(b≠0/\K (IntKind.wrap .i64 (a.tdiv b)))=_
 have h3:a / b<=a:=Int.ediv_le_self b h
 have h4:0<=a / b:=Int.ediv_nonneg h (by omega)
 rw[tdiv_nn h,cy (by omega) (by omega)]
 simp;intro _ h;omega
def b_quo_dv{a b:Int}{K:Int->Prop}(h:a%b=0)(hb:0<b)(h1:-9223372036854775808<=a)(h2:a<=9223372036854775807):(PH C Sg T).ari .quo .i64 a b K=K (a / b):=by
 show(b≠0/\K (IntKind.wrap .i64 (a.tdiv b)))=_
 obtain⟨q,rfl⟩:=Int.dvd_of_emod_eq_zero h
 rw[Int.mul_tdiv_cancel_left q (by omega),Int.mul_ediv_cancel_left q (by omega)]
 have hq:-9223372036854775808<=q/\q<=9223372036854775807:=by
  rcases Int.le_total 0 q with hs|hs
  ·have:=qb7 (show(1:Int)<=b by omega) hs
   omega
  ·have:=qb7 (show(1:Int)<=b by omega) (show 0<=-q by omega)
   rw[Int.mul_neg b q]at this
   omega
 rw[cy hq.1 hq.2]
 simp;intro _ h;omega
def b_rem_nn{k:IntKind}{a b:Int}{K:Int->Prop}(h:0<=a)(hb:0<b):(PH C Sg T).ari .rem k a b K=K (a%b):=by
 show(b≠0/\K (a.tmod b))=_
 rw[qcP h]
 simp;intro _ h;omega
def b_rem_np{k:IntKind}{a b:Int}{K:Int->Prop}(h:a<=0)(hb:0<b):(PH C Sg T).ari .rem k a b K=K (-((-a)%b)):=by
 show(b≠0/\K (a.tmod b))=_
 have:a.tmod b = -((-a)%b):=by
  have h1:=Int.neg_tmod a b
  rw[qcP (a:=-a) (by omega)]at h1
  omega
 rw[this]
 simp;intro _ h;omega
def b_and1{a:Int}{K:Int->Prop}:(PH C Sg T).ari .and .i64 a 1 K=K (a%2):=by
 show(((1:Int)=1/\K (a%2))∨((1:Int)≠1/\∃n,nP .and .i64 a 1 n/\K n))=K (a%2)
 simp
def b_conv{a:Int}{K:Int->Prop}(h1:-9223372036854775808<=a)(h2:a<=9223372036854775807):(PH C Sg T).conv .i64 a K=K a:=by
 show K (IntKind.wrap .i64 a)=_;rw[cy h1 h2]
def b_conv8{a:Int}{K:Int->Prop}(h1:0<=a)(h2:a<=255):(PH C Sg T).conv .u8 a K=K a:=by
 show K (IntKind.wrap .u8 a)=_;rw[pI h1 h2]
def b_sel_t{a b:Int}{K:Int->Prop}:(PH C Sg T).sel true a b K=K a:=rfl
def b_sel_f{a b:Int}{K:Int->Prop}:(PH C Sg T).sel false a b K=K b:=rfl
def b_opt{α:Type}{x:α}{K:α->Prop}:(PH C Sg T).opt (some x) K=K x:=by
 show(∃y,some x=some y/\K y)=K x
 simp
def b_inB{n:Nat}{i:Int}{K:Unit->Prop}(h1:0<=i)(h2:i<(n:Int)):(PH C Sg T).opt (inB n i) K=K ():=by
 rw[show inB n i=some ()from(inB_eq n i).trans (if_pos ⟨h1,h2⟩),b_opt]
def b_join{b:List Lf->HL->Prop}{m:(List Lf->HL->Prop)->Prop}:(PH C Sg T).join b m=m b:=rfl
def b_eqs0{K:Bool->Prop}:(PH C Sg T).eqs [] K=K true:=rfl
def b_eqs_t{a b:Int}{l:List (Lf×Lf)}{K:Bool->Prop}(h:a=b):(PH C Sg T).eqs ((.i a,.i b) :: l) K=(PH C Sg T).eqs l K:=by
 show K (cm _)=K (cm l)
 subst h
 simp[cm,gF]
def b_eqs_f{a b:Int}{l:List (Lf×Lf)}{K:Bool->Prop}(h:a≠b):(PH C Sg T).eqs ((.i a,.i b) :: l) K=K false:=by
 show K (cm _)=K false
 have:(a==b)=false:=beq_false_of_ne h
 simp[cm,gF,this]
def b_it{F:(List Lf->HL->Prop)->List Lf->HL->Prop}{n:Nat}{ls:List Lf}{h:HL}:itH F (n+1) ls h=F (itH F n) ls h:=rfl
def dz{g:FuncId}{ls rs:List Lf}{h:HL}{K:List Lf->HL->Prop}(hc:∀H,aQ C Sg g ls H rs H)(hk:K rs h):(PH C Sg T).call g ls h (@hid _ ⟨K⟩):=⟨rs,h,hc _,hk⟩
def b_eqsb_t{a b:Bool}{l:List (Lf×Lf)}{K:Bool->Prop}(h:a=b):(PH C Sg T).eqs ((.b a,.b b) :: l) K=(PH C Sg T).eqs l K:=by
 show K (cm _)=K (cm l)
 subst h
 simp[cm,gF]
def b_eqsb_tf{l:List (Lf×Lf)}{K:Bool->Prop}:(PH C Sg T).eqs ((.b true,.b false) :: l) K=K false:=rfl
def b_eqsb_ft{l:List (Lf×Lf)}{K:Bool->Prop}:(PH C Sg T).eqs ((.b false,.b true) :: l) K=K false:=rfl
def b_mul_1{b:Int}{K:Int->Prop}(h1:-9223372036854775808<=b)(h2:b<=9223372036854775807):(PH C Sg T).ari .mul .i64 1 b K=K b:=by
 show K (IntKind.wrap .i64 (1*b))=_;rw[Int.one_mul,cy h1 h2]
def b_mul_0{b:Int}{K:Int->Prop}:(PH C Sg T).ari .mul .i64 0 b K=K 0:=by
 show K (IntKind.wrap .i64 (0*b))=_;rw[Int.zero_mul];rfl
def b_mul_m{b:Int}{K:Int->Prop}(h1:-9223372036854775808<=-b)(h2:-b<=9223372036854775807):(PH C Sg T).ari .mul .i64 (-1) b K=K (-b):=by
 show K (IntKind.wrap .i64 (-1*b))=_
 have:(-1*b:Int) = -b:=by omega
 rw[this,cy h1 h2]
def b_mul_r1{b:Int}{K:Int->Prop}(h1:-9223372036854775808<=b)(h2:b<=9223372036854775807):(PH C Sg T).ari .mul .i64 b 1 K=K b:=by
 show K (IntKind.wrap .i64 (b*1))=_;rw[Int.mul_one,cy h1 h2]
def b_mul_r0{b:Int}{K:Int->Prop}:(PH C Sg T).ari .mul .i64 b 0 K=K 0:=by
 show K (IntKind.wrap .i64 (b*0))=_;rw[Int.mul_zero];rfl
def b_mul_rm{b:Int}{K:Int->Prop}(h1:-9223372036854775808<=-b)(h2:-b<=9223372036854775807):(PH C Sg T).ari .mul .i64 b (-1) K=K (-b):=by
 show K (IntKind.wrap .i64 (b * -1))=_
 have:(b * -1:Int) = -b:=by omega
 rw[this,cy h1 h2]
def b_add_0{b:Int}{K:Int->Prop}(h1:-9223372036854775808<=b)(h2:b<=9223372036854775807):(PH C Sg T).ari .add .i64 0 b K=K b:=by
 show K (IntKind.wrap .i64 (0+b))=_;rw[Int.zero_add,cy h1 h2]
def b_add_r0{b:Int}{K:Int->Prop}(h1:-9223372036854775808<=b)(h2:b<=9223372036854775807):(PH C Sg T).ari .add .i64 b 0 K=K b:=by
 show K (IntKind.wrap .i64 (b+0))=_;rw[Int.add_zero,cy h1 h2]
def b_add_11{K:Int->Prop}:(PH C Sg T).ari .add .i64 1 1 K=K 2:=by
 show K (IntKind.wrap .i64 (1+1))=_;rfl
def b_quo_1{a:Int}{K:Int->Prop}(h1:-9223372036854775808<=a)(h2:a<=9223372036854775807):(PH C Sg T).ari .quo .i64 a 1 K=K a:=by
 show((1:Int)≠0/\K (IntKind.wrap .i64 (a.tdiv 1)))=_
 rw[Int.tdiv_one,cy h1 h2];simp
def ax{α:Type}{o:Option α}{x:α}{K:α->Prop}(h:o=some x)(hk:K x):(PH C Sg T).opt o (@hid _ ⟨K⟩):=⟨x,h,hk⟩
theorem p_unI{n:Int}{r:List Lf}{K:Int->List Lf->Prop}:(PH C Sg T).unI (.i n :: r) (@hid _ ⟨K⟩)=K n r:=b_unI
theorem p_unB{n:Bool}{r:List Lf}{K:Bool->List Lf->Prop}:(PH C Sg T).unB (.b n :: r) (@hid _ ⟨K⟩)=K n r:=b_unB
theorem p_unV{n:Value}{r:List Lf}{K:Value->List Lf->Prop}:(PH C Sg T).unV (.v n :: r) (@hid _ ⟨K⟩)=K n r:=b_unV
theorem p_un0{K:Prop}:(PH C Sg T).un0 [] (@hid _ ⟨K⟩)=K:=b_un0
theorem p_ucI{k:IntKind}{n:Int}{r:List Value}{K:Int->List Value->Prop}:(PH C Sg T).ucI k (.int k n :: r) (@hid _ ⟨K⟩)=K n r:=b_ucI
theorem p_ucB{n:Bool}{r:List Value}{K:Bool->List Value->Prop}:(PH C Sg T).ucB (.bool n :: r) (@hid _ ⟨K⟩)=K n r:=b_ucB
theorem p_ucV{n:Value}{r:List Value}{K:Value->List Value->Prop}:(PH C Sg T).ucV (n :: r) (@hid _ ⟨K⟩)=K n r:=b_ucV
theorem p_uc0{K:Prop}:(PH C Sg T).uc0 [] (@hid _ ⟨K⟩)=K:=b_uc0
theorem p_cond_t{X Y:Prop}:(PH C Sg T).cond true (@hid _ ⟨X⟩) Y=X:=b_cond_t
theorem p_cond_f{X Y:Prop}:(PH C Sg T).cond false X (@hid _ ⟨Y⟩)=Y:=b_cond_f
theorem p_lss_t{a b:Int}{K:Bool->Prop}(h:a<b):(PH C Sg T).cmp .lss a b (@hid _ ⟨K⟩)=K true:=b_lss_t h
theorem p_lss_f{a b:Int}{K:Bool->Prop}(h:b<=a):(PH C Sg T).cmp .lss a b (@hid _ ⟨K⟩)=K false:=b_lss_f h
theorem p_leq_t{a b:Int}{K:Bool->Prop}(h:a<=b):(PH C Sg T).cmp .leq a b (@hid _ ⟨K⟩)=K true:=b_leq_t h
theorem p_leq_f{a b:Int}{K:Bool->Prop}(h:b<a):(PH C Sg T).cmp .leq a b (@hid _ ⟨K⟩)=K false:=b_leq_f h
theorem p_gtr_t{a b:Int}{K:Bool->Prop}(h:b<a):(PH C Sg T).cmp .gtr a b (@hid _ ⟨K⟩)=K true:=b_gtr_t h
theorem p_gtr_f{a b:Int}{K:Bool->Prop}(h:a<=b):(PH C Sg T).cmp .gtr a b (@hid _ ⟨K⟩)=K false:=b_gtr_f h
theorem p_geq_t{a b:Int}{K:Bool->Prop}(h:b<=a):(PH C Sg T).cmp .geq a b (@hid _ ⟨K⟩)=K true:=b_geq_t h
theorem p_geq_f{a b:Int}{K:Bool->Prop}(h:a<b):(PH C Sg T).cmp .geq a b (@hid _ ⟨K⟩)=K false:=b_geq_f h
theorem p_eql_t{a b:Int}{K:Bool->Prop}(h:a=b):(PH C Sg T).cmp .eql a b (@hid _ ⟨K⟩)=K true:=b_eql_t h
theorem p_eql_f{a b:Int}{K:Bool->Prop}(h:a≠b):(PH C Sg T).cmp .eql a b (@hid _ ⟨K⟩)=K false:=b_eql_f h
theorem p_neq_t{a b:Int}{K:Bool->Prop}(h:a≠b):(PH C Sg T).cmp .neq a b (@hid _ ⟨K⟩)=K true:=b_neq_t h
theorem p_neq_f{a b:Int}{K:Bool->Prop}(h:a=b):(PH C Sg T).cmp .neq a b (@hid _ ⟨K⟩)=K false:=b_neq_f h
theorem p_add{a b:Int}{K:Int->Prop}(h1:-9223372036854775808<=a+b)(h2:a+b<=9223372036854775807):(PH C Sg T).ari .add .i64 a b (@hid _ ⟨K⟩)=K (a+b):=b_add h1 h2
theorem p_sub{a b:Int}{K:Int->Prop}(h1:-9223372036854775808<=a - b)(h2:a - b<=9223372036854775807):(PH C Sg T).ari .sub .i64 a b (@hid _ ⟨K⟩)=K (a - b):=b_sub h1 h2
theorem p_mul{a b:Int}{K:Int->Prop}(h1:-9223372036854775808<=a*b)(h2:a*b<=9223372036854775807):(PH C Sg T).ari .mul .i64 a b (@hid _ ⟨K⟩)=K (a*b):=b_mul h1 h2
theorem p_add8{a b:Int}{K:Int->Prop}(h1:0<=a+b)(h2:a+b<=255):(PH C Sg T).ari .add .u8 a b (@hid _ ⟨K⟩)=K (a+b):=b_add8 h1 h2
theorem p_sub8{a b:Int}{K:Int->Prop}(h1:0<=a - b)(h2:a - b<=255):(PH C Sg T).ari .sub .u8 a b (@hid _ ⟨K⟩)=K (a - b):=b_sub8 h1 h2
theorem p_mul8{a b:Int}{K:Int->Prop}(h1:0<=a*b)(h2:a*b<=255):(PH C Sg T).ari .mul .u8 a b (@hid _ ⟨K⟩)=K (a*b):=b_mul8 h1 h2
theorem p_quo_nn{a b:Int}{K:Int->Prop}(h:0<=a)(hb:0<b)(h2:a<=9223372036854775807):(PH C Sg T).ari .quo .i64 a b (@hid _ ⟨K⟩)=K (a / b):=b_quo_nn h hb h2
theorem p_quo_dv{a b:Int}{K:Int->Prop}(h:a%b=0)(hb:0<b)(h1:-9223372036854775808<=a)(h2:a<=9223372036854775807):(PH C Sg T).ari .quo .i64 a b (@hid _ ⟨K⟩)=K (a / b):=b_quo_dv h hb h1 h2
theorem p_rem_nn{k:IntKind}{a b:Int}{K:Int->Prop}(h:0<=a)(hb:0<b):(PH C Sg T).ari .rem k a b (@hid _ ⟨K⟩)=K (a%b):=b_rem_nn h hb
theorem p_rem_np{k:IntKind}{a b:Int}{K:Int->Prop}(h:a<=0)(hb:0<b):(PH C Sg T).ari .rem k a b (@hid _ ⟨K⟩)=K (-((-a)%b)):=b_rem_np h hb
theorem p_and1{a:Int}{K:Int->Prop}:(PH C Sg T).ari .and .i64 a 1 (@hid _ ⟨K⟩)=K (a%2):=b_and1
theorem p_conv{a:Int}{K:Int->Prop}(h1:-9223372036854775808<=a)(h2:a<=9223372036854775807):(PH C Sg T).conv .i64 a (@hid _ ⟨K⟩)=K a:=b_conv h1 h2
theorem p_conv8{a:Int}{K:Int->Prop}(h1:0<=a)(h2:a<=255):(PH C Sg T).conv .u8 a (@hid _ ⟨K⟩)=K a:=b_conv8 h1 h2
theorem p_sel_t{a b:Int}{K:Int->Prop}:(PH C Sg T).sel true a b (@hid _ ⟨K⟩)=K a:=b_sel_t
theorem p_sel_f{a b:Int}{K:Int->Prop}:(PH C Sg T).sel false a b (@hid _ ⟨K⟩)=K b:=b_sel_f
theorem p_opt{α:Type}{x:α}{K:α->Prop}:(PH C Sg T).opt (some x) (@hid _ ⟨K⟩)=K x:=b_opt
theorem p_inB{n:Nat}{i:Int}{K:Unit->Prop}(h1:0<=i)(h2:i<(n:Int)):(PH C Sg T).opt (inB n i) (@hid _ ⟨K⟩)=K ():=b_inB h1 h2
theorem p_join{b:List Lf->HL->Prop}{m:(List Lf->HL->Prop)->Prop}:(PH C Sg T).join (@hid _ ⟨b⟩) (@hid _ ⟨m⟩)=m (@hid _ ⟨b⟩):=b_join
theorem p_eqs0{K:Bool->Prop}:(PH C Sg T).eqs [] (@hid _ ⟨K⟩)=K true:=b_eqs0
theorem p_eqs_t{a b:Int}{l:List (Lf×Lf)}{K:Bool->Prop}(h:a=b):(PH C Sg T).eqs ((.i a,.i b) :: l) (@hid _ ⟨K⟩)=(PH C Sg T).eqs l (@hid _ ⟨K⟩):=b_eqs_t h
theorem p_eqs_f{a b:Int}{l:List (Lf×Lf)}{K:Bool->Prop}(h:a≠b):(PH C Sg T).eqs ((.i a,.i b) :: l) (@hid _ ⟨K⟩)=K false:=b_eqs_f h
theorem p_it{F:(List Lf->HL->Prop)->List Lf->HL->Prop}{n:Nat}{ls:List Lf}{h:HL}:itH (@hid _ ⟨F⟩) (n+1) ls h=F (itH (@hid _ ⟨F⟩) n) ls h:=b_it
theorem p_eqsb_t{a b:Bool}{l:List (Lf×Lf)}{K:Bool->Prop}(h:a=b):(PH C Sg T).eqs ((.b a,.b b) :: l) (@hid _ ⟨K⟩)=(PH C Sg T).eqs l (@hid _ ⟨K⟩):=b_eqsb_t h
theorem p_eqsb_tf{l:List (Lf×Lf)}{K:Bool->Prop}:(PH C Sg T).eqs ((.b true,.b false) :: l) (@hid _ ⟨K⟩)=K false:=b_eqsb_tf
theorem p_eqsb_ft{l:List (Lf×Lf)}{K:Bool->Prop}:(PH C Sg T).eqs ((.b false,.b true) :: l) (@hid _ ⟨K⟩)=K false:=b_eqsb_ft
theorem p_mul_1{b:Int}{K:Int->Prop}(h1:-9223372036854775808<=b)(h2:b<=9223372036854775807):(PH C Sg T).ari .mul .i64 1 b (@hid _ ⟨K⟩)=K b:=b_mul_1 h1 h2
theorem p_mul_0{b:Int}{K:Int->Prop}:(PH C Sg T).ari .mul .i64 0 b (@hid _ ⟨K⟩)=K 0:=b_mul_0
theorem p_mul_m{b:Int}{K:Int->Prop}(h1:-9223372036854775808<=-b)(h2:-b<=9223372036854775807):(PH C Sg T).ari .mul .i64 (-1) b (@hid _ ⟨K⟩)=K (-b):=b_mul_m h1 h2
theorem p_mul_r1{b:Int}{K:Int->Prop}(h1:-9223372036854775808<=b)(h2:b<=9223372036854775807):(PH C Sg T).ari .mul .i64 b 1 (@hid _ ⟨K⟩)=K b:=b_mul_r1 h1 h2
theorem p_mul_r0{b:Int}{K:Int->Prop}:(PH C Sg T).ari .mul .i64 b 0 (@hid _ ⟨K⟩)=K 0:=b_mul_r0
theorem p_mul_rm{b:Int}{K:Int->Prop}(h1:-9223372036854775808<=-b)(h2:-b<=9223372036854775807):(PH C Sg T).ari .mul .i64 b (-1) (@hid _ ⟨K⟩)=K (-b):=b_mul_rm h1 h2
theorem p_add_0{b:Int}{K:Int->Prop}(h1:-9223372036854775808<=b)(h2:b<=9223372036854775807):(PH C Sg T).ari .add .i64 0 b (@hid _ ⟨K⟩)=K b:=b_add_0 h1 h2
theorem p_add_r0{b:Int}{K:Int->Prop}(h1:-9223372036854775808<=b)(h2:b<=9223372036854775807):(PH C Sg T).ari .add .i64 b 0 (@hid _ ⟨K⟩)=K b:=b_add_r0 h1 h2
theorem p_add_11{K:Int->Prop}:(PH C Sg T).ari .add .i64 1 1 (@hid _ ⟨K⟩)=K 2:=b_add_11
theorem p_quo_1{a:Int}{K:Int->Prop}(h1:-9223372036854775808<=a)(h2:a<=9223372036854775807):(PH C Sg T).ari .quo .i64 a 1 (@hid _ ⟨K⟩)=K a:=b_quo_1 h1 h2
theorem p_hid2{f:List Lf->HL->Prop}{a:List Lf}{b:HL}:@hid _ ⟨f⟩ a b=f a b:=rfl
theorem p_eqs2_f{a b c d:Int}{K:Bool->Prop}(h:¬(a=c/\b=d)):(PH C Sg T).eqs [(.i a,.i c),(.i b,.i d)] (@hid _ ⟨K⟩)=K false:=by
 show K (cm _)=K false
 have:cm [(.i a,.i c),(.i b,.i d)]=false:=by
  rw[qch]
  simpa[cm,gF]using h
 rw[this]
theorem p_eqs3_f{a b c d e f:Int}{K:Bool->Prop}(h:¬(a=d/\b=e/\c=f)):(PH C Sg T).eqs [(.i a,.i d),(.i b,.i e),(.i c,.i f)] (@hid _ ⟨K⟩)=K false:=by
 show K (cm _)=K false
 have:cm [(.i a,.i d),(.i b,.i e),(.i c,.i f)]=false:=by
  rw[qch]
  simpa[cm,gF]using h
 rw[this]
def aG{g:FuncId}{ls rs:List Lf}{h h':HL}{K:List Lf->HL->Prop}(hc:aQ C Sg g ls (absH T h) rs (absH T h'))(hk:K rs h'):(PH C Sg T).call g ls h (@hid _ ⟨K⟩):=⟨rs,h',hc,hk⟩
def sK{g:FuncId}{sg:Sig}{ls rs:List Lf}{H H':List HObj}(hc:aQ C Sg g ls H rs H')(hs:Sg g=some sg)(xs:List S0)(h1:bA xs sg.ps=true)(h2:bC xs=ls) :
  ry C (.func (.func g) #[] #[]) (ae xs) sg.rs H rs H':=by
 obtain⟨sg',xs',ys,c1,c2,c3,c4⟩:=hc
 rw[hs]at c1
 cases c1
 obtain⟨w1,_⟩:=bU c2.1 h1 (c2.2.1.trans h2.symm)
 rw[w1]at c4
 exact⟨ys,c3,.inl ⟨g,#[],#[],rfl,by simpa using c4⟩⟩
def ji{v:Value}{args:List Value}{hs:List SK}{rs:List Lf}{h h':HL}{K:List Lf->HL->Prop}(hc:ry C v args hs (absH T h) rs (absH T h'))(hk:K rs h'):(PH C Sg T).callv v args hs h (@hid _ ⟨K⟩):=⟨rs,h',hc,hk⟩
theorem p_new{o:HObj}{h:HL}{K:Nat->HL->Prop}:(PH C Sg T).new o h (@hid _ ⟨K⟩)=K h.length (h++[.o o]):=rfl
def az{v:Value}{K:Prop}(h:aX v=true)(hk:K):(PH C Sg T).chk v (@hid _ ⟨K⟩):=⟨h,hk⟩
def cf{f:Hp}{h:HL}{K:List Value->HL->Prop}{acts:List Act1}{cs:List Value}(e:f.run (getH T h) h.length=some (acts,cs))(hk:K cs (cj h acts)):(PH C Sg T).heap f h (@hid _ ⟨K⟩):=⟨acts,cs,e,hk⟩
def dF{f:Pk}{h:HL}{K:List Value->Prop}{cs:List Value}(e:f.run (getH T h)=some cs)(hk:K cs):(PH C Sg T).peek f h (@hid _ ⟨K⟩):=⟨cs,e,hk⟩
def pxs(C:Cfg)(Sg:FuncId->Option Sig)(T:Nat->Site):=And.intro @p_hid2 (And.intro (@p_new _ _ C Sg T) (And.intro (@p_unI _ _ C Sg T) (And.intro (@p_unB _ _ C Sg T) (And.intro (@p_unV _ _ C Sg T) (And.intro (@p_un0 _ _ C Sg T) (And.intro (@p_ucI _ _ C Sg T) (And.intro (@p_ucB _ _ C Sg T) (And.intro (@p_ucV _ _ C Sg T) (And.intro (@p_uc0 _ _ C Sg T) (And.intro (@p_cond_t _ _ C Sg T) (And.intro (@p_cond_f _ _ C Sg T) (And.intro (@p_opt _ _ C Sg T) (And.intro (@p_inB _ _ C Sg T) (And.intro (@p_join _ _ C Sg T) (And.intro (@p_sel_t _ _ C Sg T) (And.intro (@p_sel_f _ _ C Sg T) ((@p_it))))))))))))))))))
def pxc(C:Cfg)(Sg:FuncId->Option Sig)(T:Nat->Site):=And.intro (@p_lss_t _ _ C Sg T) (And.intro (@p_lss_f _ _ C Sg T) (And.intro (@p_leq_t _ _ C Sg T) (And.intro (@p_leq_f _ _ C Sg T) (And.intro (@p_gtr_t _ _ C Sg T) (And.intro (@p_gtr_f _ _ C Sg T) (And.intro (@p_geq_t _ _ C Sg T) (And.intro (@p_geq_f _ _ C Sg T) (And.intro (@p_eql_t _ _ C Sg T) (And.intro (@p_eql_f _ _ C Sg T) (And.intro (@p_neq_t _ _ C Sg T) (And.intro (@p_neq_f _ _ C Sg T) (And.intro (@p_eqs0 _ _ C Sg T) (And.intro (@p_eqs_t _ _ C Sg T) (And.intro (@p_eqs_f _ _ C Sg T) (And.intro (@p_eqs2_f _ _ C Sg T) (And.intro (@p_eqs3_f _ _ C Sg T) (And.intro (@p_eqsb_t _ _ C Sg T) (And.intro (@p_eqsb_tf _ _ C Sg T) ((@p_eqsb_ft _ _ C Sg T))))))))))))))))))))
def pxa(C:Cfg)(Sg:FuncId->Option Sig)(T:Nat->Site):=And.intro (@p_mul_1 _ _ C Sg T) (And.intro (@p_mul_0 _ _ C Sg T) (And.intro (@p_mul_m _ _ C Sg T) (And.intro (@p_mul_r1 _ _ C Sg T) (And.intro (@p_mul_r0 _ _ C Sg T) (And.intro (@p_mul_rm _ _ C Sg T) (And.intro (@p_add_0 _ _ C Sg T) (And.intro (@p_add_r0 _ _ C Sg T) (And.intro (@p_add_11 _ _ C Sg T) (And.intro (@p_quo_1 _ _ C Sg T) (And.intro (@p_add _ _ C Sg T) (And.intro (@p_sub _ _ C Sg T) (And.intro (@p_mul _ _ C Sg T) (And.intro (@p_add8 _ _ C Sg T) (And.intro (@p_sub8 _ _ C Sg T) (And.intro (@p_mul8 _ _ C Sg T) (And.intro (@p_quo_nn _ _ C Sg T) (And.intro (@p_quo_dv _ _ C Sg T) (And.intro (@p_rem_nn _ _ C Sg T) (And.intro (@p_rem_np _ _ C Sg T) (And.intro (@p_and1 _ _ C Sg T) (And.intro (@p_conv _ _ C Sg T) ((@p_conv8 _ _ C Sg T)))))))))))))))))))))))
end
end Sx
namespace Sx
section
variable [Val] [Kno]
variable {C:Cfg} {Sg:FuncId->Option Sig} {T:Nat->Site}
end
end Sx
namespace Sx
open Go.Proofs
def hA(A:Alg Prop HL):Alg Prop HL where
 fail:=A.fail
 cond b x y:=A.cond b (@hid _ ⟨x⟩) (@hid _ ⟨y⟩)
 ari o k a b K:=A.ari o k a b (@hid _ ⟨K⟩)
 shf o k a l b K:=A.shf o k a l b (@hid _ ⟨K⟩)
 cmp o a b K:=A.cmp o a b (@hid _ ⟨K⟩)
 eqs l K:=A.eqs l (@hid _ ⟨K⟩)
 conv k a K:=A.conv k a (@hid _ ⟨K⟩)
 sel t a b K:=A.sel t a b (@hid _ ⟨K⟩)
 opt o K:=A.opt o (@hid _ ⟨K⟩)
 chk v x:=A.chk v (@hid _ ⟨x⟩)
 unI l K:=A.unI l (@hid _ ⟨K⟩)
 unB l K:=A.unB l (@hid _ ⟨K⟩)
 unV l K:=A.unV l (@hid _ ⟨K⟩)
 un0 l x:=A.un0 l (@hid _ ⟨x⟩)
 ucI k l K:=A.ucI k l (@hid _ ⟨K⟩)
 ucB l K:=A.ucB l (@hid _ ⟨K⟩)
 ucV l K:=A.ucV l (@hid _ ⟨K⟩)
 uc0 l x:=A.uc0 l (@hid _ ⟨x⟩)
 peek f h K:=A.peek f h (@hid _ ⟨K⟩)
 heap f h K:=A.heap f h (@hid _ ⟨K⟩)
 new o h K:=A.new o h (@hid _ ⟨K⟩)
 call g l h K:=A.call g l h (@hid _ ⟨K⟩)
 callv v a s h K:=A.callv v a s h (@hid _ ⟨K⟩)
 join b m:=A.join (@hid _ ⟨b⟩) (@hid _ ⟨m⟩)
 loop F l h:=A.loop (@hid _ ⟨F⟩) l h
 rfun n v a h K:=A.rfun n v a h (@hid _ ⟨K⟩)
 pend o x y l:=A.pend o (@hid _ ⟨x⟩) (@hid _ ⟨y⟩) l
 lp1 n h K:=A.lp1 n h (@hid _ ⟨K⟩)
 lp2 n o h K:=A.lp2 n o h (@hid _ ⟨K⟩)
def hA_eq(A:Alg Prop HL):hA A=A:=rfl
section
variable {A:Alg Prop HL}
theorem h_cond{b:Bool}{x y:Prop}:(hA A).cond b x y=A.cond b (@hid _ ⟨x⟩) (@hid _ ⟨y⟩):=rfl
theorem h_ari{o:BinOp}{k:IntKind}{a b:Int}{K:Int->Prop}:(hA A).ari o k a b K=A.ari o k a b (@hid _ ⟨K⟩):=rfl
theorem h_shf{o:BinOp}{k l:IntKind}{a b:Int}{K:Int->Prop}:(hA A).shf o k a l b K=A.shf o k a l b (@hid _ ⟨K⟩):=rfl
theorem h_cmp{o:BinOp}{a b:Int}{K:Bool->Prop}:(hA A).cmp o a b K=A.cmp o a b (@hid _ ⟨K⟩):=rfl
theorem h_eqs{l:List (Lf×Lf)}{K:Bool->Prop}:(hA A).eqs l K=A.eqs l (@hid _ ⟨K⟩):=rfl
theorem h_conv{k:IntKind}{a:Int}{K:Int->Prop}:(hA A).conv k a K=A.conv k a (@hid _ ⟨K⟩):=rfl
theorem h_sel{t:Bool}{a b:Int}{K:Int->Prop}:(hA A).sel t a b K=A.sel t a b (@hid _ ⟨K⟩):=rfl
theorem h_opt{α:Type}{o:Option α}{K:α->Prop}:(hA A).opt o K=A.opt o (@hid _ ⟨K⟩):=rfl
theorem h_chk{v:Value}{x:Prop}:(hA A).chk v x=A.chk v (@hid _ ⟨x⟩):=rfl
theorem h_unI{l:List Lf}{K:Int->List Lf->Prop}:(hA A).unI l K=A.unI l (@hid _ ⟨K⟩):=rfl
theorem h_unB{l:List Lf}{K:Bool->List Lf->Prop}:(hA A).unB l K=A.unB l (@hid _ ⟨K⟩):=rfl
theorem h_unV{l:List Lf}{K:Value->List Lf->Prop}:(hA A).unV l K=A.unV l (@hid _ ⟨K⟩):=rfl
theorem h_un0{l:List Lf}{x:Prop}:(hA A).un0 l x=A.un0 l (@hid _ ⟨x⟩):=rfl
theorem h_ucI{k:IntKind}{l:List Value}{K:Int->List Value->Prop}:(hA A).ucI k l K=A.ucI k l (@hid _ ⟨K⟩):=rfl
theorem h_ucB{l:List Value}{K:Bool->List Value->Prop}:(hA A).ucB l K=A.ucB l (@hid _ ⟨K⟩):=rfl
theorem h_ucV{l:List Value}{K:Value->List Value->Prop}:(hA A).ucV l K=A.ucV l (@hid _ ⟨K⟩):=rfl
theorem h_uc0{l:List Value}{x:Prop}:(hA A).uc0 l x=A.uc0 l (@hid _ ⟨x⟩):=rfl
theorem h_peek{f:Pk}{h:HL}{K:List Value->Prop}:(hA A).peek f h K=A.peek f h (@hid _ ⟨K⟩):=rfl
theorem h_heap{f:Hp}{h:HL}{K:List Value->HL->Prop}:(hA A).heap f h K=A.heap f h (@hid _ ⟨K⟩):=rfl
theorem h_new{o:HObj}{h:HL}{K:Nat->HL->Prop}:(hA A).new o h K=A.new o h (@hid _ ⟨K⟩):=rfl
theorem h_call{g:FuncId}{l:List Lf}{h:HL}{K:List Lf->HL->Prop}:(hA A).call g l h K=A.call g l h (@hid _ ⟨K⟩):=rfl
theorem h_callv{v:Value}{a:List Value}{s:List SK}{h:HL}{K:List Lf->HL->Prop}:(hA A).callv v a s h K=A.callv v a s h (@hid _ ⟨K⟩):=rfl
theorem h_join{b:List Lf->HL->Prop}{m:(List Lf->HL->Prop)->Prop}:(hA A).join b m=A.join (@hid _ ⟨b⟩) (@hid _ ⟨m⟩):=rfl
theorem h_loop{F:(List Lf->HL->Prop)->List Lf->HL->Prop}{l:List Lf}{h:HL}:(hA A).loop F l h=A.loop (@hid _ ⟨F⟩) l h:=rfl
theorem h_rfun{n:Nat}{v:Value}{a:List Value}{h:HL}{K:Option Code->HL->Prop}:(hA A).rfun n v a h K=A.rfun n v a h (@hid _ ⟨K⟩):=rfl
theorem h_pend{o:Option Code}{x y:Prop}{l:List (Nat×Prop)}:(hA A).pend o x y l=A.pend o (@hid _ ⟨x⟩) (@hid _ ⟨y⟩) l:=rfl
theorem h_lp1{n:Nat}{h:HL}{K:HL->Prop}:(hA A).lp1 n h K=A.lp1 n h (@hid _ ⟨K⟩):=rfl
theorem h_lp2{n:Nat}{o:Option Code}{h:HL}{K:HL->Prop}:(hA A).lp2 n o h K=A.lp2 n o h (@hid _ ⟨K⟩):=rfl
end
def pxh(A:Alg Prop HL):=And.intro (@h_cond A) (And.intro (@h_ari A) (And.intro (@h_shf A) (And.intro (@h_cmp A) (And.intro (@h_eqs A) (And.intro (@h_conv A) (And.intro (@h_sel A) (And.intro (@h_opt A) (And.intro (@h_chk A) (And.intro (@h_unI A) (And.intro (@h_unB A) (And.intro (@h_unV A) (And.intro (@h_un0 A) (And.intro (@h_ucI A) (And.intro (@h_ucB A) (And.intro (@h_ucV A) (And.intro (@h_uc0 A) (And.intro (@h_peek A) (And.intro (@h_heap A) (And.intro (@h_new A) (And.intro (@h_call A) (And.intro (@h_callv A) (And.intro (@h_join A) (And.intro (@h_loop A) (And.intro (@h_rfun A) (And.intro (@h_pend A) (And.intro (@h_lp1 A) ((@h_lp2 A))))))))))))))))))))))))))))
end Sx
end Go.Am
set_option maxRecDepth 100000
namespace Go.Am
open Sx Go.Proofs
def gl_cell(g:Nat)(vs:List Value)(h:cc.G g=some vs):vs.all aH=true:=by
 unfold cc at h
 simp only at h
 split at h<;>first|(cases h;done)|(obtain rfl:=qai h;kernel_rfl)|(unfold glx at h;split at h<;>first|(cases h;done)|(obtain rfl:=qai h;kernel_rfl))
abbrev P1:Alg Prop HL:=PH cc ab aa
abbrev Cc(g:FuncId)(ls rs:List Lf):Prop:=∀H,aQ cc ab g ls H rs H
def fn_ok{f:FuncId}{fn:Fn1}(hi:FnIs (xc f) ab f fn){ls:List Lf}{H:HL}{K:List Lf->HL->Prop}(hls:jE ls=true)
  (h:ai P1 (xc f) ab drN fn ls H K):∃rs H',aQ cc ab f ls (absH aa H) rs (absH aa H')/\K rs H':=by
 obtain⟨rs,h',a1,_,a3⟩:=oA (X:=xc f) (holds:=id) (abs:=absH aa) (PH_ok cc ab aa) sP hi (co hls) h
 exact⟨rs,h',a1,a3⟩
def fn_okG{f:FuncId}{fn:Fn1}(hi:FnIs (xc f) ab f fn){ls:List Lf}{H:HL}{K:List Lf->HL->Prop}(hls:cz ls)
  (h:ai P1 (xc f) ab drN fn ls H K):∃rs H',aQ cc ab f ls (absH aa H) rs (absH aa H')/\K rs H':=by
 obtain⟨rs,h',a1,_,a3⟩:=oA (X:=xc f) (holds:=id) (abs:=absH aa) (PH_ok cc ab aa) sP hi hls h
 exact⟨rs,h',a1,a3⟩
def gls0:cz []:=λ_ h=>by cases h
def glsI{n:Int}{ls:List Lf}(h:cz ls):cz (.i n :: ls):=λl hl=>by
 rcases qaq.1 hl with rfl|hl
 ·trivial
 ·exact h l hl
def glsB{n:Bool}{ls:List Lf}(h:cz ls):cz (.b n :: ls):=λl hl=>by
 rcases qaq.1 hl with rfl|hl
 ·trivial
 ·exact h l hl
def glsV{x:Value}{ls:List Lf}(hx:aX x=true)(h:cz ls):cz (.v x :: ls):=λl hl=>by
 rcases qaq.1 hl with rfl|hl
 ·exact hx
 ·exact h l hl
abbrev FP:=List Lf->HL->(List Lf->HL->Prop)->Prop
abbrev UG(k:FuncId)(p:FP):Prop:=∀ {ls:List Lf} {H:HL} {K:List Lf->HL->Prop},jE ls=true->p ls H K->∃rs H',aQ cc ab k ls (absH aa H) rs (absH aa H')/\K rs H'
abbrev XG(k:FuncId)(p:FP):Prop:=∀ {ls:List Lf} {H:HL} {K:List Lf->HL->Prop},cz ls->p ls H K->∃rs H',aQ cc ab k ls (absH aa H) rs (absH aa H')/\K rs H'
abbrev QG(k:FuncId)(p:FP):Prop:=∀ {ls rs:List Lf},jE ls=true->p ls [] (λrs' _=>rs'=rs)->Cc k ls rs
def uu{k:FuncId}{fn:Fn1}{f:{R HT:Type}->Alg R HT->List Lf->HT->(List Lf->HT->R)->R}(hi:FnIs (xc k) ab k fn)(e:@f=λR HT A ls h K=>ai A (xc k) ab drN fn ls h K):UG k (f (hA P1)):=by
 intro ls H K hls h
 rw[hA_eq,e]at h
 exact fn_ok hi hls h
def xx{k:FuncId}{fn:Fn1}{f:{R HT:Type}->Alg R HT->List Lf->HT->(List Lf->HT->R)->R}(hi:FnIs (xc k) ab k fn)(e:@f=λR HT A ls h K=>ai A (xc k) ab drN fn ls h K):XG k (f (hA P1)):=by
 intro ls H K hls h
 rw[hA_eq,e]at h
 exact fn_okG hi hls h
def qq{k:FuncId}{sg:Sig}{p:FP}(hu:UG k p)(hs:ab k=some sg)(hf:sg.plain=true):QG k p:=λhls h=>by
 obtain⟨_,_,h1,rfl⟩:=hu hls h
 exact ct_of mixed iV hs hf h1
def qxs:=pxs cc ab aa
def qxh:=And.intro (qeq (hA P1)) (pxh P1)
def qxc:=pxc cc ab aa
def qxa:=pxa cc ab aa
def qXX:=And.intro qxs (And.intro qxc qxa)
def x3:XG 3 (f3 (hA P1)):=xx i3 e3
def x4:XG 4 (f4 (hA P1)):=xx i4 e4
def x5:XG 5 (f5 (hA P1)):=xx i5 e5
def x6:XG 6 (f6 (hA P1)):=xx i6 e6
def x7:XG 7 (f7 (hA P1)):=xx i7 e7
def u8:UG 8 (f8 (hA P1)):=uu i8 e8
def x8:XG 8 (f8 (hA P1)):=xx i8 e8
def x9:XG 9 (f9 (hA P1)):=xx i9 e9
def x11:XG 11 (f11 (hA P1)):=xx i11 e11
def u12:UG 12 (f12 (hA P1)):=uu i12 e12
def q12:QG 12 (f12 (hA P1)):=qq u12 rfl (by kernel_rfl)
def x13:XG 13 (f13 (hA P1)):=xx i13 e13
def x14:XG 14 (f14 (hA P1)):=xx i14 e14
def x15:XG 15 (f15 (hA P1)):=xx i15 e15
def u16:UG 16 (f16 (hA P1)):=uu i16 e16
def q16:QG 16 (f16 (hA P1)):=qq u16 rfl (by kernel_rfl)
def x17:XG 17 (f17 (hA P1)):=xx i17 e17
def x18:XG 18 (f18 (hA P1)):=xx i18 e18
def x19:XG 19 (f19 (hA P1)):=xx i19 e19
def x20:XG 20 (f20 (hA P1)):=xx i20 e20
def x21:XG 21 (f21 (hA P1)):=xx i21 e21
def x22:XG 22 (f22 (hA P1)):=xx i22 e22
def u23:UG 23 (f23 (hA P1)):=uu i23 e23
def q23:QG 23 (f23 (hA P1)):=qq u23 rfl (by kernel_rfl)
def x26:XG 26 (f26 (hA P1)):=xx i26 e26
def x27:XG 27 (f27 (hA P1)):=xx i27 e27
def x28:XG 28 (f28 (hA P1)):=xx i28 e28
def x29:XG 29 (f29 (hA P1)):=xx i29 e29
def x30:XG 30 (f30 (hA P1)):=xx i30 e30
def u31:UG 31 (f31 (hA P1)):=uu i31 e31
def q31:QG 31 (f31 (hA P1)):=qq u31 rfl (by kernel_rfl)
def x35:XG 35 (f35 (hA P1)):=xx i35 e35
def u36:UG 36 (f36 (hA P1)):=uu i36 e36
def q36:QG 36 (f36 (hA P1)):=qq u36 rfl (by kernel_rfl)
def x37:XG 37 (f37 (hA P1)):=xx i37 e37
def x43:XG 43 (f43 (hA P1)):=xx i43 e43
def u44:UG 44 (f44 (hA P1)):=uu i44 e44
def q44:QG 44 (f44 (hA P1)):=qq u44 rfl (by kernel_rfl)
def u45:UG 45 (f45 (hA P1)):=uu i45 e45
def q45:QG 45 (f45 (hA P1)):=qq u45 rfl (by kernel_rfl)
def x46:XG 46 (f46 (hA P1)):=xx i46 e46
def x56:XG 56 (f56 (hA P1)):=xx i56 e56
def u57:UG 57 (f57 (hA P1)):=uu i57 e57
def q57:QG 57 (f57 (hA P1)):=qq u57 rfl (by kernel_rfl)
def u66:UG 66 (f66 (hA P1)):=uu i66 e66
def q66:QG 66 (f66 (hA P1)):=qq u66 rfl (by kernel_rfl)
def xK{k:FuncId}{p:FP}(hx:XG k p){ls R:List Lf}{H H':HL}(hg:cz ls)(h:p ls H λrs h'=>rs=R/\h'=H'):aQ cc ab k ls (absH aa H) R (absH aa H'):=by
 obtain⟨rs,h',h1,rfl,rfl⟩:=hx hg h
 exact h1
end Go.Am
set_option maxRecDepth 100000
namespace Go.Am
namespace Sx
def cut_some{vs:List Value}{off n:Nat}{cs:List Value}:cut vs off n=some cs↔off+n<=vs.length/\(vs.drop off).take n=cs:=by
 unfold cut
 split
 next h=>simp[h]
 next h=>simp[h]
def cut_len{vs:List Value}{off n:Nat}{cs:List Value}(h:cut vs off n=some cs):cs.length=n:=by
 obtain⟨h1,rfl⟩:=cut_some.1 h
 rw[qaM,qcm];omega
def og{vs:List Value}{off n:Nat}{cs:List Value}(h:cut vs off n=some cs){o k:Nat}(hk:o+k<=n):cut vs (off+o) k=some ((cs.drop o).take k):=by
 obtain⟨h1,rfl⟩:=cut_some.1 h
 refine cut_some.2 ⟨by omega,?_⟩
 rw[List.drop_take,qbA,List.take_take,qbL (by omega)]
def cut_all{vs:List Value}{n:Nat}(h:vs.length=n):cut vs 0 n=some vs:=cut_some.2 ⟨by omega,by rw[qaX,qaQ (by omega)]⟩
def Pre(h0 h:HL):Prop:=∃G,h=h0++G
def Pre.refl(h:HL):Pre h h:=⟨[],by simp⟩
def Pre.trans{a b c:HL}(h:Pre a b)(k:Pre b c):Pre a c:=by
 obtain⟨G,rfl⟩:=h
 obtain⟨G',rfl⟩:=k
 exact⟨G++G',by simp⟩
def Pre.app{a b:HL}(h:Pre a b)(G:HL):Pre a (b++G):=h.trans ⟨G,rfl⟩
def Pre.len{a b:HL}(h:Pre a b):a.length<=b.length:=by obtain⟨G,rfl⟩:=h;simp
def Pre.get{a b:HL}(h:Pre a b){i:Nat}{o:HO}(hi:a[i]?=some o):b[i]?=some o:=by
 obtain⟨G,rfl⟩:=h
 have:i<a.length:=by
  rcases qaC i a.length with h|h
  ·exact h
  ·rw[qah h]at hi;cases hi
 rw[qaj this];exact hi
def Pre.set{a b:HL}(h:Pre a b){i:Nat}(hi:a.length<=i)(o:HO):Pre a (b.set i o):=by
 obtain⟨G,rfl⟩:=h
 rw[qcB _ _ hi]
 exact⟨_,rfl⟩
def Ptr(h:HL)(p:Value)(cs:List Value):Prop:=∃id o vs e rw,p = .pointer (some ⟨id,o,none⟩)/\h[id]?=some (.o (.cells vs e rw))/\cut vs o cs.length=some cs
def SlC(h:HL)(v:Value)(e n:Nat)(cs:List Value):Prop:=
 cs.length=n*e/\((v = .slice none 0 0/\n=0)∨∃id off cx vs rw,v = .slice (some ⟨id,off,tag e⟩) n cx/\h[id]?=some (.o (.cells vs e rw))/\cut vs off (n*e)=some cs)
def LsH{α:Type}(h:HL)(v:Value)(e:Nat)(enc:α->List Value)(l:List α):Prop:=(∀a∈l,(enc a).length=e)/\SlC h v e l.length (l.flatMap enc)
def Mk(n0:Nat)(h:HL)(v:Value)(e n:Nat)(cs:List Value):Prop:=
 cs.length=n*e/\((v = .slice none 0 0/\n=0)∨∃id,n0<=id/\v = .slice (some ⟨id,0,tag e⟩) n 0/\h[id]?=some (.o (.cells cs e true)))
def MkL{α:Type}(n0:Nat)(h:HL)(v:Value)(e:Nat)(enc:α->List Value)(l:List α):Prop:=(∀a∈l,(enc a).length=e)/\Mk n0 h v e l.length (l.flatMap enc)
def blk:Value->Option Nat
 | .slice (some a) _ _=>some a.block
 |_=>none
def Ptr.keep{h h':HL}{p:Value}{cs:List Value}(hp:Ptr h p cs)(hk:∀(j:Nat) o,h[j]?=some o->h'[j]?=some o):Ptr h' p cs:=by
 obtain⟨id,o,vs,e,rw',h1,h2,h3⟩:=hp
 exact⟨id,o,vs,e,rw',h1,hk _ _ h2,h3⟩
def SlC.keep{h h':HL}{v:Value}{e n:Nat}{cs:List Value}(hs:SlC h v e n cs)(hk:∀(j:Nat) o,h[j]?=some o->blk v=some j->h'[j]?=some o):SlC h' v e n cs:=by
 obtain⟨h0,h1|⟨id,off,cx,vs,rw',rfl,h2,h3⟩⟩:=hs
 ·exact⟨h0,.inl h1⟩
 ·exact⟨h0,.inr ⟨id,off,cx,vs,rw',rfl,hk _ _ h2 rfl,h3⟩⟩
def SlC.pre{h h':HL}{v:Value}{e n:Nat}{cs:List Value}(hs:SlC h v e n cs)(hp:Pre h h'):SlC h' v e n cs:=hs.keep λ_ _ h _=>hp.get h
def LsH.keep{α:Type}{h h':HL}{v:Value}{e:Nat}{enc:α->List Value}{l:List α}(hs:LsH h v e enc l)(hk:∀(j:Nat) o,h[j]?=some o->blk v=some j->h'[j]?=some o):LsH h' v e enc l:=⟨hs.1,hs.2.keep hk⟩
def LsH.pre{α:Type}{h h':HL}{v:Value}{e:Nat}{enc:α->List Value}{l:List α}(hs:LsH h v e enc l)(hp:Pre h h'):LsH h' v e enc l:=⟨hs.1,hs.2.pre hp⟩
def SlC.len{h:HL}{v:Value}{e n:Nat}{cs:List Value}(hs:SlC h v e n cs):lenS v=some (.ofNat n):=by
 obtain⟨_,⟨rfl,rfl⟩|⟨id,off,cx,vs,rw',rfl,_⟩⟩:=hs<;>rfl
def LsH.len{α:Type}{h:HL}{v:Value}{e:Nat}{enc:α->List Value}{l:List α}(hs:LsH h v e enc l):lenS v=some (.ofNat l.length):=hs.2.len
def Mk.sl{n0:Nat}{h:HL}{v:Value}{e n:Nat}{cs:List Value}(hs:Mk n0 h v e n cs):SlC h v e n cs:=by
 obtain⟨h0,h1|⟨id,_,rfl,h2⟩⟩:=hs
 ·exact⟨h0,.inl h1⟩
 ·exact⟨h0,.inr ⟨id,0,0,cs,true,rfl,h2,cut_all h0⟩⟩
def MkL.ls{α:Type}{n0:Nat}{h:HL}{v:Value}{e:Nat}{enc:α->List Value}{l:List α}(hs:MkL n0 h v e enc l):LsH h v e enc l:=⟨hs.1,hs.2.sl⟩
def Mk.nil(n0:Nat)(h:HL)(e:Nat):Mk n0 h (.slice none 0 0) e 0 []:=⟨by simp,.inl ⟨rfl,rfl⟩⟩
def MkL.nil{α:Type}(n0:Nat)(h:HL)(e:Nat)(enc:α->List Value):MkL n0 h (.slice none 0 0) e enc []:=⟨by simp,Mk.nil n0 h e⟩
def LsH.nil{α:Type}(h:HL)(e:Nat)(enc:α->List Value):LsH h (.slice none 0 0) e enc []:=(MkL.nil 0 h e enc).ls
def Mk.keep{n0:Nat}{h h':HL}{v:Value}{e n:Nat}{cs:List Value}(hs:Mk n0 h v e n cs)(hk:∀(j:Nat) o,h[j]?=some o->blk v=some j->h'[j]?=some o):Mk n0 h' v e n cs:=by
 obtain⟨h0,h1|⟨id,h1,rfl,h2⟩⟩:=hs
 ·exact⟨h0,.inl h1⟩
 ·exact⟨h0,.inr ⟨id,h1,rfl,hk _ _ h2 rfl⟩⟩
def Mk.pre{n0:Nat}{h h':HL}{v:Value}{e n:Nat}{cs:List Value}(hs:Mk n0 h v e n cs)(hp:Pre h h'):Mk n0 h' v e n cs:=hs.keep λ_ _ h _=>hp.get h
def MkL.keep{α:Type}{n0:Nat}{h h':HL}{v:Value}{e:Nat}{enc:α->List Value}{l:List α}(hs:MkL n0 h v e enc l)(hk:∀(j:Nat) o,h[j]?=some o->blk v=some j->h'[j]?=some o):MkL n0 h' v e enc l:=⟨hs.1,hs.2.keep hk⟩
def MkL.pre{α:Type}{n0:Nat}{h h':HL}{v:Value}{e:Nat}{enc:α->List Value}{l:List α}(hs:MkL n0 h v e enc l)(hp:Pre h h'):MkL n0 h' v e enc l:=⟨hs.1,hs.2.pre hp⟩
def bn{α:Type}{e:Nat}{enc:α->List Value}:∀ {l:List α},(∀a∈l,(enc a).length=e)->(l.flatMap enc).length=l.length*e
 | [],_=>by simp
 |a :: l,h=>by
  rw[qbm,qaF,h a qaJ,bn λb hb=>h b (qan _ hb),qa2,qbn,qbU,Nat.add_comm]
def mS{α:Type}{e:Nat}{enc:α->List Value}:∀ {l:List α},(∀a∈l,(enc a).length=e)->∀ {i:Nat} {a:α},l[i]?=some a->((l.flatMap enc).drop (i*e)).take e=enc a
 |b :: l,h,0,a,hi=>by
  simp only[qa3,qat]at hi
  subst hi
  have:=h b qaJ
  rw[qcq,qaX,qbm,qb9 (by omega),qaQ (by omega)]
 |b :: l,h,i+1,a,hi=>by
  simp only[qb8]at hi
  have hb:=h b qaJ
  have:=mS (λb hb=>h b (qan _ hb)) hi
  rw[qbm,qbn,qbU,←this]
  have e1:i*e+e=(enc b).length+i*e:=by omega
  rw[e1,qcC,qca (by omega),qbv,qcv]
 | [],_,_,_,hi=>by simp at hi
def SlC.at{h:HL}{v:Value}{e n:Nat}{cs:List Value}(hs:SlC h v e n cs){i:Nat}(hi:i<n):∃p,idS e v (.ofNat i)=some p/\Ptr h p ((cs.drop (i*e)).take e):=by
 obtain⟨h0,⟨rfl,rfl⟩|⟨id,off,cx,vs,rw',rfl,h2,h3⟩⟩:=hs
 ·omega
 ·have hle:i*e+e<=n*e:=by
   have:=qa9 e (show i+1<=n by omega)
   rw[qbn,qbU]at this;exact this
  refine⟨.pointer (some ⟨id,off+i*e,none⟩),?_,id,off+i*e,vs,e,rw',rfl,h2,?_⟩
  ·rw[th]
   have hh:0<=Int.ofNat i/\Int.ofNat i<(n:Int):=⟨qbi i,by show(i:Int)<n;omega⟩
   simp only[if_pos hh]
   have:¬(tag e=some 1):=by simp[tag]
   simp only[if_neg this]
   rfl
  ·have hc:=og h3 hle
   have hl:=cut_len hc
   rw[hl];exact hc
def LsH.at{α:Type}{h:HL}{v:Value}{e:Nat}{enc:α->List Value}{l:List α}(hs:LsH h v e enc l){i:Nat}{a:α}(hi:l[i]?=some a):∃p,idS e v (.ofNat i)=some p/\Ptr h p (enc a):=by
 have hlt:i<l.length:=by
  rcases qaC i l.length with h|h
  ·exact h
  ·rw[qah h]at hi;cases hi
 obtain⟨p,h1,h2⟩:=hs.2.at hlt
 rw[mS hs.1 hi]at h2
 exact⟨p,h1,h2⟩
def Ptr.fd{h:HL}{p:Value}{cs:List Value}(hp:Ptr h p cs)(o k:Nat)(hk:o+k<=cs.length):∃p',fdP o p=some p'/\Ptr h p' ((cs.drop o).take k):=by
 obtain⟨id,o',vs,e,rw',rfl,h2,h3⟩:=hp
 refine⟨_,rfl,id,o'+o,vs,e,rw',rfl,h2,?_⟩
 have hc:=og h3 hk
 rw[cut_len hc];exact hc
section
variable [Val] [Kno]
def cq{T:Nat->Site}{h:HL}{i:Nat}{o:HObj}(hi:h[i]?=some (.o o)):getH T h i=some o:=by
 unfold getH;rw[hi];rfl
def Ptr.ld{T:Nat->Site}{h:HL}{p:Value}{cs:List Value}(hp:Ptr h p cs){n:Nat}(hn:cs.length=n):(Pk.ld n p).run (getH T h)=some cs:=by
 obtain⟨id,o,vs,e,rw',rfl,h2,h3⟩:=hp
 subst hn
 show(match (none:Option Nat)with|none=>(fw (getH T h) id).bind λvs=>cut vs o cs.length|some _=>none)=_
 unfold fw
 rw[cq h2]
 exact h3
def Ptr.lg{C:Cfg}{T:Nat->Site}{h:HL}{p:Value}{cs:List Value}(hp:Ptr h p cs){n:Nat}(hn:cs.length=n):(Pk.lg C n p).run (getH T h)=some cs:=by
 obtain⟨id,o,vs,e,rw',rfl,h2,h3⟩:=hp
 subst hn
 show(fw (getH T h) id).bind (λvs=>cut vs o cs.length)=_
 unfold fw
 rw[cq h2]
 exact h3
def slG_sl{C:Cfg}{T:Nat->Site}{h:HL}{v:Value}{e n:Nat}{cs:List Value}(hs:SlC h v e n cs):slG C e (getH T h) v=some (cs,n):=by
 obtain⟨h0,⟨rfl,rfl⟩|⟨id,off,cx,vs,rw',rfl,h2,h3⟩⟩:=hs
 ·simp only[qcq,qbb]at h0
  subst h0;rfl
 ·unfold slG
  have:¬(tag e=some 1):=by simp[tag]
  simp only[if_neg this,if_true]
  rw[cq h2]
  simp only[if_true]
  rw[h3];rfl
variable {C:Cfg} {Sg:FuncId->Option Sig} {T:Nat->Site}
end
end Sx
namespace Sx
def Ptr.good{h:HL}{p:Value}{cs:List Value}(hp:Ptr h p cs):aX p=true:=by
 obtain⟨id,o,vs,e,rw',rfl,_⟩:=hp
 simp[aX,noLoc,aY,bV,bp,aV,ay]
def SlC.good{h:HL}{v:Value}{e n:Nat}{cs:List Value}(hs:SlC h v e n cs):aX v=true:=by
 obtain⟨_,⟨rfl,_⟩|⟨id,off,cx,vs,rw',rfl,_⟩⟩:=hs
 ·rfl
 ·simp[aX,noLoc,aY,bV,bp,aV,ay,tag]
def LsH.good{α:Type}{h:HL}{v:Value}{e:Nat}{enc:α->List Value}{l:List α}(hs:LsH h v e enc l):aX v=true:=hs.2.good
section
variable [Val] [Kno] {C:Cfg} {Sg:FuncId->Option Sig} {T:Nat->Site}
def hidL{F:(List Lf->HL->Prop)->List Lf->HL->Prop}{s:List Lf->HL->Prop}{l:List Lf}{h:HL}(hf:F s l h):@hid _ ⟨F⟩ s l h:=hf
def bY{σ:Type}{F:(List Lf->HL->Prop)->List Lf->HL->Prop}(n:Nat)(S:Nat->σ->List Lf)(HP:Nat->σ->HL)(Inv:Nat->σ->Prop){j0:Nat}{s0:σ}{ls:List Lf}{h:HL}(hls:ls=S j0 s0)(hh:h=HP j0 s0)(hj:j0<=n)(hi:Inv j0 s0)
  (step:∀j s,j<=n->Inv j s->∀self:List Lf->HL->Prop,(∀s',j<n->Inv (j+1) s'->self (S (j+1) s') (HP (j+1) s'))->F self (S j s) (HP j s)):(PH C Sg T).loop (@hid _ ⟨F⟩) ls h:=by
 subst hls hh
 refine ge (m:=n - j0) (λm ls h=>∃j s,ls=S j s/\h=HP j s/\j<=n/\m=n - j/\Inv j s) ⟨j0,s0,rfl,rfl,hj,rfl,hi⟩ ?_
 rintro m ls h ⟨j,s,rfl,rfl,hj,rfl,hi⟩ self hself
 exact hidL (step j s hj hi self λs' hlt hi'=>hself (n - (j+1)) _ _ (by omega) ⟨j+1,s',rfl,rfl,by omega,rfl,hi'⟩)
def ja{F:(List Lf->HL->Prop)->List Lf->HL->Prop}(n:Nat)(Inv:Nat->Prop){j0:Nat}{h:HL}{ls:List Lf}(hls:ls=[.i (Int.ofNat j0)])(hj:j0<=n)(hi:Inv j0)
  (step:∀j,j<=n->Inv j->∀self:List Lf->HL->Prop,(j<n->Inv (j+1)->self [.i (Int.ofNat j+1)] h)->F self [.i (Int.ofNat j)] h):(PH C Sg T).loop (@hid _ ⟨F⟩) ls h:=
 bY (σ:=Unit) n (λj _=>[.i (Int.ofNat j)]) (λ_ _=>h) (λj _=>Inv j) (s0:=()) hls rfl hj hi λj _ hj hi self hs=>step j hj hi self (λa b=>hs () a b)
def dc{α:Type}{h:HL}{v:Value}{e:Nat}{enc:α->List Value}{l:List α}{K:Int->Prop}(hs:LsH h v e enc l)(hk:K (Int.ofNat l.length)):(PH C Sg T).opt (lenS v) (@hid _ ⟨K⟩):=ax hs.len hk
def dj{α:Type}{h:HL}{v:Value}{e:Nat}{enc:α->List Value}{l:List α}{i:Nat}{a:α}{n:Int}{K:List Value->Prop}(hs:LsH h v e enc l)(hn:n=Int.ofNat i)(hi:l[i]?=some a)(hk:K (enc a)) :
  (PH C Sg T).opt (idS e v n) (@hid _ ⟨λx=>(PH C Sg T).peek (.lg C e x) h (@hid _ ⟨K⟩)⟩):=by
 subst hn
 obtain⟨p,h1,h2⟩:=hs.at hi
 exact ax h1 (dF (h2.lg (hs.1 a (qad hi))) hk)
def uQ{α:Type}{h:HL}{v:Value}{e:Nat}{enc:α->List Value}{l:List α}{i:Nat}{a:α}{n:Int}{o k:Nat}{cs:List Value}{K:List Value->Prop}(hs:LsH h v e enc l)(hn:n=Int.ofNat i)(hi:l[i]?=some a)(hcs:cs=((enc a).drop o).take k)(hok:o+k<=e)(hk:K cs) :
  (PH C Sg T).opt (idS e v n) (@hid _ ⟨λx=>(PH C Sg T).opt (fdP o x) (@hid _ ⟨λy=>(PH C Sg T).chk y (@hid _ ⟨(PH C Sg T).peek (.lg C k y) h (@hid _ ⟨K⟩)⟩)⟩)⟩):=by
 subst hn hcs
 obtain⟨p,h1,h2⟩:=hs.at hi
 have he:=hs.1 a (qad hi)
 have hok:o+k<=(enc a).length:=by omega
 have hlen:(((enc a).drop o).take k).length=k:=by rw[qaM,qcm];omega
 obtain⟨q,h3,h4⟩:=h2.fd o k hok
 refine ax h1 (ax h3 ?_)
 show aX q=true/\_
 exact⟨h4.good,dF (h4.lg hlen) hk⟩
end
end Sx
namespace Sx
section
variable [Val] [Kno] {C:Cfg} {Sg:FuncId->Option Sig} {T:Nat->Site}
def cp{j:Nat}{K:Int->Prop}(h:j<=4294967296):(PH C Sg T).ari .add .i64 (Int.ofNat j) 1 (@hid _ ⟨K⟩)=K (Int.ofNat j+1):=
 p_add (by show -9223372036854775808<=(j:Int)+1;omega) (by show(j:Int)+1<=9223372036854775807;omega)
def uO{j:Nat}{K:Int->Prop}(h1:1<=j)(h:j<=4294967296):(PH C Sg T).ari .sub .i64 (Int.ofNat j) 1 (@hid _ ⟨K⟩)=K (Int.ofNat (j - 1)):=by
 rw[p_sub (by show -9223372036854775808<=(j:Int) - 1;omega) (by show(j:Int) - 1<=9223372036854775807;omega)]
 congr 1
 show(j:Int) - 1=((j - 1:Nat):Int)
 omega
def cb{j n:Nat}{K:Bool->Prop}(h:j<n):(PH C Sg T).cmp .lss (Int.ofNat j) (Int.ofNat n) (@hid _ ⟨K⟩)=K true:=p_lss_t (by show(j:Int)<n;omega)
def bZ{j n:Nat}{K:Bool->Prop}(h:n<=j):(PH C Sg T).cmp .lss (Int.ofNat j) (Int.ofNat n) (@hid _ ⟨K⟩)=K false:=p_lss_f (by show(n:Int)<=j;omega)
end
def aI{α:Type}{l:List α}{i:Nat}{a:α}(h:l[i]?=some a):i<l.length:=by
 rcases qaC i l.length with h1|h1
 ·exact h1
 ·rw[qah h1]at h;cases h
def bQ{α:Type}{l:List α}{i:Nat}(h:i<l.length):∃a,l[i]?=some a:=⟨_,qao h⟩
end Sx
namespace Sx
section
variable [Val] [Kno]
variable {C:Cfg} {Sg:FuncId->Option Sig} {T:Nat->Site} {α:Type}
def putE(h:HL)(id e:Nat)(enc:α->List Value)(l:List α):HL:=h.set id (.o (.cells (l.flatMap enc) e true))
def oZ{h:HL}{id e:Nat}{enc:α->List Value}{l:List α}(hlt:id<h.length):(putE h id e enc l)[id]?=some (.o (.cells (l.flatMap enc) e true)):=by
 unfold putE
 rw[qaI hlt]
def putE_put{h:HL}{id e:Nat}{enc:α->List Value}{l l':List α}:(putE h id e enc l).set id (.o (.cells (l'.flatMap enc) e true))=putE h id e enc l':=by
 unfold putE
 rw[List.set_set]
def putE_ls{h:HL}{id e cx:Nat}{enc:α->List Value}(henc:∀a,(enc a).length=e){l:List α}(hlt:id<h.length):LsH (putE h id e enc l) (.slice (some ⟨id,0,tag e⟩) l.length cx) e enc l:=by
 have hl:=bn (e:=e) (enc:=enc) (l:=l) λa _=>henc a
 exact⟨λa _=>henc a,hl,.inr ⟨id,0,cx,_,true,rfl,oZ hlt,cut_all hl⟩⟩
def lq{e:Nat}{enc:α->List Value}(henc:∀a,(enc a).length=e):∀ {l:List α} {i:Nat} (a:α),i<l.length->(l.flatMap enc).take (i*e)++enc a++(l.flatMap enc).drop (i*e+e)=(l.set i a).flatMap enc
 | [],_,_,h=>by simp at h
 |b :: l,0,a,_=>by
  have hb:=henc b
  simp only[qcq,qbC,qbv,qaD,List.set_cons_zero,qbm]
  rw[qcC,qca (by omega),qbv,show e - (enc b).length=0 by omega,qaX]
 |b :: l,i+1,a,h=>by
  have hb:=henc b
  have ih:=lq henc (l:=l) (i:=i) a (by simpa using h)
  simp only[List.set_cons_succ,qbm]
  rw[←ih,qbn,qbU,List.take_append,qcC]
  rw[qaQ (by omega),qca (by omega),qbv]
  rw[show i*e+e - (enc b).length=i*e by omega,show i*e+e+e - (enc b).length=i*e+e by omega]
  simp[qaB]
def r_set{h:HL}{id e cx len:Nat}{enc:α->List Value}(henc:∀a,(enc a).length=e){l:List α}{i:Nat}{a:α}{n:Int}{new:List Value}{K:List Value->HL->Prop}(hlt:id<h.length)(hn:n=Int.ofNat i)(hi:i<l.length)(hlen:l.length=len)(hnew:new=enc a)
  (hk:K [] (putE h id e enc (l.set i a))):(PH C Sg T).opt (idS e (.slice (some ⟨id,0,tag e⟩) len cx) n) (@hid _ ⟨λx=>(PH C Sg T).heap (.st x new) (putE h id e enc l) (@hid _ ⟨K⟩)⟩):=by
 subst hn hlen hnew
 have hx:idS e (.slice (some ⟨id,0,tag e⟩) l.length cx) (Int.ofNat i)=some (.pointer (some ⟨id,i*e,none⟩)):=by
  rw[th]
  have hh:0<=Int.ofNat i/\Int.ofNat i<(l.length:Int):=⟨qbi i,by show(i:Int)<l.length;omega⟩
  simp only[if_pos hh]
  have:¬(tag e=some 1):=by simp[tag]
  simp only[if_neg this,qaD]
  rfl
 refine ax hx ?_
 have hl:=bn (e:=e) (enc:=enc) (l:=l) λa _=>henc a
 have hle:i*e+e<=l.length*e:=by
  have:=qa9 e (show i+1<=l.length by omega)
  rw[qbn,qbU]at this;exact this
 have hrun:(Hp.st (.pointer (some ⟨id,i*e,none⟩)) (enc a)).run (getH T (putE h id e enc l)) (putE h id e enc l).length=some ([.set id (.cells ((l.set i a).flatMap enc) e true)],[]):=by
  show stP (.pointer (some ⟨id,i*e,none⟩)) (enc a) (getH T (putE h id e enc l)) (putE h id e enc l).length=_
  unfold stP
  simp only
  rw[cq (oZ hlt)]
  simp only
  unfold splice
  rw[henc a,hl,if_pos hle,lq henc a hi]
  rfl
 refine cf hrun ?_
 show K [] (cj _ _)
 have:cj (putE h id e enc l) [.set id (.cells ((l.set i a).flatMap enc) e true)]=putE h id e enc (l.set i a):=putE_put
 rw[this]
 exact hk
end
end Sx
namespace Sx
section
variable [Val] [Kno]
variable {C:Cfg} {Sg:FuncId->Option Sig} {T:Nat->Site} {α:Type}
def newE(h:HL)(e:Nat)(enc:α->List Value)(l:List α):HL:=h++[.o (.cells (l.flatMap enc) e true)]
def newE_put{h:HL}{e:Nat}{enc:α->List Value}{l:List α}:putE (h++[.o .dead]) h.length e enc l=newE h e enc l:=by
 unfold putE newE
 rw[qcB _ _ (qag _),qbz];rfl
def newE_ls{h:HL}{e cx:Nat}{enc:α->List Value}(henc:∀a,(enc a).length=e){l:List α}{n:Nat}(hn:n=l.length):LsH (newE h e enc l) (.slice (some ⟨h.length,0,tag e⟩) n cx) e enc l:=by
 subst hn
 rw[←newE_put]
 exact putE_ls henc (by simp)
end
end Sx
namespace Sx
section
variable [Val] [Kno]
variable {C:Cfg} {Sg:FuncId->Option Sig} {T:Nat->Site} {α:Type}
def lZ{l:List α}{i:Nat}{a:α}(h:l[i]?=some a):l.set i a=l:=by
 apply qaT
 intro k
 by_cases hk:i=k
 ·subst hk
  rw[qaI (aI h),h]
 ·rw[qaA hk]
end
end Sx
namespace Sx
section
variable [Val] [Kno] {C:Cfg} {T:Nat->Site}
abbrev Ku:=Int×Int
def kvU(k:Ku):Value:=.agg ⟨[.int .i64 k.1,.int .u8 k.2]⟩
def EntS(es:List MapEntry)(ks:List Ku):Prop:=es.map (·.key)=ks.map kvU/\∀e∈es,e.val = .bool true
def ox(a b:Int):eqZ a b=decide (a=b):=by
 have hb:∀m n:Nat,Nat.beq m n=decide (m=n):=λm n=>by
  by_cases h:m=n
  ·subst h;simp
  ·rw[decide_eq_false h]
   cases hq:Nat.beq m n with
   |true=>exact absurd (qab hq) h
   |false=>rfl
 cases a<;>cases b<;>simp[eqZ,hb]
 omega
variable {kt:TypeId}
def EntS.push{es:List MapEntry}{ks:List Ku}(he:EntS es ks)(k:Ku)(c:Nat):EntS (es++[{ key:=kvU k,val:=.bool true,born:=c }]) (ks++[k]):=by
 refine⟨by simp[he.1],λe hm=>?_⟩
 rcases qay.1 hm with hm|hm
 ·exact he.2 e hm
 ·simp only[qak]at hm
  subst hm;rfl
end
end Sx
namespace Sx
section
variable [Val] [Kno] {C:Cfg} {T:Nat->Site}
abbrev K3:=Int×Int×Nat
def cc3(k:K3):List Value:=[.int .i64 k.1,.int .i64 k.2.1,.int .u8 (Int.ofNat k.2.2)]
def kv3(k:K3):Value:=.agg ⟨cc3 k⟩
abbrev kk3:List LK:=[.i .i64,.i .i64,.i .u8]
def difK_3(a b:K3):difK kk3 (cc3 a) (cc3 b)=some (decide (a=b)):=by
 have e1:cV .i64 .i64=true:=rfl
 have e2:cV .u8 .u8=true:=rfl
 obtain⟨a1,a2,a3⟩:=a
 obtain⟨b1,b2,b3⟩:=b
 simp only[cc3,difK,e1,e2,ox,qbJ]
 have e3:decide (Int.ofNat a3=Int.ofNat b3)=decide (a3=b3):=decide_eq_decide.2 ⟨λh=>qcJ h,λh=>by rw[h]⟩
 rw[e3]
 by_cases h1:a1=b1<;>by_cases h2:a2=b2<;>by_cases h3:a3=b3<;>simp[h1,h2,h3]
def uC(k:K3):∀ {es:List MapEntry} {ks:List K3} (i:Nat),es.map (·.key)=ks.map kv3->gH kk3 (cc3 k) es i=some ((ks.idxOf? k).map (i + ·))
 | [],[],i,_=>rfl
 | [],_ :: _,i,h=>by simp at h
 |_ :: _,[],i,h=>by simp at h
 |e :: es,q :: ks,i,h=>by
  simp only[qap,qaZ]at h
  have ih:=uC k (i+1) h.2
  have hq:gH kk3 (cc3 k) (e :: es) i=if k=q then some (some i)else gH kk3 (cc3 k) es (i+1):=by
   simp only[gH,h.1,kv3]
   rw[difK_3]
   by_cases hk:k=q<;>simp[hk]
  rw[hq,List.idxOf?_cons]
  by_cases hk:k=q
  ·subst hk
   simp
  ·rw[if_neg hk,ih,if_neg (by simp;exact λe=>hk e.symm),qdf]
   congr 2
   funext j
   simp only[Function.comp];omega
variable {kt:TypeId} (h1:aggT C.P kt=some true) (h2:gk C.P 10000 kt=some kk3)
include h1 h2
theorem qG(k:K3):keyF C.P kt (kv3 k)=true:=by
 have e1:cV .i64 .i64=true:=rfl
 have e2:cV .u8 .u8=true:=rfl
 unfold keyF kv3 cc3
 simp only[h1,h2,eT,e1,e2,ox]
 simp
theorem lh(k:K3){es:List MapEntry}{r:Option Nat}(hr:gH kk3 (cc3 k) es 0=some r):mw C.P kt (kv3 k) es=some r:=by
 unfold mw kv3
 simp only[h1,h2,kq,hr]
omit h1 h2 in
omit h1 h2 in
omit h1 h2 in
omit h1 h2 in
theorem eY{h:HL}{id c:Nat}{es:List MapEntry}(hm:h[id]?=some (.o (.map es c))):mapG (getH T h) id=some (es,c):=by
 unfold mapG
 rw[cq hm]
end
section
variable [Val] [Kno] {T:Nat->Site}
end
end Sx
namespace Sx
section
variable [Val] [Kno] {C:Cfg} {Sg:FuncId->Option Sig} {T:Nat->Site}
def lG{α β:Type}(f:α->β):∀(l:List α) (j:Nat),(l.eraseIdx j).map f=(l.map f).eraseIdx j
 | [],_=>rfl
 |_ :: _,0=>rfl
 |a :: l,j+1=>by simp only[List.eraseIdx_cons_succ,qap,lG f l j]
def Set3(h:HL)(id:Nat)(ks:List K3):Prop:=∃es c,h[id]?=some (.o (.map es c))/\es.map (·.key)=ks.map kv3/\∀e∈es,e.val = .bool true
def Set3.keep{h h':HL}{id:Nat}{ks:List K3}(hs:Set3 h id ks)(hk:∀o,h[id]?=some o->h'[id]?=some o):Set3 h' id ks:=by
 obtain⟨es,c,h1,h2⟩:=hs
 exact⟨es,c,hk _ h1,h2⟩
def Set3.lt{h:HL}{id:Nat}{ks:List K3}(hs:Set3 h id ks):id<h.length:=by
 obtain⟨es,c,h1,_⟩:=hs
 exact aI h1
variable {kt:TypeId} (h1:aggT C.P kt=some true) (h2:gk C.P 10000 kt=some kk3)
include h1 h2
theorem r_lu3{h:HL}{id:Nat}{ks:List K3}{K:List Value->Prop}(hs:Set3 h id ks)(k:K3)(hk:K [.bool (decide (k∈ks))]) :
  (PH C Sg T).peek (.fn (luG C kt false (.bool false) (.map (some id)) (kv3 k) false)) h (@hid _ ⟨K⟩):=by
 obtain⟨es,c,a1,a2,a3⟩:=hs
 refine dF (cs:=[.bool (decide (k∈ks))]) ?_ hk
 show luG C kt false (.bool false) (.map (some id)) (kv3 k) false (getH T h)=_
 unfold luG
 rw[qG h1 h2]
 simp only[qaS,qam,if_false]
 rw[eY a1]
 simp only
 rw[lh h1 h2 k (uC k 0 a2)]
 cases hi:ks.idxOf? k with
 |none=>
  rw[decide_eq_false (qbP.1 hi)]
  simp[eC]
 |some j=>
  obtain⟨hj,hjk,_⟩:=qct.1 hi
  have hlen:es.length=ks.length:=by
   have:=congrArg List.length a2
   simpa using this
  have he:es[j]?=some (es[j]'(by omega)):=qao _
  have hv:=a3 _ (qbN (show j<es.length by omega))
  rw[decide_eq_true (hjk▸qbN hj)]
  simp only[qau,qaD]
  have hv2:dB es j=some (.bool true):=by
   unfold dB
   rw[he]
   simp[hv]
  rw[hv2]
  simp[eC]
theorem r_mu3{h:HL}{id:Nat}{ks:List K3}{K:List Value->HL->Prop}(hs:Set3 h id ks)(k:K3)(hk:∀o,Set3 (h.set id o) id (if k∈ks then ks else ks++[k])->K [] (h.set id o)) :
  (PH C Sg T).heap (.fn (muG C kt (.map (some id)) (kv3 k) (.bool true))) h (@hid _ ⟨K⟩):=by
 have hlt:=hs.lt
 obtain⟨es,c,a1,a2,a3⟩:=hs
 cases hi:ks.idxOf? k with
 |none=>
  have hn:k∉ks:=qbP.1 hi
  have hrun:(Hp.fn (muG C kt (.map (some id)) (kv3 k) (.bool true))).run (getH T h) h.length=some ([.set id (.map (es++[{ key:=kv3 k,val:=.bool true,born:=c }]) (c+1))],[]):=by
   show muG C kt (.map (some id)) (kv3 k) (.bool true) (getH T h) h.length=_
   unfold muG
   simp only
   rw[qG h1 h2]
   simp only[qaS,qam,if_false]
   rw[eY a1]
   simp only
   rw[lh h1 h2 k (uC k 0 a2),hi]
   rfl
  refine cf hrun (hk _ ?_)
  rw[if_neg hn]
  refine⟨_,_,qaI hlt,by simp[a2],λe hm=>?_⟩
  rcases qay.1 hm with hm|hm
  ·exact a3 e hm
  ·simp only[qak]at hm
   subst hm;rfl
 |some j=>
  obtain⟨hj,hjk,_⟩:=qct.1 hi
  have hm:k∈ks:=hjk▸qbN hj
  have hlen:es.length=ks.length:=by
   have:=congrArg List.length a2
   simpa using this
  have he:es[j]?=some (es[j]'(by omega)):=qao _
  have hkey:(es[j]'(by omega)).key=kv3 k:=by
   have e1:(es.map (·.key))[j]?=(ks.map kv3)[j]?:=by rw[a2]
   rw[qaw,qaw,he,qao hj,hjk]at e1
   simpa using e1
  have hsb:Instr.sameBits 10000 (kv3 k) (kv3 k)=true:=by simp[kv3,cc3,Instr.sameBits]
  have hrun:(Hp.fn (muG C kt (.map (some id)) (kv3 k) (.bool true))).run (getH T h) h.length=some ([.set id (.map (es.modify j λe=>{ e with key:=kv3 k,val:=.bool true }) c)],[]):=by
   show muG C kt (.map (some id)) (kv3 k) (.bool true) (getH T h) h.length=_
   unfold muG
   simp only
   rw[qG h1 h2]
   simp only[qaS,qam,if_false]
   rw[eY a1]
   simp only
   rw[lh h1 h2 k (uC k 0 a2),hi]
   simp only[qau,qaD]
   rw[he]
   simp only[Option.all_some,hkey,hsb,if_true]
  refine cf hrun (hk _ ?_)
  rw[if_pos hm]
  refine⟨_,_,qaI hlt,?_,λe hme=>?_⟩
  ·rw[←a2]
   apply qaT
   intro i
   rw[qaw,qaw,qcF]
   by_cases hij:j=i
   ·subst hij
    rw[he]
    simp[hkey]
   ·simp[hij]
  ·obtain⟨i,hi'⟩:=qaL hme
   rw[qcF]at hi'
   by_cases hij:j=i
   ·subst hij
    rw[he]at hi'
    simp at hi'
    rw[←hi']
   ·simp[hij]at hi'
    exact a3 e (qad hi')
theorem r_de3{h:HL}{id:Nat}{ks:List K3}{K:List Value->HL->Prop}(hs:Set3 h id ks)(k:K3)(hk:∀h',(h'=h∨∃o,h'=h.set id o)->Set3 h' id (ks.erase k)->K [] h') :
  (PH C Sg T).heap (.fn (deG C kt (.map (some id)) (kv3 k))) h (@hid _ ⟨K⟩):=by
 have hlt:=hs.lt
 have hs':=hs
 obtain⟨es,c,a1,a2,a3⟩:=hs
 cases hi:ks.idxOf? k with
 |none=>
  have hn:k∉ks:=qbP.1 hi
  have hrun:(Hp.fn (deG C kt (.map (some id)) (kv3 k))).run (getH T h) h.length=some ([],[]):=by
   show deG C kt (.map (some id)) (kv3 k) (getH T h) h.length=_
   unfold deG
   rw[qG h1 h2]
   simp only[qaS,qam,if_false]
   rw[eY a1]
   simp only
   rw[lh h1 h2 k (uC k 0 a2),hi]
   rfl
  refine cf hrun (hk _ (.inl rfl) ?_)
  rw[List.erase_of_not_mem hn]
  exact hs'
 |some j=>
  have hrun:(Hp.fn (deG C kt (.map (some id)) (kv3 k))).run (getH T h) h.length=some ([.set id (.map (es.eraseIdx j) c)],[]):=by
   show deG C kt (.map (some id)) (kv3 k) (getH T h) h.length=_
   unfold deG
   rw[qG h1 h2]
   simp only[qaS,qam,if_false]
   rw[eY a1]
   simp only
   rw[lh h1 h2 k (uC k 0 a2),hi]
   simp only[qau,qaD]
  refine cf hrun (hk _ (.inr ⟨_,rfl⟩) ⟨_,_,qaI hlt,?_,λe he=>a3 e (List.mem_of_mem_eraseIdx he)⟩)
  have e1:ks.erase k=ks.eraseIdx j:=by
   rw[List.erase_eq_eraseIdx,hi]
  rw[e1,lG,a2,lG]
omit h1 h2 in
theorem r_len3{h:HL}{id:Nat}{ks:List K3}{K:List Value->Prop}(hs:Set3 h id ks)(hk:K [.int .i64 (Int.ofNat ks.length)]):(PH C Sg T).peek (.fn (lenM (.map (some id)))) h (@hid _ ⟨K⟩):=by
 obtain⟨es,c,a1,a2,a3⟩:=hs
 have hlen:es.length=ks.length:=by
  have:=congrArg List.length a2
  simpa using this
 refine dF (cs:=[.int .i64 (Int.ofNat ks.length)]) ?_ hk
 show lenM (.map (some id)) (getH T h)=_
 unfold lenM
 simp only
 rw[cq a1]
 simp only
 rw[hlen]
 rfl
end
end Sx
end Go.Am
set_option maxRecDepth 100000
set_option maxHeartbeats 4000000
namespace Go.Am
open Sx Go.Proofs
def gY{g:FuncId}{sg:Sig}{cap:List Value}{ls rs:List Lf}{H H':List HObj}{args:List Value}(hc:aQ cc ab g ls H rs H')(hs:ab g=some sg)(xs:List S0)(h1:bA xs sg.ps=true)(h2:bC xs=ls)(h3:ae xs=args++cap) :
  ry cc (.func (.func g) ⟨[]⟩ ⟨cap⟩) args sg.rs H rs H':=by
 obtain⟨sg',xs',ys,c1,c2,c3,c4⟩:=hc
 rw[hs]at c1
 cases c1
 obtain⟨w1,_⟩:=bU c2.1 h1 (c2.2.1.trans h2.symm)
 rw[w1,h3]at c4
 exact⟨ys,c3,.inl ⟨g,⟨[]⟩,⟨cap⟩,rfl,by simpa using c4⟩⟩
abbrev ptrB(b:Nat):Value:=.pointer (some ⟨b,0,none⟩)
def cg{h:HL}{b e:Nat}{cs:List Value}(hb:h[b]?=some (.o (.cells cs e true))):Ptr h (ptrB b) cs:=⟨b,0,cs,e,true,rfl,hb,Sx.cut_all rfl⟩
def en(b:Nat):aX (ptrB b)=true:=by simp[aX,noLoc,aY,bV,bp,aV,ay]
def dt{h:HL}{p:Value}{cs:List Value}{K:List Value->Prop}{n:Nat}(hp:Ptr h p cs)(hn:cs.length=n)(hk:K cs):P1.peek (.lg cc n p) h (@hid _ ⟨K⟩):=dF (hp.lg hn) hk
def gO{h:HL}{b e:Nat}{vs new:List Value}{K:List Value->HL->Prop}(hb:h[b]?=some (.o (.cells vs e true)))(hl:new.length=vs.length)(hk:K [] (h.set b (.o (.cells new e true)))):P1.heap (.st (ptrB b) new) h (@hid _ ⟨K⟩):=by
 have hrun:(Hp.st (ptrB b) new).run (getH aa h) h.length=some ([.set b (.cells new e true)],[]):=by
  show stP (ptrB b) new (getH aa h) h.length=_
  unfold stP
  simp only
  rw[cq hb]
  simp only
  unfold splice
  rw[if_pos (by omega)]
  simp[hl]
 exact cf hrun hk
def ip{b:List Lf->HL->Prop}{m:(List Lf->HL->Prop)->Prop}(P:List Lf->HL->Prop)(h1:∀l h,P l h->b l h)(h2:∀j:List Lf->HL->Prop,(∀l h,P l h->j l h)->m j):P1.join (@hid _ ⟨b⟩) (@hid _ ⟨m⟩):=h2 _ h1
def p_eqlT{a b:Int}{K:Bool->Prop}(h:∀t,t=decide (a=b)->K t):P1.cmp .eql a b (@hid _ ⟨K⟩):=by
 show K (a==b)
 exact h _ (by rw[qbD];simp)
def dI{h:HL}{a b:HO}:(h++[a]).set h.length b=h++[b]:=by simp
def aE{h:HL}{a:HO}:(h++[a])[h.length]?=some a:=by simp
def aL{h:HL}{a:HO}{i:Nat}{o:HO}(hi:h[i]?=some o):(h++[a])[i]?=some o:=Pre.get ⟨_,rfl⟩ hi
def aW{h:HL}{a:HO}{i j:Nat}{o:HO}(hi:h[i]?=some o)(hne:j≠i):(h.set j a)[i]?=some o:=by
 rw[qaA hne];exact hi
def lu{h:HL}{a b:HO}{i:Nat}(hi:h[i]?=some a):(h.set i b)[i]?=some b:=qaI (aI hi)
def Low(n0:Nat)(h h':HL):Prop:=∀(j:Nat) o,j<n0->h[j]?=some o->h'[j]?=some o
def Low.refl{n0:Nat}(h:HL):Low n0 h h:=λ_ _ _ h=>h
def Low.trans{n0:Nat}{a b c:HL}(h:Low n0 a b)(k:Low n0 b c):Low n0 a c:=λj o hj ho=>k j o hj (h j o hj ho)
def Low.app{n0:Nat}{a b:HL}(h:Low n0 a b)(G:HL):Low n0 a (b++G):=λj o hj ho=>Pre.get ⟨_,rfl⟩ (h j o hj ho)
def Low.set{n0:Nat}{a b:HL}(h:Low n0 a b){i:Nat}(hi:n0<=i)(o:HO):Low n0 a (b.set i o):=λj o' hj ho=>aW (h j o' hj ho) (by omega)
def Low.le{n0 n1:Nat}{a b:HL}(h:Low n0 a b)(hn:n1<=n0):Low n1 a b:=λj o hj ho=>h j o (by omega) ho
def Low.ls{α:Type}{n0:Nat}{h h':HL}(hl:Low n0 h h'){v:Value}{e:Nat}{enc:α->List Value}{l:List α}(hs:LsH h v e enc l)(hb:∀i,blk v=some i->i<n0):LsH h' v e enc l:=hs.keep λj o ho hj=>hl j o (hb j hj) ho
def Sx.LsH.blkLt{α:Type}{h:HL}{v:Value}{e:Nat}{enc:α->List Value}{l:List α}(hs:LsH h v e enc l){i:Nat}(hb:blk v=some i):i<h.length:=by
 obtain⟨_,_,⟨rfl,_⟩|⟨id,off,cx,vs,rw',rfl,h2,_⟩⟩:=hs
 ·cases hb
 ·cases hb
  exact aI h2
def Sx.LsH.low{α:Type}{h h':HL}{v:Value}{e:Nat}{enc:α->List Value}{l:List α}(hs:LsH h v e enc l)(hl:Low h.length h h'):LsH h' v e enc l:=hl.ls hs λ_ hb=>hs.blkLt hb
def cA(a:K3):(cc3 a).length=3:=rfl
def eqs3{a b:K3}{K:Bool->Prop}:P1.eqs [(.i a.1,.i b.1),(.i a.2.1,.i b.2.1),(.i (Int.ofNat a.2.2),.i (Int.ofNat b.2.2))] (@hid _ ⟨K⟩)=K (decide (a=b)):=by
 show K (cm _)=_
 have e:cm [(.i a.1,.i b.1),(.i a.2.1,.i b.2.1),(.i (Int.ofNat a.2.2),.i (Int.ofNat b.2.2))]=decide (a=b):=by
  rw[qbD]
  simp[cm,gF,Prod.ext_iff]
  intro _ _
  omega
 rw[e]
def OwnL{α:Type}(n0:Nat)(h:HL)(v:Value)(e:Nat)(enc:α->List Value)(l:List α):Prop:=
 (v = .slice none 0 0/\l=[])∨∃id cx,v = .slice (some ⟨id,0,tag e⟩) l.length cx/\n0<=id/\h[id]?=some (.o (.cells (l.flatMap enc) e true))/\(cx=0∨cx=l.length+1)
section
variable {α:Type} {n0 e:Nat} {enc:α->List Value} {l:List α} {h:HL} {v:Value}
def OwnL.nil(n0:Nat)(h:HL)(e:Nat)(enc:α->List Value):OwnL n0 h (.slice none 0 0) e enc []:=.inl ⟨rfl,rfl⟩
def OwnL.ls(henc:∀a,(enc a).length=e)(ho:OwnL n0 h v e enc l):LsH h v e enc l:=by
 have hl:=bn (e:=e) (enc:=enc) (l:=l) λa _=>henc a
 rcases ho with⟨rfl,rfl⟩|⟨id,cx,rfl,_,h2,_⟩
 ·exact LsH.nil h e enc
 ·exact⟨λa _=>henc a,hl,.inr ⟨id,0,cx,_,true,rfl,h2,Sx.cut_all hl⟩⟩
def OwnL.keep{h':HL}(ho:OwnL n0 h v e enc l)(hk:∀(j:Nat) o,h[j]?=some o->blk v=some j->h'[j]?=some o):OwnL n0 h' v e enc l:=by
 rcases ho with h0|⟨id,cx,rfl,h1,h2,h3⟩
 ·exact .inl h0
 ·exact .inr ⟨id,cx,rfl,h1,hk _ _ h2 rfl,h3⟩
def OwnL.app(ho:OwnL n0 h v e enc l)(G:HL):OwnL n0 (h++G) v e enc l:=ho.keep λ_ _ h _=>Pre.get ⟨_,rfl⟩ h
def OwnL.blk(ho:OwnL n0 h v e enc l){j:Nat}(hb:blk v=some j):n0<=j/\j<h.length:=by
 rcases ho with⟨rfl,_⟩|⟨id,cx,rfl,h1,h2,_⟩
 ·cases hb
 ·cases hb
  exact⟨h1,aI h2⟩
def OwnL.good(henc:∀a,(enc a).length=e)(ho:OwnL n0 h v e enc l):aX v=true:=(ho.ls henc).good
def OwnL.ap{bytes k:Nat}{x:Value}{new:List α}{K:List Value->HL->Prop}(henc:∀a,(enc a).length=e)(ho:OwnL n0 h v e enc l)(hn0:n0<=h.length)(hx:slG cc e (getH aa h) x=some (new.flatMap enc,k))(hkn:k=new.length)(hs:bO (l.length+k) bytes=true)
  (hk:∀v' h',OwnL n0 h' v' e enc (l++new)->aX v'=true->(∀(j:Nat) o,h[j]?=some o->Sx.blk v≠some j->h'[j]?=some o)->h.length<=h'.length->(Sx.blk v'=Sx.blk v∨∃j,Sx.blk v'=some j/\h.length<=j)->K [v'] h') :
  P1.heap (.ap cc e bytes v x) h (@hid _ ⟨K⟩):=by
 subst hkn
 have hll:(l++new).length=l.length+new.length:=qaF
 have hfm:l.flatMap enc++new.flatMap enc=(l++new).flatMap enc:=by simp
 have gd:∀i n c,aX (.slice (some ⟨i,0,tag e⟩) n c)=true:=λi n c=>by simp[aX,noLoc,aY,bV,bp,aV,ay,tag]
 rcases ho with⟨rfl,rfl⟩|⟨id,cx,rfl,h1,h2,h3⟩
 ·by_cases hk0:new.length=0
  ·have hnil:new=[]:=qbb.1 hk0
   subst hnil
   have hrun:(Hp.ap cc e bytes (.slice none 0 0) x).run (getH aa h) h.length=some ([],[.slice none 0 0]):=by
    show apG cc e bytes (.slice none 0 0) x (getH aa h) h.length=_
    unfold apG
    rw[hx]
    rfl
   exact cf hrun (hk _ _ (.inl ⟨rfl,rfl⟩) rfl (λj o hj _=>hj) (qag _) (.inl rfl))
  ·have hrun:(Hp.ap cc e bytes (.slice none 0 0) x).run (getH aa h) h.length=some ([.push (.cells (new.flatMap enc) e true)],[.slice (some ⟨h.length,0,tag e⟩) new.length 0]):=by
    show apG cc e bytes (.slice none 0 0) x (getH aa h) h.length=_
    unfold apG
    rw[hx]
    simp only[if_neg hk0]
    rw[qb4,qaD]at hs
    rw[if_pos hs]
   refine cf hrun (hk _ _ (.inr ⟨h.length,0,by simp,hn0,by simp[cj,Act1.onH],.inl rfl⟩) (gd _ _ _) (λj o hj _=>Pre.get ⟨_,rfl⟩ hj) (by simp[cj,Act1.onH]) (.inr ⟨h.length,rfl,qag _⟩))
 ·have hcut:cut (l.flatMap enc) 0 (l.length*e)=some (l.flatMap enc):=Sx.cut_all (bn λa _=>henc a)
  have hlt:=aI h2
  rcases h3 with rfl|rfl
  ·by_cases hk0:new.length=0
   ·have hnil:new=[]:=qbb.1 hk0
    subst hnil
    have hrun:(Hp.ap cc e bytes (.slice (some ⟨id,0,tag e⟩) l.length 0) x).run (getH aa h) h.length=some ([],[.slice (some ⟨id,0,tag e⟩) l.length 0]):=by
     show apG cc e bytes (.slice (some ⟨id,0,tag e⟩) l.length 0) x (getH aa h) h.length=_
     unfold apG
     rw[hx]
     simp only[ne_eq,not_true_eq_false,if_false]
     rw[cq h2]
     simp only[ne_eq,not_true_eq_false,if_false]
     rw[hcut]
     rfl
    exact cf hrun (hk _ _ (.inr ⟨id,0,by simp,h1,by simpa[cj]using h2,.inl rfl⟩) (gd _ _ _) (λj o hj _=>hj) (qag _) (.inl rfl))
   ·have hrun:(Hp.ap cc e bytes (.slice (some ⟨id,0,tag e⟩) l.length 0) x).run (getH aa h) h.length=some ([.set id .dead,.push (.cells ((l++new).flatMap enc) e true)],[.slice (some ⟨h.length,0,tag e⟩) (l.length+new.length) 0]):=by
     show apG cc e bytes (.slice (some ⟨id,0,tag e⟩) l.length 0) x (getH aa h) h.length=_
     unfold apG
     rw[hx]
     simp only[ne_eq,not_true_eq_false,if_false]
     rw[cq h2]
     simp only[ne_eq,not_true_eq_false,if_false]
     rw[hcut]
     simp only[if_neg hk0,qdh]
     rw[if_pos hs,hfm]
    have e1:cj h [.set id .dead,.push (.cells ((l++new).flatMap enc) e true)]=h.set id (.o .dead)++[.o (.cells ((l++new).flatMap enc) e true)]:=rfl
    refine cf hrun ?_
    rw[e1]
    refine hk _ _ (.inr ⟨h.length,0,by rw[hll],hn0,?_,.inl rfl⟩) (gd _ _ _) (λj o hj hb=>?_) (by simp) (.inr ⟨h.length,rfl,qag _⟩)
    ·rw[qar (by simp)]
     simp
    ·exact aL (aW hj λe=>hb (by subst e;rfl))
  ·by_cases hk0:l.length+new.length<=l.length
   ·have hnil:new=[]:=qbb.1 (by omega)
    subst hnil
    have hrun:(Hp.ap cc e bytes (.slice (some ⟨id,0,tag e⟩) l.length (l.length+1)) x).run (getH aa h) h.length=some ([.set id (.cells (l.flatMap enc) e true)],[.slice (some ⟨id,0,tag e⟩) l.length (l.length+1)]):=by
     show apG cc e bytes (.slice (some ⟨id,0,tag e⟩) l.length (l.length+1)) x (getH aa h) h.length=_
     unfold apG
     rw[hx]
     simp only[ne_eq,not_true_eq_false,if_false]
     rw[cq h2]
     simp only[ne_eq,not_true_eq_false,if_false]
     rw[hcut]
     simp only[qb4,qce,qag,if_true]
     unfold splice
     have hl:=bn (e:=e) (enc:=enc) (l:=l) λa _=>henc a
     simp[hl]
    have e1:cj h [.set id (.cells (l.flatMap enc) e true)]=h:=lZ h2
    refine cf hrun ?_
    rw[e1]
    exact hk _ _ (.inr ⟨id,l.length+1,by simp,h1,by simpa using h2,.inr (by simp)⟩) (gd _ _ _) (λj o hj _=>hj) (qag _) (.inl rfl)
   ·have hrun:(Hp.ap cc e bytes (.slice (some ⟨id,0,tag e⟩) l.length (l.length+1)) x).run (getH aa h) h.length=some ([.push (.cells ((l++new).flatMap enc) e true)],[.slice (some ⟨h.length,0,tag e⟩) (l.length+new.length) 0]):=by
     show apG cc e bytes (.slice (some ⟨id,0,tag e⟩) l.length (l.length+1)) x (getH aa h) h.length=_
     unfold apG
     rw[hx]
     simp only[ne_eq,not_true_eq_false,if_false]
     rw[cq h2]
     simp only[ne_eq,not_true_eq_false,if_false]
     rw[hcut]
     simp only[if_neg hk0]
     rw[if_pos hs,hfm]
    refine cf hrun (hk _ _ (.inr ⟨h.length,0,by rw[hll],hn0,by simp[cj,Act1.onH],.inl rfl⟩) (gd _ _ _) (λj o hj _=>Pre.get ⟨_,rfl⟩ hj) (by simp[cj,Act1.onH]) (.inr ⟨h.length,rfl,qag _⟩))
def OwnL.ap1{bytes m:Nat}{a:α}{new:List Value}{sp:Option Nat}{K:List Value->HL->Prop}(henc:∀a,(enc a).length=e)(ho:OwnL n0 h v e enc l)(hn0:n0<=h.length)(hm:m=h.length)(hnew:new=enc a)(hsp:sp=some (e+10))(hs:bO (l.length+1) bytes=true)
  (hk:∀v' h',OwnL n0 h' v' e enc (l++[a])->aX v'=true->(∀(j:Nat) o,h[j]?=some o->Sx.blk v≠some j->h'[j]?=some o)->h.length<=h'.length->(Sx.blk v'=Sx.blk v∨∃j,Sx.blk v'=some j/\h.length<=j)->K [v'] h') :
  P1.heap (.ap cc e bytes v (.slice (some ⟨m,0,sp⟩) 1 2)) (h++[.o (.cells new e true)]) (@hid _ ⟨K⟩):=by
 subst hm hnew hsp
 have ho':OwnL n0 (h++[HO.o (.cells (enc a) e true)]) v e enc l:=ho.app _
 refine ho'.ap (new:=[a]) (k:=1) henc (by simp;omega) ?_ rfl hs λv' h' a1 a2 a3 a4 a5=>hk v' h' a1 a2 (λj o hj hb=>a3 j o (aL hj) hb) (by simp at a4;omega) ?_
 ·have hx:SlC (h++[HO.o (.cells (enc a) e true)]) (.slice (some ⟨h.length,0,tag e⟩) 1 2) e 1 (enc a):=⟨by rw[henc,qbU],.inr ⟨h.length,0,2,enc a,true,rfl,aE,Sx.cut_all (by rw[henc,qbU])⟩⟩
  have h1:slG cc e (getH aa (h++[HO.o (.cells (enc a) e true)])) (.slice (some ⟨h.length,0,tag e⟩) 1 2)=some ([a].flatMap enc,1):=by
   rw[slG_sl hx]
   simp
  exact h1
 ·rcases a5 with a5|⟨j,h1,h2⟩
  ·exact .inl a5
  ·exact .inr ⟨j,h1,by simp at h2;omega⟩
end
end Go.Am
set_option maxRecDepth 100000
namespace Go.Am
namespace Tw
open Sx
abbrev Sq:=Int×Int
def bes(c:Sq)(k:Nat):Sq:=match k with
 |0=>(c.1+1,c.2)
 |1=>(c.1,c.2+1)
 |2=>(c.1 - 1,c.2)
 |_=>(c.1,c.2 - 1)
def sI(c:Sq){k:Nat}(hk:k<4):bes (bes c k) ((k+2)%4)=c:=by
 have:k=0∨k=1∨k=2∨k=3:=by omega
 obtain⟨x,y⟩:=c
 rcases this with rfl|rfl|rfl|rfl<;>simp[bes]
def wayN:Nat->List Nat
 |0=>[1]
 |1=>[2,4,1]
 |2=>[2,1]
 |_=>[2,3,1]
structure TS where
 been:List Sq
 steps:List Nat
 head:Nat
 last:Nat
def goT(s:TS)(k:Nat):TS:={ s with steps:=s.steps++wayN ((k+4 - s.head)%4),head:=k }
def rndT(v:Sq->TS->TS)(L:List Sq)(c:Sq)(s:TS)(k:Nat):TS:=
 if bes c k∈L/\bes c k∉s.been then goT (v (bes c k) (goT s k)) ((k+2)%4)else s
def rnds(v:Sq->TS->TS)(L:List Sq)(c:Sq)(s:TS):Nat->TS
 |0=>s
 |j+1=>rndT v L c (rnds v L c s j) j
def inT(s:TS)(c:Sq):TS:={ s with been:=s.been++[c],last:=s.steps.length }
def visT(L:List Sq):Nat->Sq->TS->TS
 |0,_,s=>s
 |n+1,c,s=>rnds (visT L n) L c (inT s c) 4
def Ok3(l:List Nat):Prop:=∀(i a b:Nat),l[i]?=some a->l[i+1]?=some b->¬(3<=a/\3<=b)
def ui(d:Nat):Ok3 (wayN d)/\(∀a∈wayN d,1<=a/\a<=4)/\(wayN d).length<=3/\∃a r,wayN d=a :: r/\a<3:=by
 match d with
 |0=>exact⟨λi a b h1 h2=>by simp[wayN]at h2,by simp[wayN],by simp[wayN],1,[],rfl,by omega⟩
 |1=>exact⟨λi a b h1 h2=>by
   match i with
   |0=>simp[wayN]at h1 h2;omega
   |1=>simp[wayN]at h1 h2;omega
   |i+2=>simp[wayN]at h2,by simp[wayN],by simp[wayN],2,[4,1],rfl,by omega⟩
 |2=>exact⟨λi a b h1 h2=>by
   match i with
   |0=>simp[wayN]at h1 h2;omega
   |i+1=>simp[wayN]at h2,by simp[wayN],by simp[wayN],2,[1],rfl,by omega⟩
 |d+3=>exact⟨λi a b h1 h2=>by
   match i with
   |0=>simp[wayN]at h1 h2;omega
   |1=>simp[wayN]at h1 h2;omega
   |i+2=>simp[wayN]at h2,by simp[wayN],by simp[wayN],2,[3,1],rfl,by omega⟩
def Ok3.way{l:List Nat}(h:Ok3 l)(d:Nat):Ok3 (l++wayN d):=by
 obtain⟨w1,_,_,a0,r,w4,w5⟩:=ui d
 intro i a b h1 h2
 by_cases e1:i+1<l.length
 ·rw[qaj (by omega)]at h1
  rw[qaj e1]at h2
  exact h i a b h1 h2
 ·rw[qar (by omega)]at h2
  by_cases e2:i+1=l.length
  ·rw[e2,qbz,w4]at h2
   simp only[qa3,qat]at h2
   omega
  ·rw[qar (by omega)]at h1
   rw[show i+1 - l.length=i - l.length+1 by omega]at h2
   exact w1 _ a b h1 h2
def Ok3.take{l:List Nat}(h:Ok3 l)(n:Nat):Ok3 (l.take n):=by
 intro i a b h1 h2
 rw[qaN]at h1 h2
 split at h1
 ·split at h2
  ·exact h i a b h1 h2
  ·cases h2
 ·cases h1
def free(L been:List Sq):Nat:=(L.filter λx=>decide (x∉been)).length
def fL{L b b':List Sq}(h:∀x∈b,x∈b'):free L b'<=free L b:=by
 unfold free
 induction L with
 |nil=>simp
 |cons x L ih=>
  simp only[qbW]
  by_cases h1:x∈b'
  ·by_cases h2:x∈b
   ·simpa[h1,h2]using ih
   ·simp[h1,h2];simp at ih;omega
  ·have h2:x∉b:=λh2=>h1 (h x h2)
   simpa[h1,h2]using ih
def lr{L b b':List Sq}(h:∀x∈b,x∈b'){c:Sq}(hc:c∈L)(h1:c∉b)(h2:c∈b'):free L b'<free L b:=by
 unfold free
 induction L with
 |nil=>cases hc
 |cons x L ih=>
  simp only[qbW]
  by_cases hx:x=c
  ·subst hx
   have:=fL (L:=L) h
   unfold free at this
   simp[h1,h2];simp at this;omega
  ·have hc':c∈L:=by
    rcases qaq.1 hc with e|e
    ·exact absurd e.symm hx
    ·exact e
   have ih:=ih hc'
   by_cases g1:x∈b'
   ·by_cases g2:x∈b
    ·simpa[g1,g2]using ih
    ·simp[g1,g2];simp at ih;omega
   ·have g2:x∉b:=λg2=>g1 (h x g2)
    simpa[g1,g2]using ih
structure Ev(L:List Sq)(s t:TS):Prop where
 g:∃G,t.been=s.been++G
 nd:t.been.Nodup
 sub:∀x∈t.been,x∈L
 hd:t.head<4
 st:∀a∈t.steps,1<=a/\a<=4
 ok:Ok3 t.steps
 la:t.last<=t.steps.length
 le:t.steps.length+6*s.been.length<=s.steps.length+6*t.been.length
def Ev.self{L:List Sq}{s t:TS}(h:Ev L s t):Ev L t t:=⟨⟨[],by simp⟩,h.nd,h.sub,h.hd,h.st,h.ok,h.la,qag _⟩
def Ev.trans{L:List Sq}{s t u:TS}(h:Ev L s t)(k:Ev L t u):Ev L s u:=by
 obtain⟨G,hG⟩:=h.g
 obtain⟨G',hG'⟩:=k.g
 have:=h.le
 have:=k.le
 exact⟨⟨G++G',by rw[hG',hG,qaB]⟩,k.nd,k.sub,k.hd,k.st,k.ok,k.la,by omega⟩
def Ev.mem{L:List Sq}{s t:TS}(h:Ev L s t){x:Sq}(hx:x∈s.been):x∈t.been:=by
 obtain⟨G,hG⟩:=h.g
 rw[hG];exact qax _ hx
def bM{α:Type} [DecidableEq α]:∀ {a b:List α},a.Nodup->(∀x∈a,x∈b)->a.length<=b.length
 | [],b,_,_=>qaP _
 |x :: a,b,h,hs=>by
  rw[qbT]at h
  have hx:=hs x qaJ
  have:=bM (a:=a) (b:=b.erase x) h.2 (λy hy=>by
   have hne:y≠x:=λe=>h.1 (e▸hy)
   exact(List.mem_erase_of_ne hne).2 (hs y (qan _ hy)))
  rw[List.length_erase_of_mem hx]at this
  have:0<b.length:=List.length_pos_of_mem hx
  simp only[qa2];omega
def Ev.small{L:List Sq}{s t:TS}(h:Ev L s t):t.been.length<=L.length:=bM h.nd h.sub
def go_ev{L:List Sq}{s t:TS}(h:Ev L s t){k:Nat}(hk:k<4):(goT t k).been=t.been/\(goT t k).steps.length<=t.steps.length+3/\(∀a∈(goT t k).steps,1<=a/\a<=4)/\Ok3 (goT t k).steps/\(goT t k).last<=(goT t k).steps.length/\(goT t k).head<4:=by
 obtain⟨w1,w2,w3,_⟩:=ui ((k+4 - t.head)%4)
 have:=h.la
 refine⟨rfl,?_,?_,h.ok.way _,?_,hk⟩
 ·show(t.steps++wayN _).length<=_
  rw[qaF];omega
 ·intro a ha
  rcases qay.1 ha with ha|ha
  ·exact h.st a ha
  ·exact w2 a ha
 ·show t.last<=(t.steps++wayN _).length
  rw[qaF];omega
def VOk(L:List Sq)(n:Nat)(v:Sq->TS->TS):Prop:=∀d t,Ev L t t->d∈L->d∉t.been->free L t.been<=n->Ev L t (v d t)/\(v d t).steps.length+6*t.been.length+6<=t.steps.length+6*(v d t).been.length
def rnd_ev{L:List Sq}{n:Nat}{v:Sq->TS->TS}(hv:VOk L n v){s:TS}{c:Sq}(hs:Ev L s s)(hf:free L s.been<=n){k:Nat}(hk:k<4):Ev L s (rndT v L c s k):=by
 unfold rndT
 split
 next h=>
  obtain⟨a1,a2,a3,a4,a5,a6⟩:=go_ev hs hk
  have hg:Ev L (goT s k) (goT s k):=⟨⟨[],by simp⟩,hs.nd,hs.sub,a6,a3,a4,a5,qag _⟩
  obtain⟨b1,b2⟩:=hv (bes c k) (goT s k) hg h.1 h.2 hf
  obtain⟨c1,c2,c3,c4,c5,c6⟩:=go_ev b1 (k:=(k+2)%4) (by omega)
  refine⟨?_,b1.nd,b1.sub,c6,c3,c4,c5,?_⟩
  ·obtain⟨G,hG⟩:=b1.g
   exact⟨G,hG⟩
  ·rw[a1]at b2
   have e:(goT (v (bes c k) (goT s k)) ((k+2)%4)).been.length=(v (bes c k) (goT s k)).been.length:=rfl
   rw[e]
   omega
 ·exact hs
def lW{L:List Sq}{n:Nat}{v:Sq->TS->TS}(hv:VOk L n v){s:TS}{c:Sq}(hs:Ev L s s)(hf:free L s.been<=n):∀j,j<=4->Ev L s (rnds v L c s j)
 |0,_=>hs
 |j+1,hj=>by
  have h:=lW hv (c:=c) hs hf j (by omega)
  exact h.trans (rnd_ev hv h.self (qbp (fL λx hx=>h.mem hx) hf) (by omega))
def in_ev{L:List Sq}{s:TS}{c:Sq}(hs:Ev L s s)(hc:c∈L)(hn:c∉s.been):Ev L (inT s c) (inT s c):=by
 refine⟨⟨[],by simp⟩,?_,?_,hs.hd,hs.st,hs.ok,qag _,qag _⟩
 ·show(s.been++[c]).Nodup
  rw[qb6]
  refine⟨hs.nd,by simp,?_⟩
  intro a ha b hb
  simp only[qak]at hb
  subst hb
  exact λe=>hn (e▸ha)
 ·intro x hx
  rcases qay.1 hx with hx|hx
  ·exact hs.sub x hx
  ·simp only[qak]at hx
   subst hx;exact hc
def rU{L:List Sq}{s:TS}{c:Sq}(hc:c∈L)(hn:c∉s.been):free L (inT s c).been<free L s.been:=lr (λx hx=>qax _ hx) hc hn (qaz _ (by simp))
def gz(L:List Sq):∀n,VOk L n (visT L n)
 |0=>λd t _ hd hn hf=>by
  have:=lr (L:=L) (b:=t.been) (b':=t.been++[d]) (λx hx=>qax _ hx) hd hn (qaz _ (by simp))
  omega
 |n+1=>λd t ht hd hn hf=>by
  have h1:=in_ev ht hd hn
  have h2:=rU (s:=t) hd hn
  have h3:=lW (gz L n) (c:=d) h1 (by omega) 4 (by omega)
  have h4:=h3.le
  have e1:(inT t d).been.length=t.been.length+1:=by
   show(t.been++[d]).length=_
   simp
  have e2:(inT t d).steps=t.steps:=rfl
  rw[e1,e2]at h4
  show Ev L t (rnds (visT L n) L d (inT t d) 4)/\(rnds (visT L n) L d (inT t d) 4).steps.length+6*t.been.length+6<=t.steps.length+6*(rnds (visT L n) L d (inT t d) 4).been.length
  refine⟨⟨?_,h3.nd,h3.sub,h3.hd,h3.st,h3.ok,h3.la,by omega⟩,by omega⟩
  obtain⟨G,hG⟩:=h3.g
  exact⟨d :: G,by rw[hG];show(t.been++[d])++G=_;simp⟩
def Con(L:List Sq):Prop:=∀(i:Nat) (c:Sq),L[i]?=some c->0<i->∃(j:Nat) (d:Sq) (k:Nat),j<i/\L[j]?=some d/\k<4/\bes d k=c
def con_all{L:List Sq}(hL:Con L){S:List Sq}(hs:∀x∈S,x∈L)(hne:∃x,x∈S)(hcl:∀x∈S,∀k,k<4->bes x k∈L->bes x k∈S):∀x∈L,x∈S:=by
 have h0:∀(i:Nat) (c:Sq),L[i]?=some c->c∈S->∃c0,L[0]?=some c0/\c0∈S:=by
  intro i
  induction i using Nat.strongRecOn with
  |ind i ih=>
   intro c hc hm
   by_cases hi:i=0
   ·subst hi
    exact⟨c,hc,hm⟩
   ·obtain⟨j,d,k,hj,hd,hk,e⟩:=hL i c hc (by omega)
    have hdS:d∈S:=by
     have hb:=sI d hk
     rw[e]at hb
     rw[←hb]
     exact hcl c hm _ (by omega) (by rw[hb];exact qad hd)
    exact ih j hj d hd hdS
 obtain⟨x,hx⟩:=hne
 obtain⟨i,hi⟩:=qaL (hs x hx)
 obtain⟨c0,hc0,hm0⟩:=h0 i x hi hx
 have h1:∀(i:Nat) (c:Sq),L[i]?=some c->c∈S:=by
  intro i
  induction i using Nat.strongRecOn with
  |ind i ih=>
   intro c hc
   by_cases hi:i=0
   ·subst hi
    rw[hc0]at hc
    cases hc
    exact hm0
   ·obtain⟨j,d,k,hj,hd,hk,e⟩:=hL i c hc (by omega)
    rw[←e]
    exact hcl d (ih j hj d hd) k hk (by rw[e];exact qad hc)
 intro y hy
 obtain⟨i,hi⟩:=qaL hy
 exact h1 i y hi
end Tw
end Go.Am
set_option maxRecDepth 100000
set_option maxHeartbeats 8000000
namespace Go.Am
open Sx Go.Proofs Tw
def has_c{h:HL}{x:Value}{l:List K3}(hl:LsH h x 3 cc3 l)(hn:l.length<=100000)(a:K3){p q r:Int}(ha:p=a.1/\q=a.2.1/\r=Int.ofNat a.2.2) :
  aQ cc ab 11 [.v x,.i p,.i q,.i r] (absH aa h) [.b (decide (a∈l))] (absH aa h):=by
 obtain⟨rfl,rfl,rfl⟩:=ha
 exact xK x11 (glsV hl.good (glsI (glsI (glsI gls0)))) (by
  unfold f11;simp only[qxh]
  simp(disch:=omega)only[↓qXX]
  refine ja l.length (λj=>∀i,i<j->l[i]?≠some a) (j0:=0) rfl (qaP _) (λi hi=>by omega) ?_
  intro j hj he self hself
  simp(disch:=omega)only[↓qXX]
  refine dc hl ?_
  by_cases hlt:j<l.length
  ·rw[cb hlt]
   simp(disch:=omega)only[↓qXX]
   obtain⟨b,hb⟩:=bQ hlt
   refine dj hl rfl hb ?_
   unfold cc3
   simp(disch:=omega)only[↓qXX]
   rw[eqs3]
   by_cases hba:b=a
   ·subst hba
    rw[decide_eq_true rfl]
    simp(disch:=omega)only[↓qXX]
    exact⟨by rw[decide_eq_true (qad hb)],by trivial⟩
   ·rw[decide_eq_false hba]
    simp(disch:=omega)only[↓qXX]
    rw[cp (by omega)]
    refine hself hlt λi hi=>?_
    by_cases hij:i=j
    ·subst hij
     rw[hb]
     exact λe=>hba (qai e)
    ·exact he i (by omega)
  ·rw[bZ (by omega)]
   simp(disch:=omega)only[↓qXX]
   refine⟨?_,by trivial⟩
   rw[decide_eq_false]
   intro hm
   obtain⟨i,hi⟩:=qaL hm
   exact he i (by have:=aI hi;omega) hi)
def sqC(c:Sq):K3:=(c.1,c.2,0)
def me{a b:Sq}(h:sqC a=sqC b):a=b:=by
 unfold sqC at h
 simp only[qbJ,and_true]at h
 exact qde h.1 h.2
def mf{a:Sq}{l:List Sq}:sqC a∈l.map sqC↔a∈l:=by
 rw[qaH]
 constructor
 ·rintro⟨b,hb,e⟩
  exact me e▸hb
 ·exact λh=>⟨a,h,rfl⟩
structure Grown(b:Int)(L:List Sq):Prop where
 ne:0<L.length
 le:L.length<=12
 nd:L.Nodup
 con:Con L
 bd:∀c∈L,-b<=c.1/\c.1<=b/\-b<=c.2/\c.2<=b
def Grown.mono{b b':Int}{L:List Sq}(h:Grown b L)(hb:b<=b'):Grown b' L:=⟨h.ne,h.le,h.nd,h.con,λc hc=>by have:=h.bd c hc;omega⟩
def Grown.push{b:Int}{L:List Sq}(h:Grown b L){d:Sq}{k:Nat}(hd:d∈L)(hk:k<4)(hn:bes d k∉L)(hl:L.length<12):Grown (b+1) (L++[bes d k]):=by
 refine⟨by simp,by simp;omega,?_,?_,?_⟩
 ·rw[qb6]
  refine⟨h.nd,by simp,?_⟩
  intro a ha c hc
  simp only[qak]at hc
  subst hc
  exact λe=>hn (e▸ha)
 ·intro i c hi h0
  by_cases hlt:i<L.length
  ·rw[qaj hlt]at hi
   obtain⟨j,d',k',a1,a2,a3,a4⟩:=h.con i c hi h0
   exact⟨j,d',k',a1,by rw[qaj (aI a2)];exact a2,a3,a4⟩
  ·have hi':=aI hi
   simp only[qaF,qa2,qb4]at hi'
   obtain rfl:i=L.length:=by omega
   rw[qar (qag _),qbz]at hi
   simp only[qa3,qat]at hi
   obtain⟨j,hj⟩:=qaL hd
   exact⟨j,d,k,aI hj,by rw[qaj (aI hj)];exact hj,hk,hi⟩
 ·intro c hc
  rcases qay.1 hc with hc|hc
  ·have:=h.bd c hc;omega
  ·simp only[qak]at hc
   subst hc
   have:=h.bd d hd
   have hk':k=0∨k=1∨k=2∨k=3:=by omega
   rcases hk' with rfl|rfl|rfl|rfl<;>simp only[bes]<;>omega
def OwnL.lenB{α:Type}{n0 e:Nat}{enc:α->List Value}{l:List α}{h:HL}{v:Value}(ho:OwnL n0 h v e enc l):lenS v=some (.ofNat l.length):=by
 rcases ho with⟨rfl,rfl⟩|⟨id,cx,rfl,_⟩<;>rfl
def size3{n:Nat}(h:n<=1000000):bO n 24=true:=by
 unfold bO
 rw[qbc (by omega),qbc (by omega)];rfl
def oo(p:Int×Int):List Value:=[.int .u8 p.1,.int .u8 p.2]
def qi(p:Int×Int):(oo p).length=2:=rfl
def r_idx{h:HL}{v:Value}{l:List (Int×Int)}{i o:Nat}{a:Int×Int}{n:Int}{cs:List Value}{K:List Value->Prop}(hs:LsH h v 2 oo l)(hn:n=Int.ofNat i)(hi:l[i]?=some a)(ho:o<2)(hcs:cs=((oo a).drop o).take 1)(hk:K cs) :
  P1.opt (idS 2 v n) (@hid _ ⟨λx=>P1.opt (idP 2 1 x (Int.ofNat o)) (@hid _ ⟨λy=>P1.chk y (@hid _ ⟨P1.peek (.lg cc 1 y) h (@hid _ ⟨K⟩)⟩)⟩)⟩):=by
 subst hn hcs
 obtain⟨p,h1,h2⟩:=hs.at hi
 obtain⟨q,h3,h4⟩:=h2.fd o 1 (by rw[qi];omega)
 refine ax h1 (ax (x:=q) ?_ (az h4.good (dF (h4.lg ?_) hk)))
 ·obtain⟨id,o',vs,e,rw',rfl,_,_⟩:=h2
  have ho':o=0∨o=1:=by omega
  rcases ho' with rfl|rfl<;>· rw[←h3];rfl
 ·rw[qaM,qcm,qi];omega
def rem_nat{k:IntKind}{a b:Nat}{K:Int->Prop}(hb:0<b):P1.ari .rem k (Int.ofNat a) (Int.ofNat b) (@hid _ ⟨K⟩)=K (Int.ofNat (a%b)):=by
 rw[p_rem_nn (show(0:Int)<=Int.ofNat a from qbi a) (by show(0:Int)<(b:Int);omega)]
 rfl
def OfOk(H:HL)(rs:List Lf)(h':HL):Prop:=∃v L,rs=[.v v]/\Grown 43 L/\OwnL H.length h' v 3 cc3 (L.map sqC)/\Low H.length H h'/\H.length<=h'.length
def of_c{H:HL}{x:Value}{G:List (Int×Int)}(hG:LsH H x 2 oo G)(hb:∀a∈G,(0<=a.1/\a.1<=255)/\0<=a.2/\a.2<=255){X Y:Int}(hX:0<=X/\X<=255)(hY:0<=Y/\Y<=255) :
  ∃rs h',aQ cc ab 4 [.i X,.i Y,.v x] (absH aa H) rs (absH aa h')/\OfOk H rs h':=by
 exact x4 (K:=OfOk H) (glsI (glsI (glsV hG.good gls0))) (by
  unfold f4;simp only[qxh]
  simp(disch:=omega)only[↓qXX]
  have hx7:0<=X%7/\X%7<7:=by omega
  have hy7:0<=Y%7/\Y%7<7:=by omega
  generalize X%7=x7 at *
  generalize Y%7=y7 at *
  refine bY (σ:=Value×HL×List Sq) G.length (λj s=>[.v s.1,.i (Int.ofNat j)]) (λ_ s=>s.2.1) (λj s=>OwnL H.length s.2.1 s.1 3 cc3 (s.2.2.map sqC)/\Grown (3+Int.ofNat (min j 40)) s.2.2/\Low H.length H s.2.1/\H.length<=s.2.1.length) (j0:=0)
   (s0:=(.slice (some ⟨H.length,0,some 13⟩) 1 2,H++[.o (.cells [.int .i64 (x7 - 3),.int .i64 (y7 - 3),.int .u8 0] 3 true)],[(x7 - 3,y7 - 3)])) rfl rfl (qaP _) ⟨.inr ⟨H.length,2,rfl,qag _,aE,.inr rfl⟩,⟨by simp,by simp,by simp,λi c hi h0=>by
    have:=aI hi
    simp only[qa2,qb4]at this
    omega,λc hc=>by
    simp only[qak]at hc
    subst hc
    simp only[qaP,qbL]
    show -(3+((0:Nat):Int))<=x7 - 3/\x7 - 3<=3+((0:Nat):Int)/\-(3+((0:Nat):Int))<=y7 - 3/\y7 - 3<=3+((0:Nat):Int)
    omega⟩,(Low.refl H).app _,by simp⟩ ?_
  rintro j ⟨v,h,L⟩ hj ⟨ho,hg,hlow,hlen⟩ self hself
  simp only at ho hg hlow hlen hself
  have hfin:OfOk H [.v v] h:=⟨v,L,rfl,hg.mono (by
   have:=Nat.min_le_right j 40
   show 3+((min j 40:Nat):Int)<=43
   omega),ho,hlow,hlen⟩
  simp(disch:=omega)only[↓qXX]
  refine dc (hG.low hlow) ?_
  by_cases hlt:j<G.length
  case neg=>
   rw[bZ (by omega)]
   simp(disch:=omega)only[↓qXX]
   exact hfin
  rw[cb hlt]
  simp(disch:=omega)only[↓qXX]
  refine ax ho.lenB ?_
  rw[qaG]
  by_cases h12:L.length<12
  case neg=>
   rw[p_lss_f (by show(12:Int)<=(L.length:Int);omega)]
   simp(disch:=omega)only[↓qXX]
   exact hfin
  rw[p_lss_t (by show(L.length:Int)<12;omega)]
  simp(disch:=omega)only[↓qXX]
  by_cases h40:j<40
  case neg=>
   rw[p_lss_f (by show(40:Int)<=(j:Int);omega)]
   simp(disch:=omega)only[↓qXX]
   exact hfin
  rw[p_lss_t (by show(j:Int)<40;omega)]
  simp(disch:=omega)only[↓qXX]
  obtain⟨a,ha⟩:=bQ hlt
  obtain⟨⟨a1,a2⟩,a3,a4⟩:=hb a (qad ha)
  refine r_idx (o:=0) (hG.low hlow) rfl ha (by omega) rfl ?_
  simp only[oo,qaX,qa7,qbC]
  simp(disch:=omega)only[↓qXX]
  refine ax ho.lenB ?_
  rw[qaG]
  obtain⟨u,hu⟩ : ∃u:Nat,a.1=Int.ofNat u:=⟨a.1.toNat,by show a.1=((a.1.toNat:Nat):Int);omega⟩
  rw[hu,rem_nat hg.ne]
  have hlt2:u%L.length<L.length:=qbj _ hg.ne
  obtain⟨c,hc⟩:=bQ hlt2
  refine dj (ho.ls cA) rfl (by rw[qaw,hc];rfl) ?_
  simp only[sqC,cc3]
  simp(disch:=omega)only[↓qXX]
  refine r_idx (o:=1) (hG.low hlow) rfl ha (by omega) rfl ?_
  simp only[oo,qbS,qaX,qa7,qbC]
  simp(disch:=omega)only[↓qXX]
  have hcm:=qad hc
  have hcb:=hg.bd c hcm
  have hmn:Int.ofNat (min j 40)=(j:Int):=by
   rw[qbL (by omega)];rfl
  have hm1:Int.ofNat (min (j+1) 40)=(j:Int)+1:=by
   rw[qbL (by omega)];rfl
  rw[hmn]at hg hcb
  have body:∀k,k<4->∀v',(bes c k∉L->∀h',OwnL H.length h' v' 3 cc3 ((L++[bes c k]).map sqC)->Low H.length H h'->H.length<=h'.length->self [.v v',.i (Int.ofNat j+1)] h')/\(bes c k∈L->self [.v v,.i (Int.ofNat j+1)] h):=λk hk v'=>⟨λhn h' b1 b2 b3=>hself (v',h',L++[bes c k]) hlt ⟨b1,by
   rw[hm1]
   have:=hg.push hcm hk hn h12
   exact this.mono (by omega),b2,b3⟩,λ_=>hself (v,h,L) hlt ⟨ho,by rw[hm1];exact hg.mono (by omega),hlow,hlen⟩⟩
  refine p_eqlT λt ht=>?_
  refine ip (λl' h'=>∃k,k<4/\l'=[.i (bes c k).1,.i (bes c k).2,.i 0]/\h'=h) ?_ ?_
  ·rintro _ _ ⟨k,hk,rfl,rfl⟩
   simp(disch:=omega)only[↓qXX]
   refine aG (has_c (ho.ls cA) (by rw[qaG];have:=hg.le;omega) (sqC (bes c k)) ⟨rfl,rfl,rfl⟩) ?_
   simp(disch:=omega)only[↓qXX]
   by_cases hm:bes c k∈L
   ·rw[decide_eq_true (mf.2 hm)]
    simp(disch:=omega)only[↓qXX,qaS]
    rw[cp (by omega)]
    exact(body k hk v).2 hm
   ·rw[decide_eq_false (λe=>hm (mf.1 e))]
    simp(disch:=omega)only[↓qXX,qbI]
    refine ho.ap1 (a:=sqC (bes c k)) cA hlen rfl rfl rfl (size3 (by rw[qaG];omega)) λv' h' b1 b2 b3 b4 b5=>?_
    simp(disch:=omega)only[↓qXX]
    refine az b2 ?_
    simp(disch:=omega)only[↓qXX]
    rw[cp (by omega)]
    refine(body k hk v').1 hm h' (by rw[qbu];exact b1) (λi o hi hoo=>b3 i o (hlow i o hi hoo) λe=>?_) (by omega)
    have:=ho.blk e
    omega
  ·intro jn hjn
   have e4:a.2%4=0∨a.2%4=1∨a.2%4=2∨a.2%4=3:=by omega
   have k0:=hjn _ _ ⟨0,by omega,rfl,rfl⟩
   have k1:=hjn _ _ ⟨1,by omega,rfl,rfl⟩
   have k2:=hjn _ _ ⟨2,by omega,rfl,rfl⟩
   have k3:=hjn _ _ ⟨3,by omega,rfl,rfl⟩
   simp only[bes]at k0 k1 k2 k3
   rcases e4 with e|e|e|e<;>rw[e]at ht ⊢
   ·obtain rfl:t=true:=ht
    simp(disch:=omega)only[↓qXX]
    exact k0
   ·obtain rfl:t=false:=ht
    simp(disch:=omega)only[↓qXX]
    exact k1
   ·obtain rfl:t=false:=ht
    simp(disch:=omega)only[↓qXX]
    exact k2
   ·obtain rfl:t=false:=ht
    simp(disch:=omega)only[↓qXX]
    exact k3)
end Go.Am
set_option maxRecDepth 100000
namespace Go.Am
open Sx Go.Proofs
section
variable {α:Type} {key:α->Int}
def SP(a b:Nat)(l l':List α):Prop:=l'.Perm l/\∀i,(i<a∨b<=i)->l'[i]?=l[i]?
def SP.refl(a b:Nat)(l:List α):SP a b l l:=⟨List.Perm.refl _,λ_ _=>rfl⟩
def SP.len{a b:Nat}{l l':List α}(h:SP a b l l'):l'.length=l.length:=h.1.length_eq
def SP.trans{a b:Nat}{l l' l'':List α}(h:SP a b l l')(k:SP a b l' l''):SP a b l l'':=⟨k.1.trans h.1,λi hi=>(k.2 i hi).trans (h.2 i hi)⟩
def SP.mono{a b a' b':Nat}{l l':List α}(h:SP a b l l')(ha:a'<=a)(hb:b<=b'):SP a' b' l l':=⟨h.1,λi hi=>h.2 i (by omega)⟩
def get_eq{l:List α}{i:Nat}{x:α}(h:l[i]?=some x):∃hi:i<l.length,l[i]=x:=qaE.1 h
def SP.swap{a b i j:Nat}{l:List α}{x y:α}(hx:l[i]?=some x)(hy:l[j]?=some y)(hi:a<=i/\i<b)(hj:a<=j/\j<b):SP a b l ((l.set i y).set j x):=by
 obtain⟨h1,e1⟩:=get_eq hx
 obtain⟨h2,e2⟩:=get_eq hy
 refine⟨?_,λk hk=>?_⟩
 ·have:=@List.set_set_perm α l i j h1 h2
  rw[e1,e2]at this
  exact this
 ·rw[qaA (by omega),qaA (by omega)]
def tX{l:List α}{i j k:Nat}{x y:α}(hx:l[i]?=some x)(hy:l[j]?=some y):((l.set i y).set j x)[k]?=if k=j then some x else if k=i then some y else l[k]?:=by
 have h1:=aI hx
 have h2:=aI hy
 by_cases hj:k=j
 ·subst hj
  rw[if_pos rfl,qaI (by rw[qb5];exact h2)]
 ·rw[if_neg hj,qaA (qcx hj)]
  by_cases hi:k=i
  ·subst hi
   rw[if_pos rfl,qaI h1]
  ·rw[if_neg hi,qaA (qcx hi)]
def seg_eq{a b:Nat}{l:List α}(hab:a<=b):l=l.take a++((l.drop a).take (b - a)++l.drop b):=by
 have h1:=qbK a l
 have h2:=qbK (b - a) (l.drop a)
 rw[qbA,show a+(b - a)=b by omega]at h2
 rw[h2,h1]
def SP.mem{a b:Nat}{l l':List α}(h:SP a b l l')(hab:a<=b)(hb:b<=l.length){i:Nat}{x:α}(hi:a<=i/\i<b)(hx:l'[i]?=some x):∃j,a<=j/\j<b/\l[j]?=some x:=by
 have e1:l'.take a=l.take a:=by
  apply qaT
  intro k
  rw[qaN,qaN]
  split
  ·exact h.2 k (.inl (by omega))
  ·rfl
 have e2:l'.drop b=l.drop b:=by
  apply qaT
  intro k
  rw[qa0,qa0]
  exact h.2 _ (.inr (by omega))
 have hp:=h.1
 rw[seg_eq (l:=l) hab,seg_eq (l:=l') hab,e1,e2,List.perm_append_left_iff,List.perm_append_right_iff]at hp
 have hm:x∈(l'.drop a).take (b - a):=by
  refine qad (i:=i - a) ?_
  rw[qaN,if_pos (by omega),qa0,show a+(i - a)=i by omega]
  exact hx
 obtain⟨k,hk⟩:=qaL (hp.mem_iff.1 hm)
 rw[qaN]at hk
 split at hk
 ·rw[qa0]at hk
  exact⟨a+k,by omega,by omega,hk⟩
 ·cases hk
def SS(key:α->Int)(a b:Nat)(l:List α):Prop:=∀i j x y,a<=i->i<j->j<b->l[i]?=some x->l[j]?=some y->key x<=key y
def SS.one{a b:Nat}{l:List α}(h:b<=a+1):SS key a b l:=λi j x y h1 h2 h3=>by omega
def BL(key:α->Int)(a b c d:Nat)(l:List α):Prop:=∀i j x y,a<=i->i<b->c<=j->j<d->l[i]?=some x->l[j]?=some y->key x<=key y
def SS.join{a m b:Nat}{l:List α}(h1:SS key a m l)(h2:SS key m b l)(h:BL key a m m b l):SS key a b l:=by
 intro i j x y hi hij hj hx hy
 by_cases h3:j<m
 ·exact h1 i j x y hi hij h3 hx hy
 ·by_cases h4:m<=i
  ·exact h2 i j x y h4 hij hj hx hy
  ·exact h i j x y hi (by omega) (by omega) hj hx hy
def SS.keep{a b c d:Nat}{l l':List α}(h:SS key a b l)(hp:SP c d l l')(hd:b<=c∨d<=a):SS key a b l':=by
 intro i j x y hi hij hj hx hy
 rw[hp.2 i (by omega)]at hx
 rw[hp.2 j (by omega)]at hy
 exact h i j x y hi hij hj hx hy
def BL.keep{a b c d p q:Nat}{l l':List α}(h:BL key a b c d l)(hp:SP p q l l')(hpq:p<=q/\q<=l.length)(h1:(a<=p/\q<=b)∨b<=p∨q<=a)(h2:(c<=p/\q<=d)∨d<=p∨q<=c):BL key a b c d l':=by
 intro i j x y hi hib hj hjd hx hy
 have fx:∃i',a<=i'/\i'<b/\l[i']?=some x:=by
  by_cases hin:p<=i/\i<q
  ·obtain⟨k,k1,k2,k3⟩:=hp.mem hpq.1 hpq.2 hin hx
   exact⟨k,by omega,by omega,k3⟩
  ·rw[hp.2 i (by omega)]at hx
   exact⟨i,hi,hib,hx⟩
 have fy:∃j',c<=j'/\j'<d/\l[j']?=some y:=by
  by_cases hin:p<=j/\j<q
  ·obtain⟨k,k1,k2,k3⟩:=hp.mem hpq.1 hpq.2 hin hy
   exact⟨k,by omega,by omega,k3⟩
  ·rw[hp.2 j (by omega)]at hy
   exact⟨j,hj,hjd,hy⟩
 obtain⟨i',i1,i2,i3⟩:=fx
 obtain⟨j',j1,j2,j3⟩:=fy
 exact h i' j' x y i1 i2 j1 j2 i3 j3
structure InsI(key:α->Int)(a i j:Nat)(l:List α):Prop where
 srt:∀p q x y,a<=p->p<q->q<=i->p≠j->q≠j->l[p]?=some x->l[q]?=some y->key x<=key y
 low:∀q x y,j<q->q<=i->l[j]?=some x->l[q]?=some y->key x<=key y
def InsI.start{a i:Nat}{l:List α}(h:SS key a i l):InsI key a i i l:=⟨λp q x y h1 h2 h3 h4 h5=>h p q x y h1 h2 (by omega),λq x y h1 h2=>by omega⟩
def InsI.done{a i j:Nat}{l:List α}(h:InsI key a i j l)(hj:a<=j/\j<=i)(hl:j=a∨∃x y,l[j]?=some x/\l[j - 1]?=some y/\key y<=key x):SS key a (i+1) l:=by
 intro p q x y hp hpq hq hx hy
 by_cases h1:p=j
 ·subst h1
  exact h.low q x y hpq (by omega) hx hy
 ·by_cases h2:q=j
  ·subst h2
   rcases hl with hl|⟨u,v,hu,hv,huv⟩
   ·omega
   ·rw[hy]at hu
    cases hu
    by_cases h3:p=q - 1
    ·subst h3
     rw[hx]at hv
     cases hv
     exact huv
    ·have:=h.srt p (q - 1) x v hp (by omega) (by omega) h1 (by omega) hx hv
     omega
  ·exact h.srt p q x y hp hpq (by omega) h1 h2 hx hy
def InsI.step{a i j:Nat}{l:List α}{x y:α}(h:InsI key a i j l)(hj:a<j/\j<=i)(hx:l[j]?=some x)(hy:l[j - 1]?=some y)(hlt:key x<key y):InsI key a i (j - 1) ((l.set j y).set (j - 1) x):=by
 have g:∀k,((l.set j y).set (j - 1) x)[k]?=if k=j - 1 then some x else if k=j then some y else l[k]?:=λk=>tX hx hy
 refine⟨λp q u v hp hpq hq h1 h2 hu hv=>?_,λq u v hq hqi hu hv=>?_⟩
 ·rw[g,if_neg h1]at hu
  rw[g,if_neg h2]at hv
  by_cases hpj:p=j
  ·rw[if_pos hpj]at hu
   cases hu
   rw[if_neg (by omega)]at hv
   exact h.srt (j - 1) q y v (by omega) (by omega) hq (by omega) (by omega) hy hv
  ·rw[if_neg hpj]at hu
   by_cases hqj:q=j
   ·rw[if_pos hqj]at hv
    cases hv
    exact h.srt p (j - 1) u y hp (by omega) (by omega) (by omega) (by omega) hu hy
   ·rw[if_neg hqj]at hv
    exact h.srt p q u v hp hpq hq hpj hqj hu hv
 ·rw[g,if_pos rfl]at hu
  cases hu
  rw[g,if_neg (by omega)]at hv
  by_cases hqj:q=j
  ·rw[if_pos hqj]at hv
   cases hv
   omega
  ·rw[if_neg hqj]at hv
   exact h.low q x v (by omega) hqi hx hv
def HpX(key:α->Int)(lo hi f r:Nat)(l:List α):Prop:=∀k c x y,lo<=k->k≠r->(c=2*k+1∨c=2*k+2)->c<hi->l[f+k]?=some x->l[f+c]?=some y->key y<=key x
def Hp1(key:α->Int)(lo hi f:Nat)(l:List α):Prop:=∀k c x y,lo<=k->(c=2*k+1∨c=2*k+2)->c<hi->l[f+k]?=some x->l[f+c]?=some y->key y<=key x
def HpP(key:α->Int)(lo hi f r:Nat)(l:List α):Prop:=∀k c x y,lo<=k->(r=2*k+1∨r=2*k+2)->(c=2*r+1∨c=2*r+2)->c<hi->l[f+k]?=some x->l[f+c]?=some y->key y<=key x
def HpX.done{lo hi f r:Nat}{l:List α}(h:HpX key lo hi f r l)(hr:∀c x y,(c=2*r+1∨c=2*r+2)->c<hi->l[f+r]?=some x->l[f+c]?=some y->key y<=key x):Hp1 key lo hi f l:=by
 intro k c x y hk hc hch hx hy
 by_cases e:k=r
 ·subst e
  exact hr c x y hc hch hx hy
 ·exact h k c x y hk e hc hch hx hy
def HpX.step{lo hi f r c:Nat}{l:List α}{x y:α}(h:HpX key lo hi f r l)(hp:HpP key lo hi f r l)(hr:lo<=r)(hc:c=2*r+1∨c=2*r+2)(hch:c<hi)(hx:l[f+r]?=some x)(hy:l[f+c]?=some y)(hxy:key x<key y)
  (hmax:∀d z,(d=2*r+1∨d=2*r+2)->d<hi->l[f+d]?=some z->key z<=key y):HpX key lo hi f c ((l.set (f+r) y).set (f+c) x)/\HpP key lo hi f c ((l.set (f+r) y).set (f+c) x):=by
 have g:∀k,((l.set (f+r) y).set (f+c) x)[f+k]?=if k=c then some x else if k=r then some y else l[f+k]?:=λk=>by
  rw[tX hx hy]
  simp only[Nat.add_left_cancel_iff]
 refine⟨λk d u v hk hkc hd hdh hu hv=>?_,λk d u v hk hkc hd hdh hu hv=>?_⟩
 ·rw[g,if_neg hkc]at hu
  rw[g]at hv
  by_cases hkr:k=r
  ·rw[if_pos hkr]at hu
   cases hu
   by_cases hdc:d=c
   ·rw[if_pos hdc]at hv
    cases hv
    omega
   ·rw[if_neg hdc,if_neg (by omega)]at hv
    exact hmax d v (by omega) hdh hv
  ·rw[if_neg hkr]at hu
   by_cases hdc:d=c
   ·omega
   ·rw[if_neg hdc]at hv
    by_cases hdr:d=r
    ·rw[if_pos hdr]at hv
     cases hv
     exact hp k c u y hk (by omega) hc hch hu hy
    ·rw[if_neg hdr]at hv
     exact h k d u v hk hkr hd hdh hu hv
 ·rw[g]at hu hv
  have hkr:k=r:=by omega
  rw[if_neg (by omega),if_pos hkr]at hu
  cases hu
  rw[if_neg (by omega),if_neg (by omega)]at hv
  exact h c d y v (by omega) (by omega) hd hdh hy hv
end
end Go.Am
set_option maxRecDepth 100000
set_option maxHeartbeats 8000000
namespace Go.Am
open Sx Go.Proofs Tw
def OwnL.set{α:Type}{n0 e:Nat}{enc:α->List Value}{l:List α}{h:HL}{v:Value}(henc:∀a,(enc a).length=e)(ho:OwnL n0 h v e enc l){i:Nat}{a:α}{n:Int}{new:List Value}{K:List Value->HL->Prop}(hn:n=Int.ofNat i)(hi:i<l.length)(hnew:new=enc a)
  (hk:∀h',OwnL n0 h' v e enc (l.set i a)->(∀(j:Nat) o,h[j]?=some o->Sx.blk v≠some j->h'[j]?=some o)->h'.length=h.length->K [] h'):P1.opt (idS e v n) (@hid _ ⟨λx=>P1.heap (.st x new) h (@hid _ ⟨K⟩)⟩):=by
 rcases ho with⟨rfl,rfl⟩|⟨id,cx,rfl,h1,h2,h3⟩
 ·simp at hi
 ·have hp:putE h id e enc l=h:=by
   unfold putE
   exact lZ h2
  have:=r_set (C:=cc) (Sg:=ab) (T:=aa) (h:=h) (id:=id) (cx:=cx) (len:=l.length) (l:=l) (K:=K) henc (aI h2) hn hi rfl hnew (hk (putE h id e enc (l.set i a)) (.inr ⟨id,cx,by rw[qb5],h1,oZ (aI h2),by rw[qb5];exact h3⟩) (λj o hj hb=>by
   unfold putE
   rw[qaA (λe=>hb (by subst e;rfl))]
   exact hj) (by simp[putE]))
  rw[hp]at this
  exact this
def quad(c:Sq):List K3:=[(c.1,c.2,0),(c.1,c.2,1),(c.1,c.2,2),(c.1,c.2,3)]
def pg{c:Sq}{a:K3}:a∈quad c↔(a.1,a.2.1)=c/\a.2.2<4:=by
 obtain⟨x,y,q⟩:=a
 obtain⟨u,v⟩:=c
 simp only[quad,qaq,qcn,or_false,qbJ]
 omega
def quad_take{c:Sq}{q:Nat}(hq:q<4):(quad c).take (q+1)=(quad c).take q++[(c.1,c.2,q)]:=by
 have:q=0∨q=1∨q=2∨q=3:=by omega
 rcases this with rfl|rfl|rfl|rfl<;>rfl
def eK(L:List Sq):(L.flatMap quad).length=4*L.length:=by
 induction L with
 |nil=>rfl
 |cons a L ih=>rw[qbm,qaF,ih,qa2];show 4+_=_;omega
def pn{L:List Sq}(h:L.Nodup):(L.flatMap quad).Nodup:=by
 induction L with
 |nil=>simp
 |cons a L ih=>
  rw[qbT]at h
  rw[qbm,qb6]
  refine⟨by simp[quad],ih h.2,?_⟩
  intro x hx y hy e
  subst e
  obtain⟨b,hb,hxb⟩:=qbX.1 hy
  rw[pg]at hx hxb
  exact h.1 (hx.1.symm.trans hxb.1▸hb)
def du{L:List Sq}{a:K3}:a∈L.flatMap quad↔(a.1,a.2.1)∈L/\a.2.2<4:=by
 rw[qbX]
 constructor
 ·rintro⟨c,hc,h⟩
  rw[pg]at h
  exact⟨h.1▸hc,h.2⟩
 ·rintro⟨h1,h2⟩
  exact⟨_,h1,pg.2 ⟨rfl,h2⟩⟩
def keyC(a:K3):Int:=(a.2.1*1000+a.1)*4+Int.ofNat a.2.2
def inC(a:K3):Prop:=(-100<=a.1/\a.1<=100)/\(-100<=a.2.1/\a.2.1<=100)/\a.2.2<4
def ltC3(a b:K3):Prop:=a.2.1<b.2.1∨(a.2.1=b.2.1/\(a.1<b.1∨(a.1=b.1/\a.2.2<b.2.2)))
instance (a b : K3) : Decidable (ltC3 a b) := by unfold ltC3; exact inferInstance
def key_lt{a b:K3}(ha:inC a)(hb:inC b):keyC a<keyC b↔ltC3 a b:=by
 obtain⟨⟨a1,a2⟩,⟨a3,a4⟩,a5⟩:=ha
 obtain⟨⟨b1,b2⟩,⟨b3,b4⟩,b5⟩:=hb
 unfold keyC ltC3
 show(a.2.1*1000+a.1)*4+((a.2.2:Nat):Int)<(b.2.1*1000+b.1)*4+((b.2.2:Nat):Int)↔_
 omega
def before_c{a b:K3}(ha:inC a)(hb:inC b){p q r p' q' r':Int}(h1:p=a.1/\q=a.2.1/\r=Int.ofNat a.2.2)(h2:p'=b.1/\q'=b.2.1/\r'=Int.ofNat b.2.2):Cc 12 [.i p,.i q,.i r,.i p',.i q',.i r'] [.b (decide (keyC a<keyC b))]:=by
 obtain⟨rfl,rfl,rfl⟩:=h1
 obtain⟨rfl,rfl,rfl⟩:=h2
 rw[show decide (keyC a<keyC b)=decide (ltC3 a b)from decide_eq_decide.2 (key_lt ha hb)]
 have hq:∀u w:Nat,(Int.ofNat u<Int.ofNat w)=(u<w):=λu w=>by
  show((u:Int)<(w:Int))=_
  simp
 refine q12 rfl ?_;unfold f12;simp only[qxh]
 unfold ltC3
 by_cases hy:a.2.1=b.2.1
 ·by_cases hx:a.1=b.1
  ·by_cases hz:a.2.2<b.2.2
   ·have hz':Int.ofNat a.2.2<Int.ofNat b.2.2:=by rw[hq];exact hz
    simp(disch:=omega)only[↓qXX]
    simp[hx,hy,hz]
   ·have hz':¬Int.ofNat a.2.2<Int.ofNat b.2.2:=by rw[hq];exact hz
    simp(disch:=omega)only[↓qXX]
    simp[hx,hy,hz]
  ·by_cases hz:a.1<b.1
   ·simp(disch:=omega)only[↓qXX]
    simp[hx,hy,hz]
   ·simp(disch:=omega)only[↓qXX]
    simp[hx,hy,hz]
 ·by_cases hz:a.2.1<b.2.1
  ·simp(disch:=omega)only[↓qXX]
   simp[hy,hz]
  ·simp(disch:=omega)only[↓qXX]
   simp[hy,hz]
structure SetOf(L:List Sq)(D:List K3):Prop where
 perm:D.Perm (L.flatMap quad)
 srt:∀(i j:Nat) x y,i<j->D[i]?=some x->D[j]?=some y->ltC3 x y
def SetOf.mem{L:List Sq}{D:List K3}(h:SetOf L D){a:K3}:a∈D↔(a.1,a.2.1)∈L/\a.2.2<4:=h.perm.mem_iff.trans du
def SetOf.len{L:List Sq}{D:List K3}(h:SetOf L D):D.length=4*L.length:=h.perm.length_eq.trans (eK L)
def set_of{L:List Sq}{D:List K3}(hL:L.Nodup)(hb:∀c∈L,-100<=c.1/\c.1<=100/\-100<=c.2/\c.2<=100)(hp:D.Perm (L.flatMap quad))(hs:SS keyC 0 D.length D):SetOf L D:=by
 refine⟨hp,λi j x y hij hx hy=>?_⟩
 have hin:∀a∈D,inC a:=λa ha=>by
  have h:=du.1 (hp.mem_iff.1 ha)
  have:=hb _ h.1
  exact⟨⟨this.1,this.2.1⟩,⟨this.2.2.1,this.2.2.2⟩,h.2⟩
 have hx':=hin x (qad hx)
 have hy':=hin y (qad hy)
 have hle:=hs i j x y (qaP _) hij (aI hy) hx hy
 rw[←key_lt hx' hy']
 have hne:x≠y:=by
  have hnd:D.Nodup:=hp.nodup_iff.2 (pn hL)
  intro e
  subst e
  have h1:=aI hx
  have h2:=aI hy
  rw[qao h1]at hx
  rw[qao h2]at hy
  exact qcl.1 hnd i j h1 h2 hij ((qai hx).trans (qai hy).symm)
 have:¬keyC x=keyC y:=by
  intro e
  apply hne
  obtain⟨⟨a1,a2⟩,⟨a3,a4⟩,a5⟩:=hx'
  obtain⟨⟨b1,b2⟩,⟨b3,b4⟩,b5⟩:=hy'
  have e':(x.2.1*1000+x.1)*4+((x.2.2:Nat):Int)=(y.2.1*1000+y.1)*4+((y.2.2:Nat):Int):=e
  exact qde (by omega) (qde (by omega) (by omega))
 omega
def SetOk(H:HL)(L:List Sq)(rs:List Lf)(h':HL):Prop:=∃v D,rs=[.v v]/\SetOf L D/\OwnL H.length h' v 3 cc3 D/\Low H.length H h'/\H.length<=h'.length
def set_c{H:HL}{x:Value}{L:List Sq}(hG:LsH H x 3 cc3 (L.map sqC))(h0:0<L.length)(hn:L.length<=1000)(hnd:L.Nodup)(hb:∀c∈L,-100<=c.1/\c.1<=100/\-100<=c.2/\c.2<=100) :
  ∃rs h',aQ cc ab 5 [.v x] (absH aa H) rs (absH aa h')/\SetOk H L rs h':=by
 exact x5 (K:=SetOk H L) (glsV hG.good gls0) (by
  unfold f5;simp only[qxh]
  simp(disch:=omega)only[↓qXX]
  refine bY (σ:=Value×HL) L.length (λj s=>[.v s.1,.i (Int.ofNat j)]) (λ_ s=>s.2) (λj s=>OwnL H.length s.2 s.1 3 cc3 ((L.take j).flatMap quad)/\Low H.length H s.2/\H.length<=s.2.length) (j0:=0) (s0:=(.slice none 0 0,H)) rfl rfl (qaP _) ⟨OwnL.nil _ _ _ _,Low.refl H,qag _⟩ ?_
  rintro j ⟨v,h⟩ hj ⟨ho,hlow,hlen⟩ self hself
  simp only at ho hlow hlen hself
  have hGh:=hG.low hlow
  simp(disch:=omega)only[↓qXX]
  refine dc hGh ?_
  rw[qaG]
  by_cases hlt:j<L.length
  ·rw[cb hlt]
   simp(disch:=omega)only[↓qXX]
   obtain⟨c,hc⟩:=bQ hlt
   refine bY (σ:=Value×HL) 4 (λq s=>[.v s.1,.i (Int.ofNat q)]) (λ_ s=>s.2) (λq s=>OwnL H.length s.2 s.1 3 cc3 ((L.take j).flatMap quad++(quad c).take q)/\Low H.length H s.2/\H.length<=s.2.length) (j0:=0) (s0:=(v,h)) rfl rfl (qaP _) ⟨by simpa using ho,hlow,hlen⟩ ?_
   rintro q ⟨v2,h2⟩ hq ⟨ho2,hlow2,hlen2⟩ self2 hself2
   simp only at ho2 hlow2 hlen2 hself2
   have hG2:=hG.low hlow2
   simp(disch:=omega)only[↓qXX]
   by_cases hq4:q<4
   ·rw[p_lss_t (by show(q:Int)<4;omega)]
    simp(disch:=omega)only[↓qXX]
    refine uQ (o:=0) (k:=1) (a:=sqC c) hG2 rfl (by rw[qaw,hc];rfl) rfl (by omega) ?_
    simp only[sqC,cc3,qaX,qa7,qbC]
    simp(disch:=omega)only[↓qXX]
    refine uQ (o:=1) (k:=1) (a:=sqC c) hG2 rfl (by rw[qaw,hc];rfl) rfl (by omega) ?_
    simp only[sqC,cc3,qbS,qaX,qa7,qbC]
    simp(disch:=omega)only[↓qXX]
    refine ho2.ap1 (a:=(c.1,c.2,q)) cA hlen2 rfl rfl rfl (size3 ?_) λv' h' b1 b2 b3 b4 b5=>?_
    ·have:=eK (L.take j)
     rw[qaF,this,qaM,qaM]
     have:=Nat.min_le_left q (quad c).length
     omega
    simp(disch:=omega)only[↓qXX]
    refine az b2 ?_
    simp(disch:=omega)only[↓qXX]
    rw[p_add8 (by show(0:Int)<=(q:Int)+1;omega) (by show(q:Int)+1<=255;omega)]
    refine hself2 (v',h') hq4 ⟨?_,λi o hi hoo=>b3 i o (hlow2 i o hi hoo) λe=>?_,by show H.length<=h'.length;omega⟩
    ·rw[quad_take hq4,←qaB]
     exact b1
    ·have:=ho2.blk e
     omega
   ·obtain rfl:q=4:=by omega
    rw[p_lss_f (by show(4:Int)<=((4:Nat):Int);omega)]
    simp(disch:=omega)only[↓qXX]
    rw[cp (by omega)]
    refine hself (v2,h2) hlt ⟨?_,hlow2,hlen2⟩
    have e1:(L.take (j+1)).flatMap quad=(L.take j).flatMap quad++quad c:=by
     rw[qbQ,hc,List.flatMap_append]
     simp
    rw[e1]
    exact ho2
  ·obtain rfl:j=L.length:=by omega
   rw[bZ (qag _)]
   simp(disch:=omega)only[↓qXX]
   rw[qbY]at ho
   have hD:=eK L
   refine bY (σ:=HL×List K3) (4*L.length) (λi _=>[.i (Int.ofNat i)]) (λ_ s=>s.1) (λi s=>OwnL H.length s.1 v 3 cc3 s.2/\Low H.length H s.1/\H.length<=s.1.length/\s.2.Perm (L.flatMap quad)/\SS keyC 0 i s.2) (j0:=1) (s0:=(h,L.flatMap quad)) rfl rfl (by omega) ⟨ho,hlow,hlen,List.Perm.refl _,SS.one (by omega)⟩ ?_
   clear ho hlow hlen hself hGh
   rintro i ⟨h,D⟩ hi ⟨ho,hlow,hlen,hp,hs⟩ self hself
   simp only at ho hlow hlen hp hs hself
   have hDl:D.length=4*L.length:=hp.length_eq.trans hD
   simp(disch:=omega)only[↓qXX]
   refine ax ho.lenB ?_
   rw[hDl]
   by_cases hlt:i<4*L.length
   case neg=>
    obtain rfl:i=4*L.length:=by omega
    rw[bZ (qag _)]
    simp(disch:=omega)only[↓qXX]
    exact⟨v,D,rfl,set_of hnd hb hp (by rw[hDl];exact hs),ho,hlow,hlen⟩
   rw[cb hlt]
   simp only[p_cond_t]
   refine ip (λl' h'=>l'=[]/\∃D',OwnL H.length h' v 3 cc3 D'/\Low H.length H h'/\H.length<=h'.length/\D'.Perm (L.flatMap quad)/\SS keyC 0 (i+1) D') ?_ ?_
   ·rintro _ h' ⟨rfl,D',b1,b2,b3,b4,b5⟩
    simp(disch:=omega)only[↓qXX]
    rw[cp (by omega)]
    exact hself (h',D') hlt ⟨b1,b2,b3,b4,b5⟩
   ·intro jn hjn
    refine ge (m:=i) (λm ls h'=>∃k D',ls=[.i (Int.ofNat k)]/\k=m/\k<=i/\OwnL H.length h' v 3 cc3 D'/\Low H.length H h'/\H.length<=h'.length/\D'.Perm (L.flatMap quad)/\InsI keyC 0 i k D') ⟨i,D,rfl,rfl,qag _,ho,hlow,hlen,hp,InsI.start hs⟩ ?_
    clear ho hlow hlen hp hs hDl
    rintro m ls h' ⟨k,D',rfl,rfl,hki,ho,hlow,hlen,hp,hI⟩ self2 hself2
    have hDl:D'.length=4*L.length:=hp.length_eq.trans hD
    have hin:∀a∈D',inC a:=λa ha=>by
     have h:=du.1 (hp.mem_iff.1 ha)
     have:=hb _ h.1
     exact⟨⟨this.1,this.2.1⟩,⟨this.2.2.1,this.2.2.2⟩,h.2⟩
    refine hidL ?_
    simp(disch:=omega)only[↓qXX]
    by_cases hk0:k=0
    ·subst hk0
     rw[p_gtr_f (by show((0:Nat):Int)<=0;omega)]
     simp(disch:=omega)only[↓qXX]
     exact hjn _ _ ⟨rfl,D',ho,hlow,hlen,hp,hI.done ⟨qag _,by omega⟩ (.inl rfl)⟩
    ·rw[p_gtr_t (by show(0:Int)<(k:Int);omega)]
     simp(disch:=omega)only[↓qXX]
     obtain⟨a,ha⟩:=bQ (l:=D') (i:=k) (by omega)
     obtain⟨b,hb'⟩:=bQ (l:=D') (i:=k - 1) (by omega)
     have hia:=hin a (qad ha)
     have hib:=hin b (qad hb')
     refine dj (ho.ls cA) rfl ha ?_
     simp only[cc3]
     simp(disch:=omega)only[↓qXX]
     rw[uO (by omega) (by omega)]
     refine dj (ho.ls cA) rfl hb' ?_
     simp only[cc3]
     simp(disch:=omega)only[↓qXX]
     refine dz (before_c (a:=a) (b:=b) hia hib ⟨rfl,rfl,rfl⟩ ⟨rfl,rfl,rfl⟩) ?_
     simp(disch:=omega)only[↓qXX]
     by_cases hlt2:keyC a<keyC b
     ·rw[decide_eq_true hlt2]
      simp(disch:=omega)only[↓qXX]
      rw[uO (by omega) (by omega)]
      try rw[uO (by omega) (by omega)]
      refine dj (ho.ls cA) rfl hb' ?_
      simp only[cc3]
      simp(disch:=omega)only[↓qXX]
      refine dj (ho.ls cA) rfl ha ?_
      simp only[cc3]
      simp(disch:=omega)only[↓qXX]
      refine ho.set (i:=k) (a:=b) cA rfl (by omega) rfl λh3 c1 c2 c3=>?_
      try simp(disch:=omega)only[↓qXX]
      refine c1.set (i:=k - 1) (a:=a) cA rfl (by rw[qb5];omega) rfl λh4 d1 d2 d3=>?_
      try simp(disch:=omega)only[↓qXX]
      try rw[uO (by omega) (by omega)]
      refine hself2 (k - 1) _ _ (by omega) ⟨k - 1,_,rfl,rfl,by omega,d1,λi' o hi' hoo=>d2 i' o (c2 i' o (hlow i' o hi' hoo) λe=>?_) λe=>?_,by omega,?_,hI.step ⟨by omega,hki⟩ ha hb' hlt2⟩
      ·have:=ho.blk e;omega
      ·have:=ho.blk e;omega
      ·exact(SP.swap (a:=0) (b:=4*L.length) ha hb' (by omega) (by omega)).1.trans hp
     ·rw[decide_eq_false hlt2]
      simp(disch:=omega)only[↓qXX]
      exact hjn _ _ ⟨rfl,D',ho,hlow,hlen,hp,hI.done ⟨qaP _,hki⟩ (.inr ⟨a,b,ha,hb',by omega⟩)⟩)
def cmpI(a b:Int):Int:=if a<b then -1 else if b<a then 1 else 0
def orI:List Int->Int
 | []=>0
 |a :: l=>if a=0 then orI l else a
def encQ(p:Int×Int):List Value:=[.int .i64 p.1,.int .i64 p.2]
def encQ_len(p:Int×Int):(encQ p).length=2:=rfl
def nan_c(a:Int):Cc 66 [.i a] [.b false]:=by
 refine q66 rfl ?_;unfold f66;simp only[qxh]
 simp(disch:=omega)only[↓qXX]
def cmp_c(a b:Int):Cc 57 [.i a,.i b] [.i (cmpI a b)]:=by
 refine q57 rfl ?_;unfold f57;simp only[qxh]
 repeat (first|simp(disch:=omega)only[↓qXX]|refine dz (nan_c a) ?_|refine dz (nan_c b) ?_)
 unfold cmpI
 by_cases h1:a<b
 ·simp(disch:=omega)only[↓qXX]
  simp[h1]
 ·by_cases h2:b<a
  ·simp(disch:=omega)only[↓qXX]
   simp[h1,h2]
  ·simp(disch:=omega)only[↓qXX]
   simp[h1,h2]
def orI_drop{l:List Int}{j:Nat}{a:Int}(ha:l[j]?=some a):orI (l.drop j)=if a=0 then orI (l.drop (j+1))else a:=by
 rw[qbl (aI ha)]
 have h1:l[j]'(aI ha)=a:=by rw[qao (aI ha)]at ha;exact qai ha
 rw[h1]
 rfl
def ord_c{h:HL}{x:Value}{l:List (Int×Int)}(hl:LsH h x 2 encQ l)(hb:l.length<=1000) :
  aQ cc ab 46 [.v x] (absH aa h) [.i (orI (l.map λp=>cmpI p.1 p.2))] (absH aa h):=by
 exact xK x46 (glsV hl.good gls0) (by
  unfold f46;simp only[qxh]
  simp(disch:=omega)only[↓qXX]
  refine dc hl ?_
  refine ja l.length (λj=>orI (l.map λp=>cmpI p.1 p.2)=orI ((l.map λp=>cmpI p.1 p.2).drop j)) (j0:=0) rfl (qaP _) rfl ?_
  intro j hj he self hself
  simp(disch:=omega)only[↓qXX]
  by_cases hlt:j<l.length
  ·rw[cb hlt]
   simp(disch:=omega)only[↓qXX]
   obtain⟨p,hp⟩:=bQ hlt
   refine dj hl rfl hp ?_
   unfold encQ
   repeat (first|simp(disch:=omega)only[↓qXX]|refine dz (cmp_c p.1 p.2) ?_)
   rw[orI_drop (a:=cmpI p.1 p.2) (by rw[qaw,hp];rfl)]at he
   by_cases h0:cmpI p.1 p.2=0
   ·rw[p_neq_f h0]
    simp(disch:=omega)only[↓qXX]
    rw[cp (by omega)]
    rw[if_pos h0]at he
    exact hself hlt he
   ·rw[p_neq_t h0]
    simp(disch:=omega)only[↓qXX]
    rw[if_neg h0]at he
    exact⟨by rw[he],by trivial⟩
  ·obtain rfl:j=l.length:=by omega
   rw[bZ (qag _)]
   simp(disch:=omega)only[↓qXX]
   refine⟨?_,by trivial⟩
   rw[he,qca (by rw[qaG];exact qag _)]
   rfl)
def cell_c{x y q x' y' q':Int}(hq:0<=q/\q<=255)(hq':0<=q'/\q'<=255):Cc 36 [.i x,.i y,.i q,.i x',.i y',.i q'] [.i (orI [cmpI y y',cmpI x x',cmpI q q'])]:=by
 refine q36 rfl ?_;unfold f36;simp only[qxh]
 simp(disch:=omega)only[↓qXX]
 refine aG (h':=[]++[HO.o (.cells [.int .i64 y,.int .i64 y',.int .i64 x,.int .i64 x',.int .i64 q,.int .i64 q'] 2 true)]) (ord_c (l:=[(y,y'),(x,x'),(q,q')]) ?_ (by simp)) ?_
 ·exact newE_ls (h:=[]) (e:=2) (enc:=encQ) (l:=[(y,y'),(x,x'),(q,q')]) encQ_len (by rfl)
 ·simp(disch:=omega)only[↓qXX]
  rfl
def cell_lt{a b:K3}(ha:a.2.2<4)(hb:b.2.2<4)(h:ltC3 a b):Cc 36 [.i a.1,.i a.2.1,.i (Int.ofNat a.2.2),.i b.1,.i b.2.1,.i (Int.ofNat b.2.2)] [.i (-1)]:=by
 have hc:=cell_c (x:=a.1) (y:=a.2.1) (q:=Int.ofNat a.2.2) (x':=b.1) (y':=b.2.1) (q':=Int.ofNat b.2.2) (by show(0:Int)<=((a.2.2:Nat):Int)/\((a.2.2:Nat):Int)<=255;omega) (by show(0:Int)<=((b.2.2:Nat):Int)/\((b.2.2:Nat):Int)<=255;omega)
 have e:orI [cmpI a.2.1 b.2.1,cmpI a.1 b.1,cmpI (Int.ofNat a.2.2) (Int.ofNat b.2.2)] = -1:=by
  have e3:(Int.ofNat a.2.2<Int.ofNat b.2.2)=(a.2.2<b.2.2):=by
   show((a.2.2:Int)<(b.2.2:Int))=_
   simp
  unfold ltC3 at h
  simp only[orI,cmpI,e3]
  rcases h with h|⟨h1,h|⟨h2,h⟩⟩
  ·simp[h]
  ·simp[h1,h]
  ·simp[h1,h2,h]
 rw[e]at hc
 exact hc
abbrev cloW:Value:=.func (.func 44) ⟨[]⟩ ⟨[]⟩
def cchk_c{a:K3}(h:inC a):Cc 45 [.i a.1,.i a.2.1,.i (Int.ofNat a.2.2)] [.i 0]:=by
 obtain⟨⟨a1,a2⟩,⟨a3,a4⟩,a5⟩:=h
 have hq:Int.ofNat a.2.2<=3:=by show((a.2.2:Nat):Int)<=3;omega
 refine q45 rfl ?_;unfold f45;simp only[qxh]
 simp(disch:=omega)only[↓qXX]
def wrong1_c{a:K3}(h:inC a):Cc 44 [.i a.1,.i a.2.1,.i (Int.ofNat a.2.2)] [.b false]:=by
 refine q44 rfl ?_;unfold f44;simp only[qxh]
 simp(disch:=omega)only[↓qXX]
 refine dz (cchk_c h) ?_
 simp(disch:=omega)only[↓qXX]
def indexW_c{h:HL}{x:Value}{l:List K3}(hl:LsH h x 3 cc3 l)(hok:∀c∈l,inC c)(hn:l.length<=100000):aQ cc ab 56 [.v x,.v cloW] (absH aa h) [.i (-1)] (absH aa h):=by
 exact xK x56 (glsV hl.good (glsV rfl gls0)) (by
  unfold f56;simp only[qxh]
  simp(disch:=omega)only[↓qXX]
  refine dc hl ?_
  refine ja l.length (λ_=>True) rfl (qaP _) trivial ?_
  intro j hj _ self hself
  simp(disch:=omega)only[↓qXX]
  by_cases hlt:j<l.length
  ·rw[cb hlt]
   simp(disch:=omega)only[↓qXX]
   obtain⟨c,hc⟩:=bQ hlt
   refine dj hl rfl hc ?_
   unfold cc3
   repeat (first|simp(disch:=omega)only[↓qXX]|refine ji (sK (wrong1_c (hok c (qad hc)) _) rfl [.agg [.i .i64 c.1,.i .i64 c.2.1,.i .u8 (Int.ofNat c.2.2)]] rfl rfl) ?_)
   rw[cp (by omega)]
   exact hself hlt trivial
  ·rw[bZ (by omega)]
   simp(disch:=omega)only[↓qXX]
   exact⟨by trivial,by trivial⟩)
def wrong_c{h:HL}{x:Value}{l:List K3}(hl:LsH h x 3 cc3 l)(hok:∀c∈l,inC c)(hn:l.length<=100000):aQ cc ab 35 [.v x] (absH aa h) [.b false] (absH aa h):=by
 have h1:=indexW_c hl hok hn
 have h3:aQ cc ab 43 [.v x,.v cloW] (absH aa h) [.b false] (absH aa h):=xK x43 (glsV hl.good (glsV rfl gls0)) (by
  unfold f43;simp only[qxh]
  repeat (first|simp(disch:=omega)only[↓qXX]|refine aG h1 ?_)
  exact⟨by trivial,by trivial⟩)
 exact xK x35 (glsV hl.good gls0) (by
  unfold f35;simp only[qxh]
  repeat (first|simp(disch:=omega)only[↓qXX]|refine az rfl ?_|refine aG h3 ?_)
  exact⟨by trivial,by trivial⟩)
def scheck_c{h:HL}{x:Value}{l:List K3}(hl:LsH h x 3 cc3 l)(hok:∀c∈l,inC c)(hn:l.length<=1000)(hs:∀(i j:Nat) a b,i<j->l[i]?=some a->l[j]?=some b->ltC3 a b):aQ cc ab 28 [.v x] (absH aa h) [.i 0] (absH aa h):=by
 exact xK x28 (glsV hl.good gls0) (by
  unfold f28;simp only[qxh]
  simp(disch:=omega)only[↓qXX]
  refine dc hl ?_
  rw[p_gtr_f (by show(l.length:Int)<=1024;omega)]
  repeat (first|simp(disch:=omega)only[↓qXX]|refine aG (wrong_c hl hok (by omega)) ?_)
  refine ge (m:=l.length) (λm ls h'=>h'=h/\∃j:Nat,ls=[.i (Int.ofNat j)]/\1<=j/\m=l.length+1 - j/\j<=l.length+1) ⟨rfl,1,rfl,qag _,by omega,by omega⟩ ?_
  rintro m ls _ ⟨rfl,j,rfl,hj1,rfl,hj2⟩ self hself
  refine hidL ?_
  simp(disch:=omega)only[↓qXX]
  refine dc hl ?_
  by_cases hlt:j<l.length
  ·rw[cb hlt]
   simp(disch:=omega)only[↓qXX]
   obtain⟨a,ha⟩:=bQ (l:=l) (i:=j - 1) (by omega)
   obtain⟨b,hb⟩:=bQ hlt
   rw[uO hj1 (by omega)]
   refine dj hl rfl ha ?_
   unfold cc3
   simp(disch:=omega)only[↓qXX]
   refine dj hl rfl hb ?_
   unfold cc3
   simp(disch:=omega)only[↓qXX]
   refine dz (cell_lt (hok a (qad ha)).2.2 (hok b (qad hb)).2.2 (hs (j - 1) j a b (by omega) ha hb)) ?_
   simp(disch:=omega)only[↓qXX]
   rw[cp (by omega)]
   exact hself _ _ _ (by omega) ⟨rfl,j+1,rfl,by omega,rfl,by omega⟩
  ·rw[bZ (by omega)]
   simp(disch:=omega)only[↓qXX]
   exact⟨by trivial,by trivial⟩)
def fV:aggT cc.P 33=some true:=by kernel_rfl
def eG:gk cc.P 10000 33=some kk3:=by kernel_rfl
def rt{H:HL}{x:Value}{L:List Sq}{D:List K3}(hD:SetOf L D)(hl:LsH H x 3 cc3 D)(hn:D.length<=1000) :
  ∃rs h',aQ cc ab 19 [.v x] (absH aa H) rs (absH aa h')/\∃o ks,rs=[.v (.map (some H.length))]/\h'=H++[o]/\Set3 h' H.length ks/\ks.Nodup/\∀a,a∈ks↔∃c,c∈L/\a=sqC c:=by
 exact x19 (K:=λrs h'=>∃o ks,rs=[.v (.map (some H.length))]/\h'=H++[o]/\Set3 h' H.length ks/\ks.Nodup/\∀a,a∈ks↔∃c,c∈L/\a=sqC c) (glsV hl.good gls0) (by
  unfold f19;simp only[qxh]
  simp(disch:=omega)only[↓qXX]
  refine dc hl ?_
  refine bY (σ:=HO×List K3) D.length (λj _=>[.i (Int.ofNat j)]) (λ_ s=>H++[s.1]) (λj s=>Set3 (H++[s.1]) H.length s.2/\s.2.Nodup/\∀a,a∈s.2↔∃d i,i<j/\D[i]?=some d/\a=sqC (d.1,d.2.1)) (j0:=0) (s0:=(.o (.map [] 0),[])) rfl rfl (qaP _) ⟨⟨[],0,aE,rfl,λe he=>by cases he⟩,qcY,λa=>⟨λh=>(by cases h),λ⟨d,i,hi,_⟩=>(by omega)⟩⟩ ?_
  rintro j ⟨o,ks⟩ hj ⟨hs,hnd,hm⟩ self hself
  simp only at hs hnd hm hself
  simp(disch:=omega)only[↓qXX]
  by_cases hlt:j<D.length
  ·rw[cb hlt]
   simp(disch:=omega)only[↓qXX]
   obtain⟨d,hd⟩:=bQ hlt
   refine dj (hl.pre (h':=H++[o]) ⟨_,rfl⟩) rfl hd ?_
   unfold cc3
   simp(disch:=omega)only[↓qXX]
   refine r_mu3 (kt:=33) fV eG hs (sqC (d.1,d.2.1)) λo' hs'=>?_
   have e1:(H++[o]).set H.length o'=H++[o']:=dI
   rw[e1]at hs' ⊢
   rw[cp (by omega)]
   generalize hke:(if sqC (d.1,d.2.1)∈ks then ks else ks++[sqC (d.1,d.2.1)])=ks' at hs'
   refine hself (o',ks') hlt ⟨hs',?_,λa=>?_⟩
   ·show ks'.Nodup
    rw[←hke]
    split
    ·exact hnd
    next hk=>
     rw[qb6]
     refine⟨hnd,by simp,λa ha b hb=>?_⟩
     simp only[qak]at hb
     subst hb
     exact λe=>hk (e▸ha)
   ·show a∈ks'↔_
    rw[←hke]
    have e2:a∈(if sqC (d.1,d.2.1)∈ks then ks else ks++[sqC (d.1,d.2.1)])↔a∈ks∨a=sqC (d.1,d.2.1):=by
     split
     next hk=>
      exact⟨.inl,λh=>h.elim id λe=>e▸hk⟩
     ·simp
    rw[e2,hm]
    constructor
    ·rintro(⟨d',i,hi,h1,h2⟩|h)
     ·exact⟨d',i,by omega,h1,h2⟩
     ·exact⟨d,j,by omega,hd,h⟩
    ·rintro⟨d',i,hi,h1,h2⟩
     by_cases hij:i=j
     ·subst hij
      rw[hd]at h1
      cases h1
      exact .inr h2
     ·exact .inl ⟨d',i,by omega,h1,h2⟩
  ·obtain rfl:j=D.length:=by omega
   rw[bZ (qag _)]
   simp(disch:=omega)only[↓qXX]
   refine⟨o,ks,by trivial,by trivial,hs,hnd,λa=>(hm a).trans ⟨?_,?_⟩⟩
   ·rintro⟨d,i,_,h1,h2⟩
    exact⟨_,(hD.mem.1 (qad h1)).1,h2⟩
   ·rintro⟨c,hc,h2⟩
    have hq:((c.1,c.2,0):K3)∈D:=hD.mem.2 ⟨hc,by show 0<4;omega⟩
    obtain⟨i,hi⟩:=qaL hq
    exact⟨_,i,aI hi,hi,h2⟩)
def nY{c:Sq}{k:Nat}(hk:k<4)(hc:(-1000<=c.1/\c.1<=1000)/\-1000<=c.2/\c.2<=1000){q:Int}:Cc 16 [.i c.1,.i c.2,.i q,.i (Int.ofNat k)] [.i (bes c k).1,.i (bes c k).2,.i 0]:=by
 have hk':k=0∨k=1∨k=2∨k=3:=by omega
 refine q16 rfl ?_;unfold f16;simp only[qxh]
 rcases hk' with rfl|rfl|rfl|rfl
 ·try simp(disch:=omega)only[↓qXX]
  try refine ax (x:=()) (by kernel_rfl) ?_
  refine ax (x:=[.int .i64 1]) (by kernel_rfl) ?_
  simp(disch:=omega)only[↓qXX]
  try refine ax (x:=()) (by kernel_rfl) ?_
  refine ax (x:=[.int .i64 0]) (by kernel_rfl) ?_
  simp(disch:=omega)only[↓qXX]
  simp[bes]
  try omega
 ·try simp(disch:=omega)only[↓qXX]
  try refine ax (x:=()) (by kernel_rfl) ?_
  refine ax (x:=[.int .i64 0]) (by kernel_rfl) ?_
  simp(disch:=omega)only[↓qXX]
  try refine ax (x:=()) (by kernel_rfl) ?_
  refine ax (x:=[.int .i64 1]) (by kernel_rfl) ?_
  simp(disch:=omega)only[↓qXX]
  simp[bes]
  try omega
 ·try simp(disch:=omega)only[↓qXX]
  try refine ax (x:=()) (by kernel_rfl) ?_
  refine ax (x:=[.int .i64 (-1)]) (by kernel_rfl) ?_
  simp(disch:=omega)only[↓qXX]
  try refine ax (x:=()) (by kernel_rfl) ?_
  refine ax (x:=[.int .i64 0]) (by kernel_rfl) ?_
  simp(disch:=omega)only[↓qXX]
  simp[bes]
  try omega
 ·try simp(disch:=omega)only[↓qXX]
  try refine ax (x:=()) (by kernel_rfl) ?_
  refine ax (x:=[.int .i64 0]) (by kernel_rfl) ?_
  simp(disch:=omega)only[↓qXX]
  try refine ax (x:=()) (by kernel_rfl) ?_
  refine ax (x:=[.int .i64 (-1)]) (by kernel_rfl) ?_
  simp(disch:=omega)only[↓qXX]
  simp[bes]
  try omega
def bes_bd{c:Sq}{k:Nat}(hk:k<4){b:Int}(hc:(-b<=c.1/\c.1<=b)/\-b<=c.2/\c.2<=b):(-(b+1)<=(bes c k).1/\(bes c k).1<=b+1)/\-(b+1)<=(bes c k).2/\(bes c k).2<=b+1:=by
 have hk':k=0∨k=1∨k=2∨k=3:=by omega
 rcases hk' with rfl|rfl|rfl|rfl<;>simp only[bes]<;>omega
def Keys(L:List Sq)(ks:List K3):Prop:=ks.Nodup/\∀a,a∈ks↔∃c,c∈L/\a=sqC c
def Keys.sq{L:List Sq}{ks:List K3}(h:Keys L ks){c:Sq}:sqC c∈ks↔c∈L:=by
 rw[h.2]
 exact⟨λ⟨d,hd,e⟩=>me e▸hd,λhc=>⟨c,hc,rfl⟩⟩
def Keys.len{L:List Sq}{ks:List K3}(h:Keys L ks)(hL:L.Nodup):ks.length=L.length:=by
 have h1:(L.map sqC).Nodup:=by
  exact List.pairwise_map.2 (List.Pairwise.imp (λh e=>h (me e)) hL)
 have h2:=bM (a:=ks) (b:=L.map sqC) h.1 λa ha=>by
  obtain⟨c,hc,rfl⟩:=(h.2 a).1 ha
  exact qcp hc
 have h3:=bM (a:=L.map sqC) (b:=ks) h1 λa ha=>by
  obtain⟨c,hc,rfl⟩:=qaH.1 ha
  exact(h.2 _).2 ⟨c,hc,rfl⟩
 simp only[qaG]at h2 h3
 omega
abbrev cloK(b:Nat):Value:=.func (.func 29) ⟨[]⟩ ⟨[ptrB (b+1),ptrB (b+3),ptrB (b+4)]⟩
structure CS(b:Nat)(L:List Sq)(h:HL)(S:List Sq):Prop where
 al:∃ks,Set3 h b ks/\Keys L ks
 pa:h[b+1]?=some (.o (.cells [.map (some b)] 1 true))
 st:Set3 h (b+2) (S.map sqC)
 ps:h[b+3]?=some (.o (.cells [.map (some (b+2))] 1 true))
 pv:h[b+4]?=some (.o (.cells [cloK b] 1 true))
def CS.put{b:Nat}{L:List Sq}{h:HL}{S S':List Sq}(hc:CS b L h S){o:HO}(hs:Set3 (h.set (b+2) o) (b+2) (S'.map sqC)):CS b L (h.set (b+2) o) S':=by
 obtain⟨ks,h1,h2⟩:=hc.al
 exact⟨⟨ks,h1.keep λo' ho=>aW ho (by omega),h2⟩,aW hc.pa (by omega),hs,aW hc.ps (by omega),aW hc.pv (by omega)⟩
def seen_c{b:Nat}{L:List Sq}(hL:∀c∈L,(-100<=c.1/\c.1<=100)/\-100<=c.2/\c.2<=100):∀n,∀(c:Sq) (h:HL) (S:List Sq),CS b L h S->S.Nodup->(∀x∈S,x∈L)->((-200<=c.1/\c.1<=200)/\-200<=c.2/\c.2<=200)->free L S<=n->
  ∃rs h',aQ cc ab 29 [.i c.1,.i c.2,.i 0,.v (ptrB (b+1)),.v (ptrB (b+3)),.v (ptrB (b+4))] (absH aa h) rs (absH aa h')/\rs=[]/\
   ∃S',CS b L h' S'/\Low b h h'/\h'.length=h.length/\(∀x∈S,x∈S')/\S'.Nodup/\(∀x∈S',x∈L)/\(c∈L->c∈S')/\∀x∈S',x∉S->∀k,k<4->bes x k∈L->bes x k∈S':=by
 intro n
 induction n using Nat.strongRecOn with
 |ind n ih=>
  intro c h S hS hnd hsub hc hf
  refine x29 (K:=λrs h'=>rs=[]/\∃S',CS b L h' S'/\Low b h h'/\h'.length=h.length/\(∀x∈S,x∈S')/\S'.Nodup/\(∀x∈S',x∈L)/\(c∈L->c∈S')/\∀x∈S',x∉S->∀k,k<4->bes x k∈L->bes x k∈S') (glsI (glsI (glsI (glsV (en _) (glsV (en _) (glsV (en _) gls0)))))) ?_
  obtain⟨ks,hall,hkeys⟩:=hS.al
  unfold f29;simp only[qxh]
  simp(disch:=omega)only[↓qXX]
  refine dt (cg hS.pa) rfl ?_
  simp(disch:=omega)only[↓qXX]
  refine az rfl ?_
  simp(disch:=omega)only[↓qXX]
  refine r_lu3 (kt:=33) fV eG hall (sqC c) ?_
  simp(disch:=omega)only[↓qXX]
  by_cases hcL:c∈L
  case neg=>
   rw[decide_eq_false (λe=>hcL (hkeys.sq.1 e))]
   simp(disch:=omega)only[↓qXX,qbI]
   exact⟨trivial,S,hS,Low.refl _,by trivial,λx hx=>hx,hnd,hsub,λe=>absurd e hcL,λx hx hn=>absurd hx hn⟩
  rw[decide_eq_true (hkeys.sq.2 hcL)]
  simp(disch:=omega)only[↓qXX,qaS]
  refine dt (cg hS.ps) rfl ?_
  simp(disch:=omega)only[↓qXX]
  refine az rfl ?_
  simp(disch:=omega)only[↓qXX]
  refine r_lu3 (kt:=33) fV eG hS.st (sqC c) ?_
  simp(disch:=omega)only[↓qXX]
  by_cases hcS:c∈S
  ·rw[decide_eq_true (mf.2 hcS)]
   simp(disch:=omega)only[↓qXX]
   exact⟨trivial,S,hS,Low.refl _,by trivial,λx hx=>hx,hnd,hsub,λ_=>hcS,λx hx hn=>absurd hx hn⟩
  rw[decide_eq_false (λe=>hcS (mf.1 e))]
  simp(disch:=omega)only[↓qXX]
  refine dt (cg hS.ps) rfl ?_
  simp(disch:=omega)only[↓qXX]
  refine az rfl ?_
  simp(disch:=omega)only[↓qXX]
  refine r_mu3 (kt:=33) fV eG hS.st (sqC c) λo ho=>?_
  rw[if_neg (λe=>hcS (mf.1 e))]at ho
  have ho':Set3 (h.set (b+2) o) (b+2) ((S++[c]).map sqC):=by rw[qbu];exact ho
  have hS1:=hS.put ho'
  have hf1:free L (S++[c])<free L S:=lr (λx hx=>qax _ hx) hcL hcS (qaz _ (by simp))
  have hnd1:(S++[c]).Nodup:=by
   rw[qb6]
   refine⟨hnd,by simp,λa ha d hd=>?_⟩
   simp only[qak]at hd
   subst hd
   exact λe=>hcS (e▸ha)
  have hsub1:∀x∈S++[c],x∈L:=λx hx=>by
   rcases qay.1 hx with hx|hx
   ·exact hsub x hx
   ·simp only[qak]at hx
    subst hx;exact hcL
  have hcb:=hL c hcL
  refine bY (σ:=HL×List Sq) 4 (λj _=>[.i (Int.ofNat j)]) (λ_ s=>s.1) (λj s=>CS b L s.1 s.2/\Low b h s.1/\s.1.length=h.length/\(∀x∈S++[c],x∈s.2)/\s.2.Nodup/\(∀x∈s.2,x∈L)/\(∀x∈s.2,x∉S++[c]->∀k,k<4->bes x k∈L->bes x k∈s.2)/\∀k,k<j->bes c k∈L->bes c k∈s.2) (j0:=0) (s0:=(h.set (b+2) o,S++[c])) rfl rfl (qaP _) ⟨hS1,(Low.refl h).set (by omega) _,by simp,λx hx=>hx,hnd1,hsub1,λx hx hn=>absurd hx hn,λk hk=>by omega⟩ ?_
  rintro j ⟨h2,S2⟩ hj ⟨hS2,hlow,hlen,hin,hnd2,hsub2,hcl,hdone⟩ self hself
  simp only at hS2 hlow hlen hin hnd2 hsub2 hcl hdone hself
  simp(disch:=omega)only[↓qXX]
  by_cases hlt:j<4
  ·rw[p_lss_t (by show(j:Int)<4;omega)]
   simp(disch:=omega)only[↓qXX]
   refine dt (cg hS2.pv) rfl ?_
   simp(disch:=omega)only[↓qXX]
   refine az rfl ?_
   simp(disch:=omega)only[↓qXX]
   refine dz (nY (c:=c) hlt ⟨by omega,by omega⟩) ?_
   simp(disch:=omega)only[↓qXX]
   have hbb:=bes_bd hlt hcb
   obtain⟨rs,h3,hcall,rfl,S3,hS3,hlow3,hlen3,hin3,hnd3,hsub3,hc3,hcl3⟩:=ih (free L (S++[c])) (by omega) (bes c j) h2 S2 hS2 hnd2 hsub2 ⟨by omega,by omega⟩ (fL hin)
   refine ji (gY (args:=[.agg ⟨cc3 (sqC (bes c j))⟩]) hcall rfl [.agg [.i .i64 (bes c j).1,.i .i64 (bes c j).2,.i .u8 0],.leaf (.v (ptrB (b+1))),.leaf (.v (ptrB (b+3))),.leaf (.v (ptrB (b+4)))] rfl rfl rfl) ?_
   simp(disch:=omega)only[↓qXX]
   rw[cp (by omega)]
   refine hself (h3,S3) hlt ⟨hS3,hlow.trans hlow3,by show h3.length=h.length;omega,λx hx=>hin3 x (hin x hx),hnd3,hsub3,λx hx hn k hk hb=>?_,λk hk hb=>?_⟩
   ·by_cases hx2:x∈S2
    ·exact hin3 _ (hcl x hx2 hn k hk hb)
    ·exact hcl3 x hx hx2 k hk hb
   ·by_cases hkj:k=j
    ·subst hkj
     exact hc3 hb
    ·exact hin3 _ (hdone k (by omega) hb)
  ·obtain rfl:j=4:=by omega
   rw[p_lss_f (by show(4:Int)<=((4:Nat):Int);omega)]
   simp(disch:=omega)only[↓qXX]
   refine⟨trivial,S2,hS2,hlow,hlen,λx hx=>hin x (qax _ hx),hnd2,hsub2,λ_=>hin c (qaz _ (by simp)),λx hx hn k hk hb=>?_⟩
   by_cases hxc:x=c
   ·subst hxc
    exact hdone k hk hb
   ·exact hcl x hx (λe=>by
     rcases qay.1 e with e|e
     ·exact hn e
     ·exact hxc (by simpa using e)) k hk hb
def check_c{H:HL}{x:Value}{L:List Sq}{D:List K3}(hl:LsH H x 3 cc3 D)(hD:SetOf L D)(h0:0<L.length)(hn:L.length<=200)(hnd:L.Nodup)(hcon:Con L)(hb:∀c∈L,(-100<=c.1/\c.1<=100)/\-100<=c.2/\c.2<=100) :
  ∃h',aQ cc ab 18 [.v x] (absH aa H) [.i 0] (absH aa h')/\Low H.length H h'/\H.length<=h'.length:=by
 have hDl:=hD.len
 have hin:∀a∈D,inC a:=λa ha=>by
  have h:=hD.mem.1 ha
  have:=hb _ h.1
  exact⟨this.1,this.2,h.2⟩
 obtain⟨a0,ha0⟩:=bQ (l:=D) (i:=0) (by omega)
 have hm0:=(hD.mem.1 (qad ha0)).1
 have hb0:=hb _ hm0
 obtain⟨rs,h',e1,rfl,e2⟩:=x18 (ls:=[.v x]) (H:=H) (K:=λrs h'=>rs=[.i 0]/\Low H.length H h'/\H.length<=h'.length) (glsV hl.good gls0) (by
  unfold f18;simp only[qxh]
  repeat (first|simp(disch:=omega)only[↓qXX]|refine aG (scheck_c hl hin (by omega) hD.srt) ?_)
  refine dc hl ?_
  rw[p_eql_f (by show((D.length:Nat):Int)≠0;omega)]
  simp(disch:=omega)only[↓qXX]
  obtain⟨rs,h1,hcall,o,ks,rfl,rfl,hset,hknd,hkm⟩:=rt hD hl (by omega)
  refine aG hcall ?_
  have hkeys:Keys L ks:=⟨hknd,hkm⟩
  simp(disch:=omega)only[↓qXX]
  have g0:(H++[o]).length=H.length+1:=by simp
  refine gO aE rfl ?_
  rw[dI,g0]
  try simp(disch:=omega)only[↓qXX]
  refine dt (cg (h:=H++[o]++[HO.o (.cells [.map (some H.length)] 1 true)]) (b:=H.length+1) (by rw[←g0];exact aE)) rfl ?_
  simp(disch:=omega)only[↓qXX]
  refine az rfl ?_
  simp(disch:=omega)only[↓qXX]
  have hset2:Set3 (H++[o]++[HO.o (.cells [.map (some H.length)] 1 true)]) H.length ks:=hset.keep λ_ ho=>aL ho
  refine r_len3 hset2 ?_
  simp(disch:=omega)only[↓qXX]
  rw[hkeys.len hnd]
  rw[p_mul (by show(-9223372036854775808:Int)<=4*(L.length:Int);omega) (by show 4*(L.length:Int)<=9223372036854775807;omega)]
  refine dc (hl.pre (h':=H++[o]++[HO.o (.cells [.map (some H.length)] 1 true)]) ((Pre.refl H).app _ |>.app _)) ?_
  rw[p_neq_f (by show 4*(L.length:Int)=(D.length:Int);omega)]
  simp(disch:=omega)only[↓qXX]
  have hp1:(H++[o]++[HO.o (.cells [.map (some H.length)] 1 true)])[H.length+1]?=some (.o (.cells [.map (some H.length)] 1 true)):=by rw[←g0];exact aE
  have hP1:Pre H (H++[o]++[HO.o (.cells [.map (some H.length)] 1 true)]):=(Pre.refl H).app _ |>.app _
  have g1:(H++[o]++[HO.o (.cells [.map (some H.length)] 1 true)]).length=H.length+2:=by simp
  generalize H++[o]++[HO.o (.cells [.map (some H.length)] 1 true)]=h1 at *
  have g2:(h1++[HO.o (.map [] 0)]).length=H.length+3:=by simp[g1]
  rw[g1,g2]
  refine gO (vs:=[.map none]) (by rw[←g2];exact aE) rfl ?_
  rw[←g2,dI,g2]
  try simp(disch:=omega)only[↓qXX]
  have g3:(h1++[HO.o (.map [] 0)]++[HO.o (.cells [.map (some (H.length+2))] 1 true)]).length=H.length+4:=by simp[g1]
  have hS0:Set3 (h1++[HO.o (.map [] 0)]++[HO.o (.cells [.map (some (H.length+2))] 1 true)]) (H.length+2) []:=⟨[],0,aL (by rw[←g1];exact aE),rfl,λe he=>by cases he⟩
  have hA:Set3 (h1++[HO.o (.map [] 0)]++[HO.o (.cells [.map (some (H.length+2))] 1 true)]) H.length ks:=hset2.keep λ_ ho=>aL (aL ho)
  have hp1':(h1++[HO.o (.map [] 0)]++[HO.o (.cells [.map (some (H.length+2))] 1 true)])[H.length+1]?=some (.o (.cells [.map (some H.length)] 1 true)):=aL (aL hp1)
  have hp3:(h1++[HO.o (.map [] 0)]++[HO.o (.cells [.map (some (H.length+2))] 1 true)])[H.length+3]?=some (.o (.cells [.map (some (H.length+2))] 1 true)):=by rw[←g2];exact aE
  have hP2:Pre H (h1++[HO.o (.map [] 0)]++[HO.o (.cells [.map (some (H.length+2))] 1 true)]):=(hP1.app _).app _
  generalize h1++[HO.o (.map [] 0)]++[HO.o (.cells [.map (some (H.length+2))] 1 true)]=h2 at *
  clear hset2 hp1 hP1 g1 g2
  rw[g3]
  refine az rfl ?_
  refine gO (vs:=[.nilFunc]) (by rw[←g3];exact aE) rfl ?_
  rw[←g3,dI,g3]
  try simp(disch:=omega)only[↓qXX]
  have hv:(h2++[HO.o (.cells [cloK H.length] 1 true)])[H.length+4]?=some (.o (.cells [cloK H.length] 1 true)):=by rw[←g3];exact aE
  have hCS:CS H.length L (h2++[HO.o (.cells [cloK H.length] 1 true)]) []:=⟨⟨ks,hA.keep λ_ ho=>aL ho,hkeys⟩,aL hp1',hS0.keep λ_ ho=>aL ho,aL hp3,hv⟩
  have hP3:Pre H (h2++[HO.o (.cells [cloK H.length] 1 true)]):=hP2.app _
  refine dt (cg hv) rfl ?_
  simp(disch:=omega)only[↓qXX]
  refine az rfl ?_
  simp(disch:=omega)only[↓qXX]
  refine uQ (o:=0) (k:=1) (a:=a0) (i:=0) (hl.pre hP3) rfl ha0 rfl (by omega) ?_
  simp only[cc3,qaX,qa7,qbC]
  simp(disch:=omega)only[↓qXX]
  refine uQ (o:=1) (k:=1) (a:=a0) (i:=0) (hl.pre hP3) rfl ha0 rfl (by omega) ?_
  simp only[cc3,qbS,qaX,qa7,qbC]
  simp(disch:=omega)only[↓qXX]
  obtain⟨rs,h3,hcall,rfl,S3,hS3,hlow3,hlen3,hin3,hnd3,hsub3,hc3,hcl3⟩:=seen_c (b:=H.length) hb (free L []) (a0.1,a0.2.1) _ [] hCS qcY (λx hx=>by cases hx) ⟨by omega,by omega⟩ (qag _)
  refine ji (gY (args:=[.agg ⟨cc3 (sqC (a0.1,a0.2.1))⟩]) hcall rfl [.agg [.i .i64 a0.1,.i .i64 a0.2.1,.i .u8 0],.leaf (.v (ptrB (H.length+1))),.leaf (.v (ptrB (H.length+3))),.leaf (.v (ptrB (H.length+4)))] rfl rfl rfl) ?_
  simp(disch:=omega)only[↓qXX]
  have hall:=con_all hcon hsub3 ⟨_,hc3 hm0⟩ λx hx k hk hb=>hcl3 x hx (by simp) k hk hb
  have hlenS:S3.length=L.length:=Nat.le_antisymm (bM hnd3 hsub3) (bM hnd hall)
  obtain⟨ks3,hall3,hkeys3⟩:=hS3.al
  refine dt (cg hS3.ps) rfl ?_
  simp(disch:=omega)only[↓qXX]
  refine az rfl ?_
  simp(disch:=omega)only[↓qXX]
  refine r_len3 hS3.st ?_
  simp(disch:=omega)only[↓qXX]
  refine dt (cg hS3.pa) rfl ?_
  simp(disch:=omega)only[↓qXX]
  refine az rfl ?_
  simp(disch:=omega)only[↓qXX]
  refine r_len3 hall3 ?_
  simp(disch:=omega)only[↓qXX]
  rw[qaG,hlenS,hkeys3.len hnd]
  rw[p_neq_f rfl]
  simp(disch:=omega)only[↓qXX]
  refine⟨by trivial,λj o hj ho=>hlow3 j o hj (hP3.get ho),?_⟩
  rw[hlen3]
  exact hP3.len)
 exact⟨h',e1,e2⟩
def encS(z:Nat):List Value:=[.int .u8 (Int.ofNat z)]
def eR(z:Nat):(encS z).length=1:=rfl
def rem4{a:Nat}{K:Int->Prop}:P1.ari .rem .i64 (Int.ofNat a) 4 (@hid _ ⟨K⟩)=K (Int.ofNat (a%4)):=by
 rw[p_rem_nn (show(0:Int)<=Int.ofNat a from qbi a) (by omega)]
 rfl
def size1{n:Nat}(h:n<=1000000):bO n 1=true:=by
 unfold bO
 rw[qbc (by omega),qbc (by omega)];rfl
def waySl(d:Nat):Value:=.slice (some ⟨1000000+d,0,some 1⟩) (wayN d).length 0
def uj{d:Nat}(hd:d<4){K:Unit->Prop}{K2:List Value->Prop}(hK:K ()):P1.opt (inB 4 (Int.ofNat d)) (@hid _ ⟨K⟩):=by
 refine ax (x:=()) ?_ hK
 rw[inB_eq,if_pos ⟨qbi d,by show(d:Int)<((4:Nat):Int);omega⟩]
def rx{d:Nat}(hd:d<4):iq gl0 0 [(Int.ofNat d,1)] 1=some [waySl d]:=by
 have:d=0∨d=1∨d=2∨d=3:=by omega
 rcases this with rfl|rfl|rfl|rfl<;>rfl
def uh(d:Nat):aX (waySl d)=true:=by simp[waySl,aX,noLoc,aY,bV,bp,aV,ay]
def way_slG{d:Nat}(hd:d<4)(g:br):slG cc 1 g (waySl d)=some ((wayN d).flatMap encS,(wayN d).length):=by
 have h0:cc.G 1000000=some gl4:=by kernel_rfl
 have h1:cc.G 1000001=some gl5:=by kernel_rfl
 have h2:cc.G 1000002=some gl6:=by kernel_rfl
 have h3:cc.G 1000003=some gl7:=by kernel_rfl
 have:d=0∨d=1∨d=2∨d=3:=by omega
 rcases this with rfl|rfl|rfl|rfl
 ·show(((cc.G 1000000).bind λvs=>cut vs 0 (1*1)).map λx=>(x,1))=_
  rw[h0];rfl
 ·show(((cc.G 1000001).bind λvs=>cut vs 0 (3*1)).map λx=>(x,3))=_
  rw[h1];rfl
 ·show(((cc.G 1000002).bind λvs=>cut vs 0 (2*1)).map λx=>(x,2))=_
  rw[h2];rfl
 ·show(((cc.G 1000003).bind λvs=>cut vs 0 (3*1)).map λx=>(x,3))=_
  rw[h3];rfl
abbrev cloV(bw b:Nat):Value:=.func (.func 20) ⟨[]⟩ ⟨[ptrB (b+1),ptrB bw,ptrB (b+3),ptrB (b+2),ptrB (b+4)]⟩
structure WS(bw b:Nat)(L:List Sq)(h:HL)(s:TS)(x:Value):Prop where
 lt:bw<b
 mp:∃ks,Set3 h b ks/\ks.Nodup/\∀a,a∈ks↔∃c,c∈L/\c∉s.been/\a=sqC c
 pl:h[b+1]?=some (.o (.cells [.map (some b)] 1 true))
 pw:h[bw]?=some (.o (.cells [x] 1 true))
 ow:OwnL (b+5) h x 1 encS s.steps
 ph:h[b+2]?=some (.o (.cells [.int .i64 (.ofNat s.head)] 1 true))
 pt:h[b+3]?=some (.o (.cells [.int .i64 (.ofNat s.last)] 1 true))
 pv:h[b+4]?=some (.o (.cells [cloV bw b] 1 true))
 ln:b+5<=h.length
section
variable {bw b:Nat} {L:List Sq} {h:HL} {s:TS} {x:Value}
def WS.has(hw:WS bw b L h s x):∃ks,Set3 h b ks/\∀c,sqC c∈ks↔c∈L/\c∉s.been:=by
 obtain⟨ks,h1,_,h2⟩:=hw.mp
 exact⟨ks,h1,λc=>(h2 _).trans ⟨λ⟨d,h3,h4,e⟩=>me e▸⟨h3,h4⟩,λ⟨h3,h4⟩=>⟨c,h3,h4,rfl⟩⟩⟩
def WS.go(hw:WS bw b L h s x){k:Nat}{h':HL}{x':Value}(ho:OwnL (b+5) h' x' 1 encS (s.steps++wayN ((k+4 - s.head)%4)))(hk:∀(j:Nat) o,h[j]?=some o->blk x≠some j->h'[j]?=some o)(hl:h.length<=h'.length) :
  WS bw b L ((h'.set bw (.o (.cells [x'] 1 true))).set (b+2) (.o (.cells [.int .i64 (.ofNat k)] 1 true))) (goT s k) x':=by
 have hlt:=hw.lt
 have hln:=hw.ln
 have old:∀(j:Nat) o,j<b+5->h[j]?=some o->h'[j]?=some o:=λj o hj ho'=>hk j o ho' λe=>by
  have:=(hw.ow.blk e).1
  omega
 obtain⟨ks,m1,m2,m3⟩:=hw.mp
 refine⟨hlt,⟨ks,(m1.keep λo ho'=>aW (aW (old _ _ (by omega) ho') (by omega)) (by omega)),m2,m3⟩,aW (aW (old _ _ (by omega) hw.pl) (by omega)) (by omega),aW (lu (old _ _ (by omega) hw.pw)) (by omega),?_,lu (aW (old _ _ (by omega) hw.ph) (by omega)),aW (aW (old _ _ (by omega) hw.pt) (by omega)) (by omega),aW (aW (old _ _ (by omega) hw.pv) (by omega)) (by omega),by simp;omega⟩
 refine ho.keep λj o hj hb=>?_
 have:=(ho.blk hb).1
 exact aW (aW hj (by omega)) (by omega)
def WS.go_low(hw:WS bw b L h s x){h':HL}{o1 o2:HO}(hk:∀(j:Nat) o,h[j]?=some o->blk x≠some j->h'[j]?=some o):Low bw h ((h'.set bw o1).set (b+2) o2):=by
 have hlt:=hw.lt
 intro j o hj ho
 refine aW (aW (hk j o ho λe=>?_) (by omega)) (by omega)
 have:=(hw.ow.blk e).1
 omega
def WS.vis(hw:WS bw b L h s x){c:Sq}{ks:List K3}(hks:ks.Nodup/\∀a,a∈ks↔∃c,c∈L/\c∉s.been/\a=sqC c){h':HL}(h1:h'=h∨∃o,h'=h.set b o)(h2:Set3 h' b (ks.erase (sqC c))) :
  WS bw b L (h'.set (b+3) (.o (.cells [.int .i64 (.ofNat s.steps.length)] 1 true))) (inT s c) x/\Low bw h (h'.set (b+3) (.o (.cells [.int .i64 (.ofNat s.steps.length)] 1 true))):=by
 have hlt:=hw.lt
 have hln:=hw.ln
 have old:∀(j:Nat) o,j≠b->h[j]?=some o->h'[j]?=some o:=λj o hj ho=>by
  rcases h1 with rfl|⟨o',rfl⟩
  ·exact ho
  ·exact aW ho (by omega)
 have hlen:h'.length=h.length:=by
  rcases h1 with rfl|⟨o',rfl⟩
  ·rfl
  ·simp
 refine⟨⟨hlt,⟨ks.erase (sqC c),h2.keep λo ho'=>aW ho' (by omega),hks.1.erase _,λa=>?_⟩,aW (old _ _ (by omega) hw.pl) (by omega),aW (old _ _ (by omega) hw.pw) (by omega),?_,aW (old _ _ (by omega) hw.ph) (by omega),lu (old _ _ (by omega) hw.pt),aW (old _ _ (by omega) hw.pv) (by omega),by simp;omega⟩,λj o hj ho=>aW (old j o (by omega) ho) (by omega)⟩
 ·rw[hks.1.mem_erase_iff,hks.2]
  constructor
  ·rintro⟨hne,d,hd,hn,rfl⟩
   refine⟨d,hd,λhm=>?_,rfl⟩
   rcases qay.1 hm with hm|hm
   ·exact hn hm
   ·simp only[qak]at hm
    exact hne (hm▸rfl)
  ·rintro⟨d,hd,hn,rfl⟩
   refine⟨λe=>hn (qaz _ ?_),d,hd,λhm=>hn (qax _ hm),rfl⟩
   rw[me e]
   exact List.mem_singleton_self _
 ·refine hw.ow.keep λj o hj hb=>?_
  have:=(hw.ow.blk hb).1
  exact aW (old j o (by omega) hj) (by omega)
end
def sub4{a b:Nat}(hb:b<4)(ha:a<=100):Int.ofNat a - Int.ofNat b+4=Int.ofNat (a+4 - b):=by
 show((a:Nat):Int) - ((b:Nat):Int)+4=((a+4 - b:Nat):Int)
 omega
def walk1_c{bw b:Nat}{L:List Sq}(hL:∀c∈L,(-100<=c.1/\c.1<=100)/\-100<=c.2/\c.2<=100)(hLn:L.length<=1000):∀n,∀(c:Sq) (h:HL) (s:TS) (x:Value),WS bw b L h s x->Ev L s s->s.steps.length<=6*s.been.length->c∈L->c∉s.been->free L s.been<=n->
  ∃rs h',aQ cc ab 20 [.i c.1,.i c.2,.i 0,.v (ptrB (b+1)),.v (ptrB bw),.v (ptrB (b+3)),.v (ptrB (b+2)),.v (ptrB (b+4))] (absH aa h) rs (absH aa h')/\rs=[]/\
   ∃x',WS bw b L h' (visT L n c s) x'/\Low bw h h':=by
 intro n
 induction n with
 |zero=>
  intro c h s x _ _ _ hc hn hf
  have:=lr (L:=L) (b:=s.been) (b':=s.been++[c]) (λx hx=>qax _ hx) hc hn (qaz _ (by simp))
  omega
 |succ n ih=>
  intro c h s x hw hev hbd hc hn hf
  refine x20 (K:=λrs h'=>rs=[]/\∃x',WS bw b L h' (visT L (n+1) c s) x'/\Low bw h h') (glsI (glsI (glsI (glsV (en _) (glsV (en _) (glsV (en _) (glsV (en _) (glsV (en _) gls0)))))))) ?_
  have hlt:=hw.lt
  have hsm:=hev.small
  have hcb:=hL c hc
  obtain⟨ks,hset,hks⟩:=hw.mp
  unfold f20;simp only[qxh]
  simp(disch:=omega)only[↓qXX]
  refine dt (cg hw.pl) rfl ?_
  simp(disch:=omega)only[↓qXX]
  refine az rfl ?_
  simp(disch:=omega)only[↓qXX]
  refine r_de3 (kt:=33) fV eG hset (sqC c) λh1 e1 hs1=>?_
  obtain⟨hw1,hlow1⟩:=hw.vis hks e1 hs1
  have hpw1:h1[bw]?=some (.o (.cells [x] 1 true)):=by
   rcases e1 with rfl|⟨o',rfl⟩
   ·exact hw.pw
   ·exact aW hw.pw (by omega)
  have hpt1:h1[b+3]?=some (.o (.cells [.int .i64 (.ofNat s.last)] 1 true)):=by
   rcases e1 with rfl|⟨o',rfl⟩
   ·exact hw.pt
   ·exact aW hw.pt (by omega)
  refine dt (cg hpw1) rfl ?_
  simp(disch:=omega)only[↓qXX]
  refine az (hw.ow.good eR) ?_
  simp(disch:=omega)only[↓qXX]
  refine ax hw.ow.lenB ?_
  refine gO hpt1 rfl ?_
  try simp(disch:=omega)only[↓qXX]
  generalize h1.set (b+3) (.o (.cells [.int .i64 (.ofNat s.steps.length)] 1 true))=h2 at *
  clear hset hks hpw1 hpt1 hs1 e1
  have hev1:=in_ev hev hc hn
  have hfr1:=rU (L:=L) (s:=s) hc hn
  have hbd1:(inT s c).steps.length+6<=6*(inT s c).been.length:=by
   show s.steps.length+6<=6*(s.been++[c]).length
   simp;omega
  refine bY (σ:=HL×Value) 4 (λj _=>[.i (Int.ofNat j)]) (λ_ s=>s.1) (λj t=>WS bw b L t.1 (rnds (visT L n) L c (inT s c) j) t.2/\Low bw h t.1) (j0:=0) (s0:=(h2,x)) rfl rfl (qaP _) ⟨hw1,hlow1⟩ ?_
  rintro j ⟨h3,x3⟩ hj ⟨hw3,hlow3⟩ self hself
  simp only at hw3 hlow3 hself
  have hev3:=lW (gz L n) (c:=c) hev1 (by omega) j hj
  have hbd3:(rnds (visT L n) L c (inT s c) j).steps.length+6<=6*(rnds (visT L n) L c (inT s c) j).been.length:=by
   have:=hev3.le
   omega
  simp(disch:=omega)only[↓qXX]
  by_cases hj4:j<4
  case neg=>
   obtain rfl:j=4:=by omega
   rw[p_lss_f (by show(4:Int)<=((4:Nat):Int);omega)]
   simp(disch:=omega)only[↓qXX]
   exact⟨trivial,x3,hw3,hlow3⟩
  rw[p_lss_t (by show(j:Int)<4;omega)]
  have hstep:∀(h':HL) (x':Value),WS bw b L h' (rndT (visT L n) L c (rnds (visT L n) L c (inT s c) j) j) x'->Low bw h h'->self [.i (Int.ofNat j+1)] h':=λh' x' a1 a2=>hself (h',x') hj4 ⟨a1,a2⟩
  have hfj:free L (rnds (visT L n) L c (inT s c) j).been<=n:=qbp (fL λy hy=>hev3.mem hy) (by omega)
  generalize rnds (visT L n) L c (inT s c) j=t at *
  clear hself hw1 hlow1 hev1 hbd1
  simp only[p_cond_t]
  refine ip (λl' h'=>l'=[]/\∃x',WS bw b L h' (rndT (visT L n) L c t j) x'/\Low bw h h') ?_ ?_
  ·rintro _ h' ⟨rfl,x',a1,a2⟩
   simp(disch:=omega)only[↓qXX]
   rw[cp (by omega)]
   exact hstep h' x' a1 a2
  intro jn hjn
  simp(disch:=omega)only[↓qXX]
  refine dz (nY (c:=c) hj4 ⟨by omega,by omega⟩) ?_
  simp(disch:=omega)only[↓qXX]
  obtain⟨ks,hset,hks⟩:=hw3.has
  refine dt (cg hw3.pl) rfl ?_
  simp(disch:=omega)only[↓qXX]
  refine az rfl ?_
  simp(disch:=omega)only[↓qXX]
  refine r_lu3 (kt:=33) fV eG hset (sqC (bes c j)) ?_
  simp(disch:=omega)only[↓qXX]
  by_cases hnew:bes c j∈L/\bes c j∉t.been
  case neg=>
   rw[decide_eq_false (λe=>hnew ((hks _).1 e))]
   simp(disch:=omega)only[↓qXX,qbI]
   exact hjn _ _ ⟨rfl,x3,by unfold rndT;rw[if_neg hnew];exact hw3,hlow3⟩
  rw[decide_eq_true ((hks _).2 hnew)]
  simp(disch:=omega)only[↓qXX,qaS]
  unfold rndT at hjn
  rw[if_pos hnew]at hjn
  have hev4:=hev3.self
  have hsm4:=hev4.small
  have hhd:=hev4.hd
  refine dt (cg hw3.pw) rfl ?_
  simp(disch:=omega)only[↓qXX]
  refine az (hw3.ow.good eR) ?_
  simp(disch:=omega)only[↓qXX]
  refine dt (cg hw3.ph) rfl ?_
  simp(disch:=omega)only[↓qXX]
  rw[p_sub (by show(-9223372036854775808:Int)<=((j:Nat):Int) - ((t.head:Nat):Int);omega) (by show((j:Nat):Int) - ((t.head:Nat):Int)<=9223372036854775807;omega),p_add (by show(-9223372036854775808:Int)<=((j:Nat):Int) - ((t.head:Nat):Int)+4;omega) (by show((j:Nat):Int) - ((t.head:Nat):Int)+4<=9223372036854775807;omega),sub4 hhd (by omega),rem4]
  have hd4:(j+4 - t.head)%4<4:=qbj _ (by omega)
  refine uj (K2:=λ_=>True) hd4 ?_
  refine ax (rx hd4) ?_
  simp(disch:=omega)only[↓qXX]
  refine az (uh _) ?_
  simp(disch:=omega)only[↓qXX]
  have hw4len:=(ui ((j+4 - t.head)%4)).2.2.1
  refine hw3.ow.ap (k:=(wayN ((j+4 - t.head)%4)).length) (new:=wayN ((j+4 - t.head)%4)) eR hw3.ln (way_slG hd4 _) rfl (size1 (by omega)) λx4 h4 b1 b2 b3 b4 b5=>?_
  simp(disch:=omega)only[↓qXX]
  refine az b2 ?_
  simp(disch:=omega)only[↓qXX]
  have hw5:=hw3.go (k:=j) b1 b3 b4
  have hlow5:=hlow3.trans (hw3.go_low (o1:=.o (.cells [x4] 1 true)) (o2:=.o (.cells [.int .i64 (.ofNat j)] 1 true)) b3)
  have old4:∀(i:Nat) o,i<b+5->h3[i]?=some o->h4[i]?=some o:=λi o hi ho=>b3 i o ho λe=>by
   have:=(hw3.ow.blk e).1
   omega
  refine gO (old4 _ _ (by omega) hw3.pw) rfl ?_
  try simp(disch:=omega)only[↓qXX]
  refine gO (aW (old4 _ _ (by omega) hw3.ph) (by omega)) rfl ?_
  try simp(disch:=omega)only[↓qXX]
  generalize (h4.set bw (.o (.cells [x4] 1 true))).set (b+2) (.o (.cells [.int .i64 (.ofNat j)] 1 true))=h5 at *
  clear old4 b1 b2 b3 b4 b5 hset hks
  refine dt (cg hw5.pv) rfl ?_
  simp(disch:=omega)only[↓qXX]
  refine az rfl ?_
  simp(disch:=omega)only[↓qXX]
  obtain⟨g1,g2,g3,g4,g5,g6⟩:=go_ev hev4 hj4
  have hev5:Ev L (goT t j) (goT t j):=⟨⟨[],by simp⟩,hev4.nd,hev4.sub,g6,g3,g4,g5,qag _⟩
  have hbd5:(goT t j).steps.length<=6*(goT t j).been.length:=by
   rw[g1]
   omega
  have hev6:=(gz L n (bes c j) (goT t j) hev5 hnew.1 hnew.2 hfj).1
  have hbd6:(visT L n (bes c j) (goT t j)).steps.length<=6*(visT L n (bes c j) (goT t j)).been.length:=by
   have:=hev6.le
   omega
  have key:=ih (bes c j) h5 (goT t j) x4 hw5 hev5 hbd5 hnew.1 hnew.2 hfj
  obtain⟨rs,h6,hcall,rfl,x6,hw6,hlow6⟩:=key
  refine ji (gY (args:=[.agg ⟨cc3 (sqC (bes c j))⟩]) hcall rfl [.agg [.i .i64 (bes c j).1,.i .i64 (bes c j).2,.i .u8 0],.leaf (.v (ptrB (b+1))),.leaf (.v (ptrB bw)),.leaf (.v (ptrB (b+3))),.leaf (.v (ptrB (b+2))),.leaf (.v (ptrB (b+4)))] rfl rfl rfl) ?_
  simp(disch:=omega)only[↓qXX]
  have hsm6:=hev6.small
  have hhd6:=hev6.hd
  generalize visT L n (bes c j) (goT t j)=u at *
  have hlow6':=hlow5.trans hlow6
  clear hw5 hev5 ih
  have e2:Int.ofNat j+2=Int.ofNat (j+2):=rfl
  rw[p_add (by show(-9223372036854775808:Int)<=((j:Nat):Int)+2;omega) (by show((j:Nat):Int)+2<=9223372036854775807;omega),e2,rem4]
  have hk4:(j+2)%4<4:=qbj _ (by omega)
  generalize (j+2)%4=k at *
  refine dt (cg hw6.pw) rfl ?_
  simp(disch:=omega)only[↓qXX]
  refine az (hw6.ow.good eR) ?_
  simp(disch:=omega)only[↓qXX]
  refine dt (cg hw6.ph) rfl ?_
  simp(disch:=omega)only[↓qXX]
  rw[p_sub (by show(-9223372036854775808:Int)<=((k:Nat):Int) - ((u.head:Nat):Int);omega) (by show((k:Nat):Int) - ((u.head:Nat):Int)<=9223372036854775807;omega),p_add (by show(-9223372036854775808:Int)<=((k:Nat):Int) - ((u.head:Nat):Int)+4;omega) (by show((k:Nat):Int) - ((u.head:Nat):Int)+4<=9223372036854775807;omega),sub4 hhd6 (by omega),rem4]
  have hd4':(k+4 - u.head)%4<4:=qbj _ (by omega)
  refine uj (K2:=λ_=>True) hd4' ?_
  refine ax (rx hd4') ?_
  simp(disch:=omega)only[↓qXX]
  refine az (uh _) ?_
  simp(disch:=omega)only[↓qXX]
  have hw4len':=(ui ((k+4 - u.head)%4)).2.2.1
  refine hw6.ow.ap (k:=(wayN ((k+4 - u.head)%4)).length) (new:=wayN ((k+4 - u.head)%4)) eR hw6.ln (way_slG hd4' _) rfl (size1 (by omega)) λx7 h7 b1 b2 b3 b4 b5=>?_
  simp(disch:=omega)only[↓qXX]
  refine az b2 ?_
  simp(disch:=omega)only[↓qXX]
  have hw8:=hw6.go (k:=k) b1 b3 b4
  have hlow8:=hlow6'.trans (hw6.go_low (o1:=.o (.cells [x7] 1 true)) (o2:=.o (.cells [.int .i64 (.ofNat k)] 1 true)) b3)
  have old7:∀(i:Nat) o,i<b+5->h6[i]?=some o->h7[i]?=some o:=λi o hi ho=>b3 i o ho λe=>by
   have:=(hw6.ow.blk e).1
   omega
  refine gO (old7 _ _ (by omega) hw6.pw) rfl ?_
  try simp(disch:=omega)only[↓qXX]
  refine gO (aW (old7 _ _ (by omega) hw6.ph) (by omega)) rfl ?_
  try simp(disch:=omega)only[↓qXX]
  exact hjn _ _ ⟨rfl,x7,hw8,hlow8⟩
end Go.Am
set_option maxRecDepth 100000
namespace Go.Am
namespace Tw
open Sx
def qd(c:Sq)(a:K3):Prop:=(a.1,a.2.1)=c/\a.2.2<4
def qc(p:Sq)(head q:Nat):K3:=(p.1,p.2,(head+q+1)%4)
def bg:Nat->List Nat
 |0=>[0,1,2,3]
 |1=>[1,2]
 |_=>[2,3]
def hdN:Nat->Nat
 |0=>0
 |1=>1
 |_=>3
def Cv(p:Sq)(head t:Nat)(cov:K3->Prop):K3->Prop:=λa=>cov a∨∃q,q∈bg t/\a=qc p head q
def AllC(L:List Sq)(cov:K3->Prop):Prop:=∀a:K3,(a.1,a.2.1)∈L->a.2.2<4->cov a
def LP(L:List Sq):Nat->Sq->Nat->(K3->Prop)->Prop
 |0,p,head,cov=>∃t,t<3/\AllC L (Cv p head t cov)
 |m+1,p,head,cov=>∃t,t<3/\(AllC L (Cv p head t cov)∨(bes p ((head+hdN t)%4)∈L/\LP L m (bes p ((head+hdN t)%4)) ((head+hdN t)%4) (Cv p head t cov))∨LP L m p (((head+hdN t)%4+2)%4) (Cv p head t cov))
def cv0{p:Sq}{head:Nat}{cov:K3->Prop}:Cv p head 0 cov=λa=>cov a∨qd p a:=by
 funext a
 apply propext
 obtain⟨x,y,r⟩:=a
 obtain⟨u,v⟩:=p
 unfold Cv qd qc bg
 simp only[qbJ]
 constructor
 ·rintro(h|⟨q,_,rfl,rfl,rfl⟩)
  ·exact .inl h
  ·exact .inr ⟨⟨rfl,rfl⟩,qbj _ (by omega)⟩
 ·rintro(h|⟨⟨rfl,rfl⟩,hr⟩)
  ·exact .inl h
  ·refine .inr ⟨(r+7 - head%4)%4,?_,rfl,rfl,by omega⟩
   have:(r+7 - head%4)%4<4:=qbj _ (by omega)
   simp;omega
def cv_t{p:Sq}{head t:Nat}{cov:K3->Prop}:Cv p head t (λa=>cov a∨qd p a)=λa=>cov a∨qd p a:=by
 funext a
 apply propext
 constructor
 ·rintro(h|⟨q,_,rfl⟩)
  ·exact h
  ·exact .inr ⟨rfl,qbj _ (by omega)⟩
 ·exact λh=>.inl h
def nmv(l:List Nat):Nat:=(l.filter λa=>decide (a<3)).length
def nmv_app(a b:List Nat):nmv (a++b)=nmv a+nmv b:=by simp[nmv]
def way_lp{L:List Sq}{p:Sq}{k head m:Nat}{cov:K3->Prop}(hk:k<4)(hh:head<4)(hn:bes p k∈L)(h:LP L m (bes p k) k λa=>cov a∨qd p a):LP L (m+nmv (wayN ((k+4 - head)%4))) p head cov:=by
 have hd:(k+4 - head)%4=0∨(k+4 - head)%4=1∨(k+4 - head)%4=2∨(k+4 - head)%4=3:=by omega
 rcases hd with e|e|e|e<;>rw[e]
 ·have e1:(head+hdN 0)%4=k:=by simp only[hdN];omega
  refine⟨0,by omega,.inr (.inl ?_)⟩
  rw[e1,cv0]
  exact⟨hn,h⟩
 ·have e1:((head+hdN 0)%4+2)%4=(k+1)%4:=by simp only[hdN];omega
  have e2:((k+1)%4+hdN 2)%4=k:=by simp only[hdN];omega
  refine⟨0,by omega,.inr (.inr ?_)⟩
  rw[e1,cv0]
  refine⟨2,by omega,.inr (.inl ?_)⟩
  rw[e2,cv_t]
  exact⟨hn,h⟩
 ·have e1:((head+hdN 0)%4+2)%4=k:=by simp only[hdN];omega
  have e2:(k+hdN 0)%4=k:=by simp only[hdN];omega
  refine⟨0,by omega,.inr (.inr ?_)⟩
  rw[e1,cv0]
  refine⟨0,by omega,.inr (.inl ?_)⟩
  rw[e2,cv_t]
  exact⟨hn,h⟩
 ·have e1:((head+hdN 0)%4+2)%4=(k+3)%4:=by simp only[hdN];omega
  have e2:((k+3)%4+hdN 1)%4=k:=by simp only[hdN];omega
  refine⟨0,by omega,.inr (.inr ?_)⟩
  rw[e1,cv0]
  refine⟨1,by omega,.inr (.inl ?_)⟩
  rw[e2,cv_t]
  exact⟨hn,h⟩
def Fol(L:List Sq)(c0:Sq)(ws:List Nat)(p:Sq)(hd:Nat)(cov:K3->Prop):Prop:=∀m,LP L m p hd cov->LP L (m+nmv ws) c0 0 λ_=>False
def Good(L:List Sq)(c0:Sq)(s:TS)(p:Sq):Prop:=∃cov,Fol L c0 s.steps p s.head cov/\∀b∈s.been,b≠p->∀a,qd b a->cov a
def GLast(L:List Sq)(c0:Sq)(s:TS):Prop:=∃p hd cov,Fol L c0 (s.steps.take s.last) p hd cov/\∀b∈s.been,b≠p->∀a,qd b a->cov a
def good_go{L:List Sq}{c0 p:Sq}{s:TS}{k:Nat}(hk:k<4)(hh:s.head<4)(hn:bes p k∈L)(h:Good L c0 s p):Good L c0 (goT s k) (bes p k):=by
 obtain⟨cov,h1,h2⟩:=h
 refine⟨λa=>cov a∨qd p a,λm hm=>?_,λb hb hne a ha=>?_⟩
 ·have:=h1 _ (way_lp hk hh hn hm)
  show LP L (m+nmv (s.steps++wayN ((k+4 - s.head)%4))) c0 0 _
  rw[nmv_app,show m+(nmv s.steps+nmv (wayN ((k+4 - s.head)%4)))=m+nmv (wayN ((k+4 - s.head)%4))+nmv s.steps by omega]
  exact this
 ·by_cases hp:b=p
  ·exact .inr (hp▸ha)
  ·exact .inl (h2 b hb hp a ha)
def last_go{L:List Sq}{c0:Sq}{s:TS}{k:Nat}(hl:s.last<=s.steps.length)(h:GLast L c0 s):GLast L c0 (goT s k):=by
 obtain⟨p,hd,cov,h1,h2⟩:=h
 refine⟨p,hd,cov,?_,h2⟩
 show Fol L c0 ((s.steps++wayN _).take s.last) p hd cov
 rw[qb9 hl]
 exact h1
def VGood(L:List Sq)(c0:Sq)(n:Nat)(v:Sq->TS->TS):Prop:=∀d t,Ev L t t->d∈L->d∉t.been->free L t.been<=n->Good L c0 t d->
 Good L c0 (v d t) d/\GLast L c0 (v d t)/\d∈(v d t).been/\∀x∈(v d t).been,x∉t.been->∀k,k<4->bes x k∈L->bes x k∈(v d t).been
def ug(L:List Sq)(c0:Sq):∀n,VGood L c0 n (visT L n)
 |0=>λd t _ hd hn hf _=>by
  have:=lr (L:=L) (b:=t.been) (b':=t.been++[d]) (λx hx=>qax _ hx) hd hn (qaz _ (by simp))
  omega
 |n+1=>λd t ht hd hn hf hg=>by
  have h1:=in_ev ht hd hn
  have h2:=rU (s:=t) hd hn
  have key:∀j,j<=4->Good L c0 (rnds (visT L n) L d (inT t d) j) d/\GLast L c0 (rnds (visT L n) L d (inT t d) j)/\(∀x∈(rnds (visT L n) L d (inT t d) j).been,x∉(inT t d).been->∀k,k<4->bes x k∈L->bes x k∈(rnds (visT L n) L d (inT t d) j).been)/\∀k,k<j->bes d k∈L->bes d k∈(rnds (visT L n) L d (inT t d) j).been:=by
   intro j
   induction j with
   |zero=>
    intro _
    obtain⟨cov,g1,g2⟩:=hg
    have hb:∀b∈(inT t d).been,b≠d->∀a,qd b a->cov a:=λb hb hne a ha=>by
     rcases qay.1 hb with hb|hb
     ·exact g2 b hb hne a ha
     ·exact absurd (by simpa using hb) hne
    refine⟨⟨cov,g1,hb⟩,⟨d,t.head,cov,?_,hb⟩,λx hx hn=>absurd hx hn,λk hk=>by omega⟩
    show Fol L c0 (t.steps.take t.steps.length) d t.head cov
    rw[qbY]
    exact g1
   |succ j ih=>
    intro hj
    obtain⟨i1,i2,i3,i4⟩:=ih (by omega)
    have e1:=lW (gz L n) (c:=d) h1 (by omega) j (by omega)
    show Good L c0 (rndT (visT L n) L d (rnds (visT L n) L d (inT t d) j) j) d/\GLast L c0 (rndT (visT L n) L d (rnds (visT L n) L d (inT t d) j) j)/\(∀x∈(rndT (visT L n) L d (rnds (visT L n) L d (inT t d) j) j).been,x∉(inT t d).been->∀k,k<4->bes x k∈L->bes x k∈(rndT (visT L n) L d (rnds (visT L n) L d (inT t d) j) j).been)/\∀k,k<j+1->bes d k∈L->bes d k∈(rndT (visT L n) L d (rnds (visT L n) L d (inT t d) j) j).been
    have hf:free L (rnds (visT L n) L d (inT t d) j).been<=n:=qbp (fL λy hy=>e1.mem hy) (by omega)
    generalize rnds (visT L n) L d (inT t d) j=u at *
    unfold rndT
    split
    next hc=>
     have e2:=e1.self
     have hj4:j<4:=by omega
     obtain⟨g1,g2,g3,g4,g5,g6⟩:=go_ev e2 hj4
     have hev:Ev L (goT u j) (goT u j):=⟨⟨[],by simp⟩,e2.nd,e2.sub,g6,g3,g4,g5,qag _⟩
     have hv:=gz L n (bes d j) (goT u j) hev hc.1 hc.2 hf
     obtain⟨v1,v2,v3,v4⟩:=ug L c0 n (bes d j) (goT u j) hev hc.1 hc.2 hf (good_go hj4 e2.hd hc.1 i1)
     have hb:=sI d hj4
     have hsub:∀x∈u.been,x∈(visT L n (bes d j) (goT u j)).been:=λx hx=>hv.1.mem hx
     refine⟨?_,last_go hv.1.la v2,λx hx hnx k hk hbk=>?_,λk hk hbk=>?_⟩
     ·have:=good_go (k:=(j+2)%4) (qbj _ (by omega)) hv.1.hd (by rw[hb];exact hd) v1
      rw[hb]at this
      exact this
     ·by_cases hxu:x∈u.been
      ·exact hsub _ (i3 x hxu hnx k hk hbk)
      ·exact v4 x hx hxu k hk hbk
     ·by_cases hkj:k=j
      ·subst hkj
       exact v3
      ·exact hsub _ (i4 k (by omega) hbk)
    next hc=>
     refine⟨i1,i2,i3,λk hk hbk=>?_⟩
     by_cases hkj:k=j
     ·subst hkj
      exact Decidable.byContradiction λh=>hc ⟨hbk,h⟩
     ·exact i4 k (by omega) hbk
  obtain⟨k1,k2,k3,k4⟩:=key 4 (by omega)
  have e3:=lW (gz L n) (c:=d) h1 (by omega) 4 (by omega)
  refine⟨k1,k2,e3.mem (qaz _ (by simp)),λx hx hnx k hk hbk=>?_⟩
  show bes x k∈(rnds (visT L n) L d (inT t d) 4).been
  by_cases hxd:x=d
  ·subst hxd
   exact k4 k hk hbk
  ·refine k3 x hx (λe=>?_) k hk hbk
   rcases qay.1 e with e|e
   ·exact hnx e
   ·exact hxd (by simpa using e)
def ev0{L:List Sq}:Ev L ⟨[],[],0,0⟩ ⟨[],[],0,0⟩:=⟨⟨[],rfl⟩,qcY,λx hx=>(by cases hx),(by show 0<4;omega),λa ha=>(by cases ha),λi a b h=>(by simp at h),qag _,qag _⟩
def topT(L:List Sq)(c:Sq):TS:=visT L (free L []) c ⟨[],[],0,0⟩
def top_all{L:List Sq}{c:Sq}(hc:c∈L)(hL:Con L):(∀x∈L,x∈(topT L c).been)/\LP L (nmv ((topT L c).steps.take (topT L c).last)) c 0 λ_=>False:=by
 obtain⟨h1,h2,h3,h4⟩:=ug L c (free L []) c ⟨[],[],0,0⟩ ev0 hc (by simp) (qag _) ⟨λ_=>False,λm hm=>hm,λb hb=>(by cases hb)⟩
 have hev:=(gz L (free L []) c ⟨[],[],0,0⟩ ev0 hc (by simp) (qag _)).1
 have hall:=con_all hL hev.sub ⟨c,h3⟩ λx hx k hk hb=>h4 x hx (by simp) k hk hb
 refine⟨hall,?_⟩
 obtain⟨p,hd,cov,f1,f2⟩:=h2
 have:=f1 0 ⟨0,by omega,λa ha ha4=>?_⟩
 ·rw[qaD]at this
  exact this
 ·rw[cv0]
  by_cases hp:(a.1,a.2.1)=p
  ·exact .inr ⟨hp,ha4⟩
  ·exact .inl (f2 _ (hall _ ha) hp a ⟨rfl,ha4⟩)
def lp_len{L:List Sq}(hL:L.Nodup):∀(m:Nat) (p:Sq) (head:Nat) (cov:K3->Prop) (U:List Sq),LP L m p head cov->U.Nodup->(∀c∈U,c∈L/\∃q,q<4/\¬cov (c.1,c.2,q))->U.length<=m+1
 |0,p,head,cov,U,⟨t,_,h⟩,hU,hu=>by
  have:∀c∈U,c∈[p]:=λc hc=>by
   obtain⟨h1,q,h2,h3⟩:=hu c hc
   rcases h (c.1,c.2,q) h1 h2 with h4|⟨q',_,h4⟩
   ·exact absurd h4 h3
   ·simp only[qc,qbJ]at h4
    rw[qak]
    exact qde h4.1 h4.2.1
  have:=bM hU this
  simpa using this
 |m+1,p,head,cov,U,⟨t,_,h⟩,hU,hu=>by
  have hsub:∀c∈U.erase p,c∈L/\∃q,q<4/\¬Cv p head t cov (c.1,c.2,q):=λc hc=>by
   rw[hU.mem_erase_iff]at hc
   obtain⟨h1,q,h2,h3⟩:=hu c hc.2
   refine⟨h1,q,h2,?_⟩
   rintro(h4|⟨q',_,h4⟩)
   ·exact h3 h4
   ·simp only[qc,qbJ]at h4
    exact hc.1 (qde h4.1 h4.2.1)
  have hlen:U.length<=(U.erase p).length+1:=by
   rw[List.length_erase]
   split<;>omega
  have hle:(U.erase p).length<=m+1:=by
   rcases h with h|⟨_,h⟩|h
   ·have:U.erase p=[]:=by
     rw[List.eq_nil_iff_forall_not_mem]
     intro c hc
     obtain⟨h1,q,h2,h3⟩:=hsub c hc
     exact h3 (h (c.1,c.2,q) h1 h2)
    rw[this];simp
   ·exact lp_len hL m _ _ _ _ h (hU.erase _) hsub
   ·exact lp_len hL m _ _ _ _ h (hU.erase _) hsub
  omega
end Tw
end Go.Am
set_option maxRecDepth 100000
set_option maxHeartbeats 8000000
namespace Go.Am
open Sx Go.Proofs Tw
def sl_take{α:Type}{h:HL}{v:Value}{e:Nat}{enc:α->List Value}{l:List α}(hs:LsH h v e enc l){n:Nat}(hn:n<=l.length):∃v',slS e v none (some (Int.ofNat n)) none=some v'/\LsH h v' e enc (l.take n)/\aX v'=true/\blk v'=blk v:=by
 have hl:=bn (l:=l) hs.1
 have hl2:=bn (l:=l.take n) λa ha=>hs.1 a (qaU ha)
 have hlen:(l.take n).length=n:=by rw[qaM];omega
 obtain⟨h1,h2,⟨rfl,h3⟩|⟨id,off,cx,vs,rw',rfl,h3,h4⟩⟩:=hs
 ·have hn0:n=0:=by omega
  have hl0:l=[]:=qbb.1 h3
  subst hn0 hl0
  exact⟨.slice none 0 0,rfl,LsH.nil _ _ _,rfl,rfl⟩
 ·have hr:slS e (.slice (some ⟨id,off,tag e⟩) l.length cx) none (some (Int.ofNat n)) none=some (.slice (some ⟨id,off,tag e⟩) n cx):=by
   unfold slS
   have e1:¬(tag e≠some 1/\tag e≠tag e):=by simp
   simp only[if_neg e1]
   have e2:(0:Int)<=(none:Option Int).getD 0/\(none:Option Int).getD 0<=(some (Int.ofNat n)).getD ((l.length:Nat):Int)/\cE l.length cx (some (Int.ofNat n)) none:=by
    refine⟨by simp,by simp,?_⟩
    unfold cE
    left
    show((n:Nat):Int)<=(l.length:Int)
    omega
   rw[if_pos e2,dy,dy,dy]
   simp[bG]
  have hls:LsH h (.slice (some ⟨id,off,tag e⟩) n cx) e enc (l.take n):=by
   refine⟨λa ha=>h1 a (qaU ha),by rw[hl2],.inr ⟨id,off,cx,vs,rw',by rw[hlen],h3,?_⟩⟩
   have hc:=og h4 (o:=0) (k:=n*e) (by
    rw[qaD]
    exact qa9 e hn)
   rw[qce,qaX]at hc
   rw[hlen,hc]
   congr 1
   have e1:l.flatMap enc=(l.take n).flatMap enc++(l.drop n).flatMap enc:=by rw[←List.flatMap_append,qbK]
   rw[e1,qb9 (by rw[hl2,hlen];exact qag _),qaQ (by rw[hl2,hlen];exact qag _)]
  exact⟨_,hr,hls,hls.good,rfl⟩
def sl_clip{α:Type}{h:HL}{v:Value}{e:Nat}{enc:α->List Value}{l:List α}(hs:LsH h v e enc l):∃v',slS e v none (some (Int.ofNat l.length)) (some (Int.ofNat l.length))=some v'/\LsH h v' e enc l/\aX v'=true/\blk v'=blk v:=by
 have hs':=hs
 obtain⟨h1,h2,⟨rfl,h3⟩|⟨id,off,cx,vs,rw',rfl,h3,h4⟩⟩:=hs
 ·have hl0:l=[]:=qbb.1 h3
  subst hl0
  exact⟨.slice none 0 0,rfl,LsH.nil _ _ _,rfl,rfl⟩
 ·have hr:slS e (.slice (some ⟨id,off,tag e⟩) l.length cx) none (some (Int.ofNat l.length)) (some (Int.ofNat l.length))=some (.slice (some ⟨id,off,tag e⟩) l.length (l.length+1)):=by
   unfold slS
   have e1:¬(tag e≠some 1/\tag e≠tag e):=by simp
   simp only[if_neg e1]
   have e2:(0:Int)<=(none:Option Int).getD 0/\(none:Option Int).getD 0<=(some (Int.ofNat l.length)).getD ((l.length:Nat):Int)/\cE l.length cx (some (Int.ofNat l.length)) (some (Int.ofNat l.length)):=by
    refine⟨by simp,by simp,?_⟩
    unfold cE
    refine⟨rfl,by simp,.inl (by show(l.length:Int)<=(l.length:Int);omega)⟩
   rw[if_pos e2,dy,dy,dy]
   simp[bG]
  have hls:LsH h (.slice (some ⟨id,off,tag e⟩) l.length (l.length+1)) e enc l:=⟨h1,h2,.inr ⟨id,off,_,vs,rw',rfl,h3,h4⟩⟩
  exact⟨_,hr,hls,hls.good,rfl⟩
def clipS_c{h:HL}{x:Value}{l:List Nat}(hl:LsH h x 1 encS l):∃x',aQ cc ab 21 [.v x] (absH aa h) [.v x'] (absH aa h)/\LsH h x' 1 encS l/\aX x'=true/\blk x'=blk x:=by
 obtain⟨x',h1,h2,h3,h4⟩:=sl_clip hl
 refine⟨x',xK x21 (glsV hl.good gls0) ?_,h2,h3,h4⟩
 unfold f21;simp only[qxh]
 simp(disch:=omega)only[↓qXX]
 refine dc hl (dc hl (ax h1 (az h3 ?_)))
 exact⟨by trivial,by trivial⟩
def jt{a:Nat}(h:1<=a/\a<=4):Cc 23 [.i (Int.ofNat a)] [.b (decide (3<=a))]:=by
 have:a=1∨a=2∨a=3∨a=4:=by omega
 refine q23 rfl ?_;unfold f23;simp only[qxh]
 rcases this with rfl|rfl|rfl|rfl
 all_goals
  simp only[show Int.ofNat 1=(1:Int)from rfl,show Int.ofNat 2=(2:Int)from rfl,show Int.ofNat 3=(3:Int)from rfl,show Int.ofNat 4=(4:Int)from rfl]
  simp(disch:=omega)only[↓qXX]
  try rfl
abbrev cloP:Value:=.func (.func 31) ⟨[]⟩ ⟨[]⟩
def check1_c{a:Nat}(h:1<=a/\a<=4):Cc 31 [.i (Int.ofNat a)] [.b false]:=by
 have:a=1∨a=2∨a=3∨a=4:=by omega
 refine q31 rfl ?_;unfold f31;simp only[qxh]
 rcases this with rfl|rfl|rfl|rfl
 all_goals
  simp only[show Int.ofNat 1=(1:Int)from rfl,show Int.ofNat 2=(2:Int)from rfl,show Int.ofNat 3=(3:Int)from rfl,show Int.ofNat 4=(4:Int)from rfl]
  simp(disch:=omega)only[↓qXX]
  try rfl
def anyP_c{h:HL}{x:Value}{l:List Nat}(hl:LsH h x 1 encS l)(hok:∀a∈l,1<=a/\a<=4)(hn:l.length<=100000):aQ cc ab 30 [.v x,.v cloP] (absH aa h) [.b false] (absH aa h):=by
 have h1:aQ cc ab 37 [.v x,.v cloP] (absH aa h) [.i (-1)] (absH aa h):=by
  refine xK x37 (glsV hl.good (glsV rfl gls0)) ?_
  unfold f37;simp only[qxh]
  simp(disch:=omega)only[↓qXX]
  refine dc hl ?_
  refine ja l.length (λ_=>True) rfl (qaP _) trivial ?_
  intro j hj _ self hself
  simp(disch:=omega)only[↓qXX]
  by_cases hlt:j<l.length
  ·rw[cb hlt]
   simp(disch:=omega)only[↓qXX]
   obtain⟨c,hc⟩:=bQ hlt
   refine dj hl rfl hc ?_
   unfold encS
   repeat (first|simp(disch:=omega)only[↓qXX]|refine ji (sK (check1_c (hok c (qad hc)) _) rfl [.leaf (.i .u8 (Int.ofNat c))] rfl rfl) ?_)
   rw[cp (by omega)]
   exact hself hlt trivial
  ·rw[bZ (by omega)]
   simp(disch:=omega)only[↓qXX]
   exact⟨by trivial,by trivial⟩
 refine xK x30 (glsV hl.good (glsV rfl gls0)) ?_
 unfold f30;simp only[qxh]
 repeat (first|simp(disch:=omega)only[↓qXX]|refine aG h1 ?_)
 exact⟨by trivial,by trivial⟩
def tO{h:HL}{x:Value}{l:List Nat}(hl:LsH h x 1 encS l)(hok:∀a∈l,1<=a/\a<=4)(h3:Ok3 l)(hn:l.length<=255):aQ cc ab 22 [.v x] (absH aa h) [.i 0] (absH aa h):=by
 exact xK x22 (glsV hl.good gls0) (by
  unfold f22;simp only[qxh]
  simp(disch:=omega)only[↓qXX]
  try refine az rfl ?_
  refine aG (anyP_c hl hok (by omega)) ?_
  simp(disch:=omega)only[↓qXX]
  refine dc hl ?_
  refine bY (σ:=Nat) l.length (λj s=>[.i (Int.ofNat s),.i (Int.ofNat j)]) (λ_ _=>h) (λj s=>s<=1+j) (j0:=0) (s0:=1) rfl rfl (qaP _) (qag _) ?_
  intro j s hj hs self hself
  simp(disch:=omega)only[↓qXX]
  by_cases hlt:j<l.length
  ·rw[cb hlt]
   simp(disch:=omega)only[↓qXX]
   obtain⟨a,ha⟩:=bQ hlt
   have ha4:=hok a (qad ha)
   refine dj hl rfl ha ?_
   unfold encS
   simp(disch:=omega)only[↓qXX]
   refine dz (jt ha4) ?_
   simp(disch:=omega)only[↓qXX]
   by_cases ht:3<=a
   ·have hnext:=hself s hlt (by omega)
    rw[decide_eq_true ht]
    simp(disch:=omega)only[↓qXX]
    by_cases hj0:j=0
    ·subst hj0
     rw[p_gtr_f (by show((0:Nat):Int)<=0;omega)]
     simp(disch:=omega)only[↓qXX]
     refine dz (jt ha4) ?_
     simp(disch:=omega)only[↓qXX]
     rw[decide_eq_true ht]
     simp(disch:=omega)only[↓qXX,qaS]
     rw[cp (by omega)]
     exact hnext
    ·rw[p_gtr_t (by show(0:Int)<(j:Int);omega)]
     simp(disch:=omega)only[↓qXX]
     rw[uO (by omega) (by omega)]
     obtain⟨b,hb⟩:=bQ (l:=l) (i:=j - 1) (by omega)
     refine dj hl rfl hb ?_
     unfold encS
     simp(disch:=omega)only[↓qXX]
     refine dz (jt (hok b (qad hb))) ?_
     have hb3:¬3<=b:=λh=>h3 (j - 1) b a hb (by rw[show j - 1+1=j by omega];exact ha) ⟨h,ht⟩
     simp(disch:=omega)only[↓qXX]
     rw[decide_eq_false hb3]
     simp(disch:=omega)only[↓qXX]
     refine dz (jt ha4) ?_
     simp(disch:=omega)only[↓qXX]
     rw[decide_eq_true ht]
     simp(disch:=omega)only[↓qXX,qaS]
     rw[cp (by omega)]
     exact hnext
   ·have hnext:=hself (s+1) hlt (by omega)
    rw[decide_eq_false ht]
    simp(disch:=omega)only[↓qXX]
    refine dz (jt ha4) ?_
    simp(disch:=omega)only[↓qXX]
    rw[decide_eq_false ht]
    simp(disch:=omega)only[↓qXX,qbI]
    rw[cp (by omega)]
    simp(disch:=omega)only[↓qXX]
    rw[cp (by omega)]
    exact hnext
  ·rw[bZ (by omega)]
   simp(disch:=omega)only[↓qXX]
   rw[p_gtr_f (by show(s:Int)<=256;omega)]
   simp(disch:=omega)only[↓qXX]
   exact⟨by trivial,by trivial⟩)
def top_ev{L:List Sq}{c:Sq}(hc:c∈L):Ev L ⟨[],[],0,0⟩ (topT L c):=by
 exact(gz L (free L []) c ⟨[],[],0,0⟩ ev0 hc (by simp) (qag _)).1
def top_len{L:List Sq}{c:Sq}(hc:c∈L):(topT L c).steps.length<=6*L.length:=by
 have h:=top_ev hc
 have h1:=h.le
 have h2:=h.small
 simp only[qb4]at h1
 omega
def WalkOk(H:HL)(L:List Sq)(c:Sq)(rs:List Lf)(h':HL):Prop:=∃v,rs=[.v v,.i c.1,.i c.2,.i 0,.i 0]/\LsH h' v 1 encS ((topT L c).steps.take (topT L c).last)/\Low H.length H h'/\H.length<=h'.length/\∀i,blk v=some i->H.length<=i
def walk_c{H:HL}{x:Value}{L:List Sq}{D:List K3}(hl:LsH H x 3 cc3 D)(hD:SetOf L D)(h0:0<L.length)(hn:L.length<=40)(hnd:L.Nodup)(hcon:Con L)(hb:∀c∈L,(-100<=c.1/\c.1<=100)/\-100<=c.2/\c.2<=100){a0:K3}(ha0:D[0]?=some a0) :
  ∃rs h',aQ cc ab 7 [.v x] (absH aa H) rs (absH aa h')/\WalkOk H L (a0.1,a0.2.1) rs h':=by
 have hDl:=hD.len
 have hm0:=(hD.mem.1 (qad ha0)).1
 have hb0:=hb _ hm0
 have htl:=top_len hm0
 have hte:=top_ev hm0
 exact x7 (K:=WalkOk H L (a0.1,a0.2.1)) (glsV hl.good gls0) (by
  unfold f7;simp only[qxh]
  simp(disch:=omega)only[↓qXX]
  have hl1:LsH (H++[HO.o (.cells [.slice none 0 0] 1 true)]) x 3 cc3 D:=hl.pre ⟨_,rfl⟩
  have hlen1:(H++[HO.o (.cells [.slice none 0 0] 1 true)]).length=H.length+1:=by simp
  obtain⟨h2,hcall,hlow2,hle2⟩:=check_c hl1 hD h0 (by omega) hnd hcon hb
  refine aG hcall ?_
  have hl2:=hl1.low hlow2
  have hw2:h2[H.length]?=some (.o (.cells [.slice none 0 0] 1 true)):=hlow2 _ _ (by rw[hlen1];omega) aE
  have hH2:Low H.length H h2:=((Low.refl H).app _).trans (hlow2.le (by rw[hlen1];omega))
  rw[hlen1]at hle2
  clear hcall hlow2 hl1 hlen1
  simp(disch:=omega)only[↓qXX]
  obtain⟨rs,h3,hcall,o,ks,rfl,rfl,hset,hknd,hkm⟩:=rt hD hl2 (by omega)
  refine aG hcall ?_
  have hl3:LsH (h2++[o]) x 3 cc3 D:=hl2.pre ⟨_,rfl⟩
  have hw3:(h2++[o])[H.length]?=some (.o (.cells [.slice none 0 0] 1 true)):=aL hw2
  have hH3:Low H.length H (h2++[o]):=hH2.app _
  have g3:(h2++[o]).length=h2.length+1:=by simp
  clear hcall hl2 hw2 hH2
  simp(disch:=omega)only[↓qXX]
  generalize h2++[o]=h3 at *
  generalize hbd:h2.length=b at *
  rw[g3]
  refine gO (vs:=[.map none]) (by rw[←g3];exact aE) rfl ?_
  rw[←g3,dI,g3]
  have p4:(h3++[HO.o (.cells [.map (some b)] 1 true)])[b+1]?=some (.o (.cells [.map (some b)] 1 true)):=by rw[←g3];exact aE
  have s4:Set3 (h3++[HO.o (.cells [.map (some b)] 1 true)]) b ks:=hset.keep λ_ ho=>aL ho
  have w4:(h3++[HO.o (.cells [.map (some b)] 1 true)])[H.length]?=some (.o (.cells [.slice none 0 0] 1 true)):=aL hw3
  have l4:LsH (h3++[HO.o (.cells [.map (some b)] 1 true)]) x 3 cc3 D:=hl3.pre ⟨_,rfl⟩
  have H4:Low H.length H (h3++[HO.o (.cells [.map (some b)] 1 true)]):=hH3.app _
  have g4:(h3++[HO.o (.cells [.map (some b)] 1 true)]).length=b+2:=by simp[g3]
  clear hset hw3 hl3 hH3 g3
  generalize h3++[HO.o (.cells [.map (some b)] 1 true)]=h4 at *
  try simp(disch:=omega)only[↓qXX]
  refine uQ (o:=0) (k:=1) (a:=a0) (i:=0) l4 rfl ha0 rfl (by omega) ?_
  simp only[cc3,qaX,qa7,qbC]
  simp(disch:=omega)only[↓qXX]
  refine uQ (o:=1) (k:=1) (a:=a0) (i:=0) l4 rfl ha0 rfl (by omega) ?_
  simp only[cc3,qbS,qaX,qa7,qbC]
  simp(disch:=omega)only[↓qXX]
  rw[g4]
  refine gO (vs:=[.int .i64 0]) (by rw[←g4];exact aE) rfl ?_
  rw[←g4,dI,g4]
  try simp(disch:=omega)only[↓qXX]
  have g5:(h4++[HO.o (.cells [.int .i64 0] 1 true)]).length=b+3:=by simp[g4]
  rw[g5]
  refine gO (vs:=[.int .i64 0]) (by rw[←g5];exact aE) rfl ?_
  rw[←g5,dI,g5]
  try simp(disch:=omega)only[↓qXX]
  have g6:(h4++[HO.o (.cells [.int .i64 0] 1 true)]++[HO.o (.cells [.int .i64 0] 1 true)]).length=b+4:=by simp[g4]
  rw[g6]
  refine az rfl ?_
  refine gO (vs:=[.nilFunc]) (by rw[←g6];exact aE) rfl ?_
  rw[←g6,dI,g6]
  try simp(disch:=omega)only[↓qXX]
  have hWS:WS H.length b L (h4++[HO.o (.cells [.int .i64 0] 1 true)]++[HO.o (.cells [.int .i64 0] 1 true)]++[HO.o (.cells [cloV H.length b] 1 true)]) ⟨[],[],0,0⟩ (.slice none 0 0):=
   ⟨by omega,⟨ks,s4.keep λ_ ho=>aL (aL (aL ho)),hknd,λa=>(hkm a).trans ⟨λ⟨c,h1,h2⟩=>⟨c,h1,(by simp),h2⟩,λ⟨c,h1,_,h2⟩=>⟨c,h1,h2⟩⟩⟩,aL (aL (aL p4)),aL (aL (aL w4)),OwnL.nil _ _ _ _,aL (aL (by rw[←g4];exact aE)),aL (by rw[←g5];exact aE),by rw[←g6];exact aE,by simp[g4]⟩
  have H7:Low H.length H (h4++[HO.o (.cells [.int .i64 0] 1 true)]++[HO.o (.cells [.int .i64 0] 1 true)]++[HO.o (.cells [cloV H.length b] 1 true)]):=((H4.app _).app _).app _
  generalize h4++[HO.o (.cells [.int .i64 0] 1 true)]++[HO.o (.cells [.int .i64 0] 1 true)]++[HO.o (.cells [cloV H.length b] 1 true)]=h7 at *
  clear g4 g5 g6 p4 s4 w4 l4 H4
  refine dt (cg hWS.pv) rfl ?_
  simp(disch:=omega)only[↓qXX]
  refine az rfl ?_
  simp(disch:=omega)only[↓qXX]
  obtain⟨rs,h8,hcall,rfl,x8,hw8,hlow8⟩:=walk1_c hb (by omega) (free L []) (a0.1,a0.2.1) h7 ⟨[],[],0,0⟩ (.slice none 0 0) hWS ev0 (qag _) hm0 (by simp) (qag _)
  refine ji (gY (args:=[.agg ⟨cc3 (sqC (a0.1,a0.2.1))⟩]) hcall rfl [.agg [.i .i64 a0.1,.i .i64 a0.2.1,.i .u8 0],.leaf (.v (ptrB (b+1))),.leaf (.v (ptrB H.length)),.leaf (.v (ptrB (b+3))),.leaf (.v (ptrB (b+2))),.leaf (.v (ptrB (b+4)))] rfl rfl rfl) ?_
  clear hWS hcall
  have H8:=H7.trans hlow8
  change WS H.length b L h8 (topT L (a0.1,a0.2.1)) x8 at hw8
  obtain⟨t,ht⟩ : ∃t,t=topT L (a0.1,a0.2.1):=⟨_,rfl⟩
  rw[←ht]at hw8 hte htl
  simp(disch:=omega)only[↓qXX]
  refine dt (cg hw8.pw) rfl ?_
  simp(disch:=omega)only[↓qXX]
  refine az (hw8.ow.good eR) ?_
  simp(disch:=omega)only[↓qXX]
  refine dt (cg hw8.pt) rfl ?_
  simp(disch:=omega)only[↓qXX]
  obtain⟨x9,e9,l9,gd9,b9⟩:=sl_take (hw8.ow.ls eR) hte.la
  refine ax e9 ?_
  refine az gd9 ?_
  obtain⟨x10,hcall,l10,gd10,b10⟩:=clipS_c l9
  refine aG hcall ?_
  simp(disch:=omega)only[↓qXX]
  refine gO hw8.pw rfl ?_
  try simp(disch:=omega)only[↓qXX]
  have hbk:∀i,blk x10=some i->b+5<=i:=λi hi=>by
   rw[b10,b9]at hi
   exact(hw8.ow.blk hi).1
  have hlt:=hw8.lt
  have hlnn:=hw8.ln
  have l11:LsH (h8.set H.length (.o (.cells [x10] 1 true))) x10 1 encS (t.steps.take t.last):=l10.keep λj o hj hb=>by
   have:=hbk j hb
   exact aW hj (by omega)
  have w11:(h8.set H.length (.o (.cells [x10] 1 true)))[H.length]?=some (.o (.cells [x10] 1 true)):=lu hw8.pw
  have H11:Low H.length H (h8.set H.length (.o (.cells [x10] 1 true))):=H8.set (qag _) _
  have n11:(h8.set H.length (.o (.cells [x10] 1 true))).length=h8.length:=by simp
  generalize h8.set H.length (.o (.cells [x10] 1 true))=h11 at *
  refine dt (cg w11) rfl ?_
  simp(disch:=omega)only[↓qXX]
  refine az gd10 ?_
  simp(disch:=omega)only[↓qXX]
  refine aG (tO l11 (λa ha=>hte.st a (qaU ha)) (hte.ok.take _) (by rw[qaM];omega)) ?_
  simp(disch:=omega)only[↓qXX]
  refine dt (cg w11) rfl ?_
  simp(disch:=omega)only[↓qXX]
  refine az gd10 ?_
  simp(disch:=omega)only[↓qXX]
  refine gO w11 rfl ?_
  try simp(disch:=omega)only[↓qXX]
  have e12:h11.set H.length (.o (.cells [x10] 1 true))=h11:=lZ w11
  rw[e12]
  refine dF ((cg w11).ld rfl) ?_
  simp(disch:=omega)only[↓qXX]
  refine az gd10 ?_
  simp(disch:=omega)only[↓qXX]
  exact⟨x10,rfl,ht▸l11,H11,by omega,λi hi=>by
   have:=hbk i hi
   omega⟩)
end Go.Am
set_option maxRecDepth 100000
namespace Go.Am
namespace Sx
section
variable [Val] [Kno] {C:Cfg} {Sg:FuncId->Option Sig} {T:Nat->Site}
variable {κ:Type} [DecidableEq κ] (kc:κ->List Value) {kk:List LK} (hd:∀a b,difK kk (kc a) (kc b)=some (decide (a=b)))
include hd
theorem findK(k:κ):∀ {es:List MapEntry} {ks:List κ} (i:Nat),es.map (·.key)=ks.map (λk=>.agg ⟨kc k⟩)->gH kk (kc k) es i=some ((ks.idxOf? k).map (i + ·))
 | [],[],i,_=>rfl
 | [],_ :: _,i,h=>by simp at h
 |_ :: _,[],i,h=>by simp at h
 |e :: es,q :: ks,i,h=>by
  simp only[qap,qaZ]at h
  have ih:=findK k (i+1) h.2
  have hq:gH kk (kc k) (e :: es) i=if k=q then some (some i)else gH kk (kc k) es (i+1):=by
   simp only[gH,h.1]
   rw[hd]
   by_cases hk:k=q<;>simp[hk]
  rw[hq,List.idxOf?_cons]
  by_cases hk:k=q
  ·subst hk
   simp
  ·rw[if_neg hk,ih,if_neg (by simp;exact λe=>hk e.symm),qdf]
   congr 2
   funext j
   simp only[Function.comp];omega
omit hd in
def SetK(h:HL)(id:Nat)(ks:List κ):Prop:=∃es c,h[id]?=some (.o (.map es c))/\es.map (·.key)=ks.map (λk=>.agg ⟨kc k⟩)/\∀e∈es,e.val = .bool true
variable {kt:TypeId} (h1:aggT C.P kt=some true) (h2:gk C.P 10000 kt=some kk) (h3:∀a,∃r,eT kk (kc a) (kc a)=some r)
include h1 h2 h3
omit hd in
theorem keyFK(k:κ):keyF C.P kt (.agg ⟨kc k⟩)=true:=by
 obtain⟨r,hr⟩:=h3 k
 unfold keyF
 simp only[h1,h2,hr]
omit h3 hd in
theorem findFK(k:κ){es:List MapEntry}{r:Option Nat}(hr:gH kk (kc k) es 0=some r):mw C.P kt (.agg ⟨kc k⟩) es=some r:=by
 unfold mw
 simp only[h1,h2,kq,hr]
theorem r_luK{h:HL}{id:Nat}{ks:List κ}{K:List Value->Prop}(hs:SetK kc h id ks)(k:κ){v:Value}(hv:v = .agg ⟨kc k⟩)(hk:K [.bool (decide (k∈ks))]) :
  (PH C Sg T).peek (.fn (luG C kt false (.bool false) (.map (some id)) v false)) h (@hid _ ⟨K⟩):=by
 subst hv
 obtain⟨es,c,a1,a2,a3⟩:=hs
 refine dF (cs:=[.bool (decide (k∈ks))]) ?_ hk
 show luG C kt false (.bool false) (.map (some id)) (.agg ⟨kc k⟩) false (getH T h)=_
 unfold luG
 rw[keyFK kc h1 h2 h3 k]
 simp only[qaS,qam,if_false]
 rw[eY a1]
 simp only
 rw[findFK kc h1 h2 k (findK kc hd k 0 a2)]
 cases hi:ks.idxOf? k with
 |none=>
  rw[decide_eq_false (qbP.1 hi)]
  simp[eC]
 |some j=>
  obtain⟨hj,hjk,_⟩:=qct.1 hi
  have hlen:es.length=ks.length:=by
   have:=congrArg List.length a2
   simpa using this
  have he:es[j]?=some (es[j]'(by omega)):=qao _
  have hv:=a3 _ (qbN (show j<es.length by omega))
  rw[decide_eq_true (hjk▸qbN hj)]
  simp only[qau,qaD]
  have hv2:dB es j=some (.bool true):=by
   unfold dB
   rw[he]
   simp[hv]
  rw[hv2]
  simp[eC]
theorem r_muK{h:HL}{id:Nat}{ks:List κ}{K:List Value->HL->Prop}(hs:SetK kc h id ks)(k:κ)(hn:k∉ks){v:Value}(hv:v = .agg ⟨kc k⟩)(hk:∀o,SetK kc (h.set id o) id (ks++[k])->K [] (h.set id o)) :
  (PH C Sg T).heap (.fn (muG C kt (.map (some id)) v (.bool true))) h (@hid _ ⟨K⟩):=by
 subst hv
 obtain⟨es,c,a1,a2,a3⟩:=hs
 have hrun:(Hp.fn (muG C kt (.map (some id)) (.agg ⟨kc k⟩) (.bool true))).run (getH T h) h.length=some ([.set id (.map (es++[{ key:=.agg ⟨kc k⟩,val:=.bool true,born:=c }]) (c+1))],[]):=by
  show muG C kt (.map (some id)) (.agg ⟨kc k⟩) (.bool true) (getH T h) h.length=_
  unfold muG
  simp only
  rw[keyFK kc h1 h2 h3 k]
  simp only[qaS,qam,if_false]
  rw[eY a1]
  simp only
  rw[findFK kc h1 h2 k (findK kc hd k 0 a2),qbP.2 hn]
  rfl
 refine cf hrun (hk _ ⟨_,_,qaI (aI a1),by simp[a2],λe hm=>?_⟩)
 rcases qay.1 hm with hm|hm
 ·exact a3 e hm
 ·simp only[qak]at hm
  subst hm;rfl
end
def eqB_dec(a b:Bool):eqB a b=decide (a=b):=by cases a<;>cases b<;>rfl
def difK_b:∀(l m:List Bool),l.length=m.length->difK (List.replicate l.length .b) (l.map .bool) (m.map .bool)=some (decide (l=m))
 | [],[],_=>rfl
 | [],_ :: _,h=>by simp at h
 |_ :: _,[],h=>by simp at h
 |a :: l,b :: m,h=>by
  have ih:=difK_b l m (by simpa using h)
  simp only[qa2,qbH,qap,difK,eqB_dec,ih,qaZ]
  by_cases hab:a=b<;>simp[hab]
def fastK_b:∀(l:List Bool),eT (List.replicate l.length .b) (l.map .bool) (l.map .bool)=some true
 | []=>rfl
 |a :: l=>by
  simp only[qa2,qbH,qap,eT,fastK_b l,eqB_dec,decide_true]
end Sx
end Go.Am
set_option maxRecDepth 100000
set_option maxHeartbeats 8000000
namespace Go.Am
open Sx Go.Proofs Tw
def index_c{h:HL}{x:Value}{l:List K3}(hl:LsH h x 3 cc3 l)(hn:l.length<=100000)(a:K3){p q r:Int}(ha:p=a.1/\q=a.2.1/\r=Int.ofNat a.2.2) :
  ∃n:Int,aQ cc ab 14 [.v x,.i p,.i q,.i r] (absH aa h) [.i n] (absH aa h)/\((n = -1/\a∉l)∨∃i,n=Int.ofNat i/\l[i]?=some a):=by
 obtain⟨rfl,rfl,rfl⟩:=ha
 obtain⟨rs,h',h1,n,rfl,rfl,h2⟩:=x14 (ls:=[.v x,.i a.1,.i a.2.1,.i (Int.ofNat a.2.2)]) (H:=h) (K:=λrs h'=>∃n:Int,rs=[.i n]/\h'=h/\((n = -1/\a∉l)∨∃i,n=Int.ofNat i/\l[i]?=some a)) (glsV hl.good (glsI (glsI (glsI gls0)))) (by
  unfold f14;simp only[qxh]
  simp(disch:=omega)only[↓qXX]
  refine dc hl ?_
  refine ja l.length (λj=>∀i,i<j->l[i]?≠some a) (j0:=0) rfl (qaP _) (λi hi=>by omega) ?_
  intro j hj he self hself
  simp(disch:=omega)only[↓qXX]
  by_cases hlt:j<l.length
  ·rw[cb hlt]
   simp(disch:=omega)only[↓qXX]
   obtain⟨b,hb⟩:=bQ hlt
   refine dj hl rfl hb ?_
   unfold cc3
   simp(disch:=omega)only[↓qXX]
   rw[eqs3]
   by_cases hba:a=b
   ·subst hba
    rw[decide_eq_true rfl]
    simp(disch:=omega)only[↓qXX]
    exact⟨_,rfl,by trivial,.inr ⟨j,rfl,hb⟩⟩
   ·rw[decide_eq_false hba]
    simp(disch:=omega)only[↓qXX]
    rw[cp (by omega)]
    refine hself hlt λi hi=>?_
    by_cases hij:i=j
    ·subst hij
     rw[hb]
     exact λe=>hba (qai e).symm
    ·exact he i (by omega)
  ·rw[bZ (by omega)]
   simp(disch:=omega)only[↓qXX]
   refine⟨_,rfl,by trivial,.inl ⟨rfl,λhm=>?_⟩⟩
   obtain⟨i,hi⟩:=qaL hm
   exact he i (by have:=aI hi;omega) hi)
 exact⟨n,h1,h2⟩
def hasS_c{h:HL}{x:Value}{l:List K3}(hl:LsH h x 3 cc3 l)(hn:l.length<=100000)(a:K3){p q r:Int}(ha:p=a.1/\q=a.2.1/\r=Int.ofNat a.2.2):aQ cc ab 17 [.v x,.i p,.i q,.i r] (absH aa h) [.b (decide (a∈l))] (absH aa h):=by
 obtain⟨n,h1,h2⟩:=index_c hl hn a ha
 have h3:aQ cc ab 27 [.v x,.i p,.i q,.i r] (absH aa h) [.b (decide (a∈l))] (absH aa h):=by
  refine xK x27 (glsV hl.good (glsI (glsI (glsI gls0)))) ?_
  unfold f27;simp only[qxh]
  simp(disch:=omega)only[↓qXX]
  refine aG h1 ?_
  simp(disch:=omega)only[↓qXX]
  rcases h2 with⟨rfl,h2⟩|⟨i,rfl,h2⟩
  ·rw[p_geq_f (by omega)]
   exact⟨by rw[decide_eq_false h2],rfl⟩
  ·rw[p_geq_t (by show(0:Int)<=(i:Int);omega)]
   exact⟨by rw[decide_eq_true (qad h2)],rfl⟩
 refine xK x17 (glsV hl.good (glsI (glsI (glsI gls0)))) ?_
 unfold f17;simp only[qxh]
 repeat (first|simp(disch:=omega)only[↓qXX]|refine aG h3 ?_)
 exact⟨by trivial,by trivial⟩
def encB(t:Bool):List Value:=[.bool t]
def eqsBd{a b:Bool}{K:Bool->Prop}:P1.eqs [(.b a,.b b)] (@hid _ ⟨K⟩)=K (decide (a=b)):=by
 show K (cm _)=_
 cases a<;>cases b<;>rfl
def anyF_c{h:HL}{x:Value}{l:List Bool}(hl:LsH h x 1 encB l)(hn:l.length<=100000):aQ cc ab 15 [.v x,.b false] (absH aa h) [.b (decide (false∈l))] (absH aa h):=by
 obtain⟨rs,h',h1,n,rfl,rfl,h2⟩:=x26 (ls:=[.v x,.b false]) (H:=h) (K:=λrs h'=>∃n:Int,rs=[.i n]/\h'=h/\((n = -1/\false∉l)∨∃i,n=Int.ofNat i/\l[i]?=some false)) (glsV hl.good (glsB gls0)) (by
  unfold f26;simp only[qxh]
  simp(disch:=omega)only[↓qXX]
  refine dc hl ?_
  refine ja l.length (λj=>∀i,i<j->l[i]?≠some false) (j0:=0) rfl (qaP _) (λi hi=>by omega) ?_
  intro j hj he self hself
  simp(disch:=omega)only[↓qXX]
  by_cases hlt:j<l.length
  ·rw[cb hlt]
   simp(disch:=omega)only[↓qXX]
   obtain⟨b,hb⟩:=bQ hlt
   refine dj hl rfl hb ?_
   unfold encB
   simp(disch:=omega)only[↓qXX]
   rw[eqsBd]
   by_cases hba:false=b
   ·subst hba
    rw[decide_eq_true rfl]
    simp(disch:=omega)only[↓qXX]
    exact⟨_,rfl,by trivial,.inr ⟨j,rfl,hb⟩⟩
   ·rw[decide_eq_false hba]
    simp(disch:=omega)only[↓qXX]
    rw[cp (by omega)]
    refine hself hlt λi hi=>?_
    by_cases hij:i=j
    ·subst hij
     rw[hb]
     exact λe=>hba (qai e).symm
    ·exact he i (by omega)
  ·rw[bZ (by omega)]
   simp(disch:=omega)only[↓qXX]
   refine⟨_,rfl,by trivial,.inl ⟨rfl,λhm=>?_⟩⟩
   obtain⟨i,hi⟩:=qaL hm
   exact he i (by have:=aI hi;omega) hi)
 refine xK x15 (glsV hl.good (glsB gls0)) ?_
 unfold f15;simp only[qxh]
 simp(disch:=omega)only[↓qXX]
 refine aG h1 ?_
 simp(disch:=omega)only[↓qXX]
 rcases h2 with⟨rfl,h2⟩|⟨i,rfl,h2⟩
 ·rw[p_geq_f (by omega)]
  exact⟨by rw[decide_eq_false h2],rfl⟩
 ·rw[p_geq_t (by show(0:Int)<=(i:Int);omega)]
  exact⟨by rw[decide_eq_true (qad h2)],rfl⟩
def va{H:HL}{x:Value}{L:List Sq}{D:List K3}(hl:LsH H x 3 cc3 D)(hD:SetOf L D)(h0:0<L.length)(hn:L.length<=200)(hnd:L.Nodup)(hcon:Con L)(hb:∀c∈L,(-100<=c.1/\c.1<=100)/\-100<=c.2/\c.2<=100) :
  ∃h',aQ cc ab 13 [.v x] (absH aa H) [.i (Int.ofNat L.length),.i 0] (absH aa h')/\Low H.length H h'/\H.length<=h'.length:=by
 obtain⟨h1,hc,hlow,hle⟩:=check_c hl hD h0 hn hnd hcon hb
 refine⟨h1,xK x13 (glsV hl.good gls0) ?_,hlow,hle⟩
 have hDl:=hD.len
 unfold f13;simp only[qxh]
 simp(disch:=omega)only[↓qXX]
 refine aG hc ?_
 simp(disch:=omega)only[↓qXX]
 refine dc (hl.low hlow) ?_
 rw[p_quo_nn (by show(0:Int)<=(D.length:Int);omega) (by omega) (by show(D.length:Int)<=9223372036854775807;omega)]
 have e:(Int.ofNat D.length / 4:Int)=Int.ofNat L.length:=by
  show((D.length:Int) / 4:Int)=(L.length:Int)
  omega
 rw[e]
 exact⟨by trivial,by trivial⟩
def length_c{h:HL}{x:Value}{l:List Nat}(hl:LsH h x 1 encS l)(hok:∀a∈l,1<=a/\a<=4)(h3:Ok3 l)(hn:l.length<=255):aQ cc ab 8 [.v x] (absH aa h) [.i (Int.ofNat (1+(l.filter λa=>decide (a<3)).length)),.i 0] (absH aa h):=by
 refine xK x8 (glsV hl.good gls0) ?_
 unfold f8;simp only[qxh]
 simp(disch:=omega)only[↓qXX]
 refine aG (tO hl hok h3 hn) ?_
 simp(disch:=omega)only[↓qXX]
 refine dc hl ?_
 refine bY (σ:=Nat) l.length (λj s=>[.i (Int.ofNat s),.i (Int.ofNat j)]) (λ_ _=>h) (λj s=>s=1+((l.take j).filter λa=>decide (a<3)).length) (j0:=0) (s0:=1) rfl rfl (qaP _) (by simp) ?_
 rintro j s hj hs self hself
 have hbd:((l.take j).filter λa=>decide (a<3)).length<=j:=qbp (qcA _ _) (by rw[qaM];omega)
 simp(disch:=omega)only[↓qXX]
 by_cases hlt:j<l.length
 ·rw[cb hlt]
  simp(disch:=omega)only[↓qXX]
  obtain⟨a,ha⟩:=bQ hlt
  have ha4:=hok a (qad ha)
  have ht:l.take (j+1)=l.take j++[a]:=by
   rw[qbQ,ha];rfl
  refine dj hl rfl ha ?_
  unfold encS
  simp(disch:=omega)only[↓qXX]
  refine dz (jt ha4) ?_
  simp(disch:=omega)only[↓qXX]
  by_cases h3:3<=a
  ·rw[decide_eq_true h3]
   simp(disch:=omega)only[↓qXX,qaS]
   rw[cp (by omega)]
   refine hself s hlt ?_
   rw[ht,qcs,hs]
   simp;omega
  ·rw[decide_eq_false h3]
   simp(disch:=omega)only[↓qXX,qbI]
   rw[cp (by omega)]
   simp(disch:=omega)only[↓qXX]
   rw[cp (by omega)]
   refine hself (s+1) hlt ?_
   rw[ht,qcs,hs]
   simp[show a<3 by omega];omega
 ·obtain rfl:j=l.length:=by omega
  rw[bZ (qag _)]
  simp(disch:=omega)only[↓qXX]
  rw[qbY]at hs
  refine⟨by rw[hs],by trivial⟩
end Go.Am
set_option maxRecDepth 100000
namespace Go.Am
open Sx Tw
def addC(now:List K3)(c:K3):List K3:=if c∈now then now else now++[c]
def covL(p:Sq)(head:Nat)(qs:List Nat)(now:List K3):List K3:=qs.foldl (λn q=>addC n (qc p head q)) now
def ce(L:List Sq):Nat->Sq->Nat->List K3->Bool
 |0,p,head,al=>(List.range 3).any λt=>decide ((covL p head (bg t) al).length=4*L.length)
 |m+1,p,head,al=>(List.range 3).any λt=>decide ((covL p head (bg t) al).length=4*L.length)||((decide (bes p ((head+hdN t)%4)∈L)&&ce L m (bes p ((head+hdN t)%4)) ((head+hdN t)%4) (covL p head (bg t) al))||ce L m p (((head+hdN t)%4+2)%4) (covL p head (bg t) al))
structure InL(L:List Sq)(al:List K3):Prop where
 nd:al.Nodup
 sub:∀a∈al,(a.1,a.2.1)∈L/\a.2.2<4
def addC_ok{L:List Sq}{al:List K3}{c:K3}(h:InL L al)(hc:(c.1,c.2.1)∈L/\c.2.2<4):InL L (addC al c)/\∀a,a∈addC al c↔a∈al∨a=c:=by
 unfold addC
 split
 next hm=>
  exact⟨h,λa=>⟨.inl,λh=>h.elim id λe=>e▸hm⟩⟩
 next hm=>
  refine⟨⟨?_,λa ha=>?_⟩,λa=>by simp⟩
  ·rw[qb6]
   refine⟨h.nd,by simp,λa ha b hb=>?_⟩
   simp only[qak]at hb
   subst hb
   exact λe=>hm (e▸ha)
  ·rcases qay.1 ha with ha|ha
   ·exact h.sub a ha
   ·simp only[qak]at ha
    subst ha;exact hc
def iM{L:List Sq}{p:Sq}{head:Nat}(hp:p∈L):∀(qs:List Nat) {al:List K3},InL L al->InL L (covL p head qs al)/\∀a,a∈covL p head qs al↔a∈al∨∃q,q∈qs/\a=qc p head q
 | [],al,h=>⟨h,λa=>⟨.inl,λh=>h.elim id λ⟨q,hq,_⟩=>by cases hq⟩⟩
 |q :: qs,al,h=>by
  obtain⟨a1,a2⟩:=addC_ok (c:=qc p head q) h ⟨hp,qbj _ (by omega)⟩
  obtain⟨b1,b2⟩:=iM hp qs a1
  refine⟨b1,λa=>(b2 a).trans ?_⟩
  rw[a2]
  constructor
  ·rintro((h|h)|⟨q',hq,e⟩)
   ·exact .inl h
   ·exact .inr ⟨q,qaJ,h⟩
   ·exact .inr ⟨q',qan _ hq,e⟩
  ·rintro(h|⟨q',hq,e⟩)
   ·exact .inl (.inl h)
   ·rcases qaq.1 hq with rfl|hq
    ·exact .inl (.inr e)
    ·exact .inr ⟨q',hq,e⟩
def oe{L:List Sq}{p:Sq}{head t:Nat}(hp:p∈L){al:List K3}(h:InL L al):(λa=>a∈covL p head (bg t) al)=Cv p head t λa=>a∈al:=by
 funext a
 exact propext ((iM hp (bg t) h).2 a)
def all_len{L:List Sq}(hL:L.Nodup){al:List K3}(h:InL L al):al.length=4*L.length↔AllC L λa=>a∈al:=by
 have h1:al.length<=(L.flatMap quad).length:=bM h.nd λa ha=>du.2 (h.sub a ha)
 constructor
 ·intro he a h2 h3
  refine Decidable.byContradiction λhn=>?_
  have:(a :: al).length<=(L.flatMap quad).length:=bM (qbT.2 ⟨hn,h.nd⟩) λb hb=>by
   rcases qaq.1 hb with rfl|hb
   ·exact du.2 ⟨h2,h3⟩
   ·exact du.2 (h.sub b hb)
  rw[eK]at this
  simp only[qa2]at this
  omega
 ·intro ha
  have h2:(L.flatMap quad).length<=al.length:=bM (pn hL) λa hm=>by
   have:=du.1 hm
   exact ha a this.1 this.2
  rw[eK]at h1 h2
  omega
def any3{f:Nat->Bool}:(List.range 3).any f=true↔∃t,t<3/\f t=true:=by
 rw[qc4]
 simp only[qaK]
def iZ{L:List Sq}(hL:L.Nodup):∀(m:Nat) {p:Sq} {head:Nat} {al:List K3},p∈L->InL L al->(ce L m p head al=true↔LP L m p head λa=>a∈al)
 |0,p,head,al,hp,h=>by
  unfold ce LP
  rw[any3]
  refine exists_congr λt=>and_congr_right λ_=>?_
  rw[decide_eq_true_eq,all_len hL (iM hp (bg t) h).1,oe hp h]
 |m+1,p,head,al,hp,h=>by
  unfold ce LP
  rw[any3]
  refine exists_congr λt=>and_congr_right λ_=>?_
  have hc:=(iM (head:=head) hp (bg t) h).1
  rw[qbh,qbh,qaa,decide_eq_true_eq,decide_eq_true_eq,all_len hL hc,oe hp h,iZ hL m hp hc,oe hp h]
  refine or_congr_right (or_congr_left ?_)
  refine and_congr_right λhb=>?_
  rw[iZ hL m hb hc,oe hp h]
end Go.Am
set_option maxRecDepth 100000
set_option maxHeartbeats 8000000
namespace Go.Am
open Sx Go.Proofs Tw
abbrev PlS:={ p:(Sq×Nat)×List Bool // p.2.length=12 }
def mkP(q:Sq)(hd:Nat)(l:List Bool)(hl:l.length=12):PlS:=⟨((q,hd),l),hl⟩
def encP(p:PlS):List Value:=.int .i64 p.1.1.1.1 :: .int .i64 p.1.1.1.2 :: .int .u8 0 :: .int .i64 (Int.ofNat p.1.1.2) :: p.1.2.map .bool
def hQ(p:PlS):(encP p).length=16:=by simp[encP,p.2]
abbrev kkP:List LK:=.i .i64 :: .i .i64 :: .i .u8 :: .i .i64 :: List.replicate 12 .b
def ki(a b:PlS):difK kkP (encP a) (encP b)=some (decide (a=b)):=by
 have e1:cV .i64 .i64=true:=rfl
 have e2:cV .u8 .u8=true:=rfl
 obtain⟨⟨⟨⟨x,y⟩,hd⟩,l⟩,hl⟩:=a
 obtain⟨⟨⟨⟨x',y'⟩,hd'⟩,l'⟩,hl'⟩:=b
 have hl:l.length=12:=hl
 have hl':l'.length=12:=hl'
 have hb:=difK_b l l' (hl.trans hl'.symm)
 rw[hl]at hb
 have e3:decide (Int.ofNat hd=Int.ofNat hd')=decide (hd=hd'):=decide_eq_decide.2 ⟨λh=>qcJ h,λh=>by rw[h]⟩
 unfold kkP encP
 simp only[difK,e1,e2,ox,e3,hb,Subtype.mk.injEq,qbJ]
 by_cases h1:x=x'<;>by_cases h2:y=y'<;>by_cases h3:hd=hd'<;>by_cases h4:l=l'<;>simp[h1,h2,h3,h4]
def hP(a:PlS):∃r,eT kkP (encP a) (encP a)=some r:=by
 have e1:cV .i64 .i64=true:=rfl
 have e2:cV .u8 .u8=true:=rfl
 obtain⟨⟨⟨⟨x,y⟩,hd⟩,l⟩,hl⟩:=a
 have hl:l.length=12:=hl
 have hb:=fastK_b l
 rw[hl]at hb
 unfold kkP encP
 simp only[eT,e1,e2,ox,hb]
 simp
def gX:aggT cc.P 47=some true:=by kernel_rfl
def fY:gk cc.P 10000 47=some kkP:=by kernel_rfl
def list12{l:List Bool}(h:l.length=12):∃b0 b1 b2 b3 b4 b5 b6 b7 b8 b9 b10 b11,l=[b0,b1,b2,b3,b4,b5,b6,b7,b8,b9,b10,b11]:=by
 match l,h with
 | [b0,b1,b2,b3,b4,b5,b6,b7,b8,b9,b10,b11],_=>exact⟨b0,b1,b2,b3,b4,b5,b6,b7,b8,b9,b10,b11,rfl⟩
def cvA(D:List K3)(arr:List Bool):K3->Prop:=λa=>∃i:Nat,D[i]?=some a/\arr[i]?=some true
def cvA_set{D:List K3}(hD:D.Nodup){arr:List Bool}{i:Nat}{a:K3}(hi:D[i]?=some a)(hl:i<arr.length):cvA D (arr.set i true)=λb=>cvA D arr b∨b=a:=by
 funext b
 apply propext
 constructor
 ·rintro⟨j,h1,h2⟩
  by_cases hij:i=j
  ·subst hij
   rw[hi]at h1
   exact .inr (qai h1).symm
  ·rw[qaA hij]at h2
   exact .inl ⟨j,h1,h2⟩
 ·rintro(⟨j,h1,h2⟩|rfl)
  ·by_cases hij:i=j
   ·subst hij
    exact⟨i,h1,qaI hl⟩
   ·exact⟨j,h1,by rw[qaA hij];exact h2⟩
  ·exact⟨i,hi,qaI hl⟩
def sM{D:List K3}{n:Nat}:cvA D (List.replicate n false)=λ_=>False:=by
 funext a
 apply propext
 constructor
 ·rintro⟨i,_,h⟩
  rw[qba]at h
  split at h<;>cases h
 ·exact λh=>h.elim
def SetOf.nd{L:List Sq}{D:List K3}(h:SetOf L D)(hL:L.Nodup):D.Nodup:=h.perm.nodup_iff.2 (pn hL)
def nd_inj{α:Type}{l:List α}(h:l.Nodup){i j:Nat}(hi:i<l.length)(hj:j<l.length)(e:l[i]=l[j]):i=j:=by
 rcases Nat.lt_trichotomy i j with h1|h1|h1
 ·exact absurd e (qcl.1 h i j hi hj h1)
 ·exact h1
 ·exact absurd e.symm (qcl.1 h j i hj hi h1)
def fin_arr{L:List Sq}{D:List K3}(hD:SetOf L D)(hL:L.Nodup){arr:List Bool}(hl:D.length<=arr.length):false∉arr.take D.length↔AllC L (cvA D arr):=by
 constructor
 ·intro h a h1 h2
  obtain⟨i,hi⟩:=qaL (hD.mem.2 ⟨h1,h2⟩)
  have hlt:=aI hi
  obtain⟨b,hb⟩:=bQ (l:=arr) (i:=i) (by omega)
  refine⟨i,hi,?_⟩
  cases b with
  |true=>exact hb
  |false=>exact absurd (qad (i:=i) (by rw[qaN,if_pos hlt];exact hb)) h
 ·intro h hm
  obtain⟨i,hi⟩:=qaL hm
  rw[qaN]at hi
  split at hi
  next hlt=>
   obtain⟨a,ha⟩:=bQ hlt
   have hmem:=hD.mem.1 (qad ha)
   obtain⟨j,h1,h2⟩:=h a hmem.1 hmem.2
   have hij:i=j:=by
    have h3:=aI h1
    rw[qao hlt]at ha
    rw[qao h3]at h1
    exact nd_inj (hD.nd hL) hlt h3 (by rw[qai ha,qai h1])
   subst hij
   rw[hi]at h2
   cases h2
  ·cases hi
def StL(L:List Sq)(k:Nat):Prop:=∃c,c∈L/\LP L k c 0 λ_=>False
def LPp(L:List Sq)(D:List K3)(k:Nat)(p:PlS):Prop:=LP L k p.1.1.1 p.1.1.2 (cvA D p.1.2)
def Bk(L:List Sq)(D:List K3)(m:Nat)(p:PlS):Prop:=∀k,LPp L D k p->StL L (k+m)
def okP(L:List Sq)(p:PlS):Prop:=p.1.1.1∈L/\p.1.1.2<4
def Nm(L:List Sq)(k0:Nat):Prop:=StL L k0/\∀k,k<k0->¬StL L k
def Gk(L:List Sq)(D:List K3)(k:Nat)(next:List PlS):Prop:=∃q,q∈next/\LPp L D k q
structure NxI(L:List Sq)(D:List K3)(mv:Nat)(next seen:List PlS):Prop where
 nx:∀q∈next,okP L q/\Bk L D (mv+1) q
 sn:∀x∈seen,(∃m',m'<=mv/\Bk L D m' x)∨x∈next
section
variable {L:List Sq} {D:List K3} {mv:Nat} {next seen:List PlS}
def NxI.old(h:NxI L D mv next seen){k0 k:Nat}(hk:Nm L k0)(e:k0=mv+(k+1)){x:PlS}(hx:x∈seen)(hl:LPp L D k x):Gk L D k next:=by
 rcases h.sn x hx with⟨m',h1,h2⟩|h1
 ·exact absurd (h2 k hl) (hk.2 _ (by omega))
 ·exact⟨x,h1,hl⟩
def NxI.push(h:NxI L D mv next seen){q:PlS}(hq:okP L q)(hb:Bk L D (mv+1) q):NxI L D mv (next++[q]) (seen++[q]):=by
 refine⟨λx hx=>?_,λx hx=>?_⟩
 ·rcases qay.1 hx with hx|hx
  ·exact h.nx x hx
  ·simp only[qak]at hx
   subst hx;exact⟨hq,hb⟩
 ·rcases qay.1 hx with hx|hx
  ·exact(h.sn x hx).imp_right λh=>qax _ h
  ·exact .inr (qaz _ hx)
def Gk.app{k:Nat}(h:Gk L D k next)(l:List PlS):Gk L D k (next++l):=by
 obtain⟨q,h1,h2⟩:=h
 exact⟨q,qax _ h1,h2⟩
def bk1{p:PlS}(hb:Bk L D mv p){t:Nat}(ht:t<3){q:PlS}(hc:cvA D q.1.2=Cv p.1.1.1 p.1.1.2 t (cvA D p.1.2))(h1:q.1.1.2=(p.1.1.2+hdN t)%4)(h2:q.1.1.1=bes p.1.1.1 ((p.1.1.2+hdN t)%4))(hm:q.1.1.1∈L):Bk L D (mv+1) q:=by
 intro k hk
 unfold LPp at hk
 rw[hc,h1,h2]at hk
 rw[h2]at hm
 have:=hb (k+1) ⟨t,ht,.inr (.inl ⟨hm,hk⟩)⟩
 rw[show k+(mv+1)=k+1+mv by omega]
 exact this
def bk2{p:PlS}(hb:Bk L D mv p){t:Nat}(ht:t<3){q:PlS}(hc:cvA D q.1.2=Cv p.1.1.1 p.1.1.2 t (cvA D p.1.2))(h1:q.1.1.2=((p.1.1.2+hdN t)%4+2)%4)(h2:q.1.1.1=p.1.1.1):Bk L D (mv+1) q:=by
 intro k hk
 unfold LPp at hk
 rw[hc,h1,h2]at hk
 have:=hb (k+1) ⟨t,ht,.inr (.inr hk)⟩
 rw[show k+(mv+1)=k+1+mv by omega]
 exact this
end
structure BS(b:Nat)(D:List K3)(h:HL)(xs x y:Value)(now next seen:List PlS):Prop where
 sl:LsH h xs 3 cc3 D
 sb:∀i,blk xs=some i->i<b
 mp:SetK encP h b seen
 nw:LsH h x 16 encP now
 nwb:∀i,blk x=some i->b<i
 nx:OwnL (b+1) h y 16 encP next
 ne:∀i,blk x=some i->blk y≠some i
 ln:b+1<=h.length
section
variable {b:Nat} {D:List K3} {h:HL} {xs x y:Value} {now next seen:List PlS}
def SetK.keep{h':HL}{id:Nat}{ks:List PlS}(hs:SetK encP h id ks)(hk:∀o,h[id]?=some o->h'[id]?=some o):SetK encP h' id ks:=by
 obtain⟨es,c,h1,h2⟩:=hs
 exact⟨es,c,hk _ h1,h2⟩
def BS.grow(hb:BS b D h xs x y now next seen){h':HL}(hl:Low h.length h h')(hle:h.length<=h'.length):BS b D h' xs x y now next seen:=
 ⟨hb.sl.low hl,hb.sb,SetK.keep hb.mp λo ho=>hl _ _ (aI ho) ho,hb.nw.low hl,hb.nwb,hb.nx.keep λj o ho _=>hl _ _ (aI ho) ho,hb.ne,qbp hb.ln hle⟩
def BS.mark(hb:BS b D h xs x y now next seen){o:HO}{seen':List PlS}(hs:SetK encP (h.set b o) b seen'):BS b D (h.set b o) xs x y now next seen':=by
 have hln:=hb.ln
 refine⟨hb.sl.keep λj o hj hb'=>?_,hb.sb,hs,hb.nw.keep λj o hj hb'=>?_,hb.nwb,hb.nx.keep λj o hj hb'=>?_,hb.ne,by simp;omega⟩
 ·have:=hb.sb j hb'
  exact aW hj (by omega)
 ·have:=hb.nwb j hb'
  exact aW hj (by omega)
 ·have:=(hb.nx.blk hb').1
  exact aW hj (by omega)
def BS.push(hb:BS b D h xs x y now next seen){h':HL}{y':Value}{next':List PlS}(ho:OwnL (b+1) h' y' 16 encP next')(hk:∀(j:Nat) o,h[j]?=some o->blk y≠some j->h'[j]?=some o)(hl:h.length<=h'.length)(hy:blk y'=blk y∨∃j,blk y'=some j/\h.length<=j):BS b D h' xs x y' now next' seen:=by
 have hln:=hb.ln
 have old:∀(j:Nat) o,j<=b->h[j]?=some o->h'[j]?=some o:=λj o hj ho'=>hk j o ho' λe=>by
  have:=(hb.nx.blk e).1
  omega
 refine⟨hb.sl.keep λj o hj hb'=>?_,hb.sb,SetK.keep hb.mp λo ho=>old _ _ (qag _) ho,hb.nw.keep λj o hj hb'=>hk j o hj (hb.ne j hb'),hb.nwb,ho,λi hi e=>?_,by omega⟩
 ·have:=hb.sb j hb'
  exact old _ _ (by omega) hj
 ·rcases hy with hy|⟨j,hy,hj⟩
  ·rw[hy]at e
   exact hb.ne i hi e
  ·rw[hy]at e
   cases e
   have:=hb.nw.blkLt hi
   omega
end
def r_arrset{h:HL}{b i:Nat}{l:List Bool}{K:List Value->HL->Prop}(hb:h[b]?=some (.o (.cells (l.map .bool) 1 true)))(hl:l.length=12)(hi:i<12)(hk:K [] (h.set b (.o (.cells ((l.set i true).map .bool) 1 true)))) :
  P1.opt (idP 12 1 (ptrB b) (Int.ofNat i)) (@hid _ ⟨λx=>P1.chk x (@hid _ ⟨P1.heap (.st x [.bool true]) h (@hid _ ⟨K⟩)⟩)⟩):=by
 refine ax (x:=.pointer (some ⟨b,0+i*1,none⟩)) ?_ (az (by simp[aX,noLoc,aY,bV,bp,aV,ay]) ?_)
 ·show(if 0<=Int.ofNat i/\Int.ofNat i<((12:Nat):Int)then some (Value.pointer (some ⟨b,0+(Int.ofNat i).toNat*1,none⟩))else none)=_
  rw[if_pos ⟨qbi i,by show(i:Int)<((12:Nat):Int);omega⟩]
  rfl
 ·have hrun:(Hp.st (.pointer (some ⟨b,0+i*1,none⟩)) [.bool true]).run (getH aa h) h.length=some ([.set b (.cells ((l.set i true).map .bool) 1 true)],[]):=by
   show stP (.pointer (some ⟨b,0+i*1,none⟩)) [.bool true] (getH aa h) h.length=_
   unfold stP
   simp only
   rw[cq hb]
   simp only
   unfold splice
   rw[if_pos (by simp[hl];omega)]
   have e:(l.map Value.bool).take (0+i*1)++[.bool true]++(l.map Value.bool).drop (0+i*1+[Value.bool true].length)=(l.set i true).map .bool:=by
    rw[show 0+i*1=i by omega]
    rw[List.set_eq_take_append_cons_drop,if_pos (by omega)]
    simp
   rw[e]
   rfl
  exact cf hrun hk
def r_slA{h:HL}{b n:Nat}{l:List Bool}{K:List Value->Prop}(hb:h[b]?=some (.o (.cells (l.map .bool) 1 true)))(hl:l.length=12)(hn:n<=12)(hk:∀v,LsH h v 1 encB (l.take n)->aX v=true->K [v]) :
  P1.peek (.fn (slAG 12 1 (ptrB b) none (some (Int.ofNat n)) none)) h (@hid _ ⟨K⟩):=by
 have hrun:(Pk.fn (slAG 12 1 (ptrB b) none (some (Int.ofNat n)) none)).run (getH aa h)=some [.slice (some ⟨b,0+0*1,tag 1⟩) (n - 0) (12 - 0+1)]:=by
  show slAG 12 1 (ptrB b) none (some (Int.ofNat n)) none (getH aa h)=_
  unfold slAG
  have e1:cR 12 ((none:Option Int).map (.int .i64)) ((some (Int.ofNat n)).map (.int .i64)) ((none:Option Int).map (.int .i64))=some (0,n,12):=by
   unfold cR
   show(if (0:Int)<=0/\(0:Int)<=Int.ofNat n/\Int.ofNat n<=((12:Nat):Int)/\(((12:Nat):Int))<=((12:Nat):Int)/\_ then some ((0:Int).toNat,(Int.ofNat n).toNat,(((12:Nat):Int)).toNat)else none)=_
   rw[if_pos ⟨Int.le_refl _,qbi n,by show(n:Int)<=((12:Nat):Int);omega,Int.le_refl _,.inl rfl⟩]
   rfl
  simp only[e1]
  rw[cq hb]
  simp only
  have e2:(Nat.beq 1 1&&Nat.ble (0+12*1) (l.map Value.bool).length)=true:=by rw[qaG,hl];rfl
  rw[e2]
  simp only[dy]
 have hcut:cut (l.map Value.bool) 0 (12*1)=some (l.map Value.bool):=Sx.cut_all (by rw[qaG,hl])
 have hfm:∀m:List Bool,m.flatMap encB=m.map .bool:=λm=>by
  induction m with
  |nil=>rfl
  |cons a m ih=>rw[qbm,ih];rfl
 have hls:LsH h (.slice (some ⟨b,0+0*1,tag 1⟩) (n - 0) (12 - 0+1)) 1 encB (l.take n):=by
  refine⟨λ_ _=>rfl,bn λ_ _=>rfl,.inr ⟨b,0,13,_,true,?_,hb,?_⟩⟩
  ·rw[qaM,hl,qbL hn]
   rfl
  ·rw[hfm,qaM,hl,qbL hn]
   have:=og hcut (o:=0) (k:=n*1) (by omega)
   rw[qce,qaX]at this
   rw[this,qc3,qbZ]
 exact dF hrun (hk _ hls hls.good)
set_option maxHeartbeats 16000000
def DnI(L:List Sq)(D:List K3)(k0 mv:Nat)(now:List PlS)(j:Nat)(next:List PlS):Prop:=∀(i:Nat),i<j->∀p:PlS,now[i]?=some p->LPp L D (k0 - mv) p->∃k,k0=mv+(k+1)/\Gk L D k next
def DnI.app{L:List Sq}{D:List K3}{k0 mv j:Nat}{now next:List PlS}(h:DnI L D k0 mv now j next)(l:List PlS):DnI L D k0 mv now j (next++l):=λi hi p hp hl=>by
 obtain⟨k,h1,h2⟩:=h i hi p hp hl
 exact⟨k,h1,h2.app l⟩
def SnI(L:List Sq)(D:List K3)(k0 mv:Nat)(sq:Sq)(hd t:Nat)(cov:K3->Prop)(i:Nat)(next:List PlS):Prop:=∀k,k0=mv+(k+1)->
 (0<i->bes sq ((hd+hdN t)%4)∈L->LP L k (bes sq ((hd+hdN t)%4)) ((hd+hdN t)%4) (Cv sq hd t cov)->Gk L D k next)/\(1<i->LP L k sq (((hd+hdN t)%4+2)%4) (Cv sq hd t cov)->Gk L D k next)
def SnI.app{L:List Sq}{D:List K3}{k0 mv hd t i:Nat}{sq:Sq}{cov:K3->Prop}{next:List PlS}(h:SnI L D k0 mv sq hd t cov i next)(l:List PlS):SnI L D k0 mv sq hd t cov i (next++l):=λk e=>⟨λa b c=>((h k e).1 a b c).app l,λa b=>((h k e).2 a b).app l⟩
def TnI(L:List Sq)(D:List K3)(k0 mv:Nat)(sq:Sq)(hd:Nat)(cov:K3->Prop)(t:Nat)(next:List PlS):Prop:=∀t',t'<t->¬AllC L (Cv sq hd t' cov)/\SnI L D k0 mv sq hd t' cov 2 next
def TnI.app{L:List Sq}{D:List K3}{k0 mv hd t:Nat}{sq:Sq}{cov:K3->Prop}{next:List PlS}(h:TnI L D k0 mv sq hd cov t next)(l:List PlS):TnI L D k0 mv sq hd cov t (next++l):=λt' ht=>⟨(h t' ht).1,(h t' ht).2.app l⟩
def il{j:Nat}{K:Int->Prop}(h:j<=1000000000000):P1.ari .add .i64 (Int.ofNat j) 1 (@hid _ ⟨K⟩)=K (Int.ofNat j+1):=
 p_add (by show -9223372036854775808<=(j:Int)+1;omega) (by show(j:Int)+1<=9223372036854775807;omega)
def size48{n:Nat}(h:n<=1000000000000):bO n 48=true:=by
 unfold bO
 rw[qbc (by omega),qbc (by omega)];rfl
def jP(z:Nat):List Value:=[.int .i64 (Int.ofNat z)]
def hO(z:Nat):(jP z).length=1:=rfl
def eV(l:List K3):List PlS:=(l.filter λa=>decide (a.2.2=0)).map λa=>mkP (a.1,a.2.1) 0 (List.replicate 12 false) (by simp)
def quad_lt{t q:Nat}(h:q∈bg t):q<4:=by
 match t,h with
 |0,h=>simp[bg]at h;omega
 |1,h=>simp[bg]at h;omega
 |t+2,h=>simp[bg]at h;omega
def dec_t{p:Prop}{i:Decidable p}(h:p):@decide p i=true:=decide_eq_true h
def dec_f{p:Prop}{i:Decidable p}(h:¬p):@decide p i=false:=decide_eq_false h
def quad_le(t:Nat):(bg t).length<=4:=by
 match t with
 |0=>simp[bg]
 |1=>simp[bg]
 |t+2=>simp[bg]
def lit_ls{h:HL}{l:List Nat}{n cx:Nat}(hn:n=l.length):LsH (h++[HO.o (.cells (l.flatMap jP) 1 true)]) (.slice (some ⟨h.length,0,some 11⟩) n cx) 1 jP l:=by
 subst hn
 have hl:=bn (e:=1) (enc:=jP) (l:=l) λa _=>hO a
 exact⟨λa _=>hO a,hl,.inr ⟨h.length,0,cx,_,true,rfl,aE,Sx.cut_all hl⟩⟩
def pow6{m:Nat}(h:m<=12):3*6 ^ m<=6530347008:=by
 have:=Nat.pow_le_pow_right (n:=6) (by omega) h
 omega
def least_c{H:HL}{x:Value}{L:List Sq}{D:List K3}(hl:LsH H x 3 cc3 D)(hD:SetOf L D)(h0:0<L.length)(hn:L.length<=3)(hnd:L.Nodup)(hcon:Con L)(hb:∀c∈L,(-100<=c.1/\c.1<=100)/\-100<=c.2/\c.2<=100){k0:Nat}(hk0:Nm L k0)(hk1:k0<=12) :
  ∃h',aQ cc ab 6 [.v x] (absH aa H) [.i (Int.ofNat (k0+1)),.i 0] (absH aa h')/\Low H.length H h'/\H.length<=h'.length:=by
 have hDl:=hD.len
 have hDn:=hD.nd hnd
 obtain⟨rs,h',e1,rfl,e2⟩:=x6 (ls:=[.v x]) (H:=H) (K:=λrs h'=>rs=[.i (Int.ofNat (k0+1)),.i 0]/\Low H.length H h'/\H.length<=h'.length) (glsV hl.good gls0) (by
  unfold f6;simp only[qxh]
  simp(disch:=omega)only[↓qXX]
  obtain⟨h1,hcall,hlow1,hle1⟩:=va hl hD h0 (by omega) hnd hcon hb
  refine aG hcall ?_
  clear hcall
  simp(disch:=omega)only[↓qXX]
  rw[p_gtr_f (by show(L.length:Int)<=3;omega)]
  simp(disch:=omega)only[↓qXX]
  have hl1:=hl.low hlow1
  have hl2:LsH (h1++[HO.o (.map [] 0)]) x 3 cc3 D:=hl1.pre ⟨_,rfl⟩
  have hm2:SetK encP (h1++[HO.o (.map [] 0)]) h1.length []:=⟨[],0,aE,rfl,λe he=>by cases he⟩
  have hlow2:Low H.length H (h1++[HO.o (.map [] 0)]):=hlow1.app _
  have hln2:(h1++[HO.o (.map [] 0)]).length=h1.length+1:=by simp
  have hsb:∀i,blk x=some i->i<h1.length:=λi hi=>hl1.blkLt hi
  generalize hbd:h1.length=b at *
  generalize h1++[HO.o (.map [] 0)]=h2 at *
  clear hl1 hlow1 hbd
  refine dc hl2 ?_
  refine bY (σ:=Value×HL) D.length (λj s=>[.v s.1,.i (Int.ofNat j)]) (λ_ s=>s.2) (λj s=>OwnL (b+1) s.2 s.1 16 encP (eV (D.take j))/\Low h2.length h2 s.2/\h2.length<=s.2.length) (j0:=0) (s0:=(.slice none 0 0,h2)) rfl rfl (qaP _) ⟨OwnL.nil _ _ _ _,Low.refl _,qag _⟩ ?_
  rintro j ⟨y,h⟩ hj ⟨ho,hlow,hle⟩ self hself
  simp only at ho hlow hle hself
  simp(disch:=omega)only[↓qXX]
  have hinl:(eV (D.take j)).length<=j:=by
   unfold eV
   rw[qaG]
   exact qbp (qcA _ _) (by rw[qaM];omega)
  by_cases hlt:j<D.length
  ·rw[cb hlt]
   simp(disch:=omega)only[↓qXX]
   obtain⟨a,ha⟩:=bQ hlt
   refine dj (hl2.low hlow) rfl ha ?_
   unfold cc3
   simp(disch:=omega)only[↓qXX]
   have htk:D.take (j+1)=D.take j++[a]:=by
    rw[qbQ,ha];rfl
   refine p_eqlT λt ht=>?_
   refine ip (λl' h'=>∃v',l'=[.v v']/\OwnL (b+1) h' v' 16 encP (eV (D.take (j+1)))/\Low h2.length h2 h'/\h2.length<=h'.length) ?_ ?_
   ·rintro _ h' ⟨v',rfl,b1,b2,b3⟩
    simp(disch:=omega)only[↓qXX]
    rw[cp (by omega)]
    exact hself (v',h') hlt ⟨b1,b2,b3⟩
   ·intro jn hjn
    by_cases hz:a.2.2=0
    ·have e1:eV (D.take (j+1))=eV (D.take j)++[mkP (a.1,a.2.1) 0 (List.replicate 12 false) (by simp)]:=by
      rw[htk]
      unfold eV
      rw[qcs,qbu]
      simp[hz]
     rw[e1]at hjn
     obtain rfl:t=true:=by rw[ht,hz];rfl
     rw[hz]
     simp(disch:=omega)only[↓qXX]
     refine ho.ap1 (a:=mkP (a.1,a.2.1) 0 (List.replicate 12 false) (by simp)) hQ (by omega) rfl rfl rfl (size48 (by omega)) λv' h' b1 b2 b3 b4 b5=>?_
     simp(disch:=omega)only[↓qXX]
     refine az b2 ?_
     simp(disch:=omega)only[↓qXX]
     refine hjn _ _ ⟨v',rfl,b1,λi o hi hoo=>b3 i o (hlow i o hi hoo) λe=>?_,by omega⟩
     have:=ho.blk e
     omega
    ·have e1:eV (D.take (j+1))=eV (D.take j):=by
      rw[htk]
      unfold eV
      rw[qcs,qbu]
      simp[hz]
     rw[e1]at hjn
     obtain rfl:t=false:=by
      rw[ht,decide_eq_false]
      intro e
      exact hz (qcJ e)
     simp(disch:=omega)only[↓qXX]
     exact hjn _ _ ⟨y,rfl,ho,hlow,hle⟩
  ·obtain rfl:j=D.length:=by omega
   rw[bZ (qag _)]
   simp(disch:=omega)only[↓qXX]
   rw[qbY]at ho
   clear hself self
   have hB0:BS b D h x y (.slice none 0 0) (eV D) [] []:=⟨hl2.low hlow,hsb,SetK.keep hm2 λo hoo=>hlow _ _ (aI hoo) hoo,ho.ls hQ,λi hi=>(ho.blk hi).1,OwnL.nil _ _ _ _,λi _ e=>(by cases e),by omega⟩
   have hmemI:∀p∈eV D,p.1.1.1∈L/\p.1.1.2=0/\cvA D p.1.2=λ_=>False:=by
    intro p hp
    unfold eV at hp
    obtain⟨a,ha,rfl⟩:=qaH.1 hp
    exact⟨(hD.mem.1 (qaR.1 ha).1).1,rfl,sM⟩
   have hok0:∀p∈eV D,okP L p/\Bk L D 0 p:=λp hp=>by
    obtain⟨q1,q2,q3⟩:=hmemI p hp
    refine⟨⟨q1,by rw[q2];omega⟩,λk hk=>⟨_,q1,?_⟩⟩
    unfold LPp at hk
    rw[q2,q3]at hk
    exact hk
   have hex0:∃p,p∈eV D/\LPp L D (k0 - 0) p:=by
    obtain⟨c,hc,hLP⟩:=hk0.1
    refine⟨mkP c 0 (List.replicate 12 false) (by simp),?_,?_⟩
    ·unfold eV
     refine qaH.2 ⟨sqC c,qaR.2 ⟨hD.mem.2 ⟨hc,by show 0<4;omega⟩,by simp[sqC]⟩,rfl⟩
    ·show LP L (k0 - 0) c 0 (cvA D (List.replicate 12 false))
     rw[sM]
     exact hLP
   have hlen0:(eV D).length<=3*6 ^ 0:=by
    have h1:((D.filter λa=>decide (a.2.2=0)).map λa=>((a.1,a.2.1):Sq)).length<=L.length:=by
     refine bM ?_ λc hc=>?_
     ·refine List.pairwise_map.2 (List.Pairwise.imp_of_mem ?_ (qcj _ hDn))
      intro u v hu hv hne e
      have hu0:=(qaR.1 hu).2
      have hv0:=(qaR.1 hv).2
      rw[decide_eq_true_eq]at hu0 hv0
      simp only[qbJ]at e
      exact hne (qde e.1 (qde e.2 (by rw[hu0,hv0])))
     ·obtain⟨a,ha,rfl⟩:=qaH.1 hc
      exact(hD.mem.1 (qaR.1 ha).1).1
    unfold eV
    rw[qaG]at h1 ⊢
    omega
   have hlowH:Low H.length H h:=λi o hi hoo=>hlow i o (aI (hlow2 i o hi hoo)) (hlow2 i o hi hoo)
   have hleH:H.length<=h.length:=by omega
   refine ge (m:=k0+1) (λm ls h=>∃(mv:Nat) (y:Value) (now seen:List PlS),ls=[.v y,.i (Int.ofNat (mv+1))]/\m=k0+1 - mv/\mv<=k0/\BS b D h x y (.slice none 0 0) now [] seen/\Low H.length H h/\H.length<=h.length/\(∀p∈now,okP L p/\Bk L D mv p)/\(∃p,p∈now/\LPp L D (k0 - mv) p)/\(∀q∈seen,∃m',m'<=mv/\Bk L D m' q)/\now.length<=3*6 ^ mv) ⟨0,y,eV D,[],rfl,rfl,qaP _,hB0,hlowH,hleH,hok0,hex0,λq hq=>(by cases hq),hlen0⟩ ?_
   clear hB0 hok0 hex0 hlen0 hlowH hleH ho hlow hle hinl hmemI hl2 hm2 hlow2 hln2 hj
   rintro m ls h ⟨mv,y,now,seen,rfl,rfl,hmv,hB,hlow,hle,hok,hex,hsn,hnl⟩ self hself
   have hp6:=pow6 (show mv<=12 by omega)
   refine hidL ?_
   simp(disch:=omega)only[↓qXX]
   refine dc hB.nw ?_
   refine bY (σ:=HL×Value×List PlS×List PlS) now.length (λj s=>[.v s.2.1,.i (Int.ofNat j)]) (λ_ s=>s.1) (λj s=>BS b D s.1 x y s.2.1 now s.2.2.1 s.2.2.2/\Low H.length H s.1/\H.length<=s.1.length/\NxI L D mv s.2.2.1 s.2.2.2/\s.2.2.1.length<=6*j/\DnI L D k0 mv now j s.2.2.1) (j0:=0) (s0:=(h,.slice none 0 0,[],seen)) rfl rfl (qaP _) ⟨hB,hlow,hle,⟨λq hq=>(by cases hq),λq hq=>.inl (hsn q hq)⟩,qaP _,λi hi=>by omega⟩ ?_
   clear hB hlow hle hsn
   rintro j ⟨h,z,next,seen⟩ hj ⟨hB,hlow,hle,hNx,hlen,hDn'⟩ selfj hselfj
   simp only at hB hlow hle hNx hlen hDn' hselfj
   simp(disch:=omega)only[↓qXX]
   by_cases hlt:j<now.length
   case neg=>
    obtain rfl:j=now.length:=by omega
    rw[bZ (qag _)]
    simp(disch:=omega)only[↓qXX]
    rw[il (by omega)]
    obtain⟨p,hp,hpl⟩:=hex
    obtain⟨i,hi⟩:=qaL hp
    obtain⟨k,hk,q,hq,hql⟩:=hDn' i (aI hi) p hi hpl
    refine hself (k0+1 - (mv+1)) _ _ (by omega) ⟨mv+1,z,next,seen,rfl,rfl,by omega,⟨hB.sl,hB.sb,hB.mp,hB.nx.ls hQ,λi hi=>(hB.nx.blk hi).1,OwnL.nil _ _ _ _,λi _ e=>(by cases e),hB.ln⟩,hlow,hle,hNx.nx,⟨q,hq,?_⟩,λu hu=>?_,?_⟩
    ·rw[show k0 - (mv+1)=k by omega]
     exact hql
    ·rcases hNx.sn u hu with⟨m',a1,a2⟩|a1
     ·exact⟨m',by omega,a2⟩
     ·exact⟨mv+1,qag _,(hNx.nx u a1).2⟩
    ·rw[Nat.pow_succ]
     omega
   rw[cb hlt]
   simp(disch:=omega)only[↓qXX]
   obtain⟨p,hp⟩:=bQ hlt
   obtain⟨hpok,hpbk⟩:=hok p (qad hp)
   refine dj hB.nw rfl hp ?_
   obtain⟨⟨⟨sq,hd⟩,arr⟩,harr⟩:=p
   have harr:arr.length=12:=harr
   have hsq:sq∈L:=hpok.1
   have hhd:hd<4:=hpok.2
   have hsqb:=hb sq hsq
   obtain⟨a0,a1,a2,a3,a4,a5,a6,a7,a8,a9,a10,a11,harrE⟩:=list12 harr
   have encE:encP ⟨((sq,hd),arr),harr⟩=[.int .i64 sq.1,.int .i64 sq.2,.int .u8 0,.int .i64 (Int.ofNat hd),.bool a0,.bool a1,.bool a2,.bool a3,.bool a4,.bool a5,.bool a6,.bool a7,.bool a8,.bool a9,.bool a10,.bool a11]:=by
    unfold encP
    simp only[harrE,qap,qa4]
   rw[encE]
   simp(disch:=omega)only[↓qXX]
   have cellsE:([.bool a0,.bool a1,.bool a2,.bool a3,.bool a4,.bool a5,.bool a6,.bool a7,.bool a8,.bool a9,.bool a10,.bool a11]:List Value)=arr.map .bool:=by
    simp only[harrE,qap,qa4]
   refine bY (σ:=HL×Value×List PlS×List PlS) 3 (λt s=>[.v s.2.1,.i (Int.ofNat t)]) (λ_ s=>s.1) (λt s=>BS b D s.1 x y s.2.1 now s.2.2.1 s.2.2.2/\Low H.length H s.1/\H.length<=s.1.length/\NxI L D mv s.2.2.1 s.2.2.2/\s.2.2.1.length<=6*j+2*t/\DnI L D k0 mv now j s.2.2.1/\TnI L D k0 mv sq hd (cvA D arr) t s.2.2.1) (j0:=0) (s0:=(h,z,next,seen)) rfl rfl (qaP _) ⟨hB,hlow,hle,hNx,hlen,hDn',λt' ht=>by omega⟩ ?_
   clear hB hlow hle hNx hlen hDn'
   rintro t ⟨h,z,next,seen⟩ ht ⟨hB,hlow,hle,hNx,hlen,hDn',hTn⟩ selft hselft
   simp only at hB hlow hle hNx hlen hDn' hTn hselft
   simp(disch:=omega)only[↓qXX]
   by_cases ht3:t<3
   case neg=>
    obtain rfl:t=3:=by omega
    rw[p_lss_f (by show(3:Int)<=((3:Nat):Int);omega)]
    simp(disch:=omega)only[↓qXX]
    rw[il (by omega)]
    refine hselfj (h,z,next,seen) hlt ⟨hB,hlow,hle,hNx,by show next.length<=6*(j+1);omega,λi hi p' hp' hl'=>?_⟩
    by_cases hij:i=j
    ·subst hij
     rw[hp]at hp'
     obtain rfl:=qai hp'
     have hl':LP L (k0 - mv) sq hd (cvA D arr):=hl'
     cases hkk:k0 - mv with
     |zero=>
      rw[hkk]at hl'
      obtain⟨t',t1,t2⟩:=hl'
      exact absurd t2 (hTn t' t1).1
     |succ k=>
      rw[hkk]at hl'
      refine⟨k,by omega,?_⟩
      obtain⟨t',t1,t2⟩:=hl'
      have hS:=(hTn t' t1).2 k (by omega)
      rcases t2 with t2|⟨t2,t3⟩|t2
      ·exact absurd t2 (hTn t' t1).1
      ·exact hS.1 (by omega) t2 t3
      ·exact hS.2 (by omega) t2
    ·exact hDn' i (by omega) p' hp' hl'
   rw[p_lss_t (by show(t:Int)<3;omega)]
   simp(disch:=omega)only[↓qXX]
   refine gO aE rfl ?_
   rw[dI,cellsE]
   try simp(disch:=omega)only[↓qXX]
   have base0:∀(G:HL),Low h.length h (h++[HO.o (.cells (arr.map .bool) 1 true)]++G):=λG i o hi hoo=>by
    rw[qaB]
    exact Pre.get ⟨_,rfl⟩ hoo
   have base1:∀(G:HL),(h++[HO.o (.cells (arr.map .bool) 1 true)]++G)[h.length]?=some (.o (.cells (arr.map .bool) 1 true)):=λG=>Pre.get ⟨G,rfl⟩ aE
   refine p_eqlT λtb htb=>?_
   refine ip (λl' h'=>∃qv:Value,l'=[.v qv,.i (Int.ofNat ((hd+hdN t)%4))]/\Low h.length h h'/\h.length<h'.length/\h'[h.length]?=some (.o (.cells (arr.map .bool) 1 true))/\LsH h' qv 1 jP (bg t)/\∀i,blk qv=some i->i≠h.length) ?_ ?_
   case refine_2=>
    intro jn hjn
    have hlenA:(h++[HO.o (.cells (arr.map .bool) 1 true)]).length=h.length+1:=by simp
    have t3:t=0∨t=1∨t=2:=by omega
    rcases t3 with rfl|rfl|rfl
    ·obtain rfl:tb=false:=htb
     simp(disch:=omega)only[↓qXX]
     rw[p_eql_f (by show(0:Int)≠2;omega)]
     simp(disch:=omega)only[↓qXX]
     have e1:Int.ofNat hd=Int.ofNat ((hd+hdN 0)%4):=by
      rw[show(hd+hdN 0)%4=hd by simp only[hdN];omega]
     rw[e1]
     exact hjn _ _ ⟨_,rfl,base0 _,by simp,base1 _,lit_ls (l:=[0,1,2,3]) rfl,λi hi=>by
      rw[hlenA]at hi
      cases hi
      show h.length+1≠h.length
      omega⟩
    ·obtain rfl:tb=true:=htb
     simp(disch:=omega)only[↓qXX]
     rw[cp (by omega),show Int.ofNat hd+1=Int.ofNat (hd+1)from rfl,rem4]
     have hlenB:(h++[HO.o (.cells (arr.map .bool) 1 true)]++[HO.o (.cells [.int .i64 0,.int .i64 1,.int .i64 2,.int .i64 3] 1 true)]).length=h.length+2:=by simp
     refine hjn _ _ ⟨_,rfl,?_,?_,?_,lit_ls (l:=[1,2]) rfl,λi hi=>by
      rw[hlenB]at hi
      cases hi
      show h.length+2≠h.length
      omega⟩
     ·rw[qaB];exact base0 _
     ·simp
     ·rw[qaB];exact base1 _
    ·obtain rfl:tb=false:=htb
     simp(disch:=omega)only[↓qXX]
     rw[p_eql_t (by rfl)]
     simp(disch:=omega)only[↓qXX]
     rw[p_add (by show(-9223372036854775808:Int)<=(hd:Int)+3;omega) (by show(hd:Int)+3<=9223372036854775807;omega),show Int.ofNat hd+3=Int.ofNat (hd+3)from rfl,rem4]
     simp(disch:=omega)only[↓qXX]
     have hlenB:(h++[HO.o (.cells (arr.map .bool) 1 true)]++[HO.o (.cells [.int .i64 0,.int .i64 1,.int .i64 2,.int .i64 3] 1 true)]).length=h.length+2:=by simp
     refine hjn _ _ ⟨_,rfl,?_,?_,?_,lit_ls (l:=[2,3]) rfl,λi hi=>by
      rw[hlenB]at hi
      cases hi
      show h.length+2≠h.length
      omega⟩
     ·rw[qaB];exact base0 _
     ·simp
     ·rw[qaB];exact base1 _
   rintro _ h5 ⟨qv,rfl,hlow5,hlt5,harr5,hq5,hqb5⟩
   have hh4:(hd+hdN t)%4<4:=qbj _ (by omega)
   simp(disch:=omega)only[↓qXX]
   refine dc hq5 ?_
   refine bY (σ:=HL×List Bool) (bg t).length (λi _=>[.i (Int.ofNat i)]) (λ_ s=>s.1) (λi s=>Low h.length h s.1/\h.length<s.1.length/\s.1[h.length]?=some (.o (.cells (s.2.map .bool) 1 true))/\s.2.length=12/\LsH s.1 qv 1 jP (bg t)/\cvA D s.2=λa=>cvA D arr a∨∃q,q∈(bg t).take i/\a=qc sq hd q) (j0:=0) (s0:=(h5,arr)) rfl rfl (qaP _) ⟨hlow5,hlt5,harr5,harr,hq5,by simp⟩ ?_
   rintro i ⟨h6,arr6⟩ hi ⟨l1,l2,l3,l4,l5,l6⟩ self6 hself6
   simp only at l1 l2 l3 l4 l5 l6 hself6
   have hB6:=hB.grow l1 (by omega)
   simp(disch:=omega)only[↓qXX]
   by_cases hlt6:i<(bg t).length
   case pos=>
    have hq44:=quad_le t
    rw[cb hlt6]
    simp(disch:=omega)only[↓qXX]
    obtain⟨q,hq6⟩:=bQ hlt6
    have hq4:=quad_lt (qad hq6)
    refine dj l5 rfl hq6 ?_
    unfold jP
    simp(disch:=omega)only[↓qXX]
    rw[p_add (by show(-9223372036854775808:Int)<=(hd:Int)+(q:Int);omega) (by show(hd:Int)+(q:Int)<=9223372036854775807;omega),show Int.ofNat hd+Int.ofNat q=Int.ofNat (hd+q)from rfl,cp (by omega),show Int.ofNat (hd+q)+1=Int.ofNat (hd+q+1)from rfl,rem4,p_conv8 (by show(0:Int)<=(((hd+q+1)%4:Nat):Int);omega) (by show(((hd+q+1)%4:Nat):Int)<=255;omega)]
    obtain⟨nn,hcall,hnn⟩:=index_c hB6.sl (by omega) (qc sq hd q) (p:=sq.1) (q:=sq.2) (r:=Int.ofNat ((hd+q+1)%4)) ⟨rfl,rfl,rfl⟩
    refine aG hcall ?_
    clear hcall
    simp(disch:=omega)only[↓qXX]
    have hmq:qc sq hd q∈D:=hD.mem.2 ⟨hsq,qbj _ (by omega)⟩
    rcases hnn with⟨_,hnn⟩|⟨i',rfl,hi'⟩
    ·exact absurd hmq hnn
    ·have hi12:i'<12:=by have:=aI hi';omega
     refine r_arrset l3 l4 hi12 ?_
     try simp(disch:=omega)only[↓qXX]
     rw[cp (by omega)]
     refine hself6 (h6.set h.length (.o (.cells ((arr6.set i' true).map .bool) 1 true)),arr6.set i' true) hlt6 ⟨l1.set (qag _) _,by show h.length<(h6.set _ _).length;rw[qb5];exact l2,lu l3,by simp[l4],l5.keep λu o hu hub=>?_,?_⟩
     ·exact aW hu λe=>hqb5 u hub e.symm
     ·show cvA D (arr6.set i' true)=_
      rw[cvA_set hDn hi' (by omega),l6]
      funext a
      apply propext
      rw[qbQ,hq6]
      simp only[qcV,qay,qak]
      constructor
      ·rintro((h|⟨q',h1,h2⟩)|h)
       ·exact .inl h
       ·exact .inr ⟨q',.inl h1,h2⟩
       ·exact .inr ⟨q,.inr rfl,h⟩
      ·rintro(h|⟨q',h1|h1,h2⟩)
       ·exact .inl (.inl h)
       ·exact .inl (.inr ⟨q',h1,h2⟩)
       ·subst h1
        exact .inr h2
   obtain rfl:i=(bg t).length:=by omega
   rw[bZ (qag _)]
   simp(disch:=omega)only[↓qXX]
   rw[qbY]at l6
   have hcv:cvA D arr6=Cv sq hd t (cvA D arr):=l6
   clear hself6 l6
   refine dc hB6.sl ?_
   refine r_slA l3 l4 (by omega) λv hv hgv=>?_
   simp(disch:=omega)only[↓qXX]
   refine az hgv ?_
   simp(disch:=omega)only[↓qXX]
   refine aG (anyF_c hv (by rw[qaM];omega)) ?_
   simp(disch:=omega)only[↓qXX]
   have hfin:=fin_arr hD hnd (arr:=arr6) (by omega)
   by_cases hf:false∈arr6.take D.length
   case neg=>
    rw[decide_eq_false hf]
    simp(disch:=omega)only[↓qXX,qbI]
    have hall:=hfin.1 hf
    rw[hcv]at hall
    have hst:StL L (0+mv):=hpbk 0 ⟨t,ht3,hall⟩
    have hmk:mv=k0:=by
     refine Decidable.byContradiction λhne=>hk0.2 mv (by omega) ?_
     rw[qaD]at hst
     exact hst
    subst hmk
    refine⟨rfl,λi o hi hoo=>l1 i o (aI (hlow i o hi hoo)) (hlow i o hi hoo),by omega⟩
   rw[decide_eq_true hf]
   simp(disch:=omega)only[↓qXX,qaS]
   have hnall:¬AllC L (Cv sq hd t (cvA D arr)):=by
    rw[←hcv]
    exact λh=>hfin.2 h hf
   refine dz (nY (c:=sq) hh4 ⟨by omega,by omega⟩) ?_
   simp(disch:=omega)only[↓qXX]
   obtain⟨c0,c1,c2,c3,c4,c5,c6,c7,c8,c9,c10,c11,harrE6⟩:=list12 l4
   have cells6:arr6.map Value.bool=[.bool c0,.bool c1,.bool c2,.bool c3,.bool c4,.bool c5,.bool c6,.bool c7,.bool c8,.bool c9,.bool c10,.bool c11]:=by
    simp only[harrE6,qap,qa4]
   refine dt (cg l3) (by simp[l4]) ?_
   rw[cells6]
   simp(disch:=omega)only[↓qXX]
   rw[p_add (by show(-9223372036854775808:Int)<=(((hd+hdN t)%4:Nat):Int)+2;omega) (by show(((hd+hdN t)%4:Nat):Int)+2<=9223372036854775807;omega),show Int.ofNat ((hd+hdN t)%4)+2=Int.ofNat ((hd+hdN t)%4+2)from rfl,rem4]
   simp(disch:=omega)only[↓qXX]
   refine dt (cg l3) (by simp[l4]) ?_
   rw[cells6]
   simp(disch:=omega)only[↓qXX]
   have hN6:NxI L D mv next seen:=hNx
   refine bY (σ:=HL×Value×List PlS×List PlS) 2 (λi s=>[.v s.2.1,.i (Int.ofNat i)]) (λ_ s=>s.1) (λi s=>BS b D s.1 x y s.2.1 now s.2.2.1 s.2.2.2/\Low H.length H s.1/\H.length<=s.1.length/\NxI L D mv s.2.2.1 s.2.2.2/\s.2.2.1.length<=6*j+2*t+i/\DnI L D k0 mv now j s.2.2.1/\TnI L D k0 mv sq hd (cvA D arr) t s.2.2.1/\SnI L D k0 mv sq hd t (cvA D arr) i s.2.2.1) (j0:=0) (s0:=(h6,z,next,seen)) rfl rfl (qaP _) ⟨hB6,λi o hi hoo=>l1 i o (aI (hlow i o hi hoo)) (hlow i o hi hoo),by show H.length<=h6.length;omega,hNx,by show next.length<=_;omega,hDn',hTn,λk hk=>⟨λh=>by omega,λh=>by omega⟩⟩ ?_
   clear hB hlow hle hNx hlen hDn' hTn hB6 hN6
   rintro i ⟨h,z,next,seen⟩ hi ⟨hB,hlow,hle,hNx,hlen,hDn',hTn,hSn⟩ self7 hself7
   simp only at hB hlow hle hNx hlen hDn' hTn hSn hself7
   simp(disch:=omega)only[↓qXX]
   by_cases hi2:i<2
   case neg=>
    obtain rfl:i=2:=by omega
    rw[p_lss_f (by show(2:Int)<=((2:Nat):Int);omega)]
    simp(disch:=omega)only[↓qXX]
    rw[il (by omega)]
    refine hselft (h,z,next,seen) ht3 ⟨hB,hlow,hle,hNx,by show next.length<=6*j+2*(t+1);omega,hDn',λt' ht'=>?_⟩
    by_cases htt:t'=t
    ·subst htt
     exact⟨hnall,hSn⟩
    ·exact hTn t' (by omega)
   rw[p_lss_t (by show(i:Int)<2;omega)]
   have hi01:i=0∨i=1:=by omega
   rcases hi01 with rfl|rfl
   ·simp(disch:=omega)only[↓qXX]
    refine ax (x:=()) (by kernel_rfl) ?_
    refine ax (by exact rfl) ?_
    simp(disch:=omega)only[↓qXX]
    refine aG (hasS_c hB.sl (by omega) (sqC (bes sq ((hd+hdN t)%4))) ⟨rfl,rfl,rfl⟩) ?_
    simp(disch:=omega)only[↓qXX]
    have hencq:encP (mkP (bes sq ((hd+hdN t)%4)) ((hd+hdN t)%4) arr6 l4)=[.int .i64 (bes sq ((hd+hdN t)%4)).1,.int .i64 (bes sq ((hd+hdN t)%4)).2,.int .u8 0,.int .i64 (Int.ofNat ((hd+hdN t)%4)),.bool c0,.bool c1,.bool c2,.bool c3,.bool c4,.bool c5,.bool c6,.bool c7,.bool c8,.bool c9,.bool c10,.bool c11]:=by
     unfold encP mkP
     simp only[cells6]
    by_cases hin:(bes sq ((hd+hdN t)%4))∈L
    case neg=>
     rw[decide_eq_false λh=>hin (hD.mem.1 h).1]
     simp(disch:=omega)only[↓qXX]
     rw[il (by omega)]
     refine hself7 (h,z,next,seen) (by omega) ⟨hB,hlow,hle,hNx,by show next.length<=_;omega,hDn',hTn,λk hk=>⟨λ_ h _=>absurd h hin,λh=>by omega⟩⟩
    have hmq:sqC (bes sq ((hd+hdN t)%4))∈D:=hD.mem.2 ⟨hin,by show 0<4;omega⟩
    rw[decide_eq_true hmq]
    simp(disch:=omega)only[↓qXX]
    refine r_luK (kt:=47) encP ki gX fY hP hB.mp (mkP (bes sq ((hd+hdN t)%4)) ((hd+hdN t)%4) arr6 l4) (by rw[hencq]) ?_
    simp(disch:=omega)only[↓qXX]
    by_cases hse:mkP (bes sq ((hd+hdN t)%4)) ((hd+hdN t)%4) arr6 l4∈seen
    ·rw[dec_t hse]
     simp(disch:=omega)only[↓qXX,qaS]
     rw[il (by omega)]
     refine hself7 (h,z,next,seen) (by omega) ⟨hB,hlow,hle,hNx,by show next.length<=_;omega,hDn',hTn,λk hk=>⟨λ_ _ hlp=>hNx.old hk0 hk hse (by show LP L k _ _ (cvA D arr6);rw[hcv];exact hlp),λh=>by omega⟩⟩
    ·rw[dec_f hse]
     simp(disch:=omega)only[↓qXX,qbI]
     refine r_muK (kt:=47) encP ki gX fY hP hB.mp (mkP (bes sq ((hd+hdN t)%4)) ((hd+hdN t)%4) arr6 l4) hse (by rw[hencq]) λo hset=>?_
     have hBm:=hB.mark hset
     simp(disch:=omega)only[↓qXX]
     refine hBm.nx.ap1 (a:=mkP (bes sq ((hd+hdN t)%4)) ((hd+hdN t)%4) arr6 l4) hQ hBm.ln rfl hencq.symm rfl (size48 (by omega)) λy' h' b1 b2 b3 b4 b5=>?_
     simp(disch:=omega)only[↓qXX]
     refine az b2 ?_
     simp(disch:=omega)only[↓qXX]
     rw[il (by omega)]
     have hlow':Low H.length H h':=λi o hi hoo=>b3 i o (aW (hlow i o hi hoo) (by omega)) λe=>by
      have:=(hBm.nx.blk e).1
      omega
     have hln':H.length<=h'.length:=by
      rw[qb5]at b4
      omega
     refine hself7 (h',y',next++[mkP (bes sq ((hd+hdN t)%4)) ((hd+hdN t)%4) arr6 l4],seen++[mkP (bes sq ((hd+hdN t)%4)) ((hd+hdN t)%4) arr6 l4]) (by omega) ⟨hBm.push b1 b3 b4 b5,hlow',hln',hNx.push ⟨hin,hh4⟩ (bk1 hpbk ht3 hcv rfl rfl hin),by show(next++[_]).length<=_;rw[qaF];show next.length+1<=_;omega,hDn'.app _,hTn.app _,λk hk=>⟨λ_ _ hlp=>⟨_,qaz _ (qak.2 rfl),by show LP L k _ _ (cvA D arr6);rw[hcv];exact hlp⟩,λh=>by omega⟩⟩
   ·simp(disch:=omega)only[↓qXX]
    refine ax (x:=()) (by kernel_rfl) ?_
    refine ax (by exact rfl) ?_
    simp(disch:=omega)only[↓qXX]
    refine aG (hasS_c hB.sl (by omega) (sqC sq) ⟨rfl,rfl,rfl⟩) ?_
    simp(disch:=omega)only[↓qXX]
    have hencq:encP (mkP sq (((hd+hdN t)%4+2)%4) arr6 l4)=[.int .i64 sq.1,.int .i64 sq.2,.int .u8 0,.int .i64 (Int.ofNat (((hd+hdN t)%4+2)%4)),.bool c0,.bool c1,.bool c2,.bool c3,.bool c4,.bool c5,.bool c6,.bool c7,.bool c8,.bool c9,.bool c10,.bool c11]:=by
     unfold encP mkP
     simp only[cells6]
    by_cases hin:sq∈L
    case neg=>
     rw[decide_eq_false λh=>hin (hD.mem.1 h).1]
     simp(disch:=omega)only[↓qXX]
     rw[il (by omega)]
     refine hself7 (h,z,next,seen) (by omega) ⟨hB,hlow,hle,hNx,by show next.length<=_;omega,hDn',hTn,λk hk=>absurd hsq hin⟩
    have hmq:sqC sq∈D:=hD.mem.2 ⟨hin,by show 0<4;omega⟩
    rw[decide_eq_true hmq]
    simp(disch:=omega)only[↓qXX]
    refine r_luK (kt:=47) encP ki gX fY hP hB.mp (mkP sq (((hd+hdN t)%4+2)%4) arr6 l4) (by rw[hencq]) ?_
    simp(disch:=omega)only[↓qXX]
    by_cases hse:mkP sq (((hd+hdN t)%4+2)%4) arr6 l4∈seen
    ·rw[dec_t hse]
     simp(disch:=omega)only[↓qXX,qaS]
     rw[il (by omega)]
     refine hself7 (h,z,next,seen) (by omega) ⟨hB,hlow,hle,hNx,by show next.length<=_;omega,hDn',hTn,λk hk=>⟨λ_=>(hSn k hk).1 (by omega),λ_ hlp=>hNx.old hk0 hk hse (by show LP L k _ _ (cvA D arr6);rw[hcv];exact hlp)⟩⟩
    ·rw[dec_f hse]
     simp(disch:=omega)only[↓qXX,qbI]
     refine r_muK (kt:=47) encP ki gX fY hP hB.mp (mkP sq (((hd+hdN t)%4+2)%4) arr6 l4) hse (by rw[hencq]) λo hset=>?_
     have hBm:=hB.mark hset
     simp(disch:=omega)only[↓qXX]
     refine hBm.nx.ap1 (a:=mkP sq (((hd+hdN t)%4+2)%4) arr6 l4) hQ hBm.ln rfl hencq.symm rfl (size48 (by omega)) λy' h' b1 b2 b3 b4 b5=>?_
     simp(disch:=omega)only[↓qXX]
     refine az b2 ?_
     simp(disch:=omega)only[↓qXX]
     rw[il (by omega)]
     have hlow':Low H.length H h':=λi o hi hoo=>b3 i o (aW (hlow i o hi hoo) (by omega)) λe=>by
      have:=(hBm.nx.blk e).1
      omega
     have hln':H.length<=h'.length:=by
      rw[qb5]at b4
      omega
     refine hself7 (h',y',next++[mkP sq (((hd+hdN t)%4+2)%4) arr6 l4],seen++[mkP sq (((hd+hdN t)%4+2)%4) arr6 l4]) (by omega) ⟨hBm.push b1 b3 b4 b5,hlow',hln',hNx.push ⟨hin,qbj _ (by omega)⟩ (bk2 hpbk ht3 hcv rfl rfl),by show(next++[_]).length<=_;rw[qaF];show next.length+1<=_;omega,hDn'.app _,hTn.app _,λk hk=>⟨λ_ a b=>((hSn k hk).1 (by omega) a b).app _,λ_ hlp=>⟨_,qaz _ (qak.2 rfl),by show LP L k _ _ (cvA D arr6);rw[hcv];exact hlp⟩⟩⟩)
 exact⟨h',e1,e2⟩
set_option maxHeartbeats 8000000
def sep_ok{a b:Nat}(h:a≠b):ol [a] [b]=true:=by
 have:Nat.beq a b=false:=by
  cases e:Nat.beq a b with
  |true=>exact absurd (qab e) h
  |false=>rfl
 simp[ol,memN,this]
def lit_at{h:HL}{l:List Int}{j n cx:Nat}{a:Int}(ha:l[j]?=some a)(hn:n=l.length):idS 1 (.slice (some ⟨h.length,0,some 11⟩) n cx) (Int.ofNat j)=some (.pointer (some ⟨h.length,0+j*1,none⟩))/\Ptr (h++[HO.o (.cells (l.map (Value.int .i64)) 1 true)]) (.pointer (some ⟨h.length,0+j*1,none⟩)) [.int .i64 a]:=by
 subst hn
 have hj:=aI ha
 refine⟨?_,h.length,0+j*1,_,1,true,rfl,aE,?_⟩
 ·rw[th]
  have hh:0<=Int.ofNat j/\Int.ofNat j<(l.length:Int):=⟨qbi j,by show(j:Int)<l.length;omega⟩
  simp only[if_pos hh]
  rfl
 ·rw[Sx.cut_some]
  have hj':j<(l.map (Value.int .i64)).length:=by rw[qaG];exact hj
  refine⟨by simp;omega,?_⟩
  rw[show 0+j*1=j by omega,qbl hj']
  have e:(l.map (Value.int .i64))[j] = .int .i64 a:=by
   rw[List.getElem_map]
   rw[qao hj]at ha
   rw[qai ha]
  rw[e]
  rfl
def bes_lit(c:Sq){j:Nat}(hj:j<4):∃a b:Int,([1,0,-1,0]:List Int)[j]?=some a/\([0,1,0,-1]:List Int)[j]?=some b/\(bes c j).1=c.1+a/\(bes c j).2=c.2+b/\(-1<=a/\a<=1)/\-1<=b/\b<=1:=by
 have:j=0∨j=1∨j=2∨j=3:=by omega
 rcases this with rfl|rfl|rfl|rfl
 ·exact⟨1,0,rfl,rfl,rfl,by simp[bes],by omega,by omega⟩
 ·exact⟨0,1,rfl,rfl,by simp[bes],rfl,by omega,by omega⟩
 ·exact⟨-1,0,rfl,rfl,by simp[bes];omega,by simp[bes],by omega,by omega⟩
 ·exact⟨0,-1,rfl,rfl,by simp[bes],by simp[bes];omega,by omega,by omega⟩
end Go.Am
end

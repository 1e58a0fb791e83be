import Derived.Test.YtohglkignnpogaaGreatDoorOR4
set_option linter.all false
noncomputable section
set_option maxRecDepth 100000
set_option maxHeartbeats 16000000
open Int(ofNat)
open List(range)
namespace Go.Am
theorem D'{p:Prop}(h:p:=by trivial):p:=h
namespace Sx
class Bx (j7:Sort _) where
 v:j7
def i'{j7:Sort _} [b:Bx j7]:j7:=b.v
section
variable [DB] [En] {C:m8} {Sg:Td} {T:Tv}
def el{n:Int}{r:TG}{K:Int->TG->Prop}:(PH C Sg T).po (.i n :: r) K=K n r:=rfl
def ih{n:Bool}{r:TG}{K:Bool->TG->Prop}:(PH C Sg T).Fu (.b n :: r) K=K n r:=rfl
def y1{n:TR}{r:TG}{K:TR->TG->Prop}:(PH C Sg T).DK (.v n :: r) K=K n r:=rfl
def sk{K:Prop}:(PH C Sg T).A1 [] K=K:=rfl
def yt{k:TK}{n:Int}{r:Tn}{K:Int->Tn->Prop}:(PH C Sg T).td k (.int k n :: r) K=K n r:=by
 show(k=k/\K n r)=K n r;simp
def x0{n:Bool}{r:Tn}{K:Bool->Tn->Prop}:(PH C Sg T).E7 (.bool n :: r) K=K n r:=rfl
def u2{n:TR}{r:Tn}{K:Ta}:(PH C Sg T).DF (n :: r) K=K n r:=rfl
def o5{K:Prop}:(PH C Sg T).tf [] K=K:=rfl
def PN{X Y:Prop}:(PH C Sg T).cond true X Y=X:=by
 show((true=true->X)/\(true=false->Y))=X;simp
def PM{X Y:Prop}:(PH C Sg T).cond false X Y=Y:=by
 show((false=true->X)/\(false=false->Y))=Y;simp
def Vu{a b:Int}{K:Tp}(h:a<b):(PH C Sg T).cmp .lss a b K=K true:=by
 show K (decide (a<b))=_;rw[Gs h]
def Vt{a b:Int}{K:Tp}(h:b<=a):(PH C Sg T).cmp .lss a b K=K false:=by
 show K (decide (a<b))=_;grind
def Vs{a b:Int}{K:Tp}(h:a<=b):(PH C Sg T).cmp .leq a b K=K true:=by
 show K (decide (a<=b))=_;rw[Gs h]
def Vr{a b:Int}{K:Tp}(h:b<a):(PH C Sg T).cmp .leq a b K=K false:=by
 show K (decide (a<=b))=_;grind
def Vq{a b:Int}{K:Tp}(h:b<a):(PH C Sg T).cmp .gtr a b K=K true:=by
 show K (decide (a > b))=_;rw[Gs h]
def Vp{a b:Int}{K:Tp}(h:a<=b):(PH C Sg T).cmp .gtr a b K=K false:=by
 show K (decide (a > b))=_;grind
def Vo{a b:Int}{K:Tp}(h:b<=a):(PH C Sg T).cmp .geq a b K=K true:=by
 show K (decide (a ≥ b))=_;rw[Gs h]
def Vn{a b:Int}{K:Tp}(h:a<b):(PH C Sg T).cmp .geq a b K=K false:=by
 show K (decide (a ≥ b))=_;grind
def Vk{a b:Int}{K:Tp}(h:a=b):(PH C Sg T).cmp .eql a b K=K true:=by
 show K (a==b)=_;rw[beq_iff_eq.2 h]
def Vj{a b:Int}{K:Tp}(h:a≠b):(PH C Sg T).cmp .eql a b K=K false:=by
 show K (a==b)=_;rw[beq_false_of_ne h]
def Vz{a b:Int}{K:Tp}(h:a≠b):(PH C Sg T).cmp .neq a b K=K true:=by
 show K (a != b)=_;rw[bne_iff_ne.2 h]
def Vy{a b:Int}{K:Tp}(h:a=b):(PH C Sg T).cmp .neq a b K=K false:=by
 show K (a != b)=_;subst h;simp
def A0{a b:Int}{K:Tw}(h1:-9223372036854775808<=a+b)(c:a+b<=9223372036854775807):(PH C Sg T).x6 .add .i64 a b K=K (a+b):=by
 show K (IntKind.wrap .i64 (a+b))=_;rw[db h1 c]
def l6{a b:Int}{K:Tw}(h1:-9223372036854775808<=a - b)(c:a - b<=9223372036854775807):(PH C Sg T).x6 .sub .i64 a b K=K (a - b):=by
 show K (IntKind.wrap .i64 (a - b))=_;rw[db h1 c]
def eM{a b:Int}{K:Tw}(h1:-9223372036854775808<=a*b)(c:a*b<=9223372036854775807):(PH C Sg T).x6 .mul .i64 a b K=K (a*b):=by
 show K (IntKind.wrap .i64 (a*b))=_;rw[db h1 c]
def B9{a b:Int}{K:Tw}(h1:0<=a+b)(c:a+b<=255):(PH C Sg T).x6 .add .u8 a b K=K (a+b):=by
 show K (IntKind.wrap .u8 (a+b))=_;rw[vx h1 c]
def Dm{a b:Int}{K:Tw}(h1:0<=a - b)(c:a - b<=255):(PH C Sg T).x6 .sub .u8 a b K=K (a - b):=by
 show K (IntKind.wrap .u8 (a - b))=_;rw[vx h1 c]
def Dj{a b:Int}{K:Tw}(h1:0<=a*b)(c:a*b<=255):(PH C Sg T).x6 .mul .u8 a b K=K (a*b):=by
 show K (IntKind.wrap .u8 (a*b))=_;rw[vx h1 c]
def Yn{a b:Int}(h:0<=a):a.tdiv b=a / b:=Int.tdiv_eq_ediv_of_nonneg h
def PV{a b:Int}{K:Tw}(h:0<=a)(f:0<b)(c:a<=9223372036854775807):(PH C Sg T).x6 .quo .i64 a b K=K (a / b):=by
 show(b≠0/\K (IntKind.wrap .i64 (a.tdiv b)))=_;have d:a / b<=a:=Int.ediv_le_self b h;have e:0<=a / b:=Int.ediv_nonneg h a_;rw[Yn h,db a_ a_];simp;omega
def PU{a b:Int}{K:Tw}(h:a%b=0)(f:0<b)(h1:-9223372036854775808<=a)(e:a<=9223372036854775807):(PH C Sg T).x6 .quo .i64 a b K=K (a / b):=by
 show(b≠0/\K (IntKind.wrap .i64 (a.tdiv b)))=_;obtain⟨q,rfl⟩:=Int.dvd_of_emod_eq_zero h;rw[Int.mul_tdiv_cancel_left q a_,Int.mul_ediv_cancel_left q a_];have c:-9223372036854775808<=q/\q<=9223372036854775807:=by
  rcases qdu 0 q with d|d
  .have:=qcc (show(1:Int)<=b by omega) d;omega
  .have:=qcc (show(1:Int)<=b by omega) (show 0<=-q by omega)
   grind
 rw[db c.1 c.2];simp;omega
def PW{k:TK}{a b:Int}{K:Tw}(h:0<=a)(c:0<b):(PH C Sg T).x6 .rem k a b K=K (a%b):=by
 show(b≠0/\K (a.tmod b))=_
 grind
def PX{k:TK}{a b:Int}{K:Tw}(h:a<=0)(d:0<b):(PH C Sg T).x6 .rem k a b K=K (-((-a)%b)):=by
 show(b≠0/\K (a.tmod b))=_;have:a.tmod b = -((-a)%b):=by
  have c:=Int.neg_tmod a b
  grind
 grind
def Dg{a:Int}{K:Tw}:(PH C Sg T).x6 .and .i64 a 1 K=K (a%2):=by
 show(((1:Int)=1/\K (a%2))∨((1:Int)≠1/\∃n,tb .and .i64 a 1 n/\K n))=K (a%2);simp
def Dh{a:Int}{K:Tw}(h1:-9223372036854775808<=a)(b:a<=9223372036854775807):(PH C Sg T).conv .i64 a K=K a:=by
 show K (IntKind.wrap .i64 a)=_;rw[db h1 b]
def Vi{a:Int}{K:Tw}(h1:0<=a)(b:a<=255):(PH C Sg T).conv .u8 a K=K a:=by
 show K (IntKind.wrap .u8 a)=_;rw[vx h1 b]
def VD{a b:Int}{K:Tw}:(PH C Sg T).HH true a b K=K a:=rfl
def VB{a b:Int}{K:Tw}:(PH C Sg T).HH false a b K=K b:=rfl
def Y9{j7:Type}{x:j7}{K:j7->Prop}:(PH C Sg T).jw (some x) K=K x:=by
 show(∃y,some x=some y/\K y)=K x;simp
def l4{n:Nat}{i:Int}{K:Unit->Prop}(h1:0<=i)(a:i<(n:Int)):(PH C Sg T).jw (FV n i) K=K ():=by
 rw[show FV n i=some ()from(Q3 n i).trans (qs ⟨h1,a⟩),Y9]
def Di{b:Te}{m:(TG->HL->Prop)->Prop}:(PH C Sg T).join b m=m b:=rfl
def w0{K:Tp}:(PH C Sg T).eqs [] K=K true:=rfl
def Vm{a b:Int}{l:List (Lf×Lf)}{K:Tp}(h:a=b):(PH C Sg T).eqs ((.i a,.i b) :: l) K=(PH C Sg T).eqs l K:=by
 show K (cu _)=K (cu l);subst h;simp[cu,iM]
def Vl{a b:Int}{l:List (Lf×Lf)}{K:Tp}(h:a≠b):(PH C Sg T).eqs ((.i a,.i b) :: l) K=K false:=by
 show K (cu _)=K false;have:(a==b)=false:=beq_false_of_ne h;simp[cu,iM,this]
def AW{F:(TG->HL->Prop)->TG->HL->Prop}{ls:TG}{h:HL}(n:Nat)(a:UP F n ls h):(PH C Sg T).loop F ls h:=⟨n,a⟩
def b_it{F:(TG->HL->Prop)->TG->HL->Prop}{n:Nat}{ls:TG}{h:HL}:UP F (n+1) ls h=F (UP F n) ls h:=rfl
def aj{g:TQ}{ls a:TG}{h:HL}{K:Te}(b:∀H,aF C Sg g ls H a H)(c:K a h):(PH C Sg T).call g ls h (@i' _ ⟨K⟩):=⟨a,h,b _,c⟩
def PO{a b:Bool}{l:List (Lf×Lf)}{K:Tp}(h:a=b):(PH C Sg T).eqs ((.b a,.b b) :: l) K=(PH C Sg T).eqs l K:=by
 show K (cu _)=K (cu l);subst h;simp[cu,iM]
def NE{l:List (Lf×Lf)}{K:Tp}:(PH C Sg T).eqs ((.b true,.b false) :: l) K=K false:=rfl
def ND{l:List (Lf×Lf)}{K:Tp}:(PH C Sg T).eqs ((.b false,.b true) :: l) K=K false:=rfl
def Vw{b:Int}{K:Tw}(h1:-9223372036854775808<=b)(a:b<=9223372036854775807):(PH C Sg T).x6 .mul .i64 1 b K=K b:=by
 show K (IntKind.wrap .i64 (1*b))=_;rw[Int.one_mul,db h1 a]
def Vv{b:Int}{K:Tw}:(PH C Sg T).x6 .mul .i64 0 b K=K 0:=by
 show K (IntKind.wrap .i64 (0*b))=_;rw[Int.zero_mul];rfl
def Vx{b:Int}{K:Tw}(h1:-9223372036854775808<=-b)(a:-b<=9223372036854775807):(PH C Sg T).x6 .mul .i64 (-1) b K=K (-b):=by
 show K (IntKind.wrap .i64 (-1*b))=_;have:(-1*b:Int) = -b:=a_;rw[this,db h1 a]
def PQ{b:Int}{K:Tw}(h1:-9223372036854775808<=b)(a:b<=9223372036854775807):(PH C Sg T).x6 .mul .i64 b 1 K=K b:=by
 show K (IntKind.wrap .i64 (b*1))=_;rw[Int.mul_one,db h1 a]
def PP{b:Int}{K:Tw}:(PH C Sg T).x6 .mul .i64 b 0 K=K 0:=by
 show K (IntKind.wrap .i64 (b*0))=_;rw[Int.mul_zero];rfl
def PT{b:Int}{K:Tw}(h1:-9223372036854775808<=-b)(a:-b<=9223372036854775807):(PH C Sg T).x6 .mul .i64 b (-1) K=K (-b):=by
 show K (IntKind.wrap .i64 (b * -1))=_;have:(b * -1:Int) = -b:=a_;rw[this,db h1 a]
def Vh{b:Int}{K:Tw}(h1:-9223372036854775808<=b)(a:b<=9223372036854775807):(PH C Sg T).x6 .add .i64 0 b K=K b:=by
 show K (IntKind.wrap .i64 (0+b))=_;rw[Int.zero_add,db h1 a]
def PL{b:Int}{K:Tw}(h1:-9223372036854775808<=b)(a:b<=9223372036854775807):(PH C Sg T).x6 .add .i64 b 0 K=K b:=by
 show K (IntKind.wrap .i64 (b+0))=_;rw[Int.add_zero,db h1 a]
def PK{K:Tw}:(PH C Sg T).x6 .add .i64 1 1 K=K 2:=by
 show K (IntKind.wrap .i64 (1+1))=_;rfl
def VA{a:Int}{K:Tw}(h1:-9223372036854775808<=a)(b:a<=9223372036854775807):(PH C Sg T).x6 .quo .i64 a 1 K=K a:=by
 show((1:Int)≠0/\K (IntKind.wrap .i64 (a.tdiv 1)))=_;rw[Int.tdiv_one,db h1 b];simp
def ae{j7:Type}{o:Option j7}{x:j7}{K:j7->Prop}(h:o=some x)(a:K x):(PH C Sg T).jw o (@i' _ ⟨K⟩):=⟨x,h,a⟩
theorem ZE{n:Int}{r:TG}{K:Int->TG->Prop}:(PH C Sg T).po (.i n :: r) (@i' _ ⟨K⟩)=K n r:=el
theorem ZD{n:Bool}{r:TG}{K:Bool->TG->Prop}:(PH C Sg T).Fu (.b n :: r) (@i' _ ⟨K⟩)=K n r:=ih
theorem ZF{n:TR}{r:TG}{K:TR->TG->Prop}:(PH C Sg T).DK (.v n :: r) (@i' _ ⟨K⟩)=K n r:=y1
theorem ZC{K:Prop}:(PH C Sg T).A1 [] (@i' _ ⟨K⟩)=K:=sk
theorem ZA{k:TK}{n:Int}{r:Tn}{K:Int->Tn->Prop}:(PH C Sg T).td k (.int k n :: r) (@i' _ ⟨K⟩)=K n r:=yt
theorem Zz{n:Bool}{r:Tn}{K:Bool->Tn->Prop}:(PH C Sg T).E7 (.bool n :: r) (@i' _ ⟨K⟩)=K n r:=x0
theorem ZB{n:TR}{r:Tn}{K:Ta}:(PH C Sg T).DF (n :: r) (@i' _ ⟨K⟩)=K n r:=u2
theorem Zy{K:Prop}:(PH C Sg T).tf [] (@i' _ ⟨K⟩)=K:=o5
theorem Jt{X Y:Prop}:(PH C Sg T).cond true (@i' _ ⟨X⟩) Y=X:=PN
theorem Js{X Y:Prop}:(PH C Sg T).cond false X (@i' _ ⟨Y⟩)=Y:=PM
theorem ua{a b:Int}{K:Tp}(h:a<b):(PH C Sg T).cmp .lss a b (@i' _ ⟨K⟩)=K true:=Vu h
theorem v_{a b:Int}{K:Tp}(h:b<=a):(PH C Sg T).cmp .lss a b (@i' _ ⟨K⟩)=K false:=Vt h
theorem Xu{a b:Int}{K:Tp}(h:a<=b):(PH C Sg T).cmp .leq a b (@i' _ ⟨K⟩)=K true:=Vs h
theorem Xt{a b:Int}{K:Tp}(h:b<a):(PH C Sg T).cmp .leq a b (@i' _ ⟨K⟩)=K false:=Vr h
theorem DI{a b:Int}{K:Tp}(h:b<a):(PH C Sg T).cmp .gtr a b (@i' _ ⟨K⟩)=K true:=Vq h
theorem CX{a b:Int}{K:Tp}(h:a<=b):(PH C Sg T).cmp .gtr a b (@i' _ ⟨K⟩)=K false:=Vp h
theorem G8{a b:Int}{K:Tp}(h:b<=a):(PH C Sg T).cmp .geq a b (@i' _ ⟨K⟩)=K true:=Vo h
theorem G7{a b:Int}{K:Tp}(h:a<b):(PH C Sg T).cmp .geq a b (@i' _ ⟨K⟩)=K false:=Vn h
theorem t_{a b:Int}{K:Tp}(h:a=b):(PH C Sg T).cmp .eql a b (@i' _ ⟨K⟩)=K true:=Vk h
theorem xk{a b:Int}{K:Tp}(h:a≠b):(PH C Sg T).cmp .eql a b (@i' _ ⟨K⟩)=K false:=Vj h
theorem D0{a b:Int}{K:Tp}(h:a≠b):(PH C Sg T).cmp .neq a b (@i' _ ⟨K⟩)=K true:=Vz h
theorem DZ{a b:Int}{K:Tp}(h:a=b):(PH C Sg T).cmp .neq a b (@i' _ ⟨K⟩)=K false:=Vy h
theorem Gi{a b:Int}{K:Tw}(h1:-9223372036854775808<=a+b)(c:a+b<=9223372036854775807):(PH C Sg T).x6 .add .i64 a b (@i' _ ⟨K⟩)=K (a+b):=A0 h1 c
theorem Hw{a b:Int}{K:Tw}(h1:-9223372036854775808<=a - b)(c:a - b<=9223372036854775807):(PH C Sg T).x6 .sub .i64 a b (@i' _ ⟨K⟩)=K (a - b):=l6 h1 c
theorem Ht{a b:Int}{K:Tw}(h1:-9223372036854775808<=a*b)(c:a*b<=9223372036854775807):(PH C Sg T).x6 .mul .i64 a b (@i' _ ⟨K⟩)=K (a*b):=eM h1 c
theorem KB{a b:Int}{K:Tw}(h1:0<=a+b)(c:a+b<=255):(PH C Sg T).x6 .add .u8 a b (@i' _ ⟨K⟩)=K (a+b):=B9 h1 c
theorem f0{a b:Int}{K:Tw}(h1:0<=a - b)(c:a - b<=255):(PH C Sg T).x6 .sub .u8 a b (@i' _ ⟨K⟩)=K (a - b):=Dm h1 c
theorem r6{a b:Int}{K:Tw}(h1:0<=a*b)(c:a*b<=255):(PH C Sg T).x6 .mul .u8 a b (@i' _ ⟨K⟩)=K (a*b):=Dj h1 c
theorem Hu{a b:Int}{K:Tw}(h:0<=a)(d:0<b)(c:a<=9223372036854775807):(PH C Sg T).x6 .quo .i64 a b (@i' _ ⟨K⟩)=K (a / b):=PV h d c
theorem R8{a b:Int}{K:Tw}(h:a%b=0)(d:0<b)(h1:-9223372036854775808<=a)(c:a<=9223372036854775807):(PH C Sg T).x6 .quo .i64 a b (@i' _ ⟨K⟩)=K (a / b):=PU h d h1 c
theorem Gj{k:TK}{a b:Int}{K:Tw}(h:0<=a)(c:0<b):(PH C Sg T).x6 .rem k a b (@i' _ ⟨K⟩)=K (a%b):=PW h c
theorem Hv{k:TK}{a b:Int}{K:Tw}(h:a<=0)(c:0<b):(PH C Sg T).x6 .rem k a b (@i' _ ⟨K⟩)=K (-((-a)%b)):=PX h c
theorem v4{a:Int}{K:Tw}:(PH C Sg T).x6 .and .i64 a 1 (@i' _ ⟨K⟩)=K (a%2):=Dg
theorem R1{a:Int}{K:Tw}(h1:-9223372036854775808<=a)(b:a<=9223372036854775807):(PH C Sg T).conv .i64 a (@i' _ ⟨K⟩)=K a:=Dh h1 b
theorem Xq{a:Int}{K:Tw}(h1:0<=a)(b:a<=255):(PH C Sg T).conv .u8 a (@i' _ ⟨K⟩)=K a:=Vi h1 b
theorem MH{a b:Int}{K:Tw}:(PH C Sg T).HH true a b (@i' _ ⟨K⟩)=K a:=VD
theorem MG{a b:Int}{K:Tw}:(PH C Sg T).HH false a b (@i' _ ⟨K⟩)=K b:=VB
theorem Zx{j7:Type}{x:j7}{K:j7->Prop}:(PH C Sg T).jw (some x) (@i' _ ⟨K⟩)=K x:=Y9
theorem MF{n:Nat}{i:Int}{K:Unit->Prop}(h1:0<=i)(a:i<(n:Int)):(PH C Sg T).jw (FV n i) (@i' _ ⟨K⟩)=K ():=l4 h1 a
theorem i0{b:Te}{m:(TG->HL->Prop)->Prop}:(PH C Sg T).join (@i' _ ⟨b⟩) (@i' _ ⟨m⟩)=m (@i' _ ⟨b⟩):=Di
theorem C8{K:Tp}:(PH C Sg T).eqs [] (@i' _ ⟨K⟩)=K true:=w0
theorem Xs{a b:Int}{l:List (Lf×Lf)}{K:Tp}(h:a=b):(PH C Sg T).eqs ((.i a,.i b) :: l) (@i' _ ⟨K⟩)=(PH C Sg T).eqs l (@i' _ ⟨K⟩):=Vm h
theorem Xr{a b:Int}{l:List (Lf×Lf)}{K:Tp}(h:a≠b):(PH C Sg T).eqs ((.i a,.i b) :: l) (@i' _ ⟨K⟩)=K false:=Vl h
theorem hj{F:(TG->HL->Prop)->TG->HL->Prop}{n:Nat}{ls:TG}{h:HL}:UP (@i' _ ⟨F⟩) (n+1) ls h=F (UP (@i' _ ⟨F⟩) n) ls h:=b_it
theorem Ju{a b:Bool}{l:List (Lf×Lf)}{K:Tp}(h:a=b):(PH C Sg T).eqs ((.b a,.b b) :: l) (@i' _ ⟨K⟩)=(PH C Sg T).eqs l (@i' _ ⟨K⟩):=PO h
theorem OK{l:List (Lf×Lf)}{K:Tp}:(PH C Sg T).eqs ((.b true,.b false) :: l) (@i' _ ⟨K⟩)=K false:=NE
theorem OJ{l:List (Lf×Lf)}{K:Tp}:(PH C Sg T).eqs ((.b false,.b true) :: l) (@i' _ ⟨K⟩)=K false:=ND
theorem Xw{b:Int}{K:Tw}(h1:-9223372036854775808<=b)(a:b<=9223372036854775807):(PH C Sg T).x6 .mul .i64 1 b (@i' _ ⟨K⟩)=K b:=Vw h1 a
theorem Xv{b:Int}{K:Tw}:(PH C Sg T).x6 .mul .i64 0 b (@i' _ ⟨K⟩)=K 0:=Vv
theorem Xx{b:Int}{K:Tw}(h1:-9223372036854775808<=-b)(a:-b<=9223372036854775807):(PH C Sg T).x6 .mul .i64 (-1) b (@i' _ ⟨K⟩)=K (-b):=Vx h1 a
theorem R6{b:Int}{K:Tw}(h1:-9223372036854775808<=b)(a:b<=9223372036854775807):(PH C Sg T).x6 .mul .i64 b 1 (@i' _ ⟨K⟩)=K b:=PQ h1 a
theorem R5{b:Int}{K:Tw}:(PH C Sg T).x6 .mul .i64 b 0 (@i' _ ⟨K⟩)=K 0:=PP
theorem R7{b:Int}{K:Tw}(h1:-9223372036854775808<=-b)(a:-b<=9223372036854775807):(PH C Sg T).x6 .mul .i64 b (-1) (@i' _ ⟨K⟩)=K (-b):=PT h1 a
theorem Xo{b:Int}{K:Tw}(h1:-9223372036854775808<=b)(a:b<=9223372036854775807):(PH C Sg T).x6 .add .i64 0 b (@i' _ ⟨K⟩)=K b:=Vh h1 a
theorem R0{b:Int}{K:Tw}(h1:-9223372036854775808<=b)(a:b<=9223372036854775807):(PH C Sg T).x6 .add .i64 b 0 (@i' _ ⟨K⟩)=K b:=PL h1 a
theorem RZ{K:Tw}:(PH C Sg T).x6 .add .i64 1 1 (@i' _ ⟨K⟩)=K 2:=PK
theorem Xz{a:Int}{K:Tw}(h1:-9223372036854775808<=a)(b:a<=9223372036854775807):(PH C Sg T).x6 .quo .i64 a 1 (@i' _ ⟨K⟩)=K a:=VA h1 b
theorem R4{f:Te}{a:TG}{b:HL}:@i' _ ⟨f⟩ a b=f a b:=rfl
theorem Hs{a b c d:Int}{K:Tp}(h:¬(a=c/\b=d)):(PH C Sg T).eqs [(.i a,.i c),(.i b,.i d)] (@i' _ ⟨K⟩)=K false:=by
 show K (cu _)=K false;have:cu [(.i a,.i c),(.i b,.i d)]=false:=by
  rw[qcK];simpa[cu,iM]using h
 rw[this]
theorem R2{a b c d e f:Int}{K:Tp}(h:¬(a=d/\b=e/\c=f)):(PH C Sg T).eqs [(.i a,.i d),(.i b,.i e),(.i c,.i f)] (@i' _ ⟨K⟩)=K false:=by
 show K (cu _)=K false;have:cu [(.i a,.i d),(.i b,.i e),(.i c,.i f)]=false:=by
  rw[qcK];simpa[cu,iM]using h
 rw[this]
def ak{g:TQ}{ls a:TG}{h h':HL}{K:Te}(b:aF C Sg g ls (h9 T h) a (h9 T h'))(c:K a h'):(PH C Sg T).call g ls h (@i' _ ⟨K⟩):=⟨a,h',b,c⟩
def tF{g:TQ}{sg:H7}{ls d:TG}{H H':Tu}(h:aF C Sg g ls H d H')(i:Sg g=some sg)(xs:List S0)(h1:cJ xs sg.ps=true)(f:cV xs=ls) :
  xJ C (.func (.func g) #[] #[]) (ao xs) sg.rs H d H':=by
 obtain⟨j,l,m,a,b,e,c⟩:=h;rw[i]at a;cases a;obtain⟨k,_⟩:=dd b.1 h1 (b.2.1.trans f.symm);rw[k]at c;exact⟨m,e,.inl ⟨g,#[],#[],rfl,by simpa using c⟩⟩
def jt{v:TR}{args:Tn}{b:TN}{a:TG}{h h':HL}{K:Te}(c:xJ C v args b (h9 T h) a (h9 T h'))(d:K a h'):(PH C Sg T).Dw v args b h (@i' _ ⟨K⟩):=⟨a,h',c,d⟩
theorem Zw{o:s_}{h:HL}{K:Nat->HL->Prop}:(PH C Sg T).new o h (@i' _ ⟨K⟩)=K h.length (h++[.o o]):=rfl
def ab{v:TR}{K:Prop}(h:aI v=true)(a:K):(PH C Sg T).n4 v (@i' _ ⟨K⟩):=⟨h,a⟩
def bH{f:Hp}{h:HL}{K:Tb}{a:List DL}{cs:Tn}(e:f.run (s7 T h) h.length=some (a,cs))(b:K cs (bG h a)):(PH C Sg T).heap f h (@i' _ ⟨K⟩):=⟨a,cs,e,b⟩
def dH{f:Pk}{h:HL}{K:Tf}{cs:Tn}(e:f.run (s7 T h)=some cs)(a:K cs):(PH C Sg T).ma f h (@i' _ ⟨K⟩):=⟨cs,e,a⟩
def pxs(C:m8)(Sg:Td)(T:Tv):=And.intro @R4 (And.intro (@Zw _ _ C Sg T) (And.intro (@ZE _ _ C Sg T) (And.intro (@ZD _ _ C Sg T) (And.intro (@ZF _ _ C Sg T) (And.intro (@ZC _ _ C Sg T) (And.intro (@ZA _ _ C Sg T) (And.intro (@Zz _ _ C Sg T) (And.intro (@ZB _ _ C Sg T) (And.intro (@Zy _ _ C Sg T) (And.intro (@Jt _ _ C Sg T) (And.intro (@Js _ _ C Sg T) (And.intro (@Zx _ _ C Sg T) (And.intro (@MF _ _ C Sg T) (And.intro (@i0 _ _ C Sg T) (And.intro (@MH _ _ C Sg T) (And.intro (@MG _ _ C Sg T) ((@hj))))))))))))))))))
def pxc(C:m8)(Sg:Td)(T:Tv):=And.intro (@ua _ _ C Sg T) (And.intro (@v_ _ _ C Sg T) (And.intro (@Xu _ _ C Sg T) (And.intro (@Xt _ _ C Sg T) (And.intro (@DI _ _ C Sg T) (And.intro (@CX _ _ C Sg T) (And.intro (@G8 _ _ C Sg T) (And.intro (@G7 _ _ C Sg T) (And.intro (@t_ _ _ C Sg T) (And.intro (@xk _ _ C Sg T) (And.intro (@D0 _ _ C Sg T) (And.intro (@DZ _ _ C Sg T) (And.intro (@C8 _ _ C Sg T) (And.intro (@Xs _ _ C Sg T) (And.intro (@Xr _ _ C Sg T) (And.intro (@Hs _ _ C Sg T) (And.intro (@R2 _ _ C Sg T) (And.intro (@Ju _ _ C Sg T) (And.intro (@OK _ _ C Sg T) ((@OJ _ _ C Sg T))))))))))))))))))))
def pxa(C:m8)(Sg:Td)(T:Tv):=And.intro (@Xw _ _ C Sg T) (And.intro (@Xv _ _ C Sg T) (And.intro (@Xx _ _ C Sg T) (And.intro (@R6 _ _ C Sg T) (And.intro (@R5 _ _ C Sg T) (And.intro (@R7 _ _ C Sg T) (And.intro (@Xo _ _ C Sg T) (And.intro (@R0 _ _ C Sg T) (And.intro (@RZ _ _ C Sg T) (And.intro (@Xz _ _ C Sg T) (And.intro (@Gi _ _ C Sg T) (And.intro (@Hw _ _ C Sg T) (And.intro (@Ht _ _ C Sg T) (And.intro (@KB _ _ C Sg T) (And.intro (@f0 _ _ C Sg T) (And.intro (@r6 _ _ C Sg T) (And.intro (@Hu _ _ C Sg T) (And.intro (@R8 _ _ C Sg T) (And.intro (@Gj _ _ C Sg T) (And.intro (@Hv _ _ C Sg T) (And.intro (@v4 _ _ C Sg T) (And.intro (@R1 _ _ C Sg T) ((@Xq _ _ C Sg T)))))))))))))))))))))))
end
end Sx
namespace Sx
section
variable [DB] [En]
variable {C:m8} {Sg:Td} {T:Tv}
def wv{h:HL}{l a:Nat}{st:LoopState}{b:Tm}{vs:Tn}(e:h[l]?=some (.lp a st b vs)):fg (h9 T h) l=some { FC (T a) a vs with state:=st,pending:=b }:=by
 unfold fg h9;rw[FM,e];rfl
def NA(h:HL)(o:HO):h9 T (h++[o])=h9 T h++[F1 T o]:=by simp[h9]
def R9{g:TQ}{first cap:Tl}{k:Nat}{b:Tn}{h h1:HL}{ls s:TG}{K:Tm->HL->Prop}{c:Nat}{st:LoopState}{d:Tm}{vs:Tn}{sg:H7}{xs:List S0}
  (o:aF C Sg g ls (h9 T (h++[.lp k .ready none b])) s (h9 T h1)) (r:Sg g=some sg) (l:cJ xs sg.ps=true) (m:cV xs=ls) (n:ao xs=first.toList++[.func (.yield h.length) #[] #[]]++cap.toList)
  (q:h1[h.length]?=some (.lp c st d vs)) (e:st≠.busy) (p:K d (h1.set h.length (.lp c .exhausted d vs))):(PH C Sg T).Ft k (.func (.func g) first cap) b h (@i' _ ⟨K⟩):=by
 obtain⟨t,v,w,f,i,x,j⟩:=o;rw[r]at f;cases f;have a:(h9 T h).length=h.length:=jD T h;obtain⟨u,_⟩:=dd i.1 l (i.2.1.trans m.symm);rw[u,n,NA]at j;refine⟨g,first,cap,gM (ao w),h9 T h1,{ FC (T c) c vs with state:=st,pending:=d },h1.set h.length (.lp c .exhausted d vs),rfl,?_,?_,e,?_,p⟩
 .rw[a];exact j
 .rw[a];exact wv q
 .rw[a];simp[h9,F1,qc9]
def iP{h:HL}{l:Nat}{o:HO}:h9 T (h.set l o)=(h9 T h).set l (F1 T o):=by
 unfold h9;rw[qc9]
def r1{l a:Nat}{b:Tm}{vs:Tn}{h:HL}{K:HL->Prop}(d:h[l]?=some (.lp a .ready b vs))(c:K (h.set l (.lp a .busy b vs))):(PH C Sg T).JW l h (@i' _ ⟨K⟩):=
 ⟨{ FC (T a) a vs with state:=.ready,pending:=b },h.set l (.lp a .busy b vs),wv d,rfl,iP,c⟩
def r2{l a:Nat}{st:LoopState}{b:Tm}{vs:Tn}{h:HL}{K:HL->Prop}(d:h[l]?=some (.lp a st b vs))(c:K (h.set l (.lp a .ready none vs))):(PH C Sg T).HU l none h (@i' _ ⟨K⟩):=
 ⟨{ FC (T a) a vs with state:=st,pending:=b },h.set l (.lp a .ready none vs),wv d,iP,c⟩
def Xp{l:Nat}{ys:List S0}{b:Bool}{h h':HL}{K:Te}(e:iK C l (ao ys) (h9 T h) (.bool b) (h9 T h'))(d:K [.b b] h'):(PH C Sg T).Dw (.func (.yield l) #[] #[]) (ao ys) [.leaf .b] h (@i' _ ⟨K⟩):=
 ⟨[.b b],h',⟨[.leaf (.b b)],⟨rfl,rfl,λx a=>by
  simp only[GM]at a;subst a;intro y c;simp only[S0.cells,GM]at c;subst c;trivial⟩,.inr ⟨l,rfl,e⟩⟩,d⟩
end
end Sx
namespace Sx
open Go.Proofs
def hA(A:Dv Prop HL):Dv Prop HL where
 fail:=A.fail
 cond b x y:=A.cond b (@i' _ ⟨x⟩) (@i' _ ⟨y⟩)
 x6 o k a b K:=A.x6 o k a b (@i' _ ⟨K⟩)
 HB o k a l b K:=A.HB o k a l b (@i' _ ⟨K⟩)
 cmp o a b K:=A.cmp o a b (@i' _ ⟨K⟩)
 eqs l K:=A.eqs l (@i' _ ⟨K⟩)
 conv k a K:=A.conv k a (@i' _ ⟨K⟩)
 HH t a b K:=A.HH t a b (@i' _ ⟨K⟩)
 jw o K:=A.jw o (@i' _ ⟨K⟩)
 n4 v x:=A.n4 v (@i' _ ⟨x⟩)
 po l K:=A.po l (@i' _ ⟨K⟩)
 Fu l K:=A.Fu l (@i' _ ⟨K⟩)
 DK l K:=A.DK l (@i' _ ⟨K⟩)
 A1 l x:=A.A1 l (@i' _ ⟨x⟩)
 td k l K:=A.td k l (@i' _ ⟨K⟩)
 E7 l K:=A.E7 l (@i' _ ⟨K⟩)
 DF l K:=A.DF l (@i' _ ⟨K⟩)
 tf l x:=A.tf l (@i' _ ⟨x⟩)
 ma f h K:=A.ma f h (@i' _ ⟨K⟩)
 heap f h K:=A.heap f h (@i' _ ⟨K⟩)
 new o h K:=A.new o h (@i' _ ⟨K⟩)
 call g l h K:=A.call g l h (@i' _ ⟨K⟩)
 Dw v a s h K:=A.Dw v a s h (@i' _ ⟨K⟩)
 join b m:=A.join (@i' _ ⟨b⟩) (@i' _ ⟨m⟩)
 loop F l h:=A.loop (@i' _ ⟨F⟩) l h
 Ft n v a h K:=A.Ft n v a h (@i' _ ⟨K⟩)
 Fg o x y l:=A.Fg o (@i' _ ⟨x⟩) (@i' _ ⟨y⟩) l
 JW n h K:=A.JW n h (@i' _ ⟨K⟩)
 HU n o h K:=A.HU n o h (@i' _ ⟨K⟩)
def QT(A:Dv Prop HL):hA A=A:=rfl
section
variable {A:Dv Prop HL}
theorem iX{b:Bool}{x y:Prop}:(hA A).cond b x y=A.cond b (@i' _ ⟨x⟩) (@i' _ ⟨y⟩):=rfl
theorem u1{o:BinOp}{k:TK}{a b:Int}{K:Tw}:(hA A).x6 o k a b K=A.x6 o k a b (@i' _ ⟨K⟩):=rfl
theorem hI{o:BinOp}{k l:TK}{a b:Int}{K:Tw}:(hA A).HB o k a l b K=A.HB o k a l b (@i' _ ⟨K⟩):=rfl
theorem s4{o:BinOp}{a b:Int}{K:Tp}:(hA A).cmp o a b K=A.cmp o a b (@i' _ ⟨K⟩):=rfl
theorem hP{l:List (Lf×Lf)}{K:Tp}:(hA A).eqs l K=A.eqs l (@i' _ ⟨K⟩):=rfl
theorem T1{k:TK}{a:Int}{K:Tw}:(hA A).conv k a K=A.conv k a (@i' _ ⟨K⟩):=rfl
theorem hC{t:Bool}{a b:Int}{K:Tw}:(hA A).HH t a b K=A.HH t a b (@i' _ ⟨K⟩):=rfl
theorem cT{j7:Type}{o:Option j7}{K:j7->Prop}:(hA A).jw o K=A.jw o (@i' _ ⟨K⟩):=rfl
theorem p'{v:TR}{x:Prop}:(hA A).n4 v x=A.n4 v (@i' _ ⟨x⟩):=rfl
theorem l3{l:TG}{K:Int->TG->Prop}:(hA A).po l K=A.po l (@i' _ ⟨K⟩):=rfl
theorem c8{l:TG}{K:Bool->TG->Prop}:(hA A).Fu l K=A.Fu l (@i' _ ⟨K⟩):=rfl
theorem r3{l:TG}{K:TR->TG->Prop}:(hA A).DK l K=A.DK l (@i' _ ⟨K⟩):=rfl
theorem d3{l:TG}{x:Prop}:(hA A).A1 l x=A.A1 l (@i' _ ⟨x⟩):=rfl
theorem v2{k:TK}{l:Tn}{K:Int->Tn->Prop}:(hA A).td k l K=A.td k l (@i' _ ⟨K⟩):=rfl
theorem v1{l:Tn}{K:Bool->Tn->Prop}:(hA A).E7 l K=A.E7 l (@i' _ ⟨K⟩):=rfl
theorem z1{l:Tn}{K:Ta}:(hA A).DF l K=A.DF l (@i' _ ⟨K⟩):=rfl
theorem j2{l:Tn}{x:Prop}:(hA A).tf l x=A.tf l (@i' _ ⟨x⟩):=rfl
theorem rm{f:Pk}{h:HL}{K:Tf}:(hA A).ma f h K=A.ma f h (@i' _ ⟨K⟩):=rfl
theorem O0{f:Hp}{h:HL}{K:Tb}:(hA A).heap f h K=A.heap f h (@i' _ ⟨K⟩):=rfl
theorem cC{o:s_}{h:HL}{K:Nat->HL->Prop}:(hA A).new o h K=A.new o h (@i' _ ⟨K⟩):=rfl
theorem A3{g:TQ}{l:TG}{h:HL}{K:Te}:(hA A).call g l h K=A.call g l h (@i' _ ⟨K⟩):=rfl
theorem Wy{v:TR}{a:Tn}{s:TN}{h:HL}{K:Te}:(hA A).Dw v a s h K=A.Dw v a s h (@i' _ ⟨K⟩):=rfl
theorem B1{b:Te}{m:(TG->HL->Prop)->Prop}:(hA A).join b m=A.join (@i' _ ⟨b⟩) (@i' _ ⟨m⟩):=rfl
theorem pb{F:(TG->HL->Prop)->TG->HL->Prop}{l:TG}{h:HL}:(hA A).loop F l h=A.loop (@i' _ ⟨F⟩) l h:=rfl
theorem j'{n:Nat}{v:TR}{a:Tn}{h:HL}{K:Tm->HL->Prop}:(hA A).Ft n v a h K=A.Ft n v a h (@i' _ ⟨K⟩):=rfl
theorem H2{o:Tm}{x y:Prop}{l:List (Nat×Prop)}:(hA A).Fg o x y l=A.Fg o (@i' _ ⟨x⟩) (@i' _ ⟨y⟩) l:=rfl
theorem cy{n:Nat}{h:HL}{K:HL->Prop}:(hA A).JW n h K=A.JW n h (@i' _ ⟨K⟩):=rfl
theorem cA{n:Nat}{o:Tm}{h:HL}{K:HL->Prop}:(hA A).HU n o h K=A.HU n o h (@i' _ ⟨K⟩):=rfl
end
def pxh(A:Dv Prop HL):=And.intro (@iX A) (And.intro (@u1 A) (And.intro (@hI A) (And.intro (@s4 A) (And.intro (@hP A) (And.intro (@T1 A) (And.intro (@hC A) (And.intro (@cT A) (And.intro (@p' A) (And.intro (@l3 A) (And.intro (@c8 A) (And.intro (@r3 A) (And.intro (@d3 A) (And.intro (@v2 A) (And.intro (@v1 A) (And.intro (@z1 A) (And.intro (@j2 A) (And.intro (@rm A) (And.intro (@O0 A) (And.intro (@cC A) (And.intro (@A3 A) (And.intro (@Wy A) (And.intro (@B1 A) (And.intro (@pb A) (And.intro (@j' A) (And.intro (@H2 A) (And.intro (@cy A) ((@cA A))))))))))))))))))))))))))))
end Sx
end Go.Am
namespace Go.Am
open Sx Go.Proofs
def Ww(g:Nat)(vs:Tn)(h:cc.G g=some vs):vs.all bg=true:=by
 unfold cc at h;simp only at h;split at h<;>first|(cases h;done)|(obtain rfl:=EI h;kernel_rfl)
abbrev P1:Dv Prop HL:=PH cc ac aa
abbrev Cc(g:TQ)(ls a:TG):Prop:=∀H,aF cc ac g ls H a H
def n'{f:TQ}{c:Fn1}(i:HI (xc f) ac f c){ls:TG}{H:HL}{K:Te}(b:kj ls=true)
  (h:aw P1 (xc f) ac Kd c ls H K):∃a H',aF cc ac f ls (h9 aa H) a (h9 aa H')/\K a H':=by
 obtain⟨a,g,d,_,e⟩:=tU (X:=xc f) (holds:=id) (abs:=h9 aa) (Py cc ac aa) vO i (gQ b) h;exact⟨a,g,d,e⟩
def np{f:TQ}{c:Fn1}(i:HI (xc f) ac f c){ls:TG}{H:HL}{K:Te}(b:eo ls)
  (h:aw P1 (xc f) ac Kd c ls H K):∃a H',aF cc ac f ls (h9 aa H) a (h9 aa H')/\K a H':=by
 obtain⟨a,g,d,_,e⟩:=tU (X:=xc f) (holds:=id) (abs:=h9 aa) (Py cc ac aa) vO i b h;exact⟨a,g,d,e⟩
def t0:eo []:=λ_ h=>by cases h
def mc{n:Int}{ls:TG}(h:eo ls):eo (.i n :: ls):=λl a=>by
 rcases EL.1 a with rfl|a
 .trivial
 .exact h l a
def Jg{n:Bool}{ls:TG}(h:eo ls):eo (.b n :: ls):=λl a=>by
 rcases EL.1 a with rfl|a
 .trivial
 .exact h l a
def pP{x:TR}{ls:TG}(b:aI x=true)(h:eo ls):eo (.v x :: ls):=λl a=>by
 rcases EL.1 a with rfl|a
 .exact b
 .exact h l a
abbrev FP:=List Lf->HL->(TG->HL->Prop)->Prop
abbrev UG(k:TQ)(p:FP):Prop:=∀ {ls:TG} {H:HL} {K:Te},kj ls=true->p ls H K->∃a H',aF cc ac k ls (h9 aa H) a (h9 aa H')/\K a H'
abbrev XG(k:TQ)(p:FP):Prop:=∀ {ls:TG} {H:HL} {K:Te},eo ls->p ls H K->∃a H',aF cc ac k ls (h9 aa H) a (h9 aa H')/\K a H'
abbrev QG(k:TQ)(p:FP):Prop:=∀ {ls b:TG},kj ls=true->p ls [] (λa _=>a=b)->Cc k ls b
abbrev YG(k:Nat)(p:Tn->Nat->FP):Prop:=∀ {vs:Tn} {a:Nat} {ls:TG} {H:HL} {K:Te} {st:LoopState} {c:Tm} {ys:List S0},H[a]?=some (.lp k st c vs)->Told ((aa k).params.map (·.2)) ls ys->p vs a ls H K->∃b H',iK cc a (ao ys) (h9 aa H) (.bool b) (h9 aa H')/\K [.b b] H'
def uu{k:TQ}{c:Fn1}{f:{R a:Type}->Dv R a->TG->a->(TG->a->R)->R}(d:HI (xc k) ac k c)(e:@f=λR a A ls h K=>aw A (xc k) ac Kd c ls h K):UG k (f (hA P1)):=by
 intro ls H K b h;rw[QT,e]at h;exact n' d b h
def xx{k:TQ}{c:Fn1}{f:{R a:Type}->Dv R a->TG->a->(TG->a->R)->R}(d:HI (xc k) ac k c)(e:@f=λR a A ls h K=>aw A (xc k) ac Kd c ls h K):XG k (f (hA P1)):=by
 intro ls H K b h;rw[QT,e]at h;exact np d b h
def qq{k:TQ}{sg:H7}{p:FP}(e:UG k p)(d:ac k=some sg)(c:sg.plain=true):QG k p:=λa h=>by
 obtain⟨_,_,b,rfl⟩:=e a h;exact Zb GT qk d c b
def yy{k:Nat}{f:{R a:Type}->Dv R a->Tn->Nat->TG->a->(TG->a->R)->R}(e:@f=λR a A vs b ls h K=>vW A (xc 0) ac Kd (aa k) vs b ls h K):YG k (f (hA P1)):=by
 intro vs b ls H K i g j c d h;rw[QT,e]at h;exact zY (X:=xc 0) (Py cc ac aa) vO (wv c) rfl rfl rfl rfl d h
def qxs:=pxs cc ac aa
def ub:=And.intro (qeq (hA P1)) (pxh P1)
def qxc:=pxc cc ac aa
def qxa:=pxa cc ac aa
def n9:=And.intro qxs (And.intro qxc qxa)
def e_{P Q:Prop}(k:Q)(h:P=Q:=by simp(disch:=omega)only[↓n9];exact rfl):P:=Eq.mpr h k
def k_{P Q:Prop}(k:Q)(h:P=Q:=by first|(simp(disch:=omega)only[↓n9];exact rfl)|exact rfl):P:=Eq.mpr h k
def x3:XG 3 (f3 (hA P1)):=xx i3 e3
def x4:XG 4 (f4 (hA P1)):=xx i4 e4
def x5:XG 5 (f5 (hA P1)):=xx i5 e5
def u6:UG 6 (f6 (hA P1)):=uu i6 e6
def q6:QG 6 (f6 (hA P1)):=qq u6 rfl d_
def x7:XG 7 (f7 (hA P1)):=xx i7 e7
def x9:XG 9 (f9 (hA P1)):=xx i9 e9
def x10:XG 10 (f10 (hA P1)):=xx i10 e10
def x11:XG 11 (f11 (hA P1)):=xx i11 e11
def u12:UG 12 (f12 (hA P1)):=uu i12 e12
def q12:QG 12 (f12 (hA P1)):=qq u12 rfl d_
def u14:UG 14 (f14 (hA P1)):=uu i14 e14
def q14:QG 14 (f14 (hA P1)):=qq u14 rfl d_
def x15:XG 15 (f15 (hA P1)):=xx i15 e15
def u16:UG 16 (f16 (hA P1)):=uu i16 e16
def q16:QG 16 (f16 (hA P1)):=qq u16 rfl d_
def u17:UG 17 (Zd (hA P1)):=uu i17 e17
def q17:QG 17 (Zd (hA P1)):=qq u17 rfl d_
def u18:UG 18 (f18 (hA P1)):=uu i18 e18
def q18:QG 18 (f18 (hA P1)):=qq u18 rfl d_
def u21:UG 21 (f21 (hA P1)):=uu i21 e21
def x22:XG 22 (f22 (hA P1)):=xx i22 e22
def x23:XG 23 (f23 (hA P1)):=xx i23 e23
def x24:XG 24 (f24 (hA P1)):=xx i24 e24
def x25:XG 25 (f25 (hA P1)):=xx i25 e25
def x26:XG 26 (f26 (hA P1)):=xx i26 e26
def Yt:XG 27 (f27 (hA P1)):=xx i27 e27
def u28:UG 28 (f28 (hA P1)):=uu i28 e28
def q28:QG 28 (f28 (hA P1)):=qq u28 rfl d_
def u29:UG 29 (f29 (hA P1)):=uu i29 e29
def q29:QG 29 (f29 (hA P1)):=qq u29 rfl d_
def u31:UG 31 (f31 (hA P1)):=uu i31 e31
def q31:QG 31 (f31 (hA P1)):=qq u31 rfl d_
def u32:UG 32 (f32 (hA P1)):=uu i32 e32
def q32:QG 32 (f32 (hA P1)):=qq u32 rfl d_
def x33:XG 33 (f33 (hA P1)):=xx i33 e33
def x36:XG 36 (f36 (hA P1)):=xx i36 e36
def u37:UG 37 (f37 (hA P1)):=uu i37 e37
def q37:QG 37 (f37 (hA P1)):=qq u37 rfl d_
def u38:UG 38 (f38 (hA P1)):=uu i38 e38
def q38:QG 38 (f38 (hA P1)):=qq u38 rfl d_
def u39:UG 39 (f39 (hA P1)):=uu i39 e39
def q39:QG 39 (f39 (hA P1)):=qq u39 rfl d_
def u40:UG 40 (f40 (hA P1)):=uu i40 e40
def q40:QG 40 (f40 (hA P1)):=qq u40 rfl d_
def x41:XG 41 (f41 (hA P1)):=xx i41 e41
def x42:XG 42 (f42 (hA P1)):=xx i42 e42
def x44:XG 44 (f44 (hA P1)):=xx i44 e44
def x45:XG 45 (f45 (hA P1)):=xx i45 e45
def u47:UG 47 (f47 (hA P1)):=uu i47 e47
def q47:QG 47 (f47 (hA P1)):=qq u47 rfl d_
def x48:XG 48 (f48 (hA P1)):=xx i48 e48
def x49:XG 49 (f49 (hA P1)):=xx i49 e49
def x50:XG 50 (f50 (hA P1)):=xx i50 e50
def x51:XG 51 (f51 (hA P1)):=xx i51 e51
def x52:XG 52 (f52 (hA P1)):=xx i52 e52
def x53:XG 53 (f53 (hA P1)):=xx i53 e53
def x54:XG 54 (f54 (hA P1)):=xx i54 e54
def x55:XG 55 (f55 (hA P1)):=xx i55 e55
def u56:UG 56 (f56 (hA P1)):=uu i56 e56
def q56:QG 56 (f56 (hA P1)):=qq u56 rfl d_
def u57:UG 57 (f57 (hA P1)):=uu i57 e57
def q57:QG 57 (f57 (hA P1)):=qq u57 rfl d_
def u58:UG 58 (f58 (hA P1)):=uu i58 e58
def q58:QG 58 (f58 (hA P1)):=qq u58 rfl d_
def x59:XG 59 (f59 (hA P1)):=xx i59 e59
def x69:XG 69 (f69 (hA P1)):=xx i69 e69
def u71:UG 71 (f71 (hA P1)):=uu i71 e71
def q71:QG 71 (f71 (hA P1)):=qq u71 rfl d_
def u72:UG 72 (f72 (hA P1)):=uu i72 e72
def q72:QG 72 (f72 (hA P1)):=qq u72 rfl d_
def u73:UG 73 (f73 (hA P1)):=uu i73 e73
def q73:QG 73 (f73 (hA P1)):=qq u73 rfl d_
def u74:UG 74 (f74 (hA P1)):=uu i74 e74
def q74:QG 74 (f74 (hA P1)):=qq u74 rfl d_
def u75:UG 75 (f75 (hA P1)):=uu i75 e75
def q75:QG 75 (f75 (hA P1)):=qq u75 rfl d_
def u76:UG 76 (f76 (hA P1)):=uu i76 e76
def q76:QG 76 (f76 (hA P1)):=qq u76 rfl d_
def u77:UG 77 (f77 (hA P1)):=uu i77 e77
def q77:QG 77 (f77 (hA P1)):=qq u77 rfl d_
def x78:XG 78 (f78 (hA P1)):=xx i78 e78
def x80:XG 80 (f80 (hA P1)):=xx i80 e80
def x81:XG 81 (f81 (hA P1)):=xx i81 e81
def u82:UG 82 (f82 (hA P1)):=uu i82 e82
def q82:QG 82 (f82 (hA P1)):=qq u82 rfl d_
def x83:XG 83 (f83 (hA P1)):=xx i83 e83
def x84:XG 84 (f84 (hA P1)):=xx i84 e84
def u85:UG 85 (f85 (hA P1)):=uu i85 e85
def q85:QG 85 (f85 (hA P1)):=qq u85 rfl d_
def x86:XG 86 (f86 (hA P1)):=xx i86 e86
def x87:XG 87 (f87 (hA P1)):=xx i87 e87
def x88:XG 88 (f88 (hA P1)):=xx i88 e88
def x89:XG 89 (f89 (hA P1)):=xx i89 e89
def x90:XG 90 (f90 (hA P1)):=xx i90 e90
def x91:XG 91 (f91 (hA P1)):=xx i91 e91
def x92:XG 92 (f92 (hA P1)):=xx i92 e92
def x93:XG 93 (f93 (hA P1)):=xx i93 e93
def x94:XG 94 (f94 (hA P1)):=xx i94 e94
def u102:UG 102 (Ux (hA P1)):=uu i102 e102
def q102:QG 102 (Ux (hA P1)):=qq u102 rfl d_
def u103:UG 103 (Uy (hA P1)):=uu i103 e103
def q103:QG 103 (Uy (hA P1)):=qq u103 rfl d_
def u104:UG 104 (Uq (hA P1)):=uu i104 e104
def q104:QG 104 (Uq (hA P1)):=qq u104 rfl d_
def x105:XG 105 (Wh (hA P1)):=xx i105 e105
def u106:UG 106 (Ur (hA P1)):=uu i106 e106
def q106:QG 106 (Ur (hA P1)):=qq u106 rfl d_
def u115:UG 115 (Uz (hA P1)):=uu i115 e115
def q115:QG 115 (Uz (hA P1)):=qq u115 rfl d_
def u116:UG 116 (UA (hA P1)):=uu i116 e116
def q116:QG 116 (UA (hA P1)):=qq u116 rfl d_
def x117:XG 117 (Wi (hA P1)):=xx i117 e117
def x118:XG 118 (Wj (hA P1)):=xx i118 e118
def Ys:XG 119 (Wk (hA P1)):=xx i119 e119
def u121:UG 121 (Us (hA P1)):=uu i121 e121
def q121:QG 121 (Us (hA P1)):=qq u121 rfl d_
def Uw:XG 122 (Wl (hA P1)):=xx i122 e122
def FS:XG 124 (Wm (hA P1)):=xx i124 e124
def u126:UG 126 (UB (hA P1)):=uu i126 e126
def q126:QG 126 (UB (hA P1)):=qq u126 rfl d_
def u127:UG 127 (UC (hA P1)):=uu i127 e127
def q127:QG 127 (UC (hA P1)):=qq u127 rfl d_
def u128:UG 128 (Ut (hA P1)):=uu i128 e128
def q128:QG 128 (Ut (hA P1)):=qq u128 rfl d_
def u134:UG 134 (UD (hA P1)):=uu i134 e134
def q134:QG 134 (UD (hA P1)):=qq u134 rfl d_
def u135:UG 135 (UE (hA P1)):=uu i135 e135
def q135:QG 135 (UE (hA P1)):=qq u135 rfl d_
def u136:UG 136 (UF (hA P1)):=uu i136 e136
def q136:QG 136 (UF (hA P1)):=qq u136 rfl d_
def x137:XG 137 (Wn (hA P1)):=xx i137 e137
def u140:UG 140 (UH (hA P1)):=uu i140 e140
def q140:QG 140 (UH (hA P1)):=qq u140 rfl d_
def u142:UG 142 (UI (hA P1)):=uu i142 e142
def q142:QG 142 (UI (hA P1)):=qq u142 rfl d_
def x143:XG 143 (Wo (hA P1)):=xx i143 e143
def u144:UG 144 (UJ (hA P1)):=uu i144 e144
def q144:QG 144 (UJ (hA P1)):=qq u144 rfl d_
def xy160:YG 160 (y160 (hA P1)):=yy m3
def xK{k:TQ}{p:FP}(c:XG k p){ls R:TG}{H H':HL}(b:eo ls)(h:p ls H λa h'=>a=R/\h'=H'):aF cc ac k ls (h9 aa H) R (h9 aa H'):=by
 grind
end Go.Am
namespace Go.Am
namespace Sx
def gz{vs:Tn}{off n:Nat}{cs:Tn}:cut vs off n=some cs↔off+n<=vs.length/\(vs.drop off).take n=cs:=by
 unfold cut
 simp_all
def mG{vs:Tn}{off n:Nat}{cs:Tn}(h:cut vs off n=some cs){o k:Nat}(b:o+k<=n):cut vs (off+o) k=some ((cs.drop o).take k):=by
 obtain⟨a,rfl⟩:=gz.1 h;refine gz.2 ⟨a_,?_⟩;rw[List.drop_take,B0,List.take_take,XS a_]
def vd{vs:Tn}{n:Nat}(h:vs.length=n):cut vs 0 n=some vs:=gz.2 ⟨a_,i_⟩
def u_(h0 h:HL):Prop:=∃G,h=h0++G
theorem u_.refl(h:HL):u_ h h:=⟨[],c_⟩
def u_.trans{a b c:HL}(h:u_ a b)(k:u_ b c):u_ a c:=by
 obtain⟨G,rfl⟩:=h;obtain⟨d,rfl⟩:=k;exact⟨G++d,c_⟩
def u_.Gq{a b:HL}(h:u_ a b)(G:HL):u_ a (b++G):=h.trans ⟨G,rfl⟩
def u_.len{a b:HL}(h:u_ a b):a.length<=b.length:=by obtain⟨G,rfl⟩:=h;simp
def u_.get{a b:HL}(h:u_ a b){i:Nat}{o:HO}(c:a[i]?=some o):b[i]?=some o:=by
 obtain⟨G,rfl⟩:=h
 grind
def u_.set{a b:HL}(h:u_ a b){i:Nat}(c:a.length<=i)(o:HO):u_ a (b.set i o):=by
 obtain⟨G,rfl⟩:=h;rw[g3 _ _ c];exact⟨_,rfl⟩
def HJ(h:HL)(p:Value)(cs:Tn):Prop:=∃id o vs e rw,p = .pointer (some ⟨id,o,none⟩)/\h[id]?=some (.o (.cells vs e rw))/\cut vs o cs.length=some cs
def He(h:HL)(v:Value)(e n:Nat)(cs:Tn):Prop:=
 cs.length=n*e/\((v = .slice none 0 0/\n=0)∨∃id off cx vs rw,v = .slice (some ⟨id,off,le e⟩) n cx/\h[id]?=some (.o (.cells vs e rw))/\cut vs off (n*e)=some cs)
def q9{j7:Type}(h:HL)(v:Value)(e:Nat)(enc:j7->Tn)(l:List j7):Prop:=(∀a∈l,(enc a).length=e)/\He h v e l.length (l.flatMap enc)
def Mk(n0:Nat)(h:HL)(v:Value)(e n:Nat)(cs:Tn):Prop:=
 cs.length=n*e/\((v = .slice none 0 0/\n=0)∨∃id,n0<=id/\v = .slice (some ⟨id,0,le e⟩) n 0/\h[id]?=some (.o (.cells cs e true)))
def MkL{j7:Type}(n0:Nat)(h:HL)(v:Value)(e:Nat)(enc:j7->Tn)(l:List j7):Prop:=(∀a∈l,(enc a).length=e)/\Mk n0 h v e l.length (l.flatMap enc)
def g_:Value->Option Nat
 | .slice (some a) _ _=>some a.block
 |_=>none
def He.ka{h h':HL}{v:TR}{e n:Nat}{cs:Tn}(l:He h v e n cs)(k:∀(j:Nat) o,h[j]?=some o->g_ v=some j->h'[j]?=some o):He h' v e n cs:=by
 obtain⟨c,f|⟨id,a,d,m,b,rfl,g,i⟩⟩:=l
 .exact⟨c,.inl f⟩
 .exact⟨c,.inr ⟨id,a,d,m,b,rfl,k _ _ g rfl,i⟩⟩
def He.pre{h h':HL}{v:TR}{e n:Nat}{cs:Tn}(b:He h v e n cs)(a:u_ h h'):He h' v e n cs:=b.ka λ_ _ h _=>a.get h
def q9.ka{j7:Type}{h h':HL}{v:TR}{e:Nat}{enc:j7->Tn}{l:List j7}(a:q9 h v e enc l)(b:∀(j:Nat) o,h[j]?=some o->g_ v=some j->h'[j]?=some o):q9 h' v e enc l:=⟨a.1,a.2.ka b⟩
def q9.pre{j7:Type}{h h':HL}{v:TR}{e:Nat}{enc:j7->Tn}{l:List j7}(a:q9 h v e enc l)(b:u_ h h'):q9 h' v e enc l:=⟨a.1,a.2.pre b⟩
def He.len{h:HL}{v:TR}{e n:Nat}{cs:Tn}(a:He h v e n cs):HR v=some (.ofNat n):=by
 obtain⟨_,⟨rfl,rfl⟩|⟨id,b,d,f,c,rfl,_⟩⟩:=a<;>rfl
def q9.len{j7:Type}{h:HL}{v:TR}{e:Nat}{enc:j7->Tn}{l:List j7}(a:q9 h v e enc l):HR v=some (.ofNat l.length):=a.2.len
def Mk.sl{n0:Nat}{h:HL}{v:TR}{e n:Nat}{cs:Tn}(d:Mk n0 h v e n cs):He h v e n cs:=by
 obtain⟨a,b|⟨id,_,rfl,c⟩⟩:=d
 .exact⟨a,.inl b⟩
 .exact⟨a,.inr ⟨id,0,0,cs,true,rfl,c,vd a⟩⟩
def MkL.ls{j7:Type}{n0:Nat}{h:HL}{v:TR}{e:Nat}{enc:j7->Tn}{l:List j7}(a:MkL n0 h v e enc l):q9 h v e enc l:=⟨a.1,a.2.sl⟩
def Mk.nil(n0:Nat)(h:HL)(e:Nat):Mk n0 h (.slice none 0 0) e 0 []:=⟨c_,.inl ⟨rfl,rfl⟩⟩
def MkL.nil{j7:Type}(n0:Nat)(h:HL)(e:Nat)(enc:j7->Tn):MkL n0 h (.slice none 0 0) e enc []:=⟨c_,Mk.nil n0 h e⟩
def q9.nil{j7:Type}(h:HL)(e:Nat)(enc:j7->Tn):q9 h (.slice none 0 0) e enc []:=(MkL.nil 0 h e enc).ls
def Mk.ka{n0:Nat}{h h':HL}{v:TR}{e n:Nat}{cs:Tn}(f:Mk n0 h v e n cs)(d:∀(j:Nat) o,h[j]?=some o->g_ v=some j->h'[j]?=some o):Mk n0 h' v e n cs:=by
 obtain⟨b,a|⟨id,a,rfl,c⟩⟩:=f
 .exact⟨b,.inl a⟩
 .exact⟨b,.inr ⟨id,a,rfl,d _ _ c rfl⟩⟩
def Mk.pre{n0:Nat}{h h':HL}{v:TR}{e n:Nat}{cs:Tn}(b:Mk n0 h v e n cs)(a:u_ h h'):Mk n0 h' v e n cs:=b.ka λ_ _ h _=>a.get h
def aM{j7:Type}{e:Nat}{enc:j7->Tn}:∀ {l:List j7},(∀a∈l,(enc a).length=e)->(l.flatMap enc).length=l.length*e
 | [],_=>c_
 |a :: l,h=>by
  rw[UY,HY,h a KG,aM λb c=>h b (FZ _ c),ZJ,KJ,U1,Nat.add_comm]
def mN{j7:Type}{e:Nat}{enc:j7->Tn}:∀ {l:List j7},(∀a∈l,(enc a).length=e)->∀ {i:Nat} {a:j7},l[i]?=some a->((l.flatMap enc).drop (i*e)).take e=enc a
 |b :: l,h,0,a,c=>by
  simp_all
 |b :: l,h,i+1,a,c=>by
  simp only[bm]at c;have d:=h b KG;have:=mN (λb d=>h b (FZ _ d)) c;rw[UY,KJ,U1,←this];have f:i*e+e=(enc b).length+i*e:=a_;rw[f,d5,h7 a_,EG,qdp]
 | [],_,_,_,c=>by simp at c
def He.at{h:HL}{v:TR}{e n:Nat}{cs:Tn}(j:He h v e n cs){i:Nat}(q:i<n):∃p,B_ e v (.ofNat i)=some p/\HJ h p ((cs.drop (i*e)).take e):=by
 obtain⟨m,⟨rfl,rfl⟩|⟨id,a,l,k,c,rfl,d,f⟩⟩:=j
 .omega
 .have b:i*e+e<=n*e:=by
   have:=Pn e (show i+1<=n by omega)
   grind
  refine⟨.pointer (some ⟨id,a+i*e,none⟩),?_,id,a+i*e,k,e,c,rfl,d,?_⟩
  .rw[qr];have g:0<=ofNat i/\ofNat i<(n:Int):=⟨G9 i,j_⟩;simp only[qs g];have:¬(le e=some 1):=by simp[le]
   simp_all
  .have o:=mG f b
   grind
def q9.at{j7:Type}{h:HL}{v:TR}{e:Nat}{enc:j7->Tn}{l:List j7}(d:q9 h v e enc l){i:Nat}{a:j7}(g:l[i]?=some a):∃p,B_ e v (.ofNat i)=some p/\HJ h p (enc a):=by
 have b:i<l.length:=by
  grind
 obtain⟨p,f,c⟩:=d.2.at b;rw[mN d.1 g]at c;exact⟨p,f,c⟩
def HJ.fd{h:HL}{p:TR}{cs:Tn}(g:HJ h p cs)(o k:Nat)(f:o+k<=cs.length):∃b,Eu o p=some b/\HJ h b ((cs.drop o).take k):=by
 obtain⟨id,i,j,e,a,rfl,c,d⟩:=g;refine⟨_,rfl,id,i+o,j,e,a,rfl,c,?_⟩;have l:=mG d f
 grind
section
variable [DB] [En]
def bB{T:Tv}{h:HL}{i:Nat}{o:s_}(a:h[i]?=some (.o o)):s7 T h i=some o:=by
 unfold s7;rw[a];rfl
def HJ.ld{T:Tv}{h:HL}{p:TR}{cs:Tn}(f:HJ h p cs){n:Nat}(d:cs.length=n):(Pk.ld n p).run (s7 T h)=some cs:=by
 obtain⟨id,o,a,e,g,rfl,b,c⟩:=f;subst d;show(match (none:Ts)with|none=>(iZ (s7 T h) id).bind λa=>cut a o cs.length|some _=>none)=_;unfold iZ;rw[bB b];exact c
def HJ.lg{C:m8}{T:Tv}{h:HL}{p:TR}{cs:Tn}(f:HJ h p cs){n:Nat}(d:cs.length=n):(Pk.lg C n p).run (s7 T h)=some cs:=by
 obtain⟨id,o,a,e,g,rfl,b,c⟩:=f;subst d;show(iZ (s7 T h) id).bind (λa=>cut a o cs.length)=_;unfold iZ;rw[bB b];exact c
def ml{C:m8}{T:Tv}{h:HL}{v:TR}{e n:Nat}{cs:Tn}(c:He h v e n cs):M_ C e (s7 T h) v=some (cs,n):=by
 obtain⟨a,⟨rfl,rfl⟩|⟨id,d,g,j,f,rfl,b,i⟩⟩:=c
 .simp only[ZR,Ph]at a;subst a;rfl
 .unfold M_;have:¬(le e=some 1):=by simp[le]
  simp only[rv this,if_true];rw[bB b]
  simp_all
variable {C:m8} {Sg:Td} {T:Tv}
def hE{n0:Nat}{h0 h:HL}{v x:TR}{e n k bytes:Nat}{cs new:Tn}(f:u_ h0 h)(s:h0.length=n0)(p:Mk n0 h v e n cs)(r:He h x e k new)(z:bc (n+k) bytes=true) :
  ∃b v',(Hp.ap C e bytes v x).run (s7 T h) h.length=some (b,[v'])/\u_ h0 (bG h b)/\Mk n0 (bG h b) v' e (n+k) (cs++new)/\
   (∀(j:Nat) o,h[j]?=some o->g_ v≠some j->(bG h b)[j]?=some o)/\(g_ v'=g_ v∨g_ v'=none∨∃j,g_ v'=some j/\h.length<=j):=by
 obtain⟨g,p⟩:=p;have i:=r.1;have q:(cs++new).length=(n+k)*e:=i_;have c:=ml (C:=C) (T:=T) r;rcases p with⟨rfl,rfl⟩|⟨id,i',rfl,l⟩
 .simp only[ZR,Ph]at g;subst g;by_cases m:k=0
  .subst m;simp only[ZR,Ph]at i;subst i;refine⟨[],.slice none 0 0,?_,f,Mk.nil _ _ _,λj o d _=>d,.inl rfl⟩;show Fw C e bytes (.slice none 0 0) x (s7 T h) h.length=_;unfold Fw;rw[c];rfl
  .refine⟨[.push (.cells new e true)],.slice (some ⟨h.length,0,le e⟩) k 0,?_,f.Gq _,?_,λj o d _=>?_,.inr (.inr ⟨h.length,rfl,B8 _⟩)⟩
   .show Fw C e bytes (.slice none 0 0) x (s7 T h) h.length=_;unfold Fw
    simp_all
   .rw[F9,EG];refine⟨a_,.inr ⟨h.length,by have:=f.len;omega,rfl,?_⟩⟩;simp[bG,DL.onH]
   .exact u_.get ⟨_,rfl⟩ d
 .by_cases m:k=0
  .subst m;simp only[ZR,Ph]at i;subst i;refine⟨[],.slice (some ⟨id,0,le e⟩) n 0,?_,f,⟨q,.inr ⟨id,i',rfl,by simpa[bG]using l⟩⟩,λj o d _=>d,.inl rfl⟩;show Fw C e bytes (.slice (some ⟨id,0,le e⟩) n 0) x (s7 T h) h.length=_;unfold Fw;rw[c];simp only[ne_eq,not_true_eq_false,if_false];rw[bB l];simp only[ne_eq,not_true_eq_false,if_false];rw[vd g];rfl
  .have w:id<h.length:=by
    grind
   refine⟨[.set id .dead,.push (.cells (cs++new) e true)],.slice (some ⟨h.length,0,le e⟩) (n+k) 0,?_,?_,?_,λj o d t=>?_,.inr (.inr ⟨h.length,rfl,B8 _⟩)⟩
   .show Fw C e bytes (.slice (some ⟨id,0,le e⟩) n 0) x (s7 T h) h.length=_;unfold Fw;rw[c];simp only[ne_eq,not_true_eq_false,if_false];rw[bB l];simp only[ne_eq,not_true_eq_false,if_false];rw[vd g]
    simp_all
   .exact(f.set a_ _).Gq _
   .refine⟨q,.inr ⟨h.length,a_,rfl,?_⟩⟩;simp[bG,DL.onH]
   .have y:id≠j:=λu=>t (by subst u;rfl);refine u_.get (a:=h.set id (.o .dead)) ⟨_,rfl⟩ ?_
    simp_all
def y4{j7:Type}{h0 h:HL}{v:TR}{e bytes:Nat}{enc:j7->Tn}{l:List j7}{a:j7}{K:Tb}{new:Tn}{m:Nat}{p:Ts}(w:u_ h0 h)(n:MkL h0.length h v e enc l)(u:new=enc a)(B:(enc a).length=e)(f:m=h.length)(g:p=some (e+10))
  (x:bc (l.length+1) bytes=true)
  (t:∀v' h',u_ h0 h'->MkL h0.length h' v' e enc (l++[a])->aI v'=true->(∀(j:Nat) o,h[j]?=some o->g_ v≠some j->h'[j]?=some o)->(g_ v'=g_ v∨∃j,g_ v'=some j/\h.length<=j)->K [v'] h') :
  (PH C Sg T).heap (.ap C e bytes v (.slice (some ⟨m,0,p⟩) 1 2)) (h++[.o (.cells new e true)]) (@i' _ ⟨K⟩):=by
 subst u f g;have y:He (h++[HO.o (.cells (enc a) e true)]) (.slice (some ⟨h.length,0,le e⟩) 1 2) e 1 (enc a):=by
  refine⟨a_,.inr ⟨h.length,0,2,enc a,true,rfl,c_,vd a_⟩⟩
 have d:Mk h0.length (h++[HO.o (.cells (enc a) e true)]) v e l.length (l.flatMap enc):=n.2.pre ⟨_,rfl⟩;obtain⟨k,v',q,r,i,z,s⟩:=hE (C:=C) (T:=T) (w.Gq [HO.o (.cells (enc a) e true)]) rfl d y x;refine bH q (t v' _ r ⟨?_,?_⟩ ?_ ?_ ?_)
 .intro b hb;rcases Fs.1 hb with hb|hb
  .exact n.1 b hb
  simp_all
 .simp_all
 .obtain⟨_,⟨rfl,_⟩|⟨id,_,rfl,_⟩⟩:=i
  .rfl
  .simp[aI,nc,aT,bE,bj,aP,aD,le]
 .grind
 .rcases s with c|c|⟨j,c,A⟩
  .exact .inl c
  .obtain⟨D,⟨_,E⟩|⟨id,_,rfl,_⟩⟩:=i
   .omega
   .cases c
  grind
end
end Sx
namespace Sx
def HJ.h_{h:HL}{p:TR}{cs:Tn}(a:HJ h p cs):aI p=true:=by
 obtain⟨id,o,c,e,b,rfl,_⟩:=a;simp[aI,nc,aT,bE,bj,aP,aD]
def He.h_{h:HL}{v:TR}{e n:Nat}{cs:Tn}(a:He h v e n cs):aI v=true:=by
 obtain⟨_,⟨rfl,_⟩|⟨id,b,d,f,c,rfl,_⟩⟩:=a
 .rfl
 .simp[aI,nc,aT,bE,bj,aP,aD,le]
def q9.h_{j7:Type}{h:HL}{v:TR}{e:Nat}{enc:j7->Tn}{l:List j7}(a:q9 h v e enc l):aI v=true:=a.2.h_
section
variable [DB] [En] {C:m8} {Sg:Td} {T:Tv}
def Ei{F:(TG->HL->Prop)->TG->HL->Prop}{s:Te}{l:TG}{h:HL}(a:F s l h):@i' _ ⟨F⟩ s l h:=a
def bK{g9:Type}{F:(TG->HL->Prop)->TG->HL->Prop}(n:Nat)(S:Nat->g9->TG)(d:Nat->g9->HL)(Inv:Nat->g9->Prop){j0:Nat}{s0:g9}{ls:TG}{h:HL}(i:ls=S j0 s0)(k:h=d j0 s0)(g:j0<=n)(e:Inv j0 s0)
  (step:∀j s,j<=n->Inv j s->∀a:TG->HL->Prop,(∀c,j<n->Inv (j+1) c->a (S (j+1) c) (d (j+1) c))->F a (S j s) (d j s)):(PH C Sg T).loop (@i' _ ⟨F⟩) ls h:=by
 subst i k;refine aH (m:=n - j0) (λm ls h=>∃j s,ls=S j s/\h=d j s/\j<=n/\m=n - j/\Inv j s) ⟨j0,s0,rfl,rfl,g,rfl,e⟩ ?_;rintro m ls h ⟨j,s,rfl,rfl,g,rfl,e⟩ a b;exact Ei (step j s g e a λc l f=>b (n - (j+1)) _ _ a_ ⟨j+1,c,rfl,rfl,a_,rfl,f⟩)
abbrev _root_.Tz:=Nat->Prop
def mR{F:(TG->HL->Prop)->TG->HL->Prop}(n:Nat)(Inv:Tz){j0:Nat}{h:HL}{ls:TG}(f:ls=[.i (ofNat j0)])(e:j0<=n)(d:Inv j0)
  (step:∀j,j<=n->Inv j->∀c:TG->HL->Prop,(j<n->Inv (j+1)->c [.i (ofNat j+1)] h)->F c [.i (ofNat j)] h):(PH C Sg T).loop (@i' _ ⟨F⟩) ls h:=
 bK (g9:=Unit) n (λj _=>[.i (ofNat j)]) (λ_ _=>h) (λj _=>Inv j) (s0:=()) f rfl e d λj _ e d c g=>step j e d c (λa b=>g () a b)
def bw{j7:Type}{h:HL}{v:TR}{e:Nat}{enc:j7->Tn}{l:List j7}{K:Tw}(b:q9 h v e enc l)(a:K (ofNat l.length)):(PH C Sg T).jw (HR v) (@i' _ ⟨K⟩):=ae b.len a
def aQ{j7:Type}{h:HL}{v:TR}{e:Nat}{enc:j7->Tn}{l:List j7}{i:Nat}{a:j7}{n:Int}{K:Tf}(c:q9 h v e enc l)(j:n=ofNat i)(b:l[i]?=some a)(g:K (enc a)) :
  (PH C Sg T).jw (B_ e v n) (@i' _ ⟨λx=>(PH C Sg T).ma (.lg C e x) h (@i' _ ⟨K⟩)⟩):=by
 subst j;obtain⟨p,d,f⟩:=c.at b;exact ae d (dH (f.lg (c.1 a (A9 b))) g)
def dK{j7:Type}{h:HL}{v:TR}{e:Nat}{enc:j7->Tn}{l:List j7}{i:Nat}{a:j7}{n:Int}{o k:Nat}{cs:Tn}{K:Tf}(j:q9 h v e enc l)(u:n=ofNat i)(g:l[i]?=some a)(d:cs=((enc a).drop o).take k)(c:o+k<=e)(t:K cs) :
  (PH C Sg T).jw (B_ e v n) (@i' _ ⟨λx=>(PH C Sg T).jw (Eu o x) (@i' _ ⟨λy=>(PH C Sg T).n4 y (@i' _ ⟨(PH C Sg T).ma (.lg C k y) h (@i' _ ⟨K⟩)⟩)⟩)⟩):=by
 subst u d;obtain⟨p,m,r⟩:=j.at g;have w:=j.1 a (A9 g);have c:o+k<=(enc a).length:=a_;have b:(((enc a).drop o).take k).length=k:=i_;obtain⟨q,s,f⟩:=r.fd o k c;refine ae m (ae s ?_);show aI q=true/\_;exact⟨f.h_,dH (f.lg b) t⟩
end
end Sx
namespace Sx
section
variable [DB] [En] {C:m8} {Sg:Td} {T:Tv}
def aU{j:Nat}{K:Tw}(h:j<=4294967296):(PH C Sg T).x6 .add .i64 (ofNat j) 1 (@i' _ ⟨K⟩)=K (ofNat j+1):=
 Gi i_ i_
def lT{j:Nat}{K:Tw}(h1:1<=j)(h:j<=4294967296):(PH C Sg T).x6 .sub .i64 (ofNat j) 1 (@i' _ ⟨K⟩)=K (ofNat (j - 1)):=by
 rw[Hw i_ i_]
 grind
def aO{j n:Nat}{K:Tp}(h:j<n):(PH C Sg T).cmp .lss (ofNat j) (ofNat n) (@i' _ ⟨K⟩)=K true:=ua j_
def aN{j n:Nat}{K:Tp}(h:n<=j):(PH C Sg T).cmp .lss (ofNat j) (ofNat n) (@i' _ ⟨K⟩)=K false:=v_ j_
end
def ai{j7:Type}{l:List j7}{i:Nat}{a:j7}(h:l[i]?=some a):i<l.length:=by
 grind
def am{j7:Type}{l:List j7}{i:Nat}(h:i<l.length):∃a,l[i]?=some a:=⟨_,Gm h⟩
end Sx
namespace Sx
section
variable [DB] [En]
variable {C:m8} {Sg:Td} {T:Tv} {j7:Type}
def oo(h:HL)(id e:Nat)(enc:j7->Tn)(l:List j7):HL:=h.set id (.o (.cells (l.flatMap enc) e true))
def bL{h:HL}{id e:Nat}{enc:j7->Tn}{l:List j7}(a:id<h.length):(oo h id e enc l)[id]?=some (.o (.cells (l.flatMap enc) e true)):=by
 unfold oo
 simp_all
def Sw{h:HL}{id e:Nat}{enc:j7->Tn}{l l':List j7}:(oo h id e enc l).set id (.o (.cells (l'.flatMap enc) e true))=oo h id e enc l':=by
 unfold oo;rw[List.set_set]
def XK{h:HL}{id e cx:Nat}{enc:j7->Tn}(b:∀a,(enc a).length=e){l:List j7}(c:id<h.length):q9 (oo h id e enc l) (.slice (some ⟨id,0,le e⟩) l.length cx) e enc l:=by
 have d:=aM (e:=e) (enc:=enc) (l:=l) λa _=>b a;exact⟨λa _=>b a,d,.inr ⟨id,0,cx,_,true,rfl,bL c,vd d⟩⟩
def ew{e:Nat}{enc:j7->Tn}(c:∀a,(enc a).length=e):∀ {l:List j7} {i:Nat} (a:j7),i<l.length->(l.flatMap enc).take (i*e)++enc a++(l.flatMap enc).drop (i*e+e)=(l.set i a).flatMap enc
 | [],_,_,h=>by simp at h
 |b :: l,0,a,_=>by
  simp_all
 |b :: l,i+1,a,h=>by
  have f:=c b;have d:=ew c (l:=l) (i:=i) a (by simpa using h);simp only[qcH,UY];rw[←d,KJ,U1,e1,d5];rw[IW a_,h7 a_,EG]
  simp_all
def ZV{h:HL}{id e cx len:Nat}{enc:j7->Tn}(b:∀a,(enc a).length=e){l:List j7}{i:Nat}{a:j7}{n:Int}{new:Tn}{K:Tb}(j:id<h.length)(q:n=ofNat i)(m:i<l.length)(c:l.length=len)(d:new=enc a)
  (o:K [] (oo h id e enc (l.set i a))):(PH C Sg T).jw (B_ e (.slice (some ⟨id,0,le e⟩) len cx) n) (@i' _ ⟨λx=>(PH C Sg T).heap (.st x new) (oo h id e enc l) (@i' _ ⟨K⟩)⟩):=by
 subst q c d;have r:B_ e (.slice (some ⟨id,0,le e⟩) l.length cx) (ofNat i)=some (.pointer (some ⟨id,i*e,none⟩)):=by
  rw[qr];have k:0<=ofNat i/\ofNat i<(l.length:Int):=⟨G9 i,j_⟩;simp only[qs k];have:¬(le e=some 1):=by simp[le]
  simp_all
 refine ae r ?_;have p:=aM (e:=e) (enc:=enc) (l:=l) λa _=>b a;have g:i*e+e<=l.length*e:=by
  have:=Pn e (show i+1<=l.length by omega)
  grind
 have f:(Hp.st (.pointer (some ⟨id,i*e,none⟩)) (enc a)).run (s7 T (oo h id e enc l)) (oo h id e enc l).length=some ([.set id (.cells ((l.set i a).flatMap enc) e true)],[]):=by
  show JD (.pointer (some ⟨id,i*e,none⟩)) (enc a) (s7 T (oo h id e enc l)) (oo h id e enc l).length=_;unfold JD;simp only;rw[bB (bL j)];simp only;unfold qa;rw[b a,p,qs g,ew b a m];rfl
 refine bH f ?_;show K [] (bG _ _);have:bG (oo h id e enc l) [.set id (.cells ((l.set i a).flatMap enc) e true)]=oo h id e enc (l.set i a):=Sw;rw[this];exact o
end
end Sx
namespace Sx
section
variable [DB] [En]
variable {C:m8} {Sg:Td} {T:Tv} {j7:Type}
def cO{enc:j7->Tn}{z:j7}{n:Nat}:aL (enc z) n=(List.replicate n z).flatMap enc:=by
 unfold aL;rw[List.flatMap_def,List.map_replicate]
def CZ(h:HL)(e:Nat)(enc:j7->Tn)(l:List j7):HL:=h++[.o (.cells (l.flatMap enc) e true)]
def uG{h:HL}{e:Nat}{enc:j7->Tn}{l:List j7}:oo (h++[.o .dead]) h.length e enc l=CZ h e enc l:=by
 unfold oo CZ
 simp_all
def RL(h:HL)(e:Nat)(enc:j7->Tn)(l:List j7):u_ h (CZ h e enc l):=⟨_,rfl⟩
def qG{h:HL}{e cx:Nat}{enc:j7->Tn}(b:∀a,(enc a).length=e){l:List j7}{n:Nat}(c:n=l.length):q9 (CZ h e enc l) (.slice (some ⟨h.length,0,le e⟩) n cx) e enc l:=by
 subst c;rw[←uG];exact XK b c_
def hD{h:HL}{e cx len:Nat}{enc:j7->Tn}(b:∀a,(enc a).length=e){l:List j7}{i:Nat}{a:j7}{n:Int}{new:Tn}{K:Tb}(j:n=ofNat i)(g:i<l.length)(c:l.length=len)(d:new=enc a)
  (f:K [] (CZ h e enc (l.set i a))):(PH C Sg T).jw (B_ e (.slice (some ⟨h.length,0,le e⟩) len cx) n) (@i' _ ⟨λx=>(PH C Sg T).heap (.st x new) (CZ h e enc l) (@i' _ ⟨K⟩)⟩):=by
 rw[←uG]at f;rw[←uG];exact ZV b c_ j g c d f
def dF{n:Nat}(h:n<=1048576):EU (ofNat n) (ofNat n)=some ():=by
 unfold EU
 grind
def OA{h:HL}{e:Nat}{enc:j7->Tn}{z:j7}{n:Nat}{v:Tn}(a:v=enc z):h++[HO.o (.cells (aL v n) e true)]=CZ h e enc (List.replicate n z):=by
 subst a;unfold CZ;rw[cO]
end
end Sx
namespace Sx
section
variable [DB] [En]
variable {C:m8} {Sg:Td} {T:Tv} {j7:Type}
def fi{l:List j7}{i:Nat}{a:j7}(h:l[i]?=some a):l.set i a=l:=by
 apply Ib
 grind
def XX{h:HL}{e cx len:Nat}{enc:j7->Tn}(b:∀a,(enc a).length=e){l:List j7}{i o:Nat}{a a':j7}{n:Int}{new:Tn}{K:Tb}(t:n=ofNat i)(k:l[i]?=some a)(c:l.length=len)(A:o+new.length<=e)
  (f:enc a'=(enc a).take o++new++(enc a).drop (o+new.length)) (r:K [] (CZ h e enc (l.set i a'))) :
  (PH C Sg T).jw (B_ e (.slice (some ⟨h.length,0,le e⟩) len cx) n) (@i' _ ⟨λx=>(PH C Sg T).jw (Eu o x) (@i' _ ⟨λy=>(PH C Sg T).n4 y (@i' _ ⟨(PH C Sg T).heap (.st y new) (CZ h e enc l) (@i' _ ⟨K⟩)⟩)⟩)⟩):=by
 subst t c;have d:=ai k;have u:B_ e (.slice (some ⟨h.length,0,le e⟩) l.length cx) (ofNat i)=some (.pointer (some ⟨h.length,i*e,none⟩)):=by
  rw[qr];have q:0<=ofNat i/\ofNat i<(l.length:Int):=⟨G9 i,j_⟩;simp only[qs q];have:¬(le e=some 1):=by simp[le]
  simp_all
 refine ae u ?_;refine ae (x:=.pointer (some ⟨h.length,i*e+o,none⟩)) rfl ?_;refine ab (by simp[aI,nc,aT,bE,bj,aP,aD]) ?_;have z:=aM (e:=e) (enc:=enc) (l:=l) λa _=>b a;have s:i*e+e<=l.length*e:=by
  have:=Pn e (show i+1<=l.length by omega)
  grind
 have j:=ew b (l:=l) (i:=i) a d;rw[fi k]at j;have m:=ew b (l:=l) (i:=i) a' d;have hA:((l.flatMap enc).take (i*e)).length=i*e:=i_;have w:=b a;have v:(l.flatMap enc).take (i*e+o)++new++(l.flatMap enc).drop (i*e+o+new.length)=(l.set i a').flatMap enc:=by
  rw[←m,f];have B:(l.flatMap enc).take (i*e+o)=(l.flatMap enc).take (i*e)++(enc a).take o:=by
   conv=>lhs;rw[←j,FL]
   rw[e1,IW a_,hA,show i*e+o - i*e=o by omega,e1,show o - (enc a).length=0 by omega,a9,HF]
  have D:(l.flatMap enc).drop (i*e+o+new.length)=(enc a).drop (o+new.length)++(l.flatMap enc).drop (i*e+e):=by
   conv=>lhs;rw[←j,FL]
   rw[d5,h7 a_,EG,hA,show i*e+o+new.length - i*e=o+new.length by omega,d5,show o+new.length - (enc a).length=0 by omega,XN]
  simp_all
 have p:(CZ h e enc l)[h.length]?=some (.o (.cells (l.flatMap enc) e true)):=by simp[CZ]
 have g:(Hp.st (.pointer (some ⟨h.length,i*e+o,none⟩)) new).run (s7 T (CZ h e enc l)) (CZ h e enc l).length=some ([.set h.length (.cells ((l.set i a').flatMap enc) e true)],[]):=by
  show JD (.pointer (some ⟨h.length,i*e+o,none⟩)) new (s7 T (CZ h e enc l)) (CZ h e enc l).length=_;unfold JD;simp only;rw[bB p];simp only;unfold qa
  grind
 refine bH g ?_;have:bG (CZ h e enc l) [.set h.length (.cells ((l.set i a').flatMap enc) e true)]=CZ h e enc (l.set i a'):=by
  show(CZ h e enc l).set h.length _=_;unfold CZ;simp
 rw[this];exact r
def XW{h:HL}{e cx:Nat}{enc:j7->Tn}(c:∀a,(enc a).length=e){l b:List j7}{v:TR}{K:Tb}(j:q9 (CZ h e enc b) v e enc l)(f:b.length=l.length)(i:K [.int .i64 (ofNat l.length)] (CZ h e enc l)) :
  (PH C Sg T).heap (.fn (Za C e (.slice (some ⟨h.length,0,le e⟩) l.length cx) v)) (CZ h e enc b) (@i' _ ⟨K⟩):=by
 have m:=aM (e:=e) (enc:=enc) (l:=l) λa _=>c a;have k:=aM (e:=e) (enc:=enc) (l:=b) λa _=>c a;have g:(CZ h e enc b)[h.length]?=some (.o (.cells (b.flatMap enc) e true)):=by simp[CZ]
 have d:(Hp.fn (Za C e (.slice (some ⟨h.length,0,le e⟩) l.length cx) v)).run (s7 T (CZ h e enc b)) (CZ h e enc b).length=some ([.set h.length (.cells (l.flatMap enc) e true)],[.int .i64 (ofNat l.length)]):=by
  show Za C e (.slice (some ⟨h.length,0,le e⟩) l.length cx) v (s7 T (CZ h e enc b)) (CZ h e enc b).length=_;unfold Za;simp only;rw[ml j.2,bB g];simp only[ne_eq,not_true_eq_false,if_false];unfold qa
  grind
 refine bH d ?_;have:bG (CZ h e enc b) [.set h.length (.cells (l.flatMap enc) e true)]=CZ h e enc l:=by
  show(CZ h e enc b).set h.length _=_;unfold CZ;simp
 rw[this];exact i
end
end Sx
namespace Sx
section
variable [DB] [En] {C:m8} {T:Tv}
abbrev Ku:=Int×Int
def Oj(k:Ku):Value:=.agg ⟨[.int .i64 k.1,.int .u8 k.2]⟩
def I3(a:Tj)(ks:List Ku):Prop:=a.map (·.key)=ks.map Oj/\∀e∈a,e.val = .bool true
abbrev UR:TJ:=[.i .i64,.i .u8]
def jf(a b:Int):Wc a b=decide (a=b):=by
 have c:∀m n:Nat,Nat.beq m n=decide (m=n):=λm n=>by
  by_cases h:m=n
  .subst h;simp
  .rw[GI h];cases d:Nat.beq m n with
   |true=>simp_all
   |false=>rfl
 cases a<;>cases b<;>simp[Wc,c];omega
def VZ(a b:Ku):x8 UR [.int .i64 a.1,.int .u8 a.2] [.int .i64 b.1,.int .u8 b.2]=some (decide (a=b)):=by
 have c:df .i64 .i64=true:=rfl;have d:df .u8 .u8=true:=rfl;obtain⟨e,f⟩:=a;obtain⟨g,h⟩:=b;simp only[x8,c,d,jf,SC]
 grind
def ud(k:Ku):∀ {a:Tj} {ks:List Ku} (i:Nat),I3 a ks->(k∉ks->jU UR [.int .i64 k.1,.int .u8 k.2] a i=some none)/\(k∈ks->∃j e,jU UR [.int .i64 k.1,.int .u8 k.2] a i=some (some (i+j))/\a[j]?=some e/\e.val = .bool true)
 | [],[],i,_=>⟨λ_=>rfl,λh=>by cases h⟩
 | [],_ :: _,i,h=>by have:=h.1;simp at this
 |_ :: _,[],i,h=>by have:=h.1;simp at this
 |e :: a,q :: ks,i,h=>by
  obtain⟨c,p⟩:=h;simp only[EN,IU]at c;obtain⟨d,f⟩:=ud k (i+1) (⟨c.2,λx t=>p x (FZ _ t)⟩ : I3 a ks);have s:jU UR [.int .i64 k.1,.int .u8 k.2] (e :: a) i=if k=q then some (some i)else jU UR [.int .i64 k.1,.int .u8 k.2] a (i+1):=by
   simp only[jU,c.1,Oj];rw[VZ]
   grind
  rw[s];by_cases g:k=q
  .simp_all
  .rw[rv g];refine⟨λr=>d λb=>r (FZ _ b),λb=>?_⟩;rcases EL.1 b with b|b
   .exact absurd b g
   .obtain⟨j,l,m,n,o⟩:=f b;exact⟨j+1,l,by rw[m];congr 2;omega,by simpa using n,o⟩
variable {kt:TP}
def Rb(h1:B2 C.P kt=some true)(c:DU C.P 10000 kt=some UR)(k:Ku):Jj C.P kt (Oj k)=true:=by
 have a:df .i64 .i64=true:=rfl;have b:df .u8 .u8=true:=rfl;unfold Jj Oj;simp only[h1,c,fY,a,b,jf];simp
def yg(h1:B2 C.P kt=some true)(b:DU C.P 10000 kt=some UR)(k:Ku){a:Tj}{r:Ts}(c:jU UR [.int .i64 k.1,.int .u8 k.2] a 0=some r):wc C.P kt (Oj k) a=some r:=by
 unfold wc Oj;simp only[h1,b,oP,c]
def t3(h1:B2 C.P kt=some true)(d:DU C.P 10000 kt=some UR){h:HL}{id c:Nat}{a:Tj}{ks:List Ku}(q:h[id]?=some (.o (.map a c)))(n:I3 a ks)(k:Ku) :
  Gr C kt false (.bool false) (.map (some id)) (Oj k) false (s7 T h)=some [.bool (decide (k∈ks))]:=by
 unfold Gr;rw[Rb h1 d];simp only[EX,Fh,if_false];have p:Is (s7 T h) id=some (a,c):=by
  unfold Is;rw[bB q]
 rw[p];simp only;obtain⟨f,g⟩:=ud k 0 n;by_cases b:k∈ks
 .obtain⟨j,e,i,l,m⟩:=g b;rw[yg h1 d k i];have r:eQ a (0+j)=some (.bool true):=by
   rw[F9];unfold eQ;rw[l];simp[m]
  simp only[r,Ex];simp[gN,b]
 .rw[yg h1 d k (f b)];simp[gN,b]
def U'(h1:B2 C.P kt=some true)(b:DU C.P 10000 kt=some UR){h:HL}{id c n:Nat}{a:Tj}{ks:List Ku}(g:h[id]?=some (.o (.map a c)))(d:I3 a ks){k:Ku}(f:k∉ks) :
  G5 C kt (.map (some id)) (Oj k) (.bool true) (s7 T h) n=some ([.set id (.map (a++[{ key:=Oj k,val:=.bool true,born:=c }]) (c+1))],[]):=by
 unfold G5;simp only;rw[Rb h1 b];simp only[EX,Fh,if_false];have e:Is (s7 T h) id=some (a,c):=by
  unfold Is;rw[bB g]
 rw[e];simp only;rw[yg h1 b k ((ud k 0 d).1 f)]
def I3.push{b:Tj}{ks:List Ku}(d:I3 b ks)(k:Ku)(c:Nat):I3 (b++[{ key:=Oj k,val:=.bool true,born:=c }]) (ks++[k]):=by
 refine⟨by simp[d.1],λe a=>?_⟩;rcases Fs.1 a with a|a
 .exact d.2 e a
 simp_all
end
end Sx
namespace Sx
section
variable [DB] [En] {C:m8} {T:Tv}
abbrev K3:=Int×Int×Nat
def Gb(k:K3):Tn:=[.int .i64 k.1,.int .i64 k.2.1,.int .u8 (ofNat k.2.2)]
abbrev kk3:TJ:=[.i .i64,.i .i64,.i .u8]
def zN(a b:K3):x8 kk3 (Gb a) (Gb b)=some (decide (a=b)):=by
 have e:df .i64 .i64=true:=rfl;have f:df .u8 .u8=true:=rfl;obtain⟨g,i,c⟩:=a;obtain⟨j,k,d⟩:=b;simp only[Gb,x8,e,f,jf,SC];have e3:decide (ofNat c=ofNat d)=decide (c=d):=decide_eq_decide.2 ⟨λh=>H4 h,λh=>by rw[h]⟩
 grind
variable {kt:TP} (h1:B2 C.P kt=some true) (h2:DU C.P 10000 kt=some kk3)
include h1 h2
omit h1 h2 in
theorem nU{a:List (K3×Nat)}{k:K3}{j:Nat}(h:(a.map (·.1)).idxOf? k=some j):∃n,a[j]?=some (k,n):=by
 obtain⟨c,b,_⟩:=qce.1 h
 grind
omit h1 h2 in
theorem oZ{h:HL}{id c:Nat}{a:Tj}(b:h[id]?=some (.o (.map a c))):Is (s7 T h) id=some (a,c):=by
 unfold Is;rw[bB b]
end
section
variable [DB] [En] {T:Tv}
end
end Sx
namespace Sx
section
variable [DB] [En] {C:m8} {Sg:Td} {T:Tv}
variable {kt:TP} (h1:B2 C.P kt=some true) (h2:DU C.P 10000 kt=some kk3)
include h1 h2
end
end Sx
end Go.Am
namespace Go.Am
open Sx Go.Proofs
def iV{g:TQ}{sg:H7}{cap:Tn}{ls d:TG}{H H':Tu}{args:Tn}(i:aF cc ac g ls H d H')(j:ac g=some sg)(xs:List S0)(h1:cJ xs sg.ps=true)(f:cV xs=ls)(h:ao xs=args++cap) :
  xJ cc (.func (.func g) ⟨[]⟩ ⟨cap⟩) args sg.rs H d H':=by
 obtain⟨k,m,n,a,b,e,c⟩:=i;rw[j]at a;cases a;obtain⟨l,_⟩:=dd b.1 h1 (b.2.1.trans f.symm);rw[l,h]at c;exact⟨n,e,.inl ⟨g,⟨[]⟩,⟨cap⟩,rfl,by simpa using c⟩⟩
abbrev kb(b:Nat):Value:=.pointer (some ⟨b,0,none⟩)
def bF{h:HL}{b e:Nat}{cs:Tn}(a:h[b]?=some (.o (.cells cs e true))):HJ h (kb b) cs:=⟨b,0,cs,e,true,rfl,a,Sx.vd rfl⟩
def az(b:Nat):aI (kb b)=true:=by simp[aI,nc,aT,bE,bj,aP,aD]
def dc{h:HL}{p:TR}{cs:Tn}{K:Tf}{n:Nat}(c:HJ h p cs)(b:cs.length=n)(a:K cs):P1.ma (.lg cc n p) h (@i' _ ⟨K⟩):=dH (c.lg b) a
def sE{h:HL}{p:TR}{cs ds:Tn}{K:Tf}{o n:Nat}(f:HJ h p cs)(e:o+n<=cs.length)(c:ds=(cs.drop o).take n)(d:K ds) :
  P1.jw (Eu o p) (@i' _ ⟨λy=>P1.n4 y (@i' _ ⟨P1.ma (.lg cc n y) h (@i' _ ⟨K⟩)⟩)⟩):=by
 subst c;obtain⟨q,b,a⟩:=f.fd o n e;refine ae b (ab a.h_ (dH (a.lg ?_) d))
 grind
def bz{h:HL}{b e:Nat}{cs ds:Tn}{K:Tf}{o n:Nat}(a:h[b]?=some (.o (.cells cs e true)))(f:o+n<=cs.length)(c:ds=(cs.drop o).take n)(d:K ds) :
  P1.jw (Ec (kb b)) (@i' _ ⟨λx=>P1.n4 x (@i' _ ⟨P1.jw (Eu o x) (@i' _ ⟨λy=>P1.n4 y (@i' _ ⟨P1.ma (.lg cc n y) h (@i' _ ⟨K⟩)⟩)⟩)⟩)⟩):=
 ae (x:=kb b) rfl (ab (az b) (sE (bF a) f c d))
def gH{h:HL}{b e:Nat}{cs new:Tn}{K:Tb}{o:Nat}(c:h[b]?=some (.o (.cells cs e true)))(f:o+new.length<=cs.length)(d:K [] (h.set b (.o (.cells (cs.take o++new++cs.drop (o+new.length)) e true)))) :
  P1.jw (Ec (kb b)) (@i' _ ⟨λx=>P1.n4 x (@i' _ ⟨P1.jw (Eu o x) (@i' _ ⟨λy=>P1.n4 y (@i' _ ⟨P1.heap (.st y new) h (@i' _ ⟨K⟩)⟩)⟩)⟩)⟩):=by
 refine ae (x:=kb b) rfl (ab (az b) (ae (x:=.pointer (some ⟨b,0+o,none⟩)) rfl (ab (by simp[aI,nc,aT,bE,bj,aP,aD]) ?_)));have a:(Hp.st (.pointer (some ⟨b,0+o,none⟩)) new).run (s7 aa h) h.length=some ([.set b (.cells (cs.take o++new++cs.drop (o+new.length)) e true)],[]):=by
  show JD (.pointer (some ⟨b,0+o,none⟩)) new (s7 aa h) h.length=_;unfold JD;simp only;rw[bB c];simp only;unfold qa
  simp_all
 exact bH a d
def yW{h:HL}{b e:Nat}{vs new:Tn}{K:Tb}(c:h[b]?=some (.o (.cells vs e true)))(f:new.length=vs.length)(d:K [] (h.set b (.o (.cells new e true)))):P1.heap (.st (kb b) new) h (@i' _ ⟨K⟩):=by
 have a:(Hp.st (kb b) new).run (s7 aa h) h.length=some ([.set b (.cells new e true)],[]):=by
  show JD (kb b) new (s7 aa h) h.length=_;unfold JD;simp only;rw[bB c];simp only;unfold qa
  simp_all
 exact bH a d
def cI{b:Te}{m:(TG->HL->Prop)->Prop}(P:Te)(h1:∀l h,P l h->b l h)(a:∀j:TG->HL->Prop,(∀l h,P l h->j l h)->m j):P1.join (@i' _ ⟨b⟩) (@i' _ ⟨m⟩):=a _ h1
def KC{a b:Int}{K:Tp}(h:∀t,t=decide (a=b)->K t):P1.cmp .eql a b (@i' _ ⟨K⟩):=by
 show K (a==b)
 grind
def pA{h:HL}{a b:HO}:(h++[a]).set h.length b=h++[b]:=c_
def aK{h:HL}{a:HO}:(h++[a])[h.length]?=some a:=c_
def ey{h:HL}{a:HO}{i:Nat}{o:HO}(b:h[i]?=some o):(h++[a])[i]?=some o:=u_.get ⟨_,rfl⟩ b
def de{h:HL}{a:HO}{i j:Nat}{o:HO}(c:h[i]?=some o)(b:j≠i):(h.set j a)[i]?=some o:=by
 simp_all
def fZ{h:HL}{a b:HO}{i:Nat}(c:h[i]?=some a):(h.set i b)[i]?=some b:=Ia (ai c)
def Sx.q9.blkLt{j7:Type}{h:HL}{v:TR}{e:Nat}{enc:j7->Tn}{l:List j7}(c:q9 h v e enc l){i:Nat}(a:g_ v=some i):i<h.length:=by
 obtain⟨_,_,⟨rfl,_⟩|⟨id,d,g,j,f,rfl,b,_⟩⟩:=c
 .cases a
 .cases a;exact ai b
def VL(a:K3):(Gb a).length=3:=rfl
def hY{j7:Type}(n0:Nat)(h:HL)(v:Value)(e:Nat)(enc:j7->Tn)(l:List j7):Prop:=
 (v = .slice none 0 0/\l=[])∨∃id cx,v = .slice (some ⟨id,0,le e⟩) l.length cx/\n0<=id/\h[id]?=some (.o (.cells (l.flatMap enc) e true))/\(cx=0∨cx=l.length+1)
section
variable {j7:Type} {n0 e:Nat} {enc:j7->Tn} {l:List j7} {h:HL} {v:Value}
def hY.nil(n0:Nat)(h:HL)(e:Nat)(enc:j7->Tn):hY n0 h (.slice none 0 0) e enc []:=.inl ⟨rfl,rfl⟩
def hY.ls(b:∀a,(enc a).length=e)(g:hY n0 h v e enc l):q9 h v e enc l:=by
 have c:=aM (e:=e) (enc:=enc) (l:=l) λa _=>b a;rcases g with⟨rfl,rfl⟩|⟨id,d,rfl,_,f,_⟩
 .exact q9.nil h e enc
 .exact⟨λa _=>b a,c,.inr ⟨id,0,d,_,true,rfl,f,Sx.vd c⟩⟩
def hY.ka{h':HL}(i:hY n0 h v e enc l)(g:∀(j:Nat) o,h[j]?=some o->g_ v=some j->h'[j]?=some o):hY n0 h' v e enc l:=by
 rcases i with b|⟨id,a,rfl,c,d,f⟩
 .exact .inl b
 .exact .inr ⟨id,a,rfl,c,g _ _ d rfl,f⟩
def hY.Gq(a:hY n0 h v e enc l)(G:HL):hY n0 (h++G) v e enc l:=a.ka λ_ _ h _=>u_.get ⟨_,rfl⟩ h
def hY.g_(b:hY n0 h v e enc l){j:Nat}(a:g_ v=some j):n0<=j/\j<h.length:=by
 rcases b with⟨rfl,_⟩|⟨id,c,rfl,d,f,_⟩
 .cases a
 .cases a
  grind
def hY.h_(b:∀a,(enc a).length=e)(c:hY n0 h v e enc l):aI v=true:=(c.ls b).h_
def hY.ap{bytes k:Nat}{x:TR}{new:List j7}{K:Tb}(p:∀a,(enc a).length=e)(G:hY n0 h v e enc l)(q:n0<=h.length)(w:M_ cc e (s7 aa h) x=some (new.flatMap enc,k))(z:k=new.length)(I:bc (l.length+k) bytes=true)
  (r:∀v' h',hY n0 h' v' e enc (l++new)->aI v'=true->(∀(j:Nat) o,h[j]?=some o->Sx.g_ v≠some j->h'[j]?=some o)->h.length<=h'.length->(Sx.g_ v'=Sx.g_ v∨∃j,Sx.g_ v'=some j/\h.length<=j)->K [v'] h') :
  P1.heap (.ap cc e bytes v x) h (@i' _ ⟨K⟩):=by
 subst z;have u:(l++new).length=l.length+new.length:=HY;have D:l.flatMap enc++new.flatMap enc=(l++new).flatMap enc:=c_;have s:∀i n c,aI (.slice (some ⟨i,0,le e⟩) n c)=true:=λi n c=>by simp[aI,nc,aT,bE,bj,aP,aD,le]
 rcases G with⟨rfl,rfl⟩|⟨id,H,rfl,A,m,B⟩
 .by_cases g:new.length=0
  .have d:new=[]:=Ph.1 g;subst d;have b:(Hp.ap cc e bytes (.slice none 0 0) x).run (s7 aa h) h.length=some ([],[.slice none 0 0]):=by
    show Fw cc e bytes (.slice none 0 0) x (s7 aa h) h.length=_;unfold Fw;rw[w];rfl
   exact bH b (r _ _ (.inl ⟨rfl,rfl⟩) rfl (λj o f _=>f) (B8 _) (.inl rfl))
  .have b:(Hp.ap cc e bytes (.slice none 0 0) x).run (s7 aa h) h.length=some ([.push (.cells (new.flatMap enc) e true)],[.slice (some ⟨h.length,0,le e⟩) new.length 0]):=by
    show Fw cc e bytes (.slice none 0 0) x (s7 aa h) h.length=_;unfold Fw
    simp_all
   refine bH b (r _ _ (.inr ⟨h.length,0,c_,q,by simp[bG,DL.onH],.inl rfl⟩) (s _ _ _) (λj o f _=>u_.get ⟨_,rfl⟩ f) (by simp[bG,DL.onH]) (.inr ⟨h.length,rfl,B8 _⟩))
 .have t:cut (l.flatMap enc) 0 (l.length*e)=some (l.flatMap enc):=Sx.vd (aM λa _=>p a);have F:=ai m;rcases B with rfl|rfl
  .by_cases g:new.length=0
   .have d:new=[]:=Ph.1 g;subst d;have b:(Hp.ap cc e bytes (.slice (some ⟨id,0,le e⟩) l.length 0) x).run (s7 aa h) h.length=some ([],[.slice (some ⟨id,0,le e⟩) l.length 0]):=by
     show Fw cc e bytes (.slice (some ⟨id,0,le e⟩) l.length 0) x (s7 aa h) h.length=_;unfold Fw;rw[w];simp only[ne_eq,not_true_eq_false,if_false];rw[bB m]
     simp_all
    exact bH b (r _ _ (.inr ⟨id,0,c_,A,by simpa[bG]using m,.inl rfl⟩) (s _ _ _) (λj o f _=>f) (B8 _) (.inl rfl))
   .have b:(Hp.ap cc e bytes (.slice (some ⟨id,0,le e⟩) l.length 0) x).run (s7 aa h) h.length=some ([.set id .dead,.push (.cells ((l++new).flatMap enc) e true)],[.slice (some ⟨h.length,0,le e⟩) (l.length+new.length) 0]):=by
     show Fw cc e bytes (.slice (some ⟨id,0,le e⟩) l.length 0) x (s7 aa h) h.length=_;unfold Fw;rw[w];simp only[ne_eq,not_true_eq_false,if_false];rw[bB m]
     simp_all
    have y:bG h [.set id .dead,.push (.cells ((l++new).flatMap enc) e true)]=h.set id (.o .dead)++[.o (.cells ((l++new).flatMap enc) e true)]:=rfl;refine bH b ?_;rw[y];refine r _ _ (.inr ⟨h.length,0,by rw[u],q,?_,.inl rfl⟩) (s _ _ _) (λj o f C=>?_) c_ (.inr ⟨h.length,rfl,B8 _⟩)
    .simp_all
    .exact ey (de f λe=>C (by subst e;rfl))
  .by_cases g:l.length+new.length<=l.length
   .have d:new=[]:=Ph.1 a_;subst d;have b:(Hp.ap cc e bytes (.slice (some ⟨id,0,le e⟩) l.length (l.length+1)) x).run (s7 aa h) h.length=some ([.set id (.cells (l.flatMap enc) e true)],[.slice (some ⟨id,0,le e⟩) l.length (l.length+1)]):=by
     show Fw cc e bytes (.slice (some ⟨id,0,le e⟩) l.length (l.length+1)) x (s7 aa h) h.length=_;unfold Fw;rw[w];simp only[ne_eq,not_true_eq_false,if_false];rw[bB m];simp only[ne_eq,not_true_eq_false,if_false];rw[t];simp only[qdz,e2,B8,if_true];unfold qa;have E:=aM (e:=e) (enc:=enc) (l:=l) λa _=>p a;simp[E]
    have y:bG h [.set id (.cells (l.flatMap enc) e true)]=h:=fi m;refine bH b ?_;rw[y];exact r _ _ (.inr ⟨id,l.length+1,c_,A,by simpa using m,.inr c_⟩) (s _ _ _) (λj o f _=>f) (B8 _) (.inl rfl)
   .have b:(Hp.ap cc e bytes (.slice (some ⟨id,0,le e⟩) l.length (l.length+1)) x).run (s7 aa h) h.length=some ([.push (.cells ((l++new).flatMap enc) e true)],[.slice (some ⟨h.length,0,le e⟩) (l.length+new.length) 0]):=by
     show Fw cc e bytes (.slice (some ⟨id,0,le e⟩) l.length (l.length+1)) x (s7 aa h) h.length=_;unfold Fw;rw[w];simp only[ne_eq,not_true_eq_false,if_false];rw[bB m]
     simp_all
    refine bH b (r _ _ (.inr ⟨h.length,0,by rw[u],q,by simp[bG,DL.onH],.inl rfl⟩) (s _ _ _) (λj o f _=>u_.get ⟨_,rfl⟩ f) (by simp[bG,DL.onH]) (.inr ⟨h.length,rfl,B8 _⟩))
def hY.Il{bytes m:Nat}{a:j7}{new:Tn}{g:Ts}{K:Tb}(b:∀a,(enc a).length=e)(y:hY n0 h v e enc l)(x:n0<=h.length)(w:m=h.length)(c:new=enc a)(f:g=some (e+10))(z:bc (l.length+1) bytes=true)
  (u:∀v' h',hY n0 h' v' e enc (l++[a])->aI v'=true->(∀(j:Nat) o,h[j]?=some o->Sx.g_ v≠some j->h'[j]?=some o)->h.length<=h'.length->(Sx.g_ v'=Sx.g_ v∨∃j,Sx.g_ v'=some j/\h.length<=j)->K [v'] h') :
  P1.heap (.ap cc e bytes v (.slice (some ⟨m,0,g⟩) 1 2)) (h++[.o (.cells new e true)]) (@i' _ ⟨K⟩):=by
 subst w c f;have d:hY n0 (h++[HO.o (.cells (enc a) e true)]) v e enc l:=y.Gq _;refine d.ap (new:=[a]) (k:=1) b tt ?_ rfl z λv' h' i n p q B=>u v' h' i n (λj o t s=>p j o (ey t) s) (by simp at q;omega) ?_
 .have A:He (h++[HO.o (.cells (enc a) e true)]) (.slice (some ⟨h.length,0,le e⟩) 1 2) e 1 (enc a):=⟨by rw[b,U1],.inr ⟨h.length,0,2,enc a,true,rfl,aK,Sx.vd (by rw[b,U1])⟩⟩;have r:M_ cc e (s7 aa (h++[HO.o (.cells (enc a) e true)])) (.slice (some ⟨h.length,0,le e⟩) 1 2)=some ([a].flatMap enc,1):=by
   rw[ml A];simp
  exact r
 grind
end
def n8{e id n cx o k:Nat}{x:Int}(a:x=ofNat k)(b:k<=n):FN e (.slice (some ⟨id,o,le e⟩) n cx) none (some x) none=some (.slice (some ⟨id,o,le e⟩) k cx):=by
 subst a;unfold FN;simp only;rw[rv c_,qs (by simp[bV];omega)];simp[fc,bM]
def g7{e id n cx o k:Nat}{x:Int}(a:x=ofNat k)(b:k<=n):FN e (.slice (some ⟨id,o,le e⟩) n cx) (some x) none none=some (.slice (some ⟨id,o+k*e,le e⟩) (n - k) (cx - k)):=by
 subst a;unfold FN;simp only;rw[rv c_,qs (by simp[bV];omega)];simp[fc,bM]
section
variable {j7:Type} {e:Nat} {enc:j7->Tn} {l:List j7} {h:HL} {v:Value}
def rV(b:∀a∈l,(enc a).length=e){k:Nat}(d:k<=l.length):(l.flatMap enc).take (k*e)=(l.take k).flatMap enc/\(l.flatMap enc).drop (k*e)=(l.drop k).flatMap enc:=by
 have f:l.flatMap enc=(l.take k).flatMap enc++(l.drop k).flatMap enc:=by rw[←ZO,XU]
 have g:((l.take k).flatMap enc).length=k*e:=by rw[aM (e:=e) λa c=>b a (OO c),XP,XS d]
 simp_all
def Mg(s:q9 h v e enc l){k:Nat}(c:k<=l.length):∃x,FN e v none (some (ofNat k)) none=some x/\q9 h x e enc (l.take k)/\g_ x=g_ v:=by
 obtain⟨b,q,⟨rfl,m⟩|⟨id,g,j,t,i,rfl,n,o⟩⟩:=s
 .have r:=Ph.1 m;subst r;simp at c;subst c;exact⟨.slice none 0 0,rfl,q9.nil h e enc,rfl⟩
 .refine⟨_,n8 rfl c,⟨λa d=>b a (OO d),aM λa d=>b a (OO d),.inr ⟨id,g,j,t,i,j_,n,?_⟩⟩,rfl⟩;have f:0+k*e<=l.length*e:=by rw[F9];exact Pn e c
  have p:=mG o f;rw[XP,XS c,←(rV b c).1];simpa using p
def Me(s:q9 h v e enc l){k:Nat}(c:k<=l.length):∃x,FN e v (some (ofNat k)) none none=some x/\q9 h x e enc (l.drop k)/\g_ x=g_ v:=by
 obtain⟨b,f,⟨rfl,n⟩|⟨id,i,m,t,j,rfl,o,p⟩⟩:=s
 .have r:=Ph.1 n;subst r;simp at c;subst c;exact⟨.slice none 0 0,rfl,q9.nil h e enc,rfl⟩
 .refine⟨_,g7 rfl c,⟨λa d=>b a (lC d),aM λa d=>b a (lC d),.inr ⟨id,i+k*e,m - k,t,j,by rw[qcU],o,?_⟩⟩,rfl⟩;have g:k*e+(l.length - k)*e<=l.length*e:=by rw[←KJ,Nat.add_sub_cancel' c];omega
  have q:=mG p g;rw[qcU,q,←(rV b c).2]
  congr 1
  refine IW ?_;rw[qcU,f,Nat.sub_mul];omega
def hY.PE{n0 bytes:Nat}{x:TR}{new:List j7}{K:Tb}(b:∀a,(enc a).length=e)(f:hY n0 h v e enc l)(c:n0<=h.length)(i:q9 h x e enc new)(k:(l.length+new.length)*bytes<=140737488355328)(g:l.length+new.length<=140737488355328)
  (d:∀v' h',hY n0 h' v' e enc (l++new)->aI v'=true->(∀(j:Nat) o,h[j]?=some o->Sx.g_ v≠some j->h'[j]?=some o)->h.length<=h'.length->(Sx.g_ v'=Sx.g_ v∨∃j,Sx.g_ v'=some j/\h.length<=j)->K [v'] h') :
  P1.heap (.ap cc e bytes v x) h (@i' _ ⟨K⟩):=
 f.ap b c (ml i.2) rfl (by unfold bc;simp_all) d
def hY.emp{n0 m:Nat}(a:h[m]?=some (.o (.cells [] e true)))(b:n0<=m):hY (j7:=j7) n0 h (.slice (some ⟨m,0,le e⟩) 0 1) e enc []:=.inr ⟨m,1,rfl,b,a,.inr rfl⟩
end
def dg{u v:TR}{k:Nat}{l:List (Value×Nat×Value)}(h:DG (El u) (C' k v)=true)(a:Ew l=some ()):Ew ((u,(k,v)) :: l)=some ():=by
 show(match DG (El u) (C' k v)with
  |true=>Ew l
  |false=>none)=_
 rw[h];exact a
def oJ{a:TC}:DG a []=true:=by
 induction a with
 |nil=>rfl
 |cons x a b=>
  show(match Iu x []with
   |true=>false
   |false=>DG a [])=true
  exact b
def xY{a b:Nat}(h:a≠b):DG [a] [b]=true:=by
 have:Iu a [b]=false:=by
  unfold Iu;have:Nat.beq a b=false:=by
   cases c:Nat.beq a b with
   |true=>simp_all
   |false=>rfl
  rw[this];rfl
 unfold DG;rw[this];rfl
def pW{a b:Option Addr}{n c f d:Nat}(h:∀i,g_ (.slice a n c)=some i->g_ (.slice b f d)≠some i):DG (El (.slice a n c)) (C' 0 (.slice b f d))=true:=by
 show DG (El (.slice a n c)) (El (.slice b f d))=true;rcases a with _|a
 .rfl
 rcases b with _|b
 .exact oJ
 have g:a.block≠b.block:=λe=>h a.block rfl (by rw[e];rfl);have k:∀(a:Addr) n c,El (.slice (some a) n c)=[]∨El (.slice (some a) n c)=[a.block]:=λa n c=>by
  unfold El
  grind
 rcases k a n c with e|e<;>rcases k b f d with j|j<;>rw[e,j]
 .rfl
 .rfl
 .exact oJ
 .exact xY g
def kq{j7:Type}{h:HL}{v:TR}{e:Nat}{enc:j7->Tn}{l:List j7}(b:q9 h v e enc l):∃a n c,v = .slice a n c:=by
 obtain⟨_,_,⟨rfl,_⟩|⟨id,d,g,i,f,rfl,_⟩⟩:=b
 .simp_all
 simp_all
def vM{u v:TR}(e:∃a n c,u = .slice a n c)(f:∃a n c,v = .slice a n c)(h:∀i,g_ u=some i->g_ v≠some i):DG (El u) (C' 0 v)=true:=by
 obtain⟨a,n,c,rfl⟩:=e;obtain⟨b,m,d,rfl⟩:=f;exact pW h
def Qq{u v:TR}(e:∃a n c,v = .slice a n c):DG (El u) (C' 1 v)=true:=by
 obtain⟨b,m,d,rfl⟩:=e;exact oJ
def fm:Ew []=some ():=rfl
def AV{a b c d:Int}{K:Tp}(h1:a=c/\b=d->K true)(f:¬(a=c/\b=d)->K false):P1.eqs [(.i a,.i c),(.i b,.i d)] (@i' _ ⟨K⟩):=by
 by_cases h:a=c/\b=d
 .obtain⟨rfl,rfl⟩:=h;show K (cu _);have e:cu [(Lf.i a,Lf.i a),(Lf.i b,Lf.i b)]=true:=by simp[cu,iM]
  simp_all
 .rw[Hs h];exact f h
def yN{a b:Int}{K:Tp}(h1:a<b->K true)(c:b<=a->K false):P1.cmp .lss a b (@i' _ ⟨K⟩):=by
 rcases Int.lt_or_le a b with h|h
 .rw[ua h];exact h1 h
 .rw[v_ h];exact c h
def yV{j7:Type}{e cx len:Nat}{enc:j7->Tn}(b:∀a,(enc a).length=e){h:HL}{id:Nat}{l:List j7}{i o:Nat}{a a':j7}{n:Int}{new:Tn}{K:Tb}(p:h[id]?=some (.o (.cells (l.flatMap enc) e true)))(t:n=ofNat i)(k:l[i]?=some a)(c:l.length=len)(A:o+new.length<=e)
  (f:enc a'=(enc a).take o++new++(enc a).drop (o+new.length)) (r:K [] (oo h id e enc (l.set i a'))) :
  P1.jw (B_ e (.slice (some ⟨id,0,le e⟩) len cx) n) (@i' _ ⟨λx=>P1.jw (Eu o x) (@i' _ ⟨λy=>P1.n4 y (@i' _ ⟨P1.heap (.st y new) h (@i' _ ⟨K⟩)⟩)⟩)⟩):=by
 subst t c;have d:=ai k;have u:B_ e (.slice (some ⟨id,0,le e⟩) l.length cx) (ofNat i)=some (.pointer (some ⟨id,i*e,none⟩)):=by
  rw[qr];have q:0<=ofNat i/\ofNat i<(l.length:Int):=⟨G9 i,j_⟩;simp only[qs q];have:¬(le e=some 1):=by simp[le]
  simp_all
 refine ae u ?_;refine ae (x:=.pointer (some ⟨id,i*e+o,none⟩)) rfl ?_;refine ab (by simp[aI,nc,aT,bE,bj,aP,aD]) ?_;have z:=aM (e:=e) (enc:=enc) (l:=l) λa _=>b a;have s:i*e+e<=l.length*e:=by
  have:=Pn e (show i+1<=l.length by omega)
  grind
 have j:=ew b (l:=l) (i:=i) a d;rw[fi k]at j;have m:=ew b (l:=l) (i:=i) a' d;have hA:((l.flatMap enc).take (i*e)).length=i*e:=i_;have w:=b a;have v:(l.flatMap enc).take (i*e+o)++new++(l.flatMap enc).drop (i*e+o+new.length)=(l.set i a').flatMap enc:=by
  rw[←m,f];have B:(l.flatMap enc).take (i*e+o)=(l.flatMap enc).take (i*e)++(enc a).take o:=by
   conv=>lhs;rw[←j,FL]
   rw[e1,IW a_,hA,show i*e+o - i*e=o by omega,e1,show o - (enc a).length=0 by omega,a9,HF]
  have C:(l.flatMap enc).drop (i*e+o+new.length)=(enc a).drop (o+new.length)++(l.flatMap enc).drop (i*e+e):=by
   conv=>lhs;rw[←j,FL]
   rw[d5,h7 a_,EG,hA,show i*e+o+new.length - i*e=o+new.length by omega,d5,show o+new.length - (enc a).length=0 by omega,XN]
  simp_all
 have g:(Hp.st (.pointer (some ⟨id,i*e+o,none⟩)) new).run (s7 aa h) h.length=some ([.set id (.cells ((l.set i a').flatMap enc) e true)],[]):=by
  show JD (.pointer (some ⟨id,i*e+o,none⟩)) new (s7 aa h) h.length=_;unfold JD;simp only;rw[bB p];simp only;unfold qa
  grind
 exact bH g r
def Ru{j7 j:Type}{e e':Nat}{enc:j7->Tn}{a:j->Tn}{l:List j7}{l':List j}{h:HL}{v v':TR}(o:q9 h v e enc l)(d:q9 h v' e' a l')(n:e≠e'){b:Nat}(g:g_ v=some b):g_ v'≠some b:=by
 intro c;obtain⟨_,_,⟨rfl,_⟩|⟨id,p,t,y,q,rfl,x,_⟩⟩:=o
 .cases g
 obtain⟨_,_,⟨rfl,_⟩|⟨f,i,k,s,r,rfl,m,_⟩⟩:=d
 .cases c
 have u:id=b:=by simpa[g_]using g
 have w:f=b:=by simpa[g_]using c
 simp_all
def RY{j7:Type}{e:Nat}{enc:j7->Tn}(b:∀a,(enc a).length=e){h:HL}{id cx n i o k:Nat}{R:List j7}{a:j7}(q:h[id]?=some (.o (.cells (R.flatMap enc) e true)))(g:R[i]?=some a)(t:n=R.length)(v:o+k<=e) :
  B_ e (.slice (some ⟨id,0,le e⟩) n cx) (ofNat i)=some (.pointer (some ⟨id,0+i*e,none⟩))/\Eu o (.pointer (some ⟨id,0+i*e,none⟩))=some (.pointer (some ⟨id,0+i*e+o,none⟩))/\HJ h (.pointer (some ⟨id,0+i*e+o,none⟩)) (((enc a).drop o).take k):=by
 subst t;have s:=ai g;have m:B_ e (.slice (some ⟨id,0,le e⟩) R.length cx) (ofNat i)=some (.pointer (some ⟨id,0+i*e,none⟩)):=by
  rw[qr];have r:0<=ofNat i/\ofNat i<(R.length:Int):=⟨G9 i,j_⟩;simp only[qs r];have:¬(le e=some 1):=by simp[le]
  simp_all
 have d:q9 h (.slice (some ⟨id,0,le e⟩) R.length cx) e enc R:=by
  have j:=aM (e:=e) (enc:=enc) (l:=R) λa _=>b a;exact⟨λa _=>b a,j,.inr ⟨id,0,cx,_,true,rfl,q,Sx.vd j⟩⟩
 obtain⟨p,c,f⟩:=d.at g;rw[m]at c;cases c;obtain⟨w,x,y⟩:=f.fd o k (by rw[b];omega);have u:Eu o (.pointer (some ⟨id,0+i*e,none⟩))=some (.pointer (some ⟨id,0+i*e+o,none⟩)):=rfl
 simp_all
def xe(b o:Nat):aI (.pointer (some ⟨b,o,none⟩))=true:=by simp[aI,nc,aT,bE,bj,aP,aD]
def bU{v:TR}{b o:Nat}(f:∃a n c,v = .slice a n c)(h:∀i,g_ v=some i->i≠b):DG (El v) (C' 0 (.pointer (some ⟨b,o,none⟩)))=true:=by
 obtain⟨x,n,c,rfl⟩:=f;rcases x with _|x
 .rfl
 have d:x.block≠b:=h x.block rfl;have e:C' 0 (.pointer (some ⟨b,o,none⟩))=[b]:=rfl;rw[e];have g:El (.slice (some x) n c)=[]∨El (.slice (some x) n c)=[x.block]:=by
  unfold El
  grind
 rcases g with e|e<;>rw[e]
 .rfl
 .exact xY d
def qxn:=And.intro @R4 (And.intro (@Zw _ _ cc ac aa) (And.intro (@ZE _ _ cc ac aa) (And.intro (@ZD _ _ cc ac aa) (And.intro (@ZF _ _ cc ac aa) (And.intro (@ZC _ _ cc ac aa) (And.intro (@ZA _ _ cc ac aa) (And.intro (@Zz _ _ cc ac aa) (And.intro (@ZB _ _ cc ac aa) (And.intro (@Zy _ _ cc ac aa) (And.intro (@Jt _ _ cc ac aa) (And.intro (@Js _ _ cc ac aa) (And.intro (@Zx _ _ cc ac aa) (And.intro (@MF _ _ cc ac aa) (And.intro (@MH _ _ cc ac aa) (And.intro (@MG _ _ cc ac aa) (@hj))))))))))))))))
def KD{h1 h':HL}(b:∀(j:Nat) o,h1[j]?=some o->h'[j]?=some o):u_ h1 h':=by
 have a:h1.length<=h'.length:=by
  rcases HG h'.length h1.length with h|h
  .obtain⟨o,c⟩:=am h
   grind
  .exact h
 refine⟨h'.drop h1.length,?_⟩;have:h'.take h1.length=h1:=by
  refine Ib λi=>?_
  grind
 conv=>lhs;rw[←XU h1.length h',this]
def bS{h1 h h':HL}(c:u_ h1 h)(b:∀(j:Nat) o,j<h1.length->h[j]?=some o->h'[j]?=some o):u_ h1 h':=KD λj o a=>b j o (ai a) (c.get a)
def C3:=And.intro qxn (And.intro qxc qxa)
end Go.Am
namespace Go.Am
namespace Sx
section
variable [DB] [En] {C:m8} {Sg:Td} {T:Tv}
variable {m9:Type} [DecidableEq m9] (kc:m9->Tn) {kk:TJ} (hd:∀a b,x8 kk (kc a) (kc b)=some (decide (a=b)))
include hd
theorem Je(k:m9):∀ {a:Tj} {ks:List m9} (i:Nat),a.map (·.key)=ks.map (λk=>.agg ⟨kc k⟩)->jU kk (kc k) a i=some ((ks.idxOf? k).map (i + ·))
 | [],[],i,_=>rfl
 | [],_ :: _,i,h=>by simp at h
 |_ :: _,[],i,h=>by simp at h
 |e :: a,q :: ks,i,h=>by
  simp only[EN,IU]at h;have d:=Je k (i+1) h.2;have c:jU kk (kc k) (e :: a) i=if k=q then some (some i)else jU kk (kc k) a (i+1):=by
   simp only[jU,h.1]
   grind
  rw[c,List.idxOf?_cons];by_cases b:k=q
  .subst b;simp
  .rw[rv b,d,rv i_,Option.map_map]
   congr 2
   grind
variable {kt:TP} (h1:B2 C.P kt=some true) (h2:DU C.P 10000 kt=some kk) (h3:∀a,∃r,fY kk (kc a) (kc a)=some r)
include h1 h2 h3
omit hd in
theorem L7(k:m9):Jj C.P kt (.agg ⟨kc k⟩)=true:=by
 obtain⟨r,a⟩:=h3 k;unfold Jj;simp only[h1,h2,a]
omit h3 hd in
theorem Aa(k:m9){a:Tj}{r:Ts}(b:jU kk (kc k) a 0=some r):wc C.P kt (.agg ⟨kc k⟩) a=some r:=by
 unfold wc;simp only[h1,h2,oP,b]
end
end Sx
namespace Sx
section
variable [DB] [En] {C:m8} {Sg:Td} {T:Tv}
variable {m9:Type} [DecidableEq m9] (kc:m9->Tn) {kk:TJ} (hd:∀a b,x8 kk (kc a) (kc b)=some (decide (a=b)))
def Ek(h:HL)(id:Nat)(b:List (m9×Value)):Prop:=∃a c,h[id]?=some (.o (.map a c))/\a.map (λe=>(e.key,e.val))=b.map λp=>(.agg ⟨kc p.1⟩,p.2)
def Ek.ka{h h':HL}{id:Nat}{a:List (m9×Value)}(g:Ek kc h id a)(f:∀o,h[id]?=some o->h'[id]?=some o):Ek kc h' id a:=by
 obtain⟨b,c,d,e⟩:=g;exact⟨b,c,f _ d,e⟩
def Ek.lt{h:HL}{id:Nat}{d:List (m9×Value)}(b:Ek kc h id d):id<h.length:=by
 obtain⟨e,c,a,_⟩:=b;exact ai a
def Ek.keys{a:Tj}{b:List (m9×Value)}(h:a.map (λe=>(e.key,e.val))=b.map λp=>(.agg ⟨kc p.1⟩,p.2)):a.map (·.key)=(b.map Prod.fst).map λk=>.agg ⟨kc k⟩:=by
 have:=congrArg (List.map Prod.fst) h;rw[Pj,Pj]at this;rw[Pj];exact this
variable {kt:TP} (h1:B2 C.P kt=some true) (h2:DU C.P 10000 kt=some kk) (h3:∀a,∃r,fY kk (kc a) (kc a)=some r)
include hd h1 h2 h3
theorem SH{h:HL}{id:Nat}{a:List (m9×Value)}{z:TR}{K:Tf}(x:Ek kc h id a)(k:m9){v:TR}(y:v = .agg ⟨kc k⟩)(H:∀cs,z≠.agg cs)(F:∀p∈a,∀cs,p.2≠.agg cs)
  (h0:k∉a.map Prod.fst->K [z]) (E:∀(i:Nat) u,a[i]?=some (k,u)->K [u]) :
  (PH C Sg T).ma (.fn (Gr C kt false z (.map (some id)) v false)) h (@i' _ ⟨K⟩):=by
 subst y;obtain⟨b,c,m,f⟩:=x;have D:∀u:Value,(∀cs,u≠.agg cs)->gN false u=some [u]:=λu G=>by
  unfold gN
  simp_all
 have d:∃cs,Gr C kt false z (.map (some id)) (.agg ⟨kc k⟩) false (s7 T h)=some cs/\K cs:=by
  unfold Gr;rw[L7 kc h1 h2 h3 k];simp only[EX,Fh,if_false];rw[oZ m];simp only;rw[Aa kc h1 h2 k (Je kc hd k 0 (Ek.keys kc f))];cases r:(a.map Prod.fst).idxOf? k with
  |none=>
   simp_all
  |some j=>
   obtain⟨s,w,_⟩:=qce.1 r;have l:b.length=a.length:=by
    have:=congrArg List.length f;simpa using this
   have t:j<a.length:=by simpa using s
   have q:b[j]?=some (b[j]'(by omega)):=Gm _;have g:a[j]?=some a[j]:=Gm _;have n:(b.map (λe=>(e.key,e.val)))[j]?=(a.map λp=>((.agg ⟨kc p.1⟩ : Value),p.2))[j]?:=by rw[f]
   rw[FM,FM,q,g]at n;have B:(b[j]'(by omega)).val=a[j].2:=by
    simp_all
   have A:eQ b j=some a[j].2:=by
    unfold eQ
    simp_all
   grind
 obtain⟨cs,e,o⟩:=d;exact dH e o
theorem SI{h:HL}{id:Nat}{b:List (m9×Value)}{u:TR}{K:Tb}(j:Ek kc h id b)(k:m9)(i:k∉b.map Prod.fst){v:TR}(l:v = .agg ⟨kc k⟩)(g:∀o,Ek kc (h.set id o) id (b++[(k,u)])->K [] (h.set id o)) :
  (PH C Sg T).heap (.fn (G5 C kt (.map (some id)) v u)) h (@i' _ ⟨K⟩):=by
 subst l;obtain⟨f,c,d,e⟩:=j;have a:(Hp.fn (G5 C kt (.map (some id)) (.agg ⟨kc k⟩) u)).run (s7 T h) h.length=some ([.set id (.map (f++[{ key:=.agg ⟨kc k⟩,val:=u,born:=c }]) (c+1))],[]):=by
  show G5 C kt (.map (some id)) (.agg ⟨kc k⟩) u (s7 T h) h.length=_;unfold G5;simp only;rw[L7 kc h1 h2 h3 k];simp only[EX,Fh,if_false];rw[oZ d];simp only;rw[Aa kc h1 h2 k (Je kc hd k 0 (Ek.keys kc e)),qdl.2 i];rfl
 exact bH a (g _ ⟨_,_,Ia (ai d),by simp[e]⟩)
end
section
variable [DB] [En] {C:m8} {T:Tv}
abbrev K6:=K3×K3
def Lq(k:K6):Tn:=Gb k.1++Gb k.2
abbrev kk6:TJ:=[.i .i64,.i .i64,.i .u8,.i .i64,.i .i64,.i .u8]
def Qo(a b:K6):x8 kk6 (Lq a) (Lq b)=some (decide (a=b)):=by
 have g:df .i64 .i64=true:=rfl;have i:df .u8 .u8=true:=rfl;obtain⟨⟨j,k,c⟩,l,m,d⟩:=a;obtain⟨⟨n,o,e⟩,p,q,f⟩:=b;simp only[Lq,Gb,EQ,EG,x8,g,i,jf,SC];have e3:decide (ofNat c=ofNat e)=decide (c=e):=decide_eq_decide.2 ⟨λh=>H4 h,λh=>by rw[h]⟩;have e4:decide (ofNat d=ofNat f)=decide (d=f):=decide_eq_decide.2 ⟨λh=>H4 h,λh=>by rw[h]⟩
 grind
def LI(a:K6):∃r,fY kk6 (Lq a) (Lq a)=some r:=by
 have b:df .i64 .i64=true:=rfl;have c:df .u8 .u8=true:=rfl;simp only[Lq,Gb,EQ,EG,fY,b,c,jf];exact⟨_,rfl⟩
end
end Sx
end Go.Am
namespace Go.Am
open Sx
abbrev Lit:=Nat×Bool
def xr(a b:Bool):Bool:=!decide (a=b)
def v7(V:Tx)(l:Lit):Bool:=xr (V l.1) l.2
def Pa(a:Bool):xr a false=a:=by cases a<;>rfl
def xr_t(a:Bool):xr a true = !a:=by cases a<;>rfl
def Z6(a b c:Bool):xr (xr a b) c=xr a (xr b c):=by cases a<;>cases b<;>cases c<;>rfl
def xr_cm(a b:Bool):xr a b=xr b a:=by cases a<;>cases b<;>rfl
def xr_sf(a:Bool):xr a a=false:=by cases a<;>rfl
structure IL(U:List Lit)(r:TF):Prop where
 cl:∀(i:Nat) u,U[i]?=some u->u.1<U.length
 rk:∀(i:Nat) u,U[i]?=some u->u.1≠i->r u.1<r i
 rt:∀(i:Nat) u,U[i]?=some u->u.1=i->u.2=false
inductive Rt(U:List Lit):Lit->Lit->Prop
 |here {l:Lit} (h:U[l.1]?=some (l.1,false)):Rt U l l
 |step {l l' u:Lit} (h:U[l.1]?=some u) (hne:u.1≠l.1) (hr:Rt U (u.1,xr l.2 u.2) l'):Rt U l l'
def Rt.root{U:List Lit}{l l':Lit}(h:Rt U l l'):U[l'.1]?=some (l'.1,false):=by
 induction h with
 |here h=>exact h
 |step _ _ _ a=>exact a
def Rt.det{U:List Lit}{l a b:Lit}(h:Rt U l a)(h':Rt U l b):a=b:=by
 induction h with
 |here h=>
  cases h' with
  |here _=>rfl
  |step d c _=>
   simp_all
 |step h c _ f=>
  cases h' with
  |here d=>
   grind
  |step d _ e=>
   simp_all
def Rt.ex{U:List Lit}{r:TF}(b:IL U r):∀(n:Nat) (l:Lit),r l.1=n->l.1<U.length->∃l',Rt U l l':=by
 intro n
 induction n using Nat.strongRecOn with
 |_ n f=>
  intro l h d;obtain⟨u,a⟩:=am d;by_cases e:u.1=l.1
  .have:=b.rt _ _ a e;refine⟨l,.here ?_⟩
   grind
  .have g:=b.rk _ _ a e;obtain⟨l',c⟩:=f (r u.1) a_ (u.1,xr l.2 u.2) rfl (b.cl _ u a);exact⟨l',.step a e c⟩
def Rt.not{U:List Lit}{l l':Lit}(h:Rt U l l')(b:Bool):Rt U (l.1,xr l.2 b) (l'.1,xr l'.2 b):=by
 induction h with
 |here h=>exact .here h
 |step h d _ e=>
  refine .step h d ?_;rw[show ∀a c:Bool,xr (xr a b) c=xr (xr a c) b from λa c=>by cases a<;>cases b<;>cases c<;>rfl];exact e
def Rt.lt{U:List Lit}{l l':Lit}(h:Rt U l l'):l'.1<U.length:=ai h.root
def Z'(U:List Lit)(V:Tx):Prop:=∀(i:Nat) u,U[i]?=some u->V i=v7 V u
def Rt.vv{U:List Lit}{V:Tx}(a:Z' U V){l l':Lit}(h:Rt U l l'):v7 V l=v7 V l':=by
 induction h with
 |here _=>rfl
 |step h _ _ b=>
  rw[←b];unfold v7;rw[a _ _ h];unfold v7;rw[Z6]
  congr 1
  exact xr_cm _ _
def Rs(U:List Lit)(W:TE)(V:Tx):Prop:=Z' U V/\∀i:Nat,U[i]?=some (i,false)->(W[i]?=some 1->V i=true)/\(W[i]?=some (-1)->V i=false)
def Hr(U:List Lit)(W:TE):Prop:=W.length=U.length/\∀x∈W,x=0∨x=1∨x = -1
def rs_ex{U:List Lit}{r:TF}(j:IL U r)(W:TE):∃V,Rs U W V:=by
 classical
 obtain⟨V,k⟩ : ∃V:Nat->Bool,∀i c,Rt U (i,false) c->V i=xr (decide (W[c.1]?=some 1)) c.2:=by
  refine⟨λi=>decide (∃c,Rt U (i,false) c/\xr (decide (W[c.1]?=some 1)) c.2=true),λi c h=>?_⟩;rw[OP,E6];exact⟨λ⟨o,f,g⟩=>by rw[h.det f];exact g,λg=>⟨c,h,g⟩⟩
 refine⟨V,λi u l=>?_,λi n=>?_⟩
 .by_cases e:u.1=i
  .have:=j.rt i u l e;obtain⟨a,b⟩:=u;simp only at e this;subst e this;unfold v7;rw[Pa]
  .obtain⟨c,d⟩:=Rt.ex j _ (u.1,false) rfl (j.cl _ u l);have m:=d.not u.2;simp only at m;have f:Rt U (i,false) (c.1,xr c.2 u.2):=.step l e m;unfold v7;rw[k _ _ f,k _ _ d,Z6]
 .rw[k _ _ (.here n),Pa]
  simp_all
def kv(W:TE)(l:Lit):Int:=if l.2 then -(W.getD l.1 0)else W.getD l.1 0
def Kn(U:List Lit)(W:TE)(l:Lit)(x:Int):Prop:=∃l',Rt U l l'/\x=kv W l'
def Kn.det{U:List Lit}{W:TE}{l:Lit}{x y:Int}(h:Kn U W l x)(h':Kn U W l y):x=y:=by
 obtain⟨a,c,rfl⟩:=h;obtain⟨b,d,rfl⟩:=h';rw[c.det d]
def Ar{U:List Lit}{W:TE}(a:Hr U W)(l:Lit):kv W l=0∨kv W l=1∨kv W l = -1:=by
 have:W.getD l.1 0=0∨W.getD l.1 0=1∨W.getD l.1 0 = -1:=by
  rw[List.getD_eq_getElem?_getD];cases h:W[l.1]? with
  |none=>left;rfl
  |some x=>exact a.2 x (A9 h)
 unfold kv;omega
theorem getD_some{W:TE}{i:Nat}{x:Int}(h:W.getD i 0=x)(a:x≠0):W[i]?=some x:=by
 grind
def L9{U:List Lit}{W:TE}{V:Tx}(d:Rs U W V){l':Lit}(e:U[l'.1]?=some (l'.1,false)):(kv W l'=1->v7 V l'=true)/\(kv W l' = -1->v7 V l'=false):=by
 obtain⟨a,c⟩:=d.2 _ e;obtain⟨i,b⟩:=l';unfold kv v7;simp only at a c ⊢;cases b with
 |false=>
  rw[Pa]
  grind
 |true=>
  rw[xr_t]
  grind
def Kn.vv{U:List Lit}{W:TE}{V:Tx}(b:Rs U W V){l:Lit}{x:Int}(h:Kn U W l x):(x=1->v7 V l=true)/\(x = -1->v7 V l=false):=by
 obtain⟨c,a,rfl⟩:=h;rw[a.vv b.1];exact L9 b a.root
def E0(l:Lit):Int:=if l.2 then -1 else 1
def DM(W:TE)(l:Lit):TE:=if W.getD l.1 0=0 then W.set l.1 (E0 l)else W
def p0(l:Lit):E0 l≠0:=by unfold E0;omega
def vj{U:List Lit}{W:TE}(a:Hr U W)(l:Lit):Hr U (DM W l):=by
 unfold DM;split
 .refine⟨by rw[GZ];exact a.1,λx b=>?_⟩;rcases kA b with h|rfl
  .exact a.2 x h
  .unfold E0;omega
 .exact a
def M5{U:List Lit}{W:TE}(s:Hr U W){l l':Lit}(h:Rt U l l')(o:(DM W l').getD l'.1 0=E0 l')(V:Tx):Rs U (DM W l') V↔Rs U W V/\v7 V l=true:=by
 have a:=h.root;have g:l'.1<W.length:=by rw[s.1];exact h.lt
 obtain⟨i,b⟩:=l';simp only at a g o;have d:∀V,Z' U V->(v7 V l=true↔V i = !b):=λV r=>by
  rw[h.vv r];unfold v7;simp only;generalize V i=y;cases y<;>cases b<;>decide
 have t:∀j,j≠i->(DM W (i,b))[j]?=W[j]?:=λj n=>by
  unfold DM
  grind
 have f:=getD_some o (p0 _);have v:W[i]?=some 0∨W[i]?=some (E0 (i,b)):=by
  unfold DM at f
  grind
 constructor
 .rintro⟨c,m⟩;have k:V i = !b:=by
   obtain⟨p,q⟩:=m i a;rw[f]at p q;cases b with
   |false=>exact p rfl
   |true=>exact q rfl
  refine⟨⟨c,λj n=>?_⟩,(d V c).2 k⟩
  grind
 .rintro⟨⟨c,m⟩,u⟩;have k:=(d V c).1 u;refine⟨c,λj n=>?_⟩;by_cases e:j=i
  .subst e;rw[f,k];cases b with
   |false=>exact⟨λ_=>rfl,λe=>(by cases e)⟩
   |true=>exact⟨λe=>(by cases e),λ_=>rfl⟩
  simp_all
def S9{U:List Lit}{W:TE}(f:Hr U W){l l':Lit}(d:Rt U l l')(c:(DM W l').getD l'.1 0≠E0 l'):DM W l'=W/\∀V,Rs U W V->v7 V l=false:=by
 have a:=d.root;have b:l'.1<W.length:=by rw[f.1];exact d.lt
 unfold DM at c ⊢;by_cases g:W.getD l'.1 0=0
 .simp_all
 .rw[rv g]at c ⊢;refine⟨rfl,λV e=>?_⟩;rw[d.vv e.1];refine(L9 e a).2 ?_;have h:W.getD l'.1 0=0∨W.getD l'.1 0=1∨W.getD l'.1 0 = -1:=by
   rw[List.getD_eq_getElem?_getD,Gm b];exact f.2 _ (List.getElem_mem b)
  unfold kv;unfold E0 at c
  grind
def gy{U:List Lit}{W:TE}(l':Lit){l:Lit}{x:Int}(h:Kn U W l x)(c:x≠0):Kn U (DM W l') l x:=by
 obtain⟨a,b,rfl⟩:=h;refine⟨a,b,?_⟩;unfold DM;split
 next d=>
  by_cases e:l'.1=a.1
  .exfalso;apply c;unfold kv
   simp_all
  .unfold kv
   simp_all
 .rfl
def u3{U:List Lit}{W:TE}{l l':Lit}(a:Rt U l l')(b:(DM W l').getD l'.1 0=E0 l'):Kn U (DM W l') l 1:=by
 refine⟨l',a,?_⟩;unfold kv;rw[b];unfold E0;split<;>rfl
def SW{U:List Lit}{a b:Nat}{x:Bool}(d:U[a]?=some (a,false))(V:Tx):Z' (U.set a (b,x)) V↔Z' U V/\V a=v7 V (b,x):=by
 constructor
 .intro h;refine⟨λi u c=>?_,h a _ (Ia (ai d))⟩;by_cases e:i=a
  .subst e;rw[d]at c;cases c;unfold v7;rw[Pa]
  .exact h i u i_
 .rintro⟨f,g⟩ i u c;by_cases e:i=a
  .grind
  .rw[IA (Ej e)]at c;exact f i u c
def uh{U:List Lit}{r:TF}(f:IL U r){a b:Nat}{x:Bool}(g:U[a]?=some (a,false))(q:U[b]?=some (b,false))(p:a≠b):∃r',IL (U.set a (b,x)) r':=by
 classical
 refine⟨λi=>r i+if ∃n,Rt U (i,false) (a,n)then r b+1 else 0,λi u c=>?_,λi u c j=>?_,λi u c e=>?_⟩
 .rw[GZ];by_cases e:i=a
  .grind
  .rw[IA (Ej e)]at c;exact f.cl i u c
 .by_cases e:i=a
  .subst e;rw[Ia (ai g)]at c;cases c;have m:¬ ∃n,Rt U (b,false) (i,n):=by
    rintro⟨n,h⟩;have:=(Rt.here (l:=(b,false)) q).det h
    simp_all
   have o:∃n,Rt U (i,false) (i,n):=⟨false,.here g⟩
   grind
  .rw[IA (Ej e)]at c;have m:=f.rk i u c j;have o:(∃n,Rt U (u.1,false) (a,n))↔∃n,Rt U (i,false) (a,n):=by
    constructor
    .rintro⟨n,h⟩;refine⟨xr n u.2,.step (u:=u) c j ?_⟩;have:=h.not u.2;exact this
    .rintro⟨n,h⟩;cases h with
     |here d=>
      omega
     |step d _ s=>
      rw[c]at d;cases d;have:=s.not (xr false u.2);simp only[xr_sf]at this;exact⟨_,this⟩
   simp_all
 .by_cases k:i=a
  .grind
  .rw[IA (Ej k)]at c;exact f.rt i u c e
def yY{U:List Lit}{W:TE}{a b:Nat}{x:Bool}(c:U[a]?=some (a,false))(e:U[b]?=some (b,false))(d:a≠b){V:Tx}
  (f:V a=v7 V (b,x)->((W[b]?=some 1->V b=true)/\(W[b]?=some (-1)->V b=false))->(W[a]?=some 1->V a=true)/\(W[a]?=some (-1)->V a=false)) :
  Rs (U.set a (b,x)) W V↔Rs U W V/\V a=v7 V (b,x):=by
 unfold Rs;rw[SW c]
 grind
def Fo(U:List Lit)(W:TE)(n:Bool)(p q:Lit):List Lit×Bool:=
 if p.1=q.1 then(U,n||xr p.2 q.2)
 else if kv W p≠0/\kv W q≠0 then(U.set p.1 (q.1,xr p.2 q.2),n || !decide (kv W p=kv W q))
 else if kv W p≠0 then(U.set q.1 (p.1,xr p.2 q.2),n)
 else(U.set p.1 (q.1,xr p.2 q.2),n)
def kv0{W:TE}{l:Lit}(h:kv W l=0):W.getD l.1 0=0:=by
 unfold kv at h;omega
def qB{U:List Lit}{W:TE}{r:TF}(B:IL U r)(m:Hr U W)(n:Bool){p q a b:Lit}(C:Rt U p a)(D:Rt U q b) :
  (∃r',IL (Fo U W n a b).1 r')/\Hr (Fo U W n a b).1 W/\∀V,((Fo U W n a b).2=false/\Rs (Fo U W n a b).1 W V)↔(n=false/\Rs U W V/\v7 V p=v7 V q):=by
 have f:=C.root;have g:=D.root;have i:∀ {V},Z' U V->(v7 V p=v7 V q↔V a.1=v7 V (b.1,xr a.2 b.2)):=λ{V} u=>by
  rw[C.vv u,D.vv u];unfold v7;simp only;generalize V a.1=x;generalize V b.1=y;generalize a.2=z;generalize b.2=w;cases x<;>cases y<;>cases z<;>cases w<;>decide
 have A:∀ {V},Z' U V->(v7 V p=v7 V q↔V b.1=v7 V (a.1,xr a.2 b.2)):=λ{V} u=>by
  rw[C.vv u,D.vv u];unfold v7;simp only;generalize V a.1=x;generalize V b.1=y;generalize a.2=z;generalize b.2=w;cases x<;>cases y<;>cases z<;>cases w<;>decide
 have s:∀ {l:Lit} {V:Tx},kv W l=0->(W[l.1]?=some 1->V l.1=true)/\(W[l.1]?=some (-1)->V l.1=false):=λ{l V} h=>by
  have:=kv0 h
  grind
 unfold Fo;by_cases e:a.1=b.1
 .rw[qs e];refine⟨⟨r,B⟩,m,λV=>?_⟩;simp only;constructor
  .rintro⟨d,c⟩;rw[pB]at d;refine⟨d.1,c,(i c.1).2 ?_⟩;unfold v7;rw[d.2,Pa,e]
  .rintro⟨d,c,j⟩;refine⟨?_,c⟩;have:=(i c.1).1 j;unfold v7 at this;simp only at this;rw[e]at this;rw[d,gu];revert this;generalize V b.1=y;generalize xr a.2 b.2=z;cases y<;>cases z<;>decide
 rw[rv e];by_cases v:kv W a≠0/\kv W b≠0
 .rw[qs v];refine⟨uh B f g e,⟨by rw[GZ];exact m.1,m.2⟩,λV=>?_⟩;simp only;have K:=Ar m a;have L:=Ar m b;by_cases E:kv W a=kv W b
  .rw[Gs E,EX,Bool.or_false,yY f g e]
   .exact⟨λh=>⟨h.1,h.2.1,(i h.2.1.1).2 h.2.2⟩,λh=>⟨h.1,h.2.1,(i h.2.1.1).1 h.2.2⟩⟩
   .intro d c;have F:∀ {l:Lit},W[l.1]?=some 1∨W[l.1]?=some (-1)->(W[l.1]?=some 1↔kv W l=if l.2 then -1 else 1)/\(W[l.1]?=some (-1)↔kv W l=if l.2 then 1 else -1):=λ{l} h=>by
     unfold kv
     grind
    have G:∀ {l:Lit},kv W l≠0->W[l.1]?=some 1∨W[l.1]?=some (-1):=λ{l} h=>by
     have J:=Ar m (l.1,false);unfold kv at J h
     grind
    have H:=F (G v.1);have I:=F (G v.2);unfold v7 at d;simp only at d;rw[d];rw[H.1,H.2,E];rw[I.1,I.2]at c;revert c;generalize V b.1=y;generalize kv W b=k at *;cases a.2<;>cases b.2<;>cases y<;>simp[xr]<;>omega
  .rw[GI E,FT,Bool.or_true];constructor
   .simp_all
   .rintro⟨_,c,j⟩;exfalso;rw[C.vv c.1,D.vv c.1]at j;have M:=L9 c f;have N:=L9 c g
    grind
 rw[rv v];by_cases o:kv W a≠0
 .rw[qs o];have t:kv W b=0:=Classical.byContradiction λh=>v ⟨o,h⟩;refine⟨uh B g f (Ej e),⟨by rw[GZ];exact m.1,m.2⟩,λV=>?_⟩;simp only;rw[yY g f (Ej e) λ_ _=>s t];exact⟨λ⟨d,c,j⟩=>⟨d,c,(A c.1).2 j⟩,λ⟨d,c,j⟩=>⟨d,c,(A c.1).1 j⟩⟩
 .rw[rv o];have t:kv W a=0:=Classical.byContradiction λh=>o h;refine⟨uh B f g e,⟨by rw[GZ];exact m.1,m.2⟩,λV=>?_⟩;simp only;rw[yY f g e λ_ _=>s t];exact⟨λ⟨d,c,j⟩=>⟨d,c,(i c.1).2 j⟩,λ⟨d,c,j⟩=>⟨d,c,(i c.1).1 j⟩⟩
def Iy:Nat->TC->List (TC)
 |0,_=>[[]]
 |n+1,l=>l.flatMap λa=>(Iy n (l.erase a)).map (a :: ·)
def CV:List (TC)->List (List (TC))
 | []=>[[]]
 |l :: ls=>(Iy l.length l).flatMap λp=>(CV ls).map (p :: ·)
def HD{j7 g9:Type}(f:j7->g9->g9×Bool):List j7->g9->g9×Bool
 | [],s=>(s,true)
 |x :: xs,s=>if (f x s).2 then HD f xs (f x s).1 else((f x s).1,false)
def pE{j7 g9:Type}{f:j7->g9->g9×Bool}{x:j7}{xs:List j7}{s:g9}:HD f (x :: xs) s=if (f x s).2 then HD f xs (f x s).1 else((f x s).1,false):=rfl
def vu{j7 g9:Type}{f:j7->g9->g9×Bool}:∀ {xs ys:List j7} {s:g9},HD f (xs++ys) s=if (HD f xs s).2 then HD f ys (HD f xs s).1 else HD f xs s
 | [],ys,s=>rfl
 |x :: xs,ys,s=>by
  rw[EQ,pE,pE];split
  .exact vu
  .rfl
def px:∀ {n:Nat} {l p:TC},l.length=n->p∈Iy n l->p.Perm l
 |0,l,p,c,b=>by
  have b:p=[]:=by simpa[Iy]using b
  simp_all
 |n+1,l,p,c,b=>by
  unfold Iy at b;obtain⟨a,f,b⟩:=GG.1 b;obtain⟨q,d,rfl⟩:=DJ.1 b;have e:=px (l:=l.erase a) j_ d
  grind
def Mj:∀ {n:Nat} {l p:TC},l.length=n->p.Perm l->p∈Iy n l
 |0,l,p,c,b=>by
  have:l=[]:=qcT c;subst this;rw[b.eq_nil];simp[Iy]
 |n+1,l,p,c,b=>by
  cases p with
  |nil=>
   simp_all
  |cons a p=>
   have d:a∈l:=b.mem_iff.1 c_;unfold Iy;refine GG.2 ⟨a,d,DJ.2 ⟨p,Mj j_ ?_,rfl⟩⟩
   grind
abbrev B5:=Lit×Lit×Lit×Lit
def UN(V:Tx)(f:B5):Bool:=xr (xr (v7 V f.1) (v7 V f.2.1)) (xr (v7 V f.2.2.1) (v7 V f.2.2.2))
def JZ(F:List B5)(V:Tx):Prop:=∀f∈F,UN V f=false
def Sg(U:List Lit)(W:TE)(f:B5)(x:Int):Prop:=∃a b c d,Kn U W f.1 a/\Kn U W f.2.1 b/\Kn U W f.2.2.1 c/\Kn U W f.2.2.2 d/\x=a*b*c*d
def I4(U:List Lit)(W:TE)(F:List B5):Prop:=∀f∈F,∀x,Sg U W f x->¬x<0
def X5{a b c d:Int}(e:a=0∨a=1∨a = -1)(f:b=0∨b=1∨b = -1)(g:c=0∨c=1∨c = -1)(h:d=0∨d=1∨d = -1):a*b*c*d=0∨a*b*c*d=1∨a*b*c*d = -1:=by
 grind
def Kn.KM{U:List Lit}{W:TE}(b:Hr U W){l:Lit}{x:Int}(h:Kn U W l x):x=0∨x=1∨x = -1:=by
 obtain⟨a,_,rfl⟩:=h;exact Ar b a
def l1{U:List Lit}{W:TE}(g:Hr U W){F:List B5}{f:B5}(s:f∈F){x:Int}(t:Sg U W f x)(i:x<0):∀V,Rs U W V->¬JZ F V:=by
 intro V e r;have h:=r f s;obtain⟨a,b,c,d,j,k,l,m,rfl⟩:=t;have u:=j.KM g;have v:=k.KM g;have w:=l.KM g;have rd:=m.KM g;have n:=j.vv e;have o:=k.vv e;have p:=l.vv e;have q:=m.vv e;unfold UN at h;revert h;rcases u with rfl|rfl|rfl
 .simp at i
 all_goals rcases v with rfl|rfl|rfl
 all_goals try (simp at i;done)
 all_goals rcases w with rfl|rfl|rfl
 all_goals try (simp at i;done)
 all_goals rcases rd with rfl|rfl|rfl
 all_goals try (simp at i;done)
 all_goals first|rw[n.1 rfl]|rw[n.2 rfl]
 all_goals first|rw[o.1 rfl]|rw[o.2 rfl]
 all_goals first|rw[p.1 rfl]|rw[p.2 rfl]
 all_goals first|rw[q.1 rfl]|rw[q.2 rfl]
 all_goals decide
def kH{U:List Lit}{W:TE}(g:Hr U W){F:List B5}(q:I4 U W F)(r:∀f∈F,∃a b c d,Kn U W f.1 a/\Kn U W f.2.1 b/\Kn U W f.2.2.1 c/\Kn U W f.2.2.2 d/\a≠0/\b≠0/\c≠0/\d≠0){V:Tx}(e:Rs U W V):JZ F V:=by
 intro f l;obtain⟨a,b,c,d,h,i,j,k,t,u,v,w⟩:=r f l;have s:=q f l _ ⟨a,b,c,d,h,i,j,k,rfl⟩;have x:=h.KM g;have y:=i.KM g;have z:=j.KM g;have rd:=k.KM g;have m:=h.vv e;have n:=i.vv e;have o:=j.vv e;have p:=k.vv e;unfold UN;rcases x with rfl|rfl|rfl
 .exact absurd rfl t
 all_goals rcases y with rfl|rfl|rfl
 all_goals try (exact absurd rfl u)
 all_goals rcases z with rfl|rfl|rfl
 all_goals try (exact absurd rfl v)
 all_goals rcases rd with rfl|rfl|rfl
 all_goals try (exact absurd rfl w)
 all_goals try (exfalso;exact s m_)
 all_goals first|rw[m.1 rfl]|rw[m.2 rfl]
 all_goals first|rw[n.1 rfl]|rw[n.2 rfl]
 all_goals first|rw[o.1 rfl]|rw[o.2 rfl]
 all_goals first|rw[p.1 rfl]|rw[p.2 rfl]
 all_goals decide
abbrev _root_.Ti:=Nat->Nat->Nat
def DC(pn:Ti)(a b:Nat):Lit:=if a<b then(pn a b,false)else(pn b a,true)
def gY{pn:Ti}{a b:Nat}(h:a≠b):DC pn b a=((DC pn a b).1,xr (DC pn a b).2 true):=by
 unfold DC;by_cases c:a<b
 .rw[qs c,rv a_];rfl
 .rw[rv c,qs a_];rfl
def GK(D:List (TC))(p r:TC)(R:List (TC)):List (List (TC)):=(Iy r.length r).flatMap λq=>(CV R).map λt=>D++(p++q) :: t
def Aw{D:List (TC)}{p r:TC}{R:List (TC)}(e:r≠[]):GK D p r R=r.flatMap λa=>GK D (p++[a]) (r.erase a) R:=by
 unfold GK;obtain⟨n,c⟩ : ∃n,r.length=n+1:=⟨r.length - 1,by have:=w4.2 e;omega⟩;rw[c,show Iy (n+1) r=r.flatMap λa=>(Iy n (r.erase a)).map (a :: ·)from rfl,List.flatMap_assoc];have g:∀l:List Nat,(∀a∈l,a∈r)->(l.flatMap λx=>((Iy n (r.erase x)).map (x :: ·)).flatMap λq=>(CV R).map λt=>D++(p++q) :: t)=l.flatMap λa=>(Iy (r.erase a).length (r.erase a)).flatMap λq=>(CV R).map λt=>D++(p++[a]++q) :: t:=by
  intro l
  induction l with
  |nil=>intro _;rfl
  |cons a l f=>
   intro h;rw[UY,UY,f λb d=>h b (FZ _ d)]
   congr 1
   rw[List.length_erase_of_mem (h a c_),c,ek]
   simp_all
 simp_all
def Av{D:List (TC)}{p l:TC}{R:List (TC)}:GK D p [] (l :: R)=GK (D++[p]) [] l R:=by
 unfold GK;simp[Iy,CV,List.map_flatMap];rfl
def Au{D:List (TC)}{p:TC}:GK D p [] []=[D++[p]]:=by
 simp[GK,Iy,CV]
def Pp(pn:Ti)(V:Tx)(p:TC):Prop:=p.Pairwise λa b=>v7 V (DC pn a b)=true
def Ij(pn:Ti)(V:Tx)(D:List (TC))(p r:TC):Prop:=(∀q∈D,Pp pn V q)/\Pp pn V p/\∀a∈p,∀b∈r,v7 V (DC pn a b)=true
def sQ{pn:Ti}{V:Tx}{D:List (TC)}{p r:TC}{id:Nat}(i':id∈r)(a:r.Nodup):Ij pn V D (p++[id]) (r.erase id)↔Ij pn V D p r/\∀b∈r.erase id,v7 V (DC pn id b)=true:=by
 unfold Ij Pp
 grind
def OX{pn:Ti}{V:Tx}{D:List (TC)}{p l:TC}:Ij pn V (D++[p]) [] l↔Ij pn V D p []:=by
 unfold Ij Pp;constructor
 .simp_all
 .rintro⟨c,d,_⟩;refine⟨λq e=>?_,c_,λa b=>by cases b⟩
  grind
def Va{pn:Ti}{V:Tx}{D:List (TC)}{p r:TC}{R:List (TC)}{x:List (TC)}(e:x∈GK D p r R)(h:∀q∈x,Pp pn V q):Ij pn V D p r:=by
 unfold GK at e;obtain⟨q,k,e⟩:=GG.1 e;obtain⟨t,_,rfl⟩:=DJ.1 e;have j:=px rfl k;have c:=h (p++q) c_;unfold Pp at c;rw[bb]at c;exact⟨λd i=>h d (by simp[i]),c.1,λa f b g=>c.2.2 a f b (j.mem_iff.2 g)⟩
def OkL(pn:Ti)(S:(Nat->Bool)->Prop)(F:List B5)(x:List (TC)):Prop:=∃V,S V/\JZ F V/\∀q∈x,Pp pn V q
def Er(pn:Ti)(S:(Nat->Bool)->Prop)(F:List B5)(x:List (TC)):Bool:=@decide (OkL pn S F x) (Classical.propDecidable _)
def AN{pn:Ti}{S:(Nat->Bool)->Prop}{F:List B5}{x:List (TC)}:Er pn S F x=true↔OkL pn S F x:=by
 unfold Er
 simp_all
structure Ny(U:List Lit)(pn:Ti)(S:(Nat->Bool)->Prop)(W:TE)(D:List (TC))(p r:TC):Prop where
 ok:Hr U W
 sem:∀V,Rs U W V↔S V/\Ij pn V D p r
 kn:(∀q∈D,q.Pairwise λa b=>Kn U W (DC pn a b) 1)/\p.Pairwise (λa b=>Kn U W (DC pn a b) 1)/\∀a∈p,∀b∈r,Kn U W (DC pn a b) 1
section
variable {U:List Lit} {pn:Ti} {S:(Nat->Bool)->Prop} {F:List B5}
def Ny.next{W:TE}{D:List (TC)}{p l:TC}(h:Ny U pn S W D p []):Ny U pn S W (D++[p]) [] l:=by
 obtain⟨d,e,f⟩:=h.kn;refine⟨h.ok,λV=>by rw[OX];exact h.sem V,λq c=>?_,c_,λa b=>by cases b⟩
 grind
structure Ih(U:List Lit)(pn:Ti)(S:(Nat->Bool)->Prop)(W:TE)(D:List (TC))(p r:TC)(id:Nat)(B:TC):Prop where
 ok:Hr U W
 sem:∀V,Rs U W V↔(S V/\Ij pn V D p r)/\∀b∈B,v7 V (DC pn id b)=true
 kn:(∀q∈D,q.Pairwise λa b=>Kn U W (DC pn a b) 1)/\p.Pairwise (λa b=>Kn U W (DC pn a b) 1)/\(∀a∈p,∀b∈r,Kn U W (DC pn a b) 1)/\∀b∈B,Kn U W (DC pn id b) 1
def Ny.start{W:TE}{D:List (TC)}{p r:TC}(h:Ny U pn S W D p r)(id:Nat):Ih U pn S W D p r id []:=
 ⟨h.ok,λV=>⟨λa=>⟨(h.sem V).1 a,λb c=>by cases c⟩,λa=>(h.sem V).2 a.1⟩,h.kn.1,h.kn.2.1,h.kn.2.2,λb c=>by cases c⟩
def Ih.set{W:TE}{D:List (TC)}{p r:TC}{id:Nat}{B:TC}(h:Ih U pn S W D p r id B){b:Nat}{l':Lit}(f:Rt U (DC pn id b) l')(g:(DM W l').getD l'.1 0=E0 l'):Ih U pn S (DM W l') D p r id (B++[b]):=by
 obtain⟨m,n,o,s⟩:=h.kn;have e:∀ {l:Lit},Kn U W l 1->Kn U (DM W l') l 1:=λh=>gy l' h m_;refine⟨vj h.ok l',λV=>?_,λq k=>(m q k).imp e,n.imp e,λa i b j=>e (o a i b j),λc d=>?_⟩
 .rw[M5 h.ok f g V,h.sem V,and_assoc]
  grind
 .rcases Fs.1 d with d|d
  .exact e (s c d)
  .rw[GM]at d;subst d;exact u3 f g
def Ih.placed{W:TE}{D:List (TC)}{p r:TC}{id:Nat}{B:TC}(h:Ih U pn S W D p r id B)(i':id∈r)(c:r.Nodup)(e:∀b,b∈B↔b∈r.erase id):Ny U pn S W D (p++[id]) (r.erase id):=by
 obtain⟨d,i,j,k⟩:=h.kn;refine⟨h.ok,λV=>?_,d,?_,λa f b g=>?_⟩
 .rw[h.sem V,sQ i' c,and_assoc]
  simp_all
 .grind
 grind
def Ih.fail{W:TE}{D:List (TC)}{p r:TC}{id:Nat}{B:TC}(h:Ih U pn S W D p r id B)(i':id∈r)(a:r.Nodup)(j:∀b∈B,b∈r.erase id)(c:∀V,Rs U W V->JZ F V->(∀b∈r.erase id,v7 V (DC pn id b)=true)->False)(R:List (TC)):(GK D (p++[id]) (r.erase id) R).filter (Er pn S F)=[]:=by
 rw[List.filter_eq_nil_iff];intro x l d;obtain⟨V,f,g,i⟩:=AN.1 d;have e:=(sQ i' a).1 (Va l i);exact c V ((h.sem V).2 ⟨⟨f,e.1⟩,λb k=>e.2 b (j b k)⟩) g e.2
def Ny.leaf{L:TF}(C:IL U L){W:TE}{D:List (TC)}{p:TC}(h:Ny U pn S W D p [])(H:I4 U W F)(I:∀f∈F,∀l∈[f.1,f.2.1,f.2.2.1,f.2.2.2],∃q∈D++[p],∃a∈q,∃b∈q,a≠b/\l=DC pn a b):Er pn S F (D++[p])=true:=by
 rw[AN];obtain⟨V,z⟩:=rs_ex C W;obtain⟨B,y⟩:=(h.sem V).1 z;obtain⟨M,N,_⟩:=h.kn;have n:∀q∈D++[p],q.Pairwise λa b=>Kn U W (DC pn a b) 1:=λq m=>by
  grind
 have k:∀f∈F,∀l∈[f.1,f.2.1,f.2.2.1,f.2.2.2],∃x,Kn U W l x/\x≠0:=λf g l J=>by
  obtain⟨q,m,a,E,b,G,r,rfl⟩:=I f g l J;obtain⟨i,s⟩:=FK E;obtain⟨j,t⟩:=FK G;have o:=n q m;rw[KI]at o;have v:=Gm (ai s);have w:=Gm (ai t);rw[s]at v;rw[t]at w;rcases qdk i j with e|e|e
  .grind
  .grind
  .have:=o j i (ai t) (ai s) e;rw[←EI v,←EI w]at this;obtain⟨A,u,K⟩:=this;rw[gY (Ej r)];refine⟨-1,⟨(A.1,xr A.2 true),u.not true,?_⟩,m_⟩;unfold kv at K ⊢;rw[xr_t]
   grind
 refine⟨V,B,kH h.ok H (λf g=>?_) z,λq m=>?_⟩
 .obtain⟨a,O,T⟩:=k f g f.1 c_;obtain⟨b,P,X⟩:=k f g f.2.1 c_;obtain⟨c,Q,Y⟩:=k f g f.2.2.1 c_;obtain⟨d,R,Z⟩:=k f g f.2.2.2 c_
  grind
 .rcases Fs.1 m with m|m
  .exact y.1 q m
  .rw[GM]at m;subst m;exact y.2.1
end
end Go.Am
namespace Go.Am
open Sx Go.Proofs
def tS{a b:Bool}{K:Tp}:P1.eqs [(.b a,.b b)] (@i' _ ⟨K⟩)=K (decide (a=b)):=by
 cases a<;>cases b<;>rfl
structure XC where
 w:Nat
 v:Nat
 xc:Value
 r:Nat×Int×Int
 at_:Value
 ids:Value
 lay:Value
 us:Value
 pr:Nat
 up:Value
 va:Value
 fo:Value
def ah(c:XC)(n:Bool):Tn:=[.int .i64 (ofNat c.w),.int .i64 (ofNat c.v),c.xc,.int .u8 (ofNat c.r.1),.int .i64 c.r.2.1,.int .i64 c.r.2.2,c.at_,c.ids,c.lay,c.us,.map (some c.pr),c.up,c.va,c.fo,.bool n]
def Ep(l:Lit):Tn:=[.int .i64 (ofNat l.1),.bool l.2]
def dV(l:Lit):(Ep l).length=2:=rfl
def DD(x:Int):Tn:=[.int .i64 x]
def eO(x:Int):(DD x).length=1:=rfl
def Kf(f:B5):Tn:=Ep f.1++Ep f.2.1++Ep f.2.2.1++Ep f.2.2.2
def tN(f:B5):(Kf f).length=8:=rfl
section
variable {h:HL} {b:Nat} {c:XC} {n:Bool} (hb:h[b]?=some (.o (.cells (ah c n) 15 true))) {U:List Lit} (hU:q9 h c.up 2 Ep U) {r:TF} (hF:IL U r)
include hb hU hF
theorem wl{l:Lit}(q:l.1<U.length):∃l',Rt U l l'/\aF cc ac 118 [.v (kb b),.i (ofNat l.1),.b l.2] (h9 aa h) [.i (ofNat l'.1),.b l'.2] (h9 aa h):=by
 have s:=x118 (ls:=[.v (kb b),.i (ofNat l.1),.b l.2]) (K:=λt g=>g=h/\∃l',Rt U l l'/\t=[.i (ofNat l'.1),.b l'.2]) (H:=h) (pP (az _) (mc (Jg t0))) (by
  unfold Wj;simp only[ub];refine e_ ?_;refine aH (m:=r l.1) (λm ls g=>∃k:Lit,ls=[.i (ofNat k.1),.b k.2]/\g=h/\m=r k.1/\k.1<U.length/\∀l',Rt U k l'->Rt U l l') ⟨l,rfl,rfl,rfl,q,λ_ h=>h⟩ ?_;rintro m ls g ⟨k,rfl,rfl,rfl,p,f⟩ j a;refine Ei ?_;refine e_ ?_;obtain⟨u,d⟩:=am p;refine bz (ds:=[c.up]) hb (by simp[ah]) rfl ?_;refine e_ ?_;refine ab hU.h_ ?_;refine k_ ?_;refine dK (cs:=[.int .i64 (ofNat u.1)]) hU rfl d rfl a_ ?_;refine e_ ?_;by_cases e:u.1=k.1
  .rw[DZ (by rw[e])];refine e_ ?_;have:=hF.rt _ _ d e;refine⟨D',k,f k (.here ?_),D'⟩
   grind
  .rw[D0 (λh=>e (H4 h))];refine e_ ?_;refine bz (ds:=[c.up]) hb (by simp[ah]) rfl ?_;refine e_ ?_;refine ab hU.h_ ?_;refine k_ ?_;refine aQ hU rfl d ?_;rw[show Ep u=[.int .i64 (ofNat u.1),.bool u.2]from rfl];refine e_ ?_;rw[tS];exact a (r u.1) _ _ (hF.rk _ _ d e) ⟨(u.1,xr k.2 u.2),rfl,rfl,rfl,hF.cl _ u d,λl' h=>f l' (.step d e h)⟩)
 grind
variable {W:TE} (hW:Hr U W) (hV:q9 h c.va 1 DD W)
include hW hV
theorem lN{l:Lit}(k:l.1<U.length):∃x,Kn U W l x/\aF cc ac 119 [.v (kb b),.i (ofNat l.1),.b l.2] (h9 aa h) [.i x] (h9 aa h):=by
 obtain⟨a,g,j⟩:=wl hb hU hF k;have e:a.1<W.length:=by rw[hW.1];exact g.lt
 obtain⟨y,f⟩:=am e;have m:=hW.2 y (A9 f);have d:kv W a=if a.2 then -y else y:=by
  unfold kv
  simp_all
 refine⟨kv W a,⟨a,g,rfl⟩,?_⟩;exact xK Ys (pP (az _) (mc (Jg t0))) (by
  unfold Wk;simp only[ub];refine e_ ?_;refine ak j ?_;refine e_ ?_;rw[d];cases p:a.2 with
  |true=>
   refine e_ ?_;refine bz (ds:=[c.va]) hb (by simp[ah]) rfl ?_;refine e_ ?_;refine ab hV.h_ ?_;refine k_ ?_;refine aQ hV rfl f ?_;rw[show DD y=[.int .i64 y]from rfl];simp(disch:=omega)only[↓n9]
   try simp_all
  |false=>
   refine e_ ?_;refine bz (ds:=[c.va]) hb (by simp[ah]) rfl ?_;refine e_ ?_;refine ab hV.h_ ?_;refine k_ ?_;refine aQ hV rfl f ?_;rw[show DD y=[.int .i64 y]from rfl];refine e_ ?_
   simp_all)
theorem m0{F:List B5}(m:q9 h c.fo 8 Kf F)(Q:F.length<=1000000)(w:∀f∈F,f.1.1<U.length/\f.2.1.1<U.length/\f.2.2.1.1<U.length/\f.2.2.2.1<U.length) :
  ∃e:Bool,aF cc ac 93 [.v (kb b)] (h9 aa h) [.b e] (h9 aa h)/\(e=true->I4 U W F)/\(e=false->∃f∈F,∃x,Sg U W f x/\x<0):=by
 have S:=x93 (ls:=[.v (kb b)]) (K:=λrs P=>P=h/\∃e:Bool,rs=[.b e]/\(e=true->I4 U W F)/\(e=false->∃f∈F,∃x,Sg U W f x/\x<0)) (H:=h) (pP (az _) t0) (by
  unfold f93;simp only[ub];refine e_ ?_;refine bz (ds:=[c.fo]) hb (by simp[ah]) rfl ?_;refine e_ ?_;refine ab m.h_ ?_;refine k_ ?_;refine bw m ?_;refine mR F.length (λj=>∀(i:Nat) f,i<j->F[i]?=some f->∀x,Sg U W f x->¬x<0) (j0:=0) rfl (D6 _) (λi f h=>a_) ?_;intro j hj hi J t;refine e_ ?_;by_cases p:j<F.length
  case neg=>
   obtain rfl:j=F.length:=a_;rw[aN (B8 _)];refine e_ ?_;refine⟨D',true,D',λ_ f u x I=>?_,λh=>by cases h⟩;obtain⟨i,y⟩:=FK u
   grind
  rw[aO p];refine e_ ?_;obtain⟨f,u⟩:=am p;obtain⟨T,V,X,Y⟩:=w f (A9 u);obtain⟨d,z,L⟩:=lN hb hU hF hW hV T;obtain⟨l,A,M⟩:=lN hb hU hF hW hV V;obtain⟨x3,B,N⟩:=lN hb hU hF hW hV X;obtain⟨x4,C,O⟩:=lN hb hU hF hW hV Y;have r1:=z.KM hW;have r2:=A.KM hW;have r3:=B.KM hW;have r4:=C.KM hW;have s2:d*l=0∨d*l=1∨d*l = -1:=by
   grind
  have s3:d*l*x3=0∨d*l*x3=1∨d*l*x3 = -1:=by
   grind
  have s4:=X5 r1 r2 r3 r4;refine aQ m rfl u ?_;rw[show Kf f=[.int .i64 (ofNat f.1.1),.bool f.1.2,.int .i64 (ofNat f.2.1.1),.bool f.2.1.2,.int .i64 (ofNat f.2.2.1.1),.bool f.2.2.1.2,.int .i64 (ofNat f.2.2.2.1),.bool f.2.2.2.2]from rfl];refine e_ ?_;refine bK (g9:=Int) 4 (λj s=>[.i s,.i (ofNat j)]) (λ_ _=>h) (λj s=>s=(match j with|0=>1|1=>d|2=>d*l|3=>d*l*x3|_=>d*l*x3*x4)) (j0:=0) (s0:=1) rfl rfl (D6 _) rfl ?_;rintro k s hk q D a;refine e_ ?_;obtain rfl|rfl|rfl|rfl|rfl:k=0∨k=1∨k=2∨k=3∨k=4:=a_
  .rw[ua m_];refine e_ ?_;refine ae (x:=()) rfl ?_;refine ae (x:=[.i (ofNat f.1.1),.b f.1.2]) rfl ?_;refine e_ ?_;refine ak L ?_;refine e_ ?_;rw[q,Ht (by simp only;omega) (by simp only;omega)];refine k_ ?_;exact a _ a_ c_
  .rw[ua m_];refine e_ ?_;refine ae (x:=()) rfl ?_;refine ae (x:=[.i (ofNat f.2.1.1),.b f.2.1.2]) rfl ?_;refine e_ ?_;refine ak M ?_;refine e_ ?_;rw[q,Ht (by simp only;omega) (by simp only;omega)];refine k_ ?_;exact a _ a_ rfl
  .rw[ua m_];refine e_ ?_;refine ae (x:=()) rfl ?_;refine ae (x:=[.i (ofNat f.2.2.1.1),.b f.2.2.1.2]) rfl ?_;refine e_ ?_;refine ak N ?_;refine e_ ?_;rw[q,Ht (by simp only;omega) (by simp only;omega)];refine k_ ?_;exact a _ a_ rfl
  .rw[ua m_];refine e_ ?_;refine ae (x:=()) rfl ?_;refine ae (x:=[.i (ofNat f.2.2.2.1),.b f.2.2.2.2]) rfl ?_;refine e_ ?_;refine ak O ?_;refine e_ ?_;rw[q,Ht (by simp only;omega) (by simp only;omega)];refine k_ ?_;exact a _ a_ rfl
  .rw[v_ m_];refine e_ ?_;simp only at q;have R:Sg U W f s:=⟨d,l,x3,x4,z,A,B,C,q⟩;by_cases G:s<0
   .rw[ua G];refine e_ ?_
    grind
   .rw[v_ a_];refine e_ ?_;rw[aU a_];refine t p λi g y E x I=>?_;by_cases e:i=j
    .subst e;rw[u]at E;cases E;obtain⟨a1,a2,a3,a4,Z,q2,q3,q4,rfl⟩:=I;rw[Z.det z,q2.det A,q3.det B,q4.det C,←q];exact G
    grind)
 grind
end
abbrev K2:=Nat×Nat
def Fj(k:K2):Tn:=[.int .i64 (ofNat k.1),.int .i64 (ofNat k.2)]
abbrev kk2:TJ:=[.i .i64,.i .i64]
def Qn(a b:K2):x8 kk2 (Fj a) (Fj b)=some (decide (a=b)):=by
 have c:df .i64 .i64=true:=rfl;obtain⟨d,e⟩:=a;obtain⟨f,g⟩:=b;have e3:∀x y:Nat,decide (ofNat x=ofNat y)=decide (x=y):=λx y=>decide_eq_decide.2 ⟨λh=>H4 h,λh=>by rw[h]⟩;simp only[Fj,x8,c,jf,SC,e3]
 grind
def LH(a:K2):∃r,fY kk2 (Fj a) (Fj a)=some r:=by
 have b:df .i64 .i64=true:=rfl;simp only[Fj,fY,b,jf];exact⟨_,rfl⟩
def Pe(h:HL)(id:Nat)(pn:Ti):Prop:=∃a:List (K2×Value),Ek Fj h id a/\(∀(i:Nat) k u,a[i]?=some (k,u)->u = .int .i64 (ofNat (pn k.1 k.2)))/\∀k,k∉a.map Prod.fst->pn k.1 k.2=0
def Pe.ka{h h':HL}{id:Nat}{pn:Ti}(d:Pe h id pn)(c:∀o,h[id]?=some o->h'[id]?=some o):Pe h' id pn:=by
 obtain⟨e,a,b⟩:=d;exact⟨e,a.ka Fj c,b⟩
def ZT{h:HL}{id:Nat}{pn:Ti}(a:Pe h id pn)(x y:Nat){K:Tf}(j:K [.int .i64 (ofNat (pn x y))]):P1.ma (.fn (Gr cc 132 false (.int .i64 (ofNat 0)) (.map (some id)) (.agg ⟨[.int .i64 (ofNat x),.int .i64 (ofNat y)]⟩) false)) h (@i' _ ⟨K⟩):=by
 obtain⟨l,c,f,g⟩:=a;refine SH Fj Qn d_ d_ LH c (x,y) rfl (λb e=>by cases e) (λp a b e=>?_) (λk=>?_) λi u d=>?_
 .obtain⟨i,d⟩:=FK a
  grind
 .simp_all
 grind
def kL{h:HL}{b:Nat}{c:XC}{n:Bool}(a:h[b]?=some (.o (.cells (ah c n) 15 true))){pn:Ti}(d:Pe h c.pr pn)(x y:Nat):aF cc ac 87 [.v (kb b),.i (ofNat x),.i (ofNat y)] (h9 aa h) [.i (ofNat (DC pn x y).1),.b (DC pn x y).2] (h9 aa h):=by
 exact xK x87 (pP (az _) (mc (mc t0))) (by
  unfold f87;simp only[ub];refine e_ ?_;unfold DC;by_cases e:x<y
  .rw[qs e,aO e];refine e_ ?_;refine bz (ds:=[.map (some c.pr)]) a (by simp[ah]) rfl ?_;refine e_ ?_;refine ab rfl ?_;refine k_ ?_;refine ZT d x y ?_;refine e_ ?_
   simp_all
  .rw[rv e,aN a_];refine e_ ?_;refine bz (ds:=[.map (some c.pr)]) a (by simp[ah]) rfl ?_;refine e_ ?_;refine ab rfl ?_;refine k_ ?_;refine ZT d y x ?_;refine e_ ?_
   simp_all)
end Go.Am
namespace Go.Am
namespace Sx
section
variable [DB]
end
section
variable [DB]
end
end Sx
end Go.Am
namespace Go.Am
open Sx Go.Proofs
def Oi{g n:Nat}{ls a:TG}{sg:H7}(i:ac g=some sg)(e:sg.plain=true)(d:kj ls=true)(h:Jy n (.f g) ls .empty IJ=some a):∀H,aF cc ac g ls H a H:=by
 obtain⟨j,k,c,b⟩:=(yZ n).f g ls .empty IJ a (gQ d) h;rw[Nn]at b;cases b;exact Bg g sg ls _ _ i e c
def L3(a:TG):Option (TG)->Bool:=λo=>@Option.rec _ (λ_=>Bool) false (λb=>V_ b a) o
def lO{g n:Nat}{ls a:TG}{sg:H7}(i:ac g=some sg)(d:sg.plain=true)(c:kj ls=true)(h:L3 a (Jy n (.f g) ls .empty IJ)=true):∀H,aF cc ac g ls H a H:=by
 cases e:Jy n (.f g) ls .empty IJ with
 |none=>rw[e]at h;cases h
 |some b=>
  rw[e]at h;have h:V_ b a=true:=h;rw[rS h]at e;exact Oi i d c e
end Go.Am
namespace Go.Am
open Sx
def mA(t:Nat):Int:=match t with
 |0=>1|1=>0|2=>-1|3=>0|4=>-1|5=>0|6=>1|_=>0
def mB(t:Nat):Int:=match t with
 |0=>0|1=>-1|2=>0|3=>1|4=>0|5=>-1|6=>0|_=>1
def mC(t:Nat):Int:=match t with
 |0=>0|1=>1|2=>0|3=>-1|4=>0|5=>-1|6=>0|_=>1
def mD(t:Nat):Int:=match t with
 |0=>1|1=>0|2=>-1|3=>0|4=>1|5=>0|6=>-1|_=>0
def DE(s t:Nat):Nat:=if s<4 then(if t<4 then(s+t)%4 else 4+(t+4 - s)%4)else(if t<4 then 4+(s+t)%4 else(t+8 - s)%4)
abbrev Mv:=Nat×Int×Int
def af(a b:Mv):Mv:=(DE a.1 b.1,mA b.1*a.2.1+mB b.1*a.2.2+b.2.1,mC b.1*a.2.1+mD b.1*a.2.2+b.2.2)
def CW:Mv:=(0,0,0)
def DV(n:Int)(m:Mv):Prop:=m.1<8/\-n<=m.2.1/\m.2.1<=n/\-n<=m.2.2/\m.2.2<=n/\(m.2.1+m.2.2)%2=0
def t8{t:Nat}(h:t<8):t=0∨t=1∨t=2∨t=3∨t=4∨t=5∨t=6∨t=7:=a_
def bR{s t:Nat}:DE s t<8:=by
 unfold DE
 grind
def Cr{a b c:Nat}(e:a<8)(f:b<8)(g:c<8):DE (DE a b) c=DE a (DE b c):=by
 have d:((range 8).all λa=>(range 8).all λb=>(range 8).all λc=>DE (DE a b) c==DE a (DE b c))=true:=by decide +kernel
 simp_all
def aW{a b c:Mv}(d:a.1<8)(e:b.1<8)(f:c.1<8):af (af a b) c=af a (af b c):=by
 obtain⟨g,i,j⟩:=a;obtain⟨k,l,h⟩:=b;obtain⟨m,n,o⟩:=c;simp only at d e f;unfold af;refine SF (Cr d e f) ?_;simp only;clear d;rcases t8 e with rfl|rfl|rfl|rfl|rfl|rfl|rfl|rfl<;>rcases t8 f with rfl|rfl|rfl|rfl|rfl|rfl|rfl|rfl<;>
  (refine SF ?_ ?_<;>simp[DE,mA,mB,mC,mD]<;>omega)
def iC{a:Mv}(b:a.1<8):af a CW=a:=by
 obtain⟨t,x,y⟩:=a;have b:t<8:=b;unfold af CW;simp only[mA,mB,mC,mD];refine SF ?_ (SF c_ c_);rcases t8 b with rfl|rfl|rfl|rfl|rfl|rfl|rfl|rfl<;>simp[DE]
def jH{a:Mv}(b:a.1<8):af CW a=a:=by
 obtain⟨t,x,y⟩:=a;have b:t<8:=b;unfold af CW;refine SF ?_ (SF c_ c_);rcases t8 b with rfl|rfl|rfl|rfl|rfl|rfl|rfl|rfl<;>simp[DE]
def Hm(t:Nat):Nat:=match t with
 |1=>3|3=>1|n=>n
def E4(m:Mv):Mv:=(Hm m.1,-(mA (Hm m.1)*m.2.1+mB (Hm m.1)*m.2.2),-(mC (Hm m.1)*m.2.1+mD (Hm m.1)*m.2.2))
def wz{m:Mv}(h:m.1<8):af m (E4 m)=CW:=by
 obtain⟨t,x,y⟩:=m;have h:t<8:=h;unfold af E4 CW;rcases t8 h with rfl|rfl|rfl|rfl|rfl|rfl|rfl|rfl<;>simp[DE,mA,mB,mC,mD,Hm]<;>omega
def aZ{n k:Int}{m:Mv}(h:DV n m)(a:n<=k):DV k m:=by
 unfold DV at *;omega
def AO{n:Int}(h:0<=n):DV n CW:=by
 unfold DV CW;simp only;omega
def eS{n k:Int}{a b:Mv}(g:DV n a)(h:DV k b):DV (n+k) (af a b):=by
 obtain⟨d,j,l⟩:=a;obtain⟨o,p,f⟩:=b;unfold DV af at *;simp only at *;obtain⟨c,i⟩:=g;obtain⟨e,m⟩:=h;refine⟨bR,?_⟩;clear c;rcases t8 e with rfl|rfl|rfl|rfl|rfl|rfl|rfl|rfl<;>simp only[mA,mB,mC,mD]<;>omega
def Xh{n:Int}{a:Mv}(d:DV n a):DV n (E4 a):=by
 obtain⟨c,f,g⟩:=a;unfold DV E4 at *;simp only at *;obtain⟨b,e⟩:=d;rcases t8 b with rfl|rfl|rfl|rfl|rfl|rfl|rfl|rfl<;>simp[mA,mB,mC,mD,Hm]<;>omega
abbrev Ln:=Nat×Int
def Do(l:Ln):Mv:=match l.1 with
 |1=>(4,2*l.2,0)
 |2=>(6,0,2*l.2)
 |3=>(5,l.2,l.2)
 |_=>(7,-l.2,l.2)
def AM{l:Ln}{n:Int}(h:-n<=l.2/\l.2<=n):DV (2*n) (Do l):=by
 obtain⟨k,c⟩:=l;unfold Do DV
 grind
def lW(l:Ln):(Do l).1<8:=by
 unfold Do;split<;>simp
def OD(l:Ln):af (Do l) (Do l)=CW:=by
 obtain⟨k,c⟩:=l;unfold Do af CW;simp only;split<;>simp[DE,mA,mB,mC,mD]<;>omega
abbrev Cl:=Int×Int×Nat
def q8(c:Cl)(e:Nat):Ln:=match e with
 |0=>(match c.2.2 with
  |0=>(2,c.2.1)
  |1=>(1,c.1+1)
  |2=>(2,c.2.1+1)
  |_=>(1,c.1))
 |1=>(3,c.1+c.2.1+1)
 |_=>(4,c.2.1 - c.1)
def EO(c:Cl)(e:Nat):Cl:=match e with
 |0=>(match c.2.2 with
  |0=>(c.1,c.2.1 - 1,2)
  |1=>(c.1+1,c.2.1,3)
  |2=>(c.1,c.2.1+1,0)
  |_=>(c.1 - 1,c.2.1,1))
 |1=>(c.1,c.2.1,[1,0,3,2].getD c.2.2 0)
 |_=>(c.1,c.2.1,[3,2,1,0].getD c.2.2 0)
def qT(t q:Nat):Nat:=if t<4 then(q+t)%4 else([0,3,2,1].getD ((q+t)%4) 0+(if t%2=0 then 0 else 2))%4
def ar(m:Mv)(c:Cl):Cl:=(mA m.1*c.1+mB m.1*c.2.1+m.2.1 - (if mA m.1+mB m.1=1 then 0 else 1),mC m.1*c.1+mD m.1*c.2.1+m.2.2 - (if mC m.1+mD m.1=1 then 0 else 1),qT m.1 c.2.2)
def eh(l:Ln)(c:Cl):Bool:=match l.1 with
 |1=>decide (l.2<=c.1)
 |2=>decide (l.2<=c.2.1)
 |3=>decide (l.2<=c.1+c.2.1+(if c.2.2=1∨c.2.2=2 then 1 else 0))
 |_=>decide (l.2<=c.2.1 - c.1 - (if c.2.2=2∨c.2.2=3 then 0 else 1))
def yR{l:Ln}{c:Cl}{e:Nat}(a:1<=l.1/\l.1<=4)(b:c.2.2<4)(d:e<3)(h:eh l c≠eh l (EO c e)):l=q8 c e:=by
 obtain⟨k,n⟩:=l;obtain⟨x,y,q⟩:=c;simp only at a b;obtain rfl|rfl|rfl|rfl:q=0∨q=1∨q=2∨q=3:=a_
 all_goals obtain rfl|rfl|rfl:e=0∨e=1∨e=2:=a_
 all_goals obtain rfl|rfl|rfl|rfl:k=1∨k=2∨k=3∨k=4:=a_
 all_goals
  simp[eh,EO,q8]at h ⊢
 all_goals omega
def eT(t e:Nat):Nat:=if e=0 then 0 else if t%2=0/\t<4∨t=5∨t=7 then e else 3 - e
def io{m:Mv}{c:Cl}{e:Nat}(a:m.1<8)(b:c.2.2<4)(d:e<3):ar m (EO c e)=EO (ar m c) (eT m.1 e):=by
 obtain⟨t,f,g⟩:=m;obtain⟨x,y,q⟩:=c;simp only at a b;rcases t8 a with rfl|rfl|rfl|rfl|rfl|rfl|rfl|rfl
 all_goals obtain rfl|rfl|rfl|rfl:q=0∨q=1∨q=2∨q=3:=a_
 all_goals obtain rfl|rfl|rfl:e=0∨e=1∨e=2:=a_
 all_goals simp[ar,EO,eT,qT,mA,mB,mC,mD]
 all_goals omega
def W5{m:Mv}{c:Cl}{e:Nat}(a:m.1<8)(b:c.2.2<4)(d:e<3):af m (Do (q8 (ar m c) (eT m.1 e)))=af (Do (q8 c e)) m:=by
 obtain⟨t,f,g⟩:=m;obtain⟨x,y,q⟩:=c;simp only at a b;rcases t8 a with rfl|rfl|rfl|rfl|rfl|rfl|rfl|rfl
 all_goals obtain rfl|rfl|rfl|rfl:q=0∨q=1∨q=2∨q=3:=a_
 all_goals obtain rfl|rfl|rfl:e=0∨e=1∨e=2:=a_
 all_goals simp[ar,eT,qT,mA,mB,mC,mD,af,Do,q8,DE]
 all_goals omega
def mJ{t e:Nat}(a:e<3):eT t e<3:=by
 unfold eT
 grind
def dR{t q:Nat}:qT t q<4:=by
 unfold qT;split<;>omega
def OL{g:Mv}{l:Ln}{c:Cl}{e:Nat}(b:g.1<8)(f:1<=l.1/\l.1<=4)(d:c.2.2<4)(a:e<3)(h:eh l (ar g c)≠eh l (ar g (EO c e))):af g (Do l)=af (Do (q8 c e)) g:=by
 rw[io b d a]at h;have:=yR f dR (mJ a) h;rw[this];exact W5 b d a
def ik{g:Mv}{c:Cl}{e:Nat}(a:g.1<8)(b:c.2.2<4)(d:e<3):ar (af (Do (q8 c e)) g) (EO c e)=ar g c:=by
 obtain⟨t,f,h⟩:=g;obtain⟨x,y,q⟩:=c;simp only at a b;rcases t8 a with rfl|rfl|rfl|rfl|rfl|rfl|rfl|rfl
 all_goals obtain rfl|rfl|rfl|rfl:q=0∨q=1∨q=2∨q=3:=a_
 all_goals obtain rfl|rfl|rfl:e=0∨e=1∨e=2:=a_
 all_goals simp[ar,EO,qT,mA,mB,mC,mD,af,Do,q8,DE]
 all_goals omega
end Go.Am
namespace Go.Am
open Sx Go.Proofs
def jC(f:TQ)(ls a:TG):Bool:=L3 a (Jy 60 (.f f) ls .empty IJ)
def dN{f:TQ}{ls a:TG}{sg:H7}(h:jC f ls a=true)(d:ac f=some sg)(c:sg.plain=true)(b:kj ls=true):Cc f ls a:=lO (n:=60) d c b h
abbrev D5(m:Mv):TG:=[.i (ofNat m.1),.i m.2.1,.i m.2.2]
abbrev Et(c:Cl):TG:=[.i c.1,.i c.2.1,.i (ofNat c.2.2)]
def oD{n:Int}(h:-16384<=n/\n<=16384):Cc 121 [.i n] [.b false]:=by
 refine q121 rfl ?_;unfold Us;simp only[ub]
 repeat (first|simp(disch:=omega)only[↓n9])
 try rfl
def RB{t x y:Int}(f:0<=t/\t<8)(b:-16384<=x/\x<=16384)(c:-16384<=y/\y<=16384)(e:(x+y)%2=0):Cc 104 [.i t,.i x,.i y] [.i 0]:=by
 refine q104 rfl ?_;unfold Uq;simp only[ub];rcases qdu 0 (x+y)with a|a
 .repeat (first|simp(disch:=omega)only[↓n9]|refine aj (oD b) ?_|refine aj (oD c) ?_|rw[Gj a a_])
 .have d:-(-(x+y)%2)=0:=a_
  repeat (first|simp(disch:=omega)only[↓n9]|refine aj (oD b) ?_|refine aj (oD c) ?_|rw[Hv a a_])
def wM{n:Int}{m:Mv}(h:DV n m)(g:n<=16384):Cc 104 (D5 m) [.i 0]:=by
 obtain⟨b,c,d,e,f,a⟩:=h;exact RB ⟨G9 _,i_⟩ a_ a_ a
def wX{t:Nat}(h:t<8):nm om 0 [(ofNat t,4)] 4=some [.int .i64 (mA t),.int .i64 (mB t),.int .i64 (mC t),.int .i64 (mD t)]:=by
 rcases t8 h with rfl|rfl|rfl|rfl|rfl|rfl|rfl|rfl<;>kernel_rfl
def Cg{n t:Nat}(h:t<n):FV n (ofNat t)=some ():=by
 show(match Nat.blt t n with
  |true=>some ()
  |false=>none)=some ()
 rw[show Nat.blt t n=true by simp_all]
def RG{t:Nat}(a:t<8){x y:Int}(h:-200000<=x/\x<=200000/\-200000<=y/\y<=200000):Cc 127 [.i (mA t),.i (mB t),.i (mC t),.i (mD t),.i x,.i y] [.i (mA t*x+mB t*y),.i (mC t*x+mD t*y)]:=by
 rcases t8 a with rfl|rfl|rfl|rfl|rfl|rfl|rfl|rfl
 all_goals
  simp only[mA,mB,mC,mD];refine q127 rfl ?_;unfold UC;simp only[ub]
  repeat (first|simp(disch:=omega)only[↓n9])
  (try simp only[IU,Lf.i.injEq,and_true,true_and]);(try omega)
def thenT(s t:Nat):Bool:=jC 130 [.i (mA s),.i (mB s),.i (mC s),.i (mD s),.i (mA t),.i (mB t),.i (mC t),.i (mD t)] [.i (mA (DE s t)),.i (mB (DE s t)),.i (mC (DE s t)),.i (mD (DE s t))]
def numT(t:Nat):Bool:=jC 129 [.i (mA t),.i (mB t),.i (mC t),.i (mD t)] [.i (.ofNat t)]
def BE:((range 8).all λs=>numT s&&(range 8).all λt=>thenT s t)=true:=d_
def Np{s t:Nat}(a:s<8)(b:t<8):Cc 130 [.i (mA s),.i (mB s),.i (mC s),.i (mD s),.i (mA t),.i (mB t),.i (mC t),.i (mD t)] [.i (mA (DE s t)),.i (mB (DE s t)),.i (mC (DE s t)),.i (mD (DE s t))]:=by
 have h:=A_.1 BE s (CY.2 a);rw[te]at h;exact dN (A_.1 h.2 t (CY.2 b)) rfl d_ rfl
def RO{t:Nat}(a:t<8):Cc 129 [.i (mA t),.i (mB t),.i (mC t),.i (mD t)] [.i (.ofNat t)]:=by
 have h:=A_.1 BE t (CY.2 a);rw[te]at h;exact dN h.1 rfl d_ rfl
def Om{m:Mv}{n:Int}(h:DV n m)(a:n<=16384):Cc 128 (D5 m) (D5 m++[.i 0]):=by
 refine q128 rfl ?_;unfold Ut;simp only[ub]
 repeat (first|simp(disch:=omega)only[↓n9]|refine aj (wM h a) ?_)
 rfl
def gb{a b:Mv}{n k:Int}(c:DV n a)(d:DV k b)(p:0<=n/\0<=k/\n+k<=16384):Cc 106 (D5 a++D5 b) (D5 (af a b)++[.i 0]):=by
 have j:=eS c d;refine q106 rfl ?_;unfold Ur;simp only[ub];simp only[D5,EQ,EG]
 repeat (first|simp(disch:=omega)only[↓n9]|refine aj (wM c a_) ?_|refine aj (wM d a_) ?_|refine ae (Cg d.1) ?_|refine ae (wX d.1) ?_|refine aj (RG d.1 ⟨by have:=c.2;omega,by have:=c.2;omega,by have:=c.2;omega,by have:=c.2;omega⟩) ?_|refine ae (Cg c.1) ?_|refine ae (wX c.1) ?_|refine aj (Np c.1 d.1) ?_|refine aj (RO bR) ?_)
 have q:∀z:Int,(-n<=z/\z<=n)∨True:=λ_=>.inr trivial;obtain⟨l,e,f,g,h,o⟩:=j;unfold af at e f g h;simp only at e f g h;rw[Gi a_ a_,Gi a_ a_];refine aj (Om (m:=af a b) ⟨l,e,f,g,h,o⟩ a_) ?_;simp only[D5,EQ,EG];refine e_ ?_;rfl
def C0{k c:Int}(b:1<=k/\k<=4)(a:-4096<=c/\c<=4096):Cc 140 [.i k,.i c] [.i 0]:=by
 refine q140 rfl ?_;unfold UH;simp only[ub]
 repeat (first|simp(disch:=omega)only[↓n9])
 try rfl
def p2{k c:Int}{m:Mv}(d:1<=k/\k<=4)(b:-4096<=c/\c<=4096)(a:m=Do (k.toNat,c)):Cc 126 [.i k,.i c] (D5 m++[.i 0]):=by
 subst a;obtain rfl|rfl|rfl|rfl:k=1∨k=2∨k=3∨k=4:=a_
 all_goals
  refine q126 rfl ?_;unfold UB;simp only[ub]
  repeat (first|simp(disch:=omega)only[↓n9]|refine aj (C0 a_ a_) ?_)
  simp[Do]
def kO{l:Ln}(b:1<=l.1/\l.1<=4)(a:-4096<=l.2/\l.2<=4096):Cc 126 [.i (ofNat l.1),.i l.2] (D5 (Do l)++[.i 0]):=
 p2 (k:=ofNat l.1) ⟨i_,i_⟩ a rfl
def g0{x y:Int}(h:-65536<=x/\x<=65536/\-65536<=y/\y<=65536):Cc 142 [.i x,.i y] [.i 0]:=by
 refine q142 rfl ?_;unfold UI;simp only[ub]
 repeat (first|simp(disch:=omega)only[↓n9])
 try rfl
def jk(m:Mv)(x y:Int):Int×Int:=(mA m.1*x+mB m.1*y+2*m.2.1,mC m.1*x+mD m.1*y+2*m.2.2)
def Mb{t:Nat}(a:t<8){n x y:Int}(h:-n<=x/\x<=n/\-n<=y/\y<=n):-n<=mA t*x+mB t*y/\mA t*x+mB t*y<=n/\-n<=mC t*x+mD t*y/\mC t*x+mD t*y<=n:=by
 rcases t8 a with rfl|rfl|rfl|rfl|rfl|rfl|rfl|rfl<;>simp only[mA,mB,mC,mD]<;>omega
def ML{m:Mv}(a:DV 16384 m){x y:Int}(h:-8000<=x/\x<=8000/\-8000<=y/\y<=8000):Cc 136 (D5 m++[.i x,.i y]) [.i (jk m x y).1,.i (jk m x y).2,.i 0]:=by
 have c:=Mb a.1 h;have b:=a.2;refine q136 rfl ?_;unfold UF;simp only[ub];simp only[D5,EQ,EG]
 repeat (first|simp(disch:=omega)only[↓n9]|refine aj (wM a a_) ?_|refine aj (g0 a_) ?_|refine ae (Cg a.1) ?_|refine ae (wX a.1) ?_|refine aj (RG a.1 a_) ?_)
 rfl
def P8{c:Cl}(h:-4096<=c.1/\c.1<=4096/\-4096<=c.2.1/\c.2.1<=4096/\c.2.2<4):Cc 31 (Et c) [.i 0]:=by
 have a:(ofNat c.2.2)<=3:=i_;refine q31 rfl ?_;unfold f31;simp only[ub]
 repeat (first|simp(disch:=omega)only[↓n9])
 try rfl
def RD{x y q:Int}(h:-1000000<=x/\x<=1000000/\-1000000<=y/\y<=1000000):Cc 135 [.i x,.i y,.i q] [.i (2*x+1),.i (2*y+1)]:=by
 refine q135 rfl ?_;unfold UE;simp only[ub]
 repeat (first|simp(disch:=omega)only[↓n9])
 (try simp only[IU,Lf.i.injEq,and_true,true_and]);(try omega)
def ei(q:Nat):Int:=[0,1,0,-1].getD q 0
def eb(q:Nat):Int:=[-1,0,1,0].getD q 0
def v0{q:Nat}(h:q<4):nm p5 0 [(ofNat q,17)] 2=some [.int .i64 (ei q),.int .i64 (eb q)]:=by
 obtain rfl|rfl|rfl|rfl:q=0∨q=1∨q=2∨q=3:=a_
 all_goals kernel_rfl
def W6{m:Mv}(e:DV 16384 m){c:Cl}(d:-1000<=c.1/\c.1<=1000/\-1000<=c.2.1/\c.2.1<=1000/\c.2.2<4):Cc 116 (D5 m++Et c) (Et (ar m c)):=by
 obtain⟨t,n,o⟩:=m;obtain⟨x,y,q⟩:=c;have i:DV 16384 (t,0,0):=⟨e.1,c_,c_,c_,c_,c_⟩;have a:=ML (aZ e a_) (x:=2*x+1) (y:=2*y+1) (by simp only at d;omega);have b:=ML (aZ i a_) (x:=ei q) (y:=eb q) (by
  have j:q<4:=d.2.2.2.2;obtain rfl|rfl|rfl|rfl:q=0∨q=1∨q=2∨q=3:=a_
  all_goals simp[ei,eb])
 obtain⟨X,k⟩ : ∃X,(jk (t,n,o) (2*x+1) (2*y+1)).1=X:=⟨_,rfl⟩;obtain⟨Y,l⟩ : ∃Y,(jk (t,n,o) (2*x+1) (2*y+1)).2=Y:=⟨_,rfl⟩;obtain⟨U,f⟩ : ∃U,(jk (t,0,0) (ei q) (eb q)).1=U:=⟨_,rfl⟩;obtain⟨V,g⟩ : ∃V,(jk (t,0,0) (ei q) (eb q)).2=V:=⟨_,rfl⟩;rw[k,l]at a;rw[f,g]at b;have h:=e.2;have p:t<8:=e.1;have j:q<4:=d.2.2.2.2;simp only at h d;refine q116 rfl ?_;unfold UA;simp only[ub];simp only[D5,Et,EQ,EG]
 repeat (first|simp(disch:=omega)only[↓n9]|refine aj (RD a_) ?_|refine ae (Cg j) ?_|refine ae (v0 j) ?_|refine aj a ?_|refine aj b ?_)
 rcases t8 p with rfl|rfl|rfl|rfl|rfl|rfl|rfl|rfl
 all_goals obtain rfl|rfl|rfl|rfl:q=0∨q=1∨q=2∨q=3:=a_
 all_goals
  simp[jk,mA,mB,mC,mD,ei,eb]at k l f g;subst f g
  repeat (first|simp(disch:=omega)only[↓n9]|refine ae (by simp only[ir,W2,Ed,Int.reduceToNat,Int.reduceAdd,Int.reduceMul,Int.reduceMod,Int.reduceSub,Int.reduceNeg,Int.reduceDiv,Nat.reduceAdd,Nat.reduceMul,Nat.reduceLeDiff,ZJ,qdz,↓reduceIte,qcA,XN,hy,a9,EQ,EG,F9,Int.toNat_zero,ZR,e2,Int.zero_add];exact rfl) ?_|refine AW 6 ?_)
  try simp[ar,mA,mB,mC,mD,qT]
  try omega
abbrev EJ:=Int×Int×Int
def mi(c:EJ):Tn:=[.int .i64 c.1,.int .u8 c.2.1,.int .u8 c.2.2]
def ej(c:EJ):Prop:=-9223372036854775808<=c.1/\c.1<=9223372036854775807/\0<=c.2.1/\c.2.1<=255/\0<=c.2.2/\c.2.2<=255
def Oh(c:EJ):Bool:=decide (1<=c.2.2)&&decide (c.2.2<=3)
def Q6(k:Int):Cc 57 [.i k] [.b (decide (1<=k)&&decide (k<=3))]:=by
 refine q57 rfl ?_;unfold f57;simp only[ub];by_cases a:1<=k
 .by_cases c:k<=3
  .simp(disch:=omega)only[↓n9];simp[a,c]
  .simp(disch:=omega)only[↓n9];simp[a,c]
 .simp(disch:=omega)only[↓n9];simp[a]
def s6(c:EJ):Cc 56 [.i c.1,.i c.2.1,.i c.2.2] [.b (!Oh c)]:=by
 refine q56 rfl ?_;unfold f56;simp only[ub]
 repeat (first|simp(disch:=omega)only[↓n9]|refine aj (Q6 c.2.2) ?_)
 simp[Oh]
abbrev jm:Value:=.func (.func 56) ⟨[]⟩ ⟨[]⟩
def Zg:aI jm=true:=rfl
abbrev _root_.TD:=List EJ
def WB{h:HL}{x:TR}{l:TD}(d:q9 h x 3 mi l)(u:l.length<=4294967296):∃n:Int,aF cc ac 94 [.v x,.v jm] (h9 aa h) [.i n] (h9 aa h)/\(0<=n↔∃c∈l,Oh c=false):=by
 obtain⟨m,g,p,n,rfl,rfl,q⟩:=x94 (K:=λm g=>∃n:Int,m=[.i n]/\g=h/\(0<=n↔∃c∈l,Oh c=false)) (H:=h) (pP d.h_ (pP Zg t0)) (by
  unfold f94;simp only[ub];refine e_ ?_;refine bw d ?_;refine mR l.length (λj=>∀i,i<j->∀c,l[i]?=some c->Oh c=true) rfl (D6 _) (λi k=>absurd k (qdD _)) ?_;intro j t k o f;refine e_ ?_;by_cases e:j<l.length
  .have a:ofNat j<ofNat l.length:=j_;rw[ua a];refine e_ ?_;obtain⟨c,b⟩ : ∃c,l[j]?=some c:=⟨_,Gm e⟩;refine aQ d rfl b ?_;unfold mi
   repeat (first|simp(disch:=omega)only[↓n9]|refine jt (tF (s6 c _) rfl [.agg [.i .i64 c.1,.i .u8 c.2.1,.i .u8 c.2.2]] rfl rfl) ?_)
   cases s:Oh c with
   |true=>
    show P1.cond false _ _;refine e_ ?_;rw[Gi i_ i_]
    grind
   |false=>
    show P1.cond true _ _;refine e_ ?_
    grind
  .have a:ofNat l.length<=ofNat j:=j_;rw[v_ a];refine e_ ?_;refine⟨_,rfl,D',λh=>a_,λ⟨c,b,s⟩=>?_⟩;obtain⟨i,r⟩:=FK b
   grind)
 exact⟨n,p,q⟩
def BX{h:HL}{x:TR}{l:TD}(c:q9 h x 3 mi l)(i:l.length<=4294967296):aF cc ac 55 [.v x,.v jm] (h9 aa h) [.b (!l.all Oh)] (h9 aa h):=by
 obtain⟨n,e,f⟩:=WB c i;obtain⟨d,a,g,rfl,rfl⟩:=x55 (K:=λd a=>d=[.b (!l.all Oh)]/\a=h) (H:=h) (pP c.h_ (pP Zg t0)) (by
  unfold f55;simp only[ub]
  repeat (first|simp(disch:=omega)only[↓n9]|refine ak e ?_)
  cases j:l.all Oh with
  |true=>
   have:¬0<=n:=λh=>by
    grind
   refine e_ ?_
   simp_all
  |false=>
   have:0<=n:=f.2 (by
    simp_all)
   refine e_ ?_
   simp_all)
 exact g
def y0(w v c e:Nat):Ts:=
 match e,c%4 with
 |0,0=>if 0<c / 4 / w then some (c+2 - 4*w)else none
 |0,1=>if c / 4%w+1<w then some (c+6)else none
 |0,2=>if c / 4 / w+1<v then some (c+4*w - 2)else none
 |0,_=>if 0<c / 4%w then some (c - 6)else none
 |1,0=>some (c+1)
 |1,1=>some (c - 1)
 |1,2=>some (c+1)
 |1,_=>some (c - 1)
 |2,0=>some (c+3)
 |2,1=>some (c+1)
 |2,2=>some (c - 1)
 |2,_=>some (c - 3)
 |_,_=>none
def Jm(w v c e:Nat):TG:=match y0 w v c e with
 |some n=>[.i (.ofNat (min c n)),.i (.ofNat e),.i 0]
 |none=>[.i 0,.i 0,.i 7]
def vE(w c:Nat):TG:=[.i (.ofNat (c / 4%w)),.i (.ofNat (c / 4 / w)),.i (.ofNat (c%4)),.i 0]
def Nm(w v:Nat):Bool:=(range (4*w*v)).all λc=>(range 3).all λe=>L3 (Jm w v c e) (Jy 60 (.f 14) [.i (.ofNat w),.i (.ofNat v),.i (.ofNat c),.i (.ofNat e)] .empty IJ)
def Nl(w v:Nat):Bool:=(range (4*w*v)).all λc=>L3 (vE w c) (Jy 60 (.f 12) [.i (.ofNat w),.i (.ofNat v),.i (.ofNat c)] .empty IJ)
def xG(w v:Nat):List (Nat×Nat):=(range (4*w*v)).flatMap λc=>(range 3).filterMap λe=>match y0 w v c e with
 |some n=>if c<n then some (c,e)else none
 |none=>none
def O8(w v:Nat):Bool:=Nm w v&&Nl w v
def sW:∀w v:Nat,1<=w->w<=5->1<=v->v<=5->O8 w v=true:=by
 have a:((range 5).all λw=>(range 5).all λv=>O8 (w+1) (v+1))=true:=d_;intro w v c d e f;have b:=A_.1 a (w - 1) (CY.2 a_);have g:=A_.1 b (v - 1) (CY.2 a_)
 simp_all
def xf{w v c e n:Nat}(d:1<=w)(h:y0 w v c e=some n):n≠c:=by
 have f:c / 4%w<=c / 4:=qdH _ _;have g:c / 4 / w<=c / 4:=qc2 _ _;have b:c%4=0∨c%4=1∨c%4=2∨c%4=3:=a_;rcases e with _|_|_|e<;>rcases b with a|a|a|a<;>simp only[y0,a]at h<;>
  first
  |grind
  |grind
  |(cases h;done)
def Nk{w v:Nat}(h:O8 w v=true):Nm w v=true/\Nl w v=true:=by
 unfold O8 at h
 simp_all
def Kx{w v:Nat}(f:O8 w v=true){c e:Nat}(b:c<4*w*v)(d:e<3):Cc 14 [.i (.ofNat w),.i (.ofNat v),.i (.ofNat c),.i (.ofNat e)] (Jm w v c e):=by
 have a:=A_.1 (Nk f).1 c (CY.2 b);exact lO (n:=60) rfl d_ rfl (A_.1 a e (CY.2 d))
def J5{w v:Nat}(b:O8 w v=true){c:Nat}(a:c<4*w*v):Cc 12 [.i (.ofNat w),.i (.ofNat v),.i (.ofNat c)] (vE w c):=
 lO (n:=60) rfl d_ rfl (A_.1 (Nk b).2 c (CY.2 a))
def G3(w v:Int):Prop:=1<=w/\1<=v/\w<=256/\v<=256/\w*v<=256
instance (w v : Int) : Decidable (G3 w v) := by unfold G3; infer_instance
def Kw{w v a b:Int}(h:0<=w/\w<=a/\0<=v/\v<=b):0<=w*v/\w*v<=a*b:=
 ⟨Int.mul_nonneg h.1 h.2.2.1,Int.mul_le_mul h.2.1 h.2.2.2 h.2.2.1 a_⟩
def X6(w v:Int):Cc 28 [.i w,.i v] [.i (if G3 w v then 0 else 1)]:=by
 refine q28 rfl ?_;unfold f28;simp only[ub];by_cases c:1<=w
 .by_cases d:1<=v
  .by_cases e:w<=256
   .by_cases f:v<=256
    .have h:=Kw (w:=w) (v:=v) (a:=256) (b:=256) a_;by_cases g:w*v<=256
     .simp(disch:=omega)only[↓n9];simp[G3,c,d,e,f,g]
     .simp(disch:=omega)only[↓n9];simp[G3,g]
    .simp(disch:=omega)only[↓n9];simp[G3,f]
   .simp(disch:=omega)only[↓n9];simp[G3,e]
  .simp(disch:=omega)only[↓n9];simp[G3,d]
 .simp(disch:=omega)only[↓n9];simp[G3,c]
def sR{w v:Int}(h:G3 w v):Cc 28 [.i w,.i v] [.i 0]:=by
 have:=X6 w v;grind
def JC(w v:Int):Prop:=1<=w/\w<=5/\1<=v/\v<=5
def M'{w v:Int}(h:JC w v):G3 w v:=by
 unfold JC at h;have:=Kw (w:=w) (v:=v) (a:=5) (b:=5) a_;unfold G3;omega
def sm4{w v:Int}(h:JC w v):4<=4*w*v/\4*w*v<=100:=by
 unfold JC at h;have c:=Kw (w:=4*w) (v:=v) (a:=20) (b:=5) a_;have d:4*w<=4*w*v:=by
  have:=Int.mul_le_mul_of_nonneg_left h.2.2.1 (show 0<=4*w by omega);omega
 omega
def c5{w v:Int}(h:JC w v)(c:Int):Cc 29 [.i w,.i v,.i c] [.b (decide (0<=c)&&decide (c<4*w*v))]:=by
 have e:=sm4 h;unfold JC at h;refine q29 rfl ?_;unfold f29;simp only[ub];by_cases a:0<=c
 .by_cases d:c<4*w*v
  .simp(disch:=omega)only[↓n9];simp[a,d]
  .simp(disch:=omega)only[↓n9];simp[a,d]
 .simp(disch:=omega)only[↓n9];simp[a]
def CI{w v c:Int}(h:JC w v)(a:¬(0<=c/\c<4*w*v)):Cc 12 [.i w,.i v,.i c] [.i 0,.i 0,.i 0,.i 7]:=by
 refine q12 rfl ?_;unfold f12;simp only[ub]
 repeat (first|simp(disch:=omega)only[↓n9]|refine aj (sR (M' h)) ?_)
 have e:(decide (0<=c)&&decide (c<4*w*v))=false:=tt;refine aj (e▸c5 h c) ?_;simp(disch:=omega)only[↓n9,FT]
def zm{w v c e:Int}(h:JC w v)(a:¬(0<=c/\c<4*w*v)):Cc 32 [.i w,.i v,.i c,.i e] [.i 0,.i 7]:=by
 refine q32 rfl ?_;unfold f32;simp only[ub]
 repeat (first|simp(disch:=omega)only[↓n9]|refine aj (CI h a) ?_)
def CJ{w v c e:Int}(h:JC w v)(a:¬(0<=c/\c<4*w*v)):Cc 14 [.i w,.i v,.i c,.i e] [.i 0,.i 0,.i 7]:=by
 refine q14 rfl ?_;unfold f14;simp only[ub]
 repeat (first|simp(disch:=omega)only[↓n9]|refine aj (zm h a) ?_)
def vD{x y q:Int}(h:-4096<=x/\x<=4096/\-4096<=y/\y<=4096/\q<=3):Cc 31 [.i x,.i y,.i q] [.i 0]:=by
 refine q31 rfl ?_;unfold f31;simp only[ub];simp(disch:=omega)only[↓n9]
def rr{x y q e:Int}(h:-4096<=x/\x<=4096/\-4096<=y/\y<=4096/\q<=3)(a:2<e):Cc 58 [.i x,.i y,.i q,.i e] [.i 0,.i 0,.i 0,.i 1]:=by
 refine q58 rfl ?_;unfold f58;simp only[ub]
 repeat (first|simp(disch:=omega)only[↓n9]|refine aj (vD h) ?_)
def Uh{w v:Int}(h:JC w v):∃a b:Nat,w = .ofNat a/\v = .ofNat b/\1<=a/\a<=5/\1<=b/\b<=5:=by
 unfold JC at h;obtain⟨a,rfl⟩:=eV (show 0<=w by omega);obtain⟨b,rfl⟩:=eV (show 0<=v by omega)
 grind
def Rw{a b c:Nat}(h:(c:Int)<4*(a:Int)*(b:Int)):c<4*a*b:=by
 grind
def xz{w v c e:Int}(h:JC w v)(f:0<=c/\c<4*w*v)(g:2<e):Cc 32 [.i w,.i v,.i c,.i e] [.i 0,.i 1]:=by
 have p:=sm4 h;obtain⟨a,b,rfl,rfl,d⟩:=Uh h;obtain⟨k,rfl⟩:=eV f.1;have j:k<4*a*b:=Rw f.2;have l:4*a*b<=100:=by
  grind
 refine q32 rfl ?_;unfold f32;simp only[ub];refine e_ ?_;refine aj (J5 (sW a b d.1 d.2.1 d.2.2.1 d.2.2.2) j) ?_;unfold vE;refine e_ ?_;have m:k / 4%a<=k / 4:=qdH _ _;have n:k / 4 / a<=k / 4:=qc2 _ _;have o:(0:Int)<=((k / 4 / a:Nat):Int):=G9 _;have r:(0:Int)<=((k / 4%a:Nat):Int):=G9 _;refine aj (rr (x:=ofNat (k / 4%a)) (y:=ofNat (k / 4 / a)) (q:=ofNat (k%4)) i_ g) ?_;simp(disch:=omega)only[↓n9]
def zk{w v c e:Int}(h:JC w v)(a:0<=c/\c<4*w*v)(b:2<e):Cc 14 [.i w,.i v,.i c,.i e] [.i 0,.i 0,.i 1]:=by
 refine q14 rfl ?_;unfold f14;simp only[ub]
 repeat (first|simp(disch:=omega)only[↓n9]|refine aj (xz h a b) ?_)
def GS(w v c e:Int):Bool:=decide (0<=c)&&decide (c<4*w*v)&&decide (e<=2)&&(match y0 w.toNat v.toNat c.toNat e.toNat with
 |some n=>Nat.blt c.toNat n
 |none=>false)
def zE{w v c e:Int}(h:JC w v)(o:0<=e):∃a b r:Int,Cc 14 [.i w,.i v,.i c,.i e] [.i a,.i b,.i r]/\(GS w v c e=true↔r=0/\a=c/\b=e):=by
 by_cases g:0<=c/\c<4*w*v
 .by_cases m:e<=2
  .obtain⟨a,b,rfl,rfl,d⟩:=Uh h;obtain⟨k,rfl⟩:=eV g.1;obtain⟨j,rfl⟩:=eV o;have p:k<4*a*b:=Rw g.2;have f:=Kx (sW a b d.1 d.2.1 d.2.2.1 d.2.2.2) p (e:=j) a_;unfold Jm at f;cases e:y0 a b k j with
   |none=>
    rw[e]at f;refine⟨_,_,_,f,?_⟩;have:GS (.ofNat a) (.ofNat b) (k:Int) (j:Int)=false:=by
     unfold GS
     simp_all
    rw[this];simp
   |some n=>
    rw[e]at f;refine⟨_,_,_,f,?_⟩;have q:=xf d.1 e;have l:y0 (ofNat a).toNat (ofNat b).toNat (k:Int).toNat (j:Int).toNat=some n:=e;unfold GS;rw[l];simp only[te,E6,HA,Int.toNat_natCast]
    grind
  .refine⟨_,_,_,zk h g a_,?_⟩;have:GS w v c e=false:=by unfold GS;simp[m]
   rw[this];simp
 .refine⟨_,_,_,CJ h g,?_⟩;have:GS w v c e=false:=by
   unfold GS
   grind
  rw[this];simp
def Ao{w v c e:Int}(h:GS w v c e=true):0<=c/\c<4*w*v/\e<=2:=by
 unfold GS at h
 simp_all
def FX(a b:EJ):Bool:=decide (a.1<b.1)||(decide (a.1=b.1)&&decide (a.2.1<b.2.1))
def F3:TD->Bool
 |a :: b :: l=>FX a b&&F3 (b :: l)
 |_=>true
def jE:∀ {l:TD},F3 l=true↔∀(i:Nat) a b,l[i]?=some a->l[i+1]?=some b->FX a b=true
 | []=>by simp[F3]
 | [a]=>by simp[F3]
 |a :: b :: l=>by
  simp only[F3,te];rw[jE (l:=b :: l)];constructor
  .grind
  .intro h;exact⟨h 0 a b rfl rfl,λi x y c d=>h (i+1) x y (by simpa using c) (by simpa using d)⟩
def U2(w v:Int)(c:EJ):Bool:=GS w v c.1 c.2.1
def Hh(w v:Int)(l:TD):Int:=if l.all Oh=false then 1 else if l.all (U2 w v)=false then 7 else if F3 l=true then 0 else 6
def sZ(c:EJ):Cc 18 [.i c.1,.i c.2.1,.i c.2.2] [.i c.1,.i c.2.1]:=by
 refine q18 rfl ?_;unfold f18;simp only[ub];simp(disch:=omega)only[↓n9]
def Xm{a b:EJ}(h:0<=a.1/\a.1<=1000/\0<=b.1/\b.1<=1000/\0<=a.2.1/\a.2.1<=255/\0<=b.2.1/\b.2.1<=255):∃d:Int,Cc 17 [.i a.1,.i a.2.1,.i b.1,.i b.2.1] [.i d]/\(d<0↔FX a b=true):=by
 by_cases c:a.1=b.1
 .refine⟨a.2.1 - b.2.1,?_,by simp only[FX,GN,te,E6];omega⟩;refine q17 rfl ?_;unfold Zd;simp only[ub];simp(disch:=omega)only[↓n9]
 .refine⟨a.1 - b.1,?_,by simp only[FX,GN,te,E6];omega⟩;refine q17 rfl ?_;unfold Zd;simp only[ub];simp(disch:=omega)only[↓n9]
def VN{w v:Int}(J:JC w v){h:HL}{x:TR}{l:TD}(q:q9 h x 3 mi l)(E:∀c∈l,ej c)(V:l.length<=4294967296) :
  aF cc ac 27 [.i w,.i v,.v x] (h9 aa h) [.i (Hh w v l)] (h9 aa h):=by
 obtain⟨N,L,P,rfl,rfl⟩:=Yt (K:=λN L=>N=[.i (Hh w v l)]/\L=h) (H:=h) (mc (mc (pP q.h_ t0))) (by
  unfold f27;simp only[ub]
  repeat (first|simp(disch:=omega)only[↓n9]|refine aj (sR (M' J)) ?_|refine ak (BX q V) ?_)
  cases u:l.all Oh with
  |false=>
   simp(disch:=omega)only[↓n9,FT];exact⟨by simp[Hh,u],D'⟩
  |true=>
   simp(disch:=omega)only[↓n9,EX];refine bw q ?_;refine mR l.length (λj=>∀i,i<j->∀c,l[i]?=some c->U2 w v c=true) rfl (D6 _) (λi D=>absurd D (qdD _)) ?_;intro j Z D t s;refine e_ ?_;by_cases k:j<l.length
   .rw[aO k];refine e_ ?_;obtain⟨c,m⟩:=am k;have n:=A9 m;have I:=E c n;unfold ej at I;have O:U2 w v c=false->Hh w v l=7:=λf=>by
     have:l.all (U2 w v)=false:=List.all_eq_false.2 ⟨c,n,by simp[f]⟩;simp[Hh,u,this]
    refine aQ q rfl m ?_;unfold mi;refine e_ ?_;obtain⟨a,b,r,G,g⟩:=zE (c:=c.1) (e:=c.2.1) J a_;refine aj G ?_;refine e_ ?_;by_cases M:r=0
    .subst M
     repeat (first|simp(disch:=omega)only[↓n9]|refine aj (sZ c) ?_)
     by_cases p:a=c.1/\b=c.2.1
     .have f:U2 w v c=true:=g.2 ⟨rfl,p.1,p.2⟩;simp(disch:=omega)only[↓n9,EX];rw[aU a_]
      grind
     .have f:U2 w v c=false:=by
       rw[←Hz];intro f;have:=g.1 f;omega
      rw[Hs p];simp(disch:=omega)only[↓n9,FT]
      simp_all
    .have f:U2 w v c=false:=by
      rw[←Hz];intro f;exact M (g.1 f).1
     refine e_ ?_
     simp_all
   .obtain rfl:j=l.length:=a_;rw[aN (B8 _)];refine e_ ?_;have f:l.all (U2 w v)=true:=A_.2 λc m=>by
     obtain⟨i,S⟩:=FK m
     grind
    refine mR (j0:=1) (max 1 l.length) (λj=>1<=j/\∀(i:Nat) a b,i+1<j->l[i]?=some a->l[i+1]?=some b->FX a b=true) rfl (ee _ _) ⟨B8 _,λi a b D=>a_⟩ ?_;intro j T ⟨h1,hi2⟩ t s;refine e_ ?_;refine bw q ?_;by_cases k:j<l.length
    .rw[aO k];refine e_ ?_;rw[lT h1 a_];obtain⟨c,m⟩:=am (l:=l) (i:=j - 1) a_;obtain⟨d,B⟩:=am k;have A:=E c (A9 m);have C:=E d (A9 B);have Q:=Ao (A_.1 f c (A9 m));have R:=Ao (A_.1 f d (A9 B));have Y:=sm4 J;unfold ej at A C;refine aQ q rfl m ?_;unfold mi
     repeat (first|simp(disch:=omega)only[↓n9]|refine aj (sZ c) ?_)
     refine aQ q rfl B ?_;unfold mi
     repeat (first|simp(disch:=omega)only[↓n9]|refine aj (sZ d) ?_)
     obtain⟨o,W,X⟩:=Xm (a:=c) (b:=d) a_;refine aj W ?_;refine e_ ?_;by_cases U:o<0
     .simp(disch:=omega)only[↓n9];rw[aU a_]
      grind
     .have F:F3 l=false:=by
       rw[←Hz,jE]
       grind
      refine e_ ?_;exact⟨by simp[Hh,u,f,F],D'⟩
    .rw[aN a_];refine e_ ?_;have y:F3 l=true:=jE.2 λi a b y z=>hi2 i a b i_ y z;exact⟨by simp[Hh,u,f,y],D'⟩)
 exact P
def pu(w n:Nat):Cl:=(ofNat (n / 4%w),ofNat (n / 4 / w),n%4)
def rkN(w n:Nat):Nat:=10*(n / 4%w+n / 4 / w)+(if n / 4 / w=0/\n / 4%w≠0 then [1,2,1,0]else [0,1,2,1]).getD (n%4) 0
def wP(w v c e:Nat):TG:=match y0 w v c e with
 |some n=>[.i (.ofNat n),.i 0]
 |none=>[.i 0,.i 7]
def Z1(w v:Nat):Bool:=(range (4*w*v)).all λc=>(range 3).all λe=>jC 32 [.i (.ofNat w),.i (.ofNat v),.i (.ofNat c),.i (.ofNat e)] (wP w v c e)
def Z0(w v:Nat):Bool:=(xG w v).all λu=>jC 125 [.i (.ofNat w),.i (.ofNat v),.i (.ofNat u.1),.i (.ofNat u.2)] [.i (.ofNat (q8 (pu w u.1) u.2).1),.i (q8 (pu w u.1) u.2).2,.i 0]
def nD(a b:Ln):Bool:=Nat.beq a.1 b.1&&decide (a.2=b.2)
def QB{a b:Ln}:nD a b=true↔a=b:=by
 unfold nD;rw[te,E6,ay]
 simp_all
def p9(a b:Cl):Bool:=decide (a.1=b.1)&&(decide (a.2.1=b.2.1)&&Nat.beq a.2.2 b.2.2)
def QA{a b:Cl}:p9 a b=true↔a=b:=by
 unfold p9;rw[te,te,E6,E6,ay,ay]
 simp_all
def nbT(w v c e:Nat):Bool:=match y0 w v c e with
 |some n=>Nat.blt n (4*w*v)&&((match y0 w v n e with
  |some m=>Nat.beq m c
  |none=>false)&&(nD (q8 (pu w c) e) (q8 (pu w n) e)&&(p9 (pu w n) (EO (pu w c) e) && !Nat.beq n c)))
 |none=>true
def Rk(w c e:Nat):Bool:=Nat.ble 1 (q8 (pu w c) e).1&&(Nat.ble (q8 (pu w c) e).1 4&&(decide (-10<=(q8 (pu w c) e).2)&&decide ((q8 (pu w c) e).2<=10)))
def r4(w v n:Nat):Bool:=Nat.beq n 0||(range 3).any λe=>match y0 w v n e with
 |some m=>Nat.blt (rkN w m) (rkN w n)
 |none=>false
def Uf(w v:Nat):Bool:=(range (4*w*v)).all λc=>r4 w v c&&(range 3).all λe=>nbT w v c e&&Rk w c e
def Uc(w v:Nat):Bool:=Z1 w v&&(Z0 w v&&Uf w v)
def lB:∀w v:Nat,1<=w->w<=5->1<=v->v<=5->Uc w v=true:=by
 have a:((range 5).all λw=>(range 5).all λv=>Uc (w+1) (v+1))=true:=d_;intro w v c d e f;have b:=A_.1 a (w - 1) (CY.2 a_);have g:=A_.1 b (v - 1) (CY.2 a_)
 simp_all
def Sh(w v:Nat):Prop:=1<=w/\w<=5/\1<=v/\v<=5
section
variable {w v:Nat}
def vr(h:Sh w v):Z1 w v=true/\Z0 w v=true/\Uf w v=true:=by
 have:=lB w v h.1 h.2.1 h.2.2.1 h.2.2.2;unfold Uc at this
 simp_all
def f2(h:Sh w v){c e:Nat}(a:c<4*w*v)(b:e<3):Cc 32 [.i (.ofNat w),.i (.ofNat v),.i (.ofNat c),.i (.ofNat e)] (wP w v c e):=
 dN (A_.1 (A_.1 (vr h).1 c (CY.2 a)) e (CY.2 b)) rfl d_ rfl
def ln_c(h:Sh w v){u e:Nat}(a:(u,e)∈xG w v):Cc 125 [.i (.ofNat w),.i (.ofNat v),.i (.ofNat u),.i (.ofNat e)] [.i (.ofNat (q8 (pu w u) e).1),.i (q8 (pu w u) e).2,.i 0]:=
 dN (A_.1 (vr h).2.1 (u,e) a) rfl d_ rfl
def Ky(h:Sh w v){c:Nat}(a:c<4*w*v):r4 w v c=true/\∀e,e<3->nbT w v c e=true/\Rk w c e=true:=by
 have:=A_.1 (vr h).2.2 c (CY.2 a)
 simp_all
def cQ(h:Sh w v){c e n:Nat}(f:c<4*w*v)(g:e<3)(i:y0 w v c e=some n):n<4*w*v/\y0 w v n e=some c/\q8 (pu w c) e=q8 (pu w n) e/\pu w n=EO (pu w c) e/\n≠c:=by
 have:=((Ky h f).2 e g).1;unfold nbT at this;rw[i]at this;simp only[te]at this;obtain⟨j,a,b,d,k⟩:=this;refine⟨j_,?_,QB.1 b,QA.1 d,λe=>?_⟩
 .split at a
  .simp_all
  .cases a
 simp_all
def Rm(h:Sh w v){c e:Nat}(a:c<4*w*v)(b:e<3):1<=(q8 (pu w c) e).1/\(q8 (pu w c) e).1<=4/\-10<=(q8 (pu w c) e).2/\(q8 (pu w c) e).2<=10:=by
 have:=((Ky h a).2 e b).2;unfold Rk at this
 simp_all
def yG(h:Sh w v){P:Tz}(h0:P 0)(o:∀c e n,c<4*w*v->e<3->y0 w v c e=some n->P c->P n):∀n,n<4*w*v->P n:=by
 have a:∀k n,n<4*w*v->rkN w n<k->P n:=by
  intro k
  induction k with
  |zero=>omega
  |succ k p=>
   intro n b l;have hw:=(Ky h b).1;unfold r4 at hw;rw[GN]at hw;rcases hw with hw|hw
   .simp_all
   .obtain⟨e,d,f⟩:=p8.1 hw;have d:=CY.1 d;split at f
    next m g=>
     rw[HA]at f;obtain⟨i,j,_⟩:=cQ h b d g
     grind
    .cases f
 intro n b;exact a (rkN w n+1) n b a_
def RC{c e n:Nat}(b:c<4*w*v)(d:e<3)(f:y0 w v c e=some n)(a:c<n):(c,e)∈xG w v:=by
 unfold xG;rw[GG];refine⟨c,CY.2 b,SD.2 ⟨e,CY.2 d,?_⟩⟩;simp[f,a]
def yD(h:Sh w v){c e n:Nat}(f:c<4*w*v)(a:e<3)(g:y0 w v c e=some n):(min c n,e)∈xG w v/\q8 (pu w (min c n)) e=q8 (pu w c) e:=by
 obtain⟨i,j,k,_,l⟩:=cQ h f a g;rcases HG c n with d|b
 .rw[XS a_];exact⟨RC f a g d,rfl⟩
 .rw[qdr b];exact⟨RC i a j a_,k.symm⟩
end
def aS(c:EJ):Ku:=(c.1,c.2.1)
def Dy(l:TD)(u e:Nat):Bool:=decide (((ofNat u,ofNat e):Ku)∈l.map aS)
def I9(H:HL)(id:Nat)(l:TD):Prop:=∃a c,H[id]?=some (.o (.map a c))/\I3 a (l.map aS)
def sf{l:TD}(h:l.Pairwise λa b=>FX a b=true):(l.map aS).Nodup:=by
 rw[List.Nodup,H0];refine h.imp λ{a b} c e=>?_;unfold FX at c;simp only[GN,te,E6]at c;unfold aS at e
 simp_all
def NV{H:HL}{w v:Int}{x:TR}{l:TD}(k:q9 H x 3 mi l)(A:(l.map aS).Nodup)(I:l.length<=1000) :
  ∃G,aF cc ac 122 [.i w,.i v,.v x] (h9 aa H) [.v (.map (some H.length))] (h9 aa (H++[G]))/\I9 (H++[G]) H.length l:=by
 obtain⟨r,h',t,rfl,G,rfl,u⟩:=Uw (K:=λr h'=>r=[.v (.map (some H.length))]/\∃G,h'=H++[G]/\I9 h' H.length l) (H:=H) (mc (mc (pP k.h_ t0))) (by
  unfold Wl;simp only[ub];refine e_ ?_;refine bw k ?_;refine e_ ?_;refine bw k ?_;refine bK (g9:=HO) l.length (λj _=>[.i (ofNat j)]) (λ_ G=>H++[G]) (λj G=>I9 (H++[G]) H.length (l.take j)) (j0:=0) (s0:=.o (.map [] 0)) rfl rfl (D6 _) ⟨[],0,c_,rfl,λe h=>(by cases h)⟩ ?_;rintro j G J ⟨f,c,p,g⟩ s d;refine e_ ?_;by_cases b:j<l.length
  .rw[aO b];refine e_ ?_;obtain⟨a,q⟩:=am b;have m:=k.pre (h':=H++[G]) ⟨[G],rfl⟩;refine aQ m rfl q ?_;unfold mi;refine e_ ?_;have y:aS a∉(l.take j).map aS:=by
    intro z;rw[List.map_take]at z;have B:=A;have E:(l.map aS)[j]?=some (aS a):=j_;have F:l.map aS=(l.map aS).take j++aS a :: (l.map aS).drop (j+1):=by
     conv=>lhs;rw[←XU j (l.map aS)]
     rw[Pg j_]
     simp_all
    grind
   refine bH (U' (C:=cc) (T:=aa) (n:=(H++[G]).length) d_ d_ p g y) ?_;rw[aU a_];have e:bG (H++[G]) [.set H.length (.map (f++[{ key:=Oj (aS a),val:=.bool true,born:=c }]) (c+1))]=H++[.o (.map (f++[{ key:=Oj (aS a),val:=.bool true,born:=c }]) (c+1))]:=by
    show(H++[G]).set H.length _=_;simp
   rw[e];refine d _ b ⟨f++[{ key:=Oj (aS a),val:=.bool true,born:=c }],c+1,c_,?_⟩;have D:(l.take (j+1)).map aS=(l.take j).map aS++[aS a]:=by
    rw[IB,q,IV];rfl
   rw[D];exact g.push _ _
  .obtain rfl:j=l.length:=a_;rw[aN (B8 _)];refine e_ ?_;refine⟨D',G,rfl,?_⟩;rw[XQ]at g;exact⟨f,c,p,g⟩)
 exact⟨G,t,u⟩
def sd(m:Mv):Tn:=[.int .u8 (ofNat m.1),.int .i64 m.2.1,.int .i64 m.2.2]
def di(m:Mv):(sd m).length=3:=rfl
def E_(w:Nat)(l:TD)(g:Mv)(c n e:Nat):Mv:=if Dy l (min c n) e then af (Do (q8 (pu w (min c n)) e)) g else g
def zF{w v:Nat}(h:Sh w v){l:TD}{c e n:Nat}(a:c<4*w*v)(b:e<3)(j:y0 w v c e=some n){k:Int}{g:Mv}(d:DV k g)(m:0<=k):DV (k+20) (E_ w l g c n e):=by
 unfold E_;obtain⟨_,i⟩:=yD h a b j;split
 .rw[i];have f:=Rm h a b;have:=eS (AM (n:=10) ⟨f.2.2.1,f.2.2.2⟩) d
  grind
 .exact aZ d a_
abbrev _root_.TO:=List Mv
def PB{w v:Nat}(d:Sh w v){l:TD}{h:HL}{x B z A D:TR}{j:Nat}{G:TO}(p:HJ h B [.int .i64 (.ofNat w),.int .i64 (.ofNat v),x])(t:HJ h z [.map (some j)])(E:I9 h j l)(o:HJ h A [D])(m:q9 h D 3 sd G)
  {c e n:Nat} (q:c<4*w*v) (r:e<3) (y:y0 w v c e=some n) {g:Mv} (u:G[c]?=some g) {k:Int} (F:DV k g) (H:0<=k/\k<=16000) :
  aF cc ac 124 [.i (.ofNat c),.i (.ofNat e),.v B,.v z,.v A] (h9 aa h) (D5 (E_ w l g c n e)) (h9 aa h):=by
 obtain⟨N,M,K,L⟩:=E;have I:=sW w v d.1 d.2.1 d.2.2.1 d.2.2.2;obtain⟨J,s⟩:=yD d q r y;have b:=Rm d q r;rw[←s]at b;have a:=Kx I q r;unfold Jm at a;rw[y]at a;simp only at a;exact xK FS (mc (mc (pP p.h_ (pP t.h_ (pP o.h_ t0))))) (by
  unfold Wm;simp only[ub]
  repeat (first|simp(disch:=omega)only[↓n9]|refine sE (ds:=[.int .i64 (.ofNat w),.int .i64 (.ofNat v)]) p c_ rfl ?_|refine aj a ?_|refine dc t rfl ?_|refine ab rfl ?_|refine dH (t3 (C:=cc) (T:=aa) d_ d_ K L (ofNat (min c n),ofNat e)) ?_)
  unfold E_ Dy;by_cases f:((ofNat (min c n),ofNat e):Ku)∈l.map aS
  .rw[Gs f]
   repeat (first|simp(disch:=omega)only[↓n9,EX,if_true]|refine sE (ds:=[.int .i64 (.ofNat w),.int .i64 (.ofNat v)]) p c_ rfl ?_|refine aj (ln_c d J) ?_)
   refine aj (kO ⟨b.1,b.2.1⟩ ⟨a_,a_⟩) ?_;simp only[D5,EQ,EG]
   repeat (first|simp(disch:=omega)only[↓n9]|refine dc o rfl ?_|refine ab m.h_ ?_)
   refine aQ m rfl u ?_;unfold sd;refine e_ ?_;refine aj (gb (AM (n:=10) ⟨b.2.2.1,b.2.2.2⟩) F a_) ?_;simp only[D5,EQ,EG];refine e_ ?_
   simp_all
  .rw[GI f]
   repeat (first|simp(disch:=omega)only[↓n9,FT,Fh,if_false]|refine dc o rfl ?_|refine ab m.h_ ?_)
   refine aQ m rfl u ?_;unfold sd;refine e_ ?_
   simp_all)
def dy{j7:Type}{e:Nat}{enc:j7->Tn}(b:∀a,(enc a).length=e){h:HL}{id cx len:Nat}{l:List j7}{i:Nat}{a:j7}{n:Int}{new:Tn}{K:Tb}(f:h[id]?=some (.o (.cells (l.flatMap enc) e true)))(k:n=ofNat i)(g:i<l.length)(c:l.length=len)(d:new=enc a)(j:K [] (oo h id e enc (l.set i a))) :
  P1.jw (B_ e (.slice (some ⟨id,0,le e⟩) len cx) n) (@i' _ ⟨λx=>P1.heap (.st x new) h (@i' _ ⟨K⟩)⟩):=by
 have m:oo h id e enc l=h:=fi f;have:=ZV (C:=cc) (Sg:=ac) (T:=aa) (h:=h) (id:=id) (cx:=cx) (len:=len) (l:=l) b (ai f) k g c d j;rw[m]at this;exact this
def cz{j7:Type}{h:HL}{id e j:Nat}{enc:j7->Tn}{l:List j7}(a:j≠id):(oo h id e enc l)[j]?=h[j]?:=by
 unfold oo
 grind
def l_(n:Nat):Tn:=[.int .i64 (ofNat n)]
def bv(n:Nat):(l_ n).length=1:=rfl
def B6(t:Bool):Tn:=[.bool t]
def cU(t:Bool):(B6 t).length=1:=rfl
def gP(q:TC):(q.flatMap l_).length=q.length:=by
 rw[aM (e:=1) (enc:=l_) λa _=>bv a,ZQ]
def WQ(b:Nat)(h:HL)(v:Value)(q:TC):Prop:=∃id off cx vs,v = .slice (some ⟨id,off,le 1⟩) q.length cx/\b<=id/\h[id]?=some (.o (.cells vs 1 true))/\cut vs off (q.length*1)=some (q.flatMap l_)/\(cx=0∨cx=q.length+1)
def WQ.ls{b:Nat}{h:HL}{v:TR}{q:TC}(g:WQ b h v q):q9 h v 1 l_ q:=by
 obtain⟨id,c,d,i,rfl,j,e,f,_⟩:=g;exact⟨λa _=>bv a,by rw[gP,ZQ],.inr ⟨id,c,d,i,true,rfl,e,f⟩⟩
def WQ.ka{b:Nat}{h h':HL}{v:TR}{q:TC}(k:WQ b h v q)(i:∀(j:Nat) o,b<=j->h[j]?=some o->h'[j]?=some o):WQ b h' v q:=by
 obtain⟨id,a,d,l,e,c,f,g⟩:=k;exact⟨id,a,d,l,e,c,i _ _ c f,g⟩
def l8{b:Nat}{h:HL}{v:TR}{a:Nat}{q:TC}{K:TR->Prop}(p:WQ b h v (a :: q))(m:∀v',WQ b h v' q->aI v'=true->K v'):P1.jw (FN 1 v (some 1) none none) (@i' _ ⟨K⟩):=by
 obtain⟨id,c,d,e,rfl,i,j,l,r⟩:=p;have n:FN 1 (.slice (some ⟨id,c,le 1⟩) (a :: q).length d) (some 1) none none=some (.slice (some ⟨id,c+1,le 1⟩) q.length (d - 1)):=by
  unfold FN;have f:¬(le 1≠some 1/\le 1≠le 1):=c_;simp only[rv f];have g:(0:Int)<=(some (1:Int)).getD 0/\(some (1:Int)).getD 0<=(none:Tt).getD ((a :: q).length:Int)/\bV (a :: q).length d none none:=by
   refine⟨c_,?_,?_⟩
   .grind
   .unfold bV;left;simp
  rw[qs g];rw[fc,fc,fc];simp[bM]
 refine ae n (m _ ⟨id,c+1,d - 1,e,rfl,i,j,?_,?_⟩ ?_)
 .have:=mG (l:cut e c ((a :: q).length*1)=some _) (o:=1) (k:=q.length*1) i_;rw[this];simp only[UY,l_,EQ,EG,qcA,XN,ZQ];rw[←gP q]
  grind
 .grind
 .simp[aI,nc,aT,bE,bj,aP,aD,le]
def r_apQ{b:Nat}{h:HL}{v:TR}{q:TC}{n m:Nat}{new:Tn}{K:Tb}(A:WQ b h v q)(t:b<=h.length)(x:m=h.length)(f:new=l_ n)(F:q.length<=1000)
  (l:∀v' h',WQ b h' v' (q++[n])->aI v'=true->(∀(j:Nat) o,j<b->h[j]?=some o->h'[j]?=some o)->h.length<=h'.length->K [v'] h') :
  P1.heap (.ap cc 1 8 v (.slice (some ⟨m,0,some 11⟩) 1 2)) (h++[.o (.cells new 1 true)]) (@i' _ ⟨K⟩):=by
 subst x f;obtain⟨id,d,C,B,rfl,D,r,E,s⟩:=A;have w:=ai r;have p:He (h++[HO.o (.cells (l_ n) 1 true)]) (.slice (some ⟨h.length,0,le 1⟩) 1 2) 1 1 (l_ n):=⟨rfl,.inr ⟨h.length,0,2,l_ n,true,rfl,c_,Sx.vd rfl⟩⟩;have k:(h++[HO.o (.cells (l_ n) 1 true)])[id]?=some (.o (.cells B 1 true)):=i_;have z:bc (q.length+1) 8=true:=by
  unfold bc;rw[EY a_,EY a_];rfl
 have g:∀i,aI (.slice (some ⟨i,0,le 1⟩) (q.length+1) 0)=true:=λi=>by simp[aI,nc,aT,bE,bj,aP,aD,le]
 have e:(q.flatMap l_++l_ n)=(q++[n]).flatMap l_:=c_;have a:(q++[n]).length=q.length+1:=c_;rcases s with rfl|rfl
 .have c:Fw cc 1 8 (.slice (some ⟨id,d,le 1⟩) q.length 0) (.slice (some ⟨h.length,0,le 1⟩) 1 2) (s7 aa (h++[HO.o (.cells (l_ n) 1 true)])) (h++[HO.o (.cells (l_ n) 1 true)]).length=some ([.set id .dead,.push (.cells (q.flatMap l_++l_ n) 1 true)],[.slice (some ⟨(h++[HO.o (.cells (l_ n) 1 true)]).length,0,le 1⟩) (q.length+1) 0]):=by
   unfold Fw;rw[ml p];simp only[ne_eq,not_true_eq_false,if_false];rw[bB k]
   simp_all
  refine bH (show(Hp.ap cc 1 8 (.slice (some ⟨id,d,le 1⟩) q.length 0) (.slice (some ⟨h.length,0,le 1⟩) 1 2)).run _ _=_ from c) ?_;refine l _ _ ⟨(h++[HO.o (.cells (l_ n) 1 true)]).length,0,0,q.flatMap l_++l_ n,by rw[a],tt,?_,?_,.inl rfl⟩ (g _) (λj o u y=>?_) ?_
  .show(((h++[HO.o (.cells (l_ n) 1 true)]).set id (.o .dead))++[HO.o (.cells (q.flatMap l_++l_ n) 1 true)])[_]?=_
   simp_all
  .rw[e,a];exact Sx.vd (by rw[gP,a,ZQ])
  .show(((h++[HO.o (.cells (l_ n) 1 true)]).set id (.o .dead))++[HO.o (.cells (q.flatMap l_++l_ n) 1 true)])[j]?=_
   grind
  .show h.length<=(((h++[HO.o (.cells (l_ n) 1 true)]).set id (.o .dead))++[HO.o (.cells (q.flatMap l_++l_ n) 1 true)]).length;simp;omega
 .have c:Fw cc 1 8 (.slice (some ⟨id,d,le 1⟩) q.length (q.length+1)) (.slice (some ⟨h.length,0,le 1⟩) 1 2) (s7 aa (h++[HO.o (.cells (l_ n) 1 true)])) (h++[HO.o (.cells (l_ n) 1 true)]).length=some ([.push (.cells (q.flatMap l_++l_ n) 1 true)],[.slice (some ⟨(h++[HO.o (.cells (l_ n) 1 true)]).length,0,le 1⟩) (q.length+1) 0]):=by
   unfold Fw;rw[ml p];simp only[ne_eq,not_true_eq_false,if_false];rw[bB k]
   simp_all
  refine bH (show(Hp.ap cc 1 8 (.slice (some ⟨id,d,le 1⟩) q.length (q.length+1)) (.slice (some ⟨h.length,0,le 1⟩) 1 2)).run _ _=_ from c) ?_;refine l _ _ ⟨(h++[HO.o (.cells (l_ n) 1 true)]).length,0,0,q.flatMap l_++l_ n,by rw[a],tt,?_,?_,.inl rfl⟩ (g _) (λj o u y=>?_) ?_
  .show((h++[HO.o (.cells (l_ n) 1 true)])++[HO.o (.cells (q.flatMap l_++l_ n) 1 true)])[_]?=_
   simp_all
  .rw[e,a];exact Sx.vd (by rw[gP,a,ZQ])
  .show((h++[HO.o (.cells (l_ n) 1 true)])++[HO.o (.cells (q.flatMap l_++l_ n) 1 true)])[j]?=_
   grind
  .show h.length<=((h++[HO.o (.cells (l_ n) 1 true)])++[HO.o (.cells (q.flatMap l_++l_ n) 1 true)]).length;simp
abbrev _root_.Ty:=List Bool
structure RS(H h:HL)(w v:Nat)(x:Value)(l:TD)(A:TO)(B:Ty):Prop where
 pre:u_ H h
 len:H.length+6<=h.length
 p:h[H.length]?=some (.o (.cells [.int .i64 (.ofNat w),.int .i64 (.ofNat v),x] 3 true))
 mp:I9 h (H.length+1) l
 mv:h[H.length+2]?=some (.o (.cells [.map (some (H.length+1))] 1 true))
 ol:h[H.length+3]?=some (.o (.cells (A.flatMap sd) 3 true))
 ov:h[H.length+4]?=some (.o (.cells [.slice (some ⟨H.length+3,0,le 3⟩) (4*w*v) (4*w*v+1)] 1 true))
 kn:h[H.length+5]?=some (.o (.cells (B.flatMap B6) 1 true))
 la:A.length=4*w*v
 lb:B.length=4*w*v
section
variable {H h:HL} {w v:Nat} {x:Value} {l:TD} {A:TO} {B:Ty}
def RS.lsA(c:RS H h w v x l A B):q9 h (.slice (some ⟨H.length+3,0,le 3⟩) (4*w*v) (4*w*v+1)) 3 sd A:=by
 have b:=aM (e:=3) (enc:=sd) (l:=A) λa _=>di a;rw[←c.la];exact⟨λa _=>di a,b,.inr ⟨_,0,_,_,true,rfl,c.ol,Sx.vd b⟩⟩
def RS.lsB(c:RS H h w v x l A B):q9 h (.slice (some ⟨H.length+5,0,le 1⟩) (4*w*v) (4*w*v+1)) 1 B6 B:=by
 have b:=aM (e:=1) (enc:=B6) (l:=B) λa _=>cU a;rw[←c.lb];exact⟨λa _=>cU a,b,.inr ⟨_,0,_,_,true,rfl,c.kn,Sx.vd b⟩⟩
def RS.ka{h':HL}(a:RS H h w v x l A B)(b:∀(j:Nat) o,j<H.length+6->h[j]?=some o->h'[j]?=some o)(k:h.length<=h'.length):RS H h' w v x l A B:=by
 obtain⟨g,c,m,n⟩:=a.mp;refine⟨?_,Pm a.len k,b _ _ a_ a.p,⟨g,c,b _ _ a_ m,n⟩,b _ _ a_ a.mv,b _ _ a_ a.ol,b _ _ a_ a.ov,b _ _ a_ a.kn,a.la,a.lb⟩;have d:=a.pre;refine⟨h'.drop H.length,?_⟩;apply Ib;intro i;rcases HG i H.length with e|e
 .rw[H3 e];have f:H[i]?=some H[i]:=Gm e;rw[f];exact b _ _ a_ (d.get f)
 grind
def ju{j7:Type}{id e:Nat}{enc:j7->Tn}{L:List j7}(a:u_ H h)(i':H.length<=id):u_ H (oo h id e enc L):=a.set i' _
def iw{j7:Type}{h:HL}{id e:Nat}{enc:j7->Tn}{L:List j7}:(oo h id e enc L).length=h.length:=by simp[oo]
def RS.GF(a:RS H h w v x l A B){A':TO}(d:A'.length=A.length):RS H (oo h (H.length+3) 3 sd A') w v x l A' B:=by
 obtain⟨b,c,f,g⟩:=a.mp;have e:=a.len;exact⟨ju a.pre a_,by rw[iw];exact e,by rw[cz a_];exact a.p,⟨b,c,by rw[cz a_];exact f,g⟩,by rw[cz a_];exact a.mv,bL a_,by rw[cz a_];exact a.ov,by rw[cz a_];exact a.kn,by rw[d];exact a.la,a.lb⟩
def RS.putB(a:RS H h w v x l A B){B':Ty}(d:B'.length=B.length):RS H (oo h (H.length+5) 1 B6 B') w v x l A B':=by
 obtain⟨b,c,f,g⟩:=a.mp;have e:=a.len;exact⟨ju a.pre a_,by rw[iw];exact e,by rw[cz a_];exact a.p,⟨b,c,by rw[cz a_];exact f,g⟩,by rw[cz a_];exact a.mv,by rw[cz a_];exact a.ol,by rw[cz a_];exact a.ov,bL a_,a.la,by rw[d];exact a.lb⟩
end
def VM{a b:Tn}{e e':Nat}{x y:Bool}(h:some (HO.o (.cells a e x))=some (HO.o (.cells b e' y))):e=e':=by
 simp_all
def kX{j7:Type}{n0 e:Nat}{enc:j7->Tn}{l:List j7}{h:HL}{v:TR}(b:hY n0 h v e enc l)(a:l≠[]):∃id cx,v = .slice (some ⟨id,0,le e⟩) l.length cx/\n0<=id/\h[id]?=some (.o (.cells (l.flatMap enc) e true))/\(cx=0∨cx=l.length+1):=by
 rcases b with⟨_,h⟩|h
 .exact absurd h a
 .exact h
def S7{W:TE}{l:Lit}(h:W.getD l.1 0=0):DM W l=W.set l.1 (E0 l):=by unfold DM;rw[qs h]
def S8{W:TE}{l:Lit}(h:W.getD l.1 0≠0):DM W l=W:=by unfold DM;rw[rv h]
section
variable {h:HL} {b:Nat} {c:XC} {n:Bool} (hb:h[b]?=some (.o (.cells (ah c n) 15 true))) {U:List Lit} (hU:q9 h c.up 2 Ep U) {r:TF} (hF:IL U r) {W:TE} (hW:Hr U W) (hV:hY 0 h c.va 1 DD W)
include hb hU hF hW hV
theorem gg{l:Lit}(F:l.1<U.length):∃l' h',Rt U l l'/\aF cc ac 92 [.v (kb b),.i (ofNat l.1),.b l.2,.v (.pointer none)] (h9 aa h) [.b (decide ((DM W l').getD l'.1 0=E0 l'))] (h9 aa h')/\
  hY 0 h' c.va 1 DD (DM W l')/\(∀(j:Nat) o,h[j]?=some o->g_ c.va≠some j->h'[j]?=some o)/\h'.length=h.length:=by
 obtain⟨l',G,B⟩:=wl hb hU hF F;have f:l'.1<W.length:=by rw[hW.1];exact G.lt
 have k:W≠[]:=λe=>j_;obtain⟨id,C,m,_,i',D⟩:=kX hV k;have d:=hV.ls eO;obtain⟨y,A⟩:=am f;have u:W.getD l'.1 0=y:=j_;have q:id≠b:=λe=>by
  simp_all
 have I:=x92 (ls:=[.v (kb b),.i (ofNat l.1),.b l.2,.v (.pointer none)]) (K:=λJ h'=>J=[.b (decide ((DM W l').getD l'.1 0=E0 l'))]/\hY 0 h' c.va 1 DD (DM W l')/\(∀(j:Nat) o,h[j]?=some o->g_ c.va≠some j->h'[j]?=some o)/\h'.length=h.length) (H:=h) (pP (az _) (mc (Jg (pP rfl t0)))) (by
  unfold f92;simp only[ub];refine e_ ?_;refine ak B ?_;simp(disch:=omega)only[↓C3];refine cI (λls h'=>ls=[.i (E0 l')]/\h'=h) ?_ ?_
  case refine_2=>
   intro L g;unfold E0 at g;cases w:l'.2 with
   |true=>
    rw[w]at g;refine e_ ?_
    simp_all
   |false=>
    rw[w]at g;refine e_ ?_
    simp_all
  rintro ls h' ⟨rfl,rfl⟩;refine e_ ?_;refine bz (ds:=[c.va]) hb (by simp[ah]) rfl ?_;refine e_ ?_;refine ab d.h_ ?_;refine k_ ?_;refine aQ d rfl A ?_;rw[show DD y=[.int .i64 y]from rfl];refine e_ ?_;by_cases s:y=0
  case neg=>
   rw[xk s];refine e_ ?_;refine bz (ds:=[c.va]) hb (by simp[ah]) rfl ?_;refine e_ ?_;refine ab d.h_ ?_;refine k_ ?_;refine aQ d rfl A ?_;rw[show DD y=[.int .i64 y]from rfl];refine e_ ?_;rw[S8 a_,u];by_cases e:y=E0 l'
   .rw[t_ e,Gs e]
    simp_all
   .rw[xk e,GI e]
    simp_all
  rw[t_ s];refine e_ ?_;refine bz (ds:=[c.va]) hb (by simp[ah]) rfl ?_;refine e_ ?_;refine ab d.h_ ?_;refine k_ ?_;rw[m];refine dy (enc:=DD) (l:=W) (i:=l'.1) (a:=E0 l') eO i' rfl f rfl rfl ?_;refine k_ ?_;refine ae (x:=true) rfl ?_;simp(disch:=omega)only[↓n9,EX];have t:(oo h' id 1 DD (W.set l'.1 (E0 l')))[b]?=some (.o (.cells (ah c n) 15 true)):=by rw[cz (Ej q)];exact hb
  have z:hY 0 (oo h' id 1 DD (W.set l'.1 (E0 l'))) c.va 1 DD (W.set l'.1 (E0 l')):=.inr ⟨id,C,j_,D6 _,bL (ai i'),j_⟩;have p:=z.ls eO;refine bz (ds:=[c.va]) t (by simp[ah]) rfl ?_;refine e_ ?_;refine ab p.h_ ?_;refine k_ ?_;refine aQ p rfl (Ia f) ?_;rw[show DD (E0 l')=[.int .i64 (E0 l')]from rfl];simp(disch:=omega)only[↓n9]
  try rw[t_ rfl]
  rw[←m,S7 a_,List.getD_eq_getElem?_getD,Ia f];refine⟨c_,z,λj o E k=>?_,iw⟩;rw[cz]
  .exact E
  .rintro rfl;exact k (by rw[m];rfl))
 grind
theorem gA{n0 d:Nat}{x:TR}{T:TC}(ht:h[d]?=some (.o (.cells [x] 1 true)))(hT:hY n0 h x 1 l_ T)(av:n0<=h.length)(an:T.length<=1000000)(Z:g_ c.va≠some d)(d2:g_ x≠some d)(d3:∀j,g_ x=some j->g_ c.va≠some j){l:Lit}(hl:l.1<U.length) :
  ∃l' x' h',Rt U l l'/\aF cc ac 92 [.v (kb b),.i (ofNat l.1),.b l.2,.v (kb d)] (h9 aa h) [.b (decide ((DM W l').getD l'.1 0=E0 l'))] (h9 aa h')/\
   hY 0 h' c.va 1 DD (DM W l')/\h'[d]?=some (.o (.cells [x'] 1 true))/\hY n0 h' x' 1 l_ (if W.getD l'.1 0=0 then T++[l'.1]else T)/\
   (∀(j:Nat) o,h[j]?=some o->j≠d->g_ c.va≠some j->g_ x≠some j->h'[j]?=some o)/\h.length<=h'.length/\(g_ x'=g_ x∨∃j,g_ x'=some j/\h.length<=j):=by
 obtain⟨l',hr,cf⟩:=wl hb hU hF hl;have q:l'.1<W.length:=by rw[hW.1];exact hr.lt
 have k:W≠[]:=λe=>j_;obtain⟨id,cx,A,_,i',ap⟩:=kX hV k;have p:=hV.ls eO;obtain⟨y,hy⟩:=am q;have J:W.getD l'.1 0=y:=j_;have u:g_ c.va=some id:=by rw[A];rfl
 have F:id≠b:=λe=>by
  simp_all
 have E:d≠b:=λe=>by
  simp_all
 have G:id≠d:=λe=>Z (by rw[u,e]);have V:g_ x≠some b:=λe=>by
  rcases hT with⟨e3,_⟩|⟨i,ag,e3,_,hh,_⟩
  .rw[e3]at e;cases e
  .rw[e3]at e;have e4:i=b:=by simpa[Sx.g_]using e
   simp_all
 have ay:=x92 (ls:=[.v (kb b),.i (ofNat l.1),.b l.2,.v (kb d)]) (K:=λrs h'=>∃x',rs=[.b (decide ((DM W l').getD l'.1 0=E0 l'))]/\hY 0 h' c.va 1 DD (DM W l')/\h'[d]?=some (.o (.cells [x'] 1 true))/\hY n0 h' x' 1 l_ (if W.getD l'.1 0=0 then T++[l'.1]else T)/\
   (∀(j:Nat) o,h[j]?=some o->j≠d->g_ c.va≠some j->g_ x≠some j->h'[j]?=some o)/\h.length<=h'.length/\(g_ x'=g_ x∨∃j,g_ x'=some j/\h.length<=j)) (H:=h) (pP (az _) (mc (Jg (pP (az _) t0)))) (by
  unfold f92;simp only[ub];refine e_ ?_;refine ak cf ?_;simp(disch:=omega)only[↓C3];refine cI (λls h'=>ls=[.i (E0 l')]/\h'=h) ?_ ?_
  case refine_2=>
   intro jj w;unfold E0 at w;cases L:l'.2 with
   |true=>
    rw[L]at w;refine e_ ?_
    simp_all
   |false=>
    rw[L]at w;refine e_ ?_
    simp_all
  rintro ls h' ⟨rfl,rfl⟩;refine e_ ?_;refine bz (ds:=[c.va]) hb (by simp[ah]) rfl ?_;refine e_ ?_;refine ab p.h_ ?_;refine k_ ?_;refine aQ p rfl hy ?_;rw[show DD y=[.int .i64 y]from rfl];refine e_ ?_;by_cases s:y=0
  case neg=>
   rw[xk s];refine e_ ?_;refine bz (ds:=[c.va]) hb (by simp[ah]) rfl ?_;refine e_ ?_;refine ab p.h_ ?_;refine k_ ?_;refine aQ p rfl hy ?_;rw[show DD y=[.int .i64 y]from rfl];refine e_ ?_;rw[S8 a_,J,rv s];by_cases e:y=E0 l'
   .rw[t_ e,Gs e]
    simp_all
   .rw[xk e,GI e]
    simp_all
  rw[t_ s];refine e_ ?_;refine bz (ds:=[c.va]) hb (by simp[ah]) rfl ?_;refine e_ ?_;refine ab p.h_ ?_;refine k_ ?_;rw[A];refine dy (enc:=DD) (l:=W) (i:=l'.1) (a:=E0 l') eO i' rfl q rfl rfl ?_;refine k_ ?_;refine ae (x:=false) rfl ?_;simp(disch:=omega)only[↓n9,FT];have X:∀(j:Nat) o,h'[j]?=some o->j≠id->(oo h' id 1 DD (W.set l'.1 (E0 l')))[j]?=some o:=λj o m k=>by rw[cz k];exact m
  have hO:hY 0 (oo h' id 1 DD (W.set l'.1 (E0 l'))) c.va 1 DD (W.set l'.1 (E0 l')):=.inr ⟨id,cx,j_,D6 _,bL (ai i'),j_⟩;have P:=X _ _ hb (Ej F);have z:=X _ _ ht (Ej G);have D:hY n0 (oo h' id 1 DD (W.set l'.1 (E0 l'))) x 1 l_ T:=hT.ka λj o m f=>X j o m λe=>d3 j f (by rw[u,e]);have ad:(oo h' id 1 DD (W.set l'.1 (E0 l'))).length=h'.length:=iw;generalize oo h' id 1 DD (W.set l'.1 (E0 l'))=g at *;refine ae (x:=kb d) rfl (ab (az _) (dc (bF z) rfl ?_));refine e_ ?_;refine ab (D.h_ bv) ?_;refine k_ ?_;refine hY.Il bv D a_ rfl rfl rfl (by unfold bc;rw[EY a_,EY a_];rfl) ?_;intro x' t O gx kg lg bx;have B:∀(j:Nat) o,g[j]?=some o->g_ x≠some j->t[j]?=some o:=λj o m k=>kg j o m k;have aE:g.length<=t.length:=lg;have I:=B _ _ z d2;have Q:=B _ _ P V;have M:hY 0 t c.va 1 DD (W.set l'.1 (E0 l')):=hO.ka λj o m f=>B j o m λe=>d3 j e f;refine e_ ?_;refine ab gx ?_;refine k_ ?_;refine ae (x:=kb d) rfl (ab (az _) ?_);refine yW I rfl ?_;have S:∀j,g_ x'=some j->j≠d:=λj m e=>by
   grind
  refine ae (x:=()) (dg (bU ⟨_,_,_,rfl⟩ λi hi=>?_) fm) ?_
  .have h1:=ai z;have L:g.length=i:=by simpa[Sx.g_]using hi
   omega
  refine k_ ?_;have ax:(t.set d (.o (.cells [x'] 1 true)))[d]?=some (.o (.cells [x'] 1 true)):=fZ I;have Y:∀(j:Nat) o,t[j]?=some o->j≠d->(t.set d (.o (.cells [x'] 1 true)))[j]?=some o:=λj o m k=>de m (Ej k);have R:=Y _ _ Q (Ej E);have N:hY 0 (t.set d (.o (.cells [x'] 1 true))) c.va 1 DD (W.set l'.1 (E0 l')):=M.ka λj o m f=>Y j o m λe=>Z (by rw[f,e]);have al:hY n0 (t.set d (.o (.cells [x'] 1 true))) x' 1 l_ (T++[l'.1]):=O.ka λj o m f=>Y j o m (S j f);have C:=N.ls eO;refine bz (ds:=[c.va]) R (by simp[ah]) rfl ?_;refine e_ ?_;refine ab C.h_ ?_;refine k_ ?_;refine aQ C rfl (Ia q) ?_;rw[show DD (E0 l')=[.int .i64 (E0 l')]from rfl];simp(disch:=omega)only[↓n9]
  try rw[t_ rfl]
  rw[←A,S7 a_,List.getD_eq_getElem?_getD,Ia q,J,qs s]
  grind)
 grind
end
section
variable {h:HL} {b:Nat} {c:XC} {n:Bool} (hb:h[b]?=some (.o (.cells (ah c n) 15 true))) {U:List Lit} (hU:hY 0 h c.up 2 Ep U) {r:TF} (hF:IL U r) {W:TE} (hW:Hr U W) (hV:hY 0 h c.va 1 DD W)
include hb hU hF hW hV
theorem Wg{p q:Lit}(hp:p.1<U.length)(hq:q.1<U.length):∃la lb h',Rt U p la/\Rt U q lb/\aF cc ac 86 [.v (kb b),.i (ofNat p.1),.b p.2,.i (ofNat q.1),.b q.2] (h9 aa h) [] (h9 aa h')/\
  h'[b]?=some (.o (.cells (ah c (Fo U W n la lb).2) 15 true))/\hY 0 h' c.up 2 Ep (Fo U W n la lb).1/\(∀(j:Nat) o,h[j]?=some o->j≠b->g_ c.up≠some j->h'[j]?=some o)/\h'.length=h.length:=by
 have d:=hU.ls dV;have P:=hV.ls eO;obtain⟨la,w,c1⟩:=wl hb d hF hp;obtain⟨lb,rb,c2⟩:=wl hb d hF hq;have Z:∀ {l u:Lit},Rt U l u->aF cc ac 119 [.v (kb b),.i (ofNat u.1),.b u.2] (h9 aa h) [.i (kv W u)] (h9 aa h):=λ{l u} X=>by
  obtain⟨x,kx,F⟩:=lN hb d hF hW P X.lt;rw[kx.det ⟨u,.here X.root,rfl⟩]at F;exact F
 have J:=Z w;have Y:=Z rb;refine⟨la,lb,?_⟩;have an:=w.lt;have S:U≠[]:=λe=>j_;obtain⟨id,F,C,_,al,ag⟩:=kX hU S;have D:g_ c.up=some id:=by rw[C];rfl
 have A:id≠b:=λe=>by
  simp_all
 have y:∀m:Bool,hY 0 (h.set b (.o (.cells (ah c m) 15 true))) c.up 2 Ep U:=λm=>hU.ka λj o t ad=>de t λe=>by
  simp_all
 have ap:=x86 (ls:=[.v (kb b),.i (ofNat p.1),.b p.2,.i (ofNat q.1),.b q.2]) (K:=λrs h'=>rs=[]/\h'[b]?=some (.o (.cells (ah c (Fo U W n la lb).2) 15 true))/\hY 0 h' c.up 2 Ep (Fo U W n la lb).1/\(∀(j:Nat) o,h[j]?=some o->j≠b->g_ c.up≠some j->h'[j]?=some o)/\h'.length=h.length) (H:=h) (pP (az _) (mc (Jg (mc (Jg t0))))) (by
  unfold f86;simp only[ub];refine e_ ?_;refine ak c1 ?_;refine e_ ?_;refine ak c2 ?_;refine e_ ?_;by_cases e:la.1=lb.1
  .rw[t_ (congrArg ofNat e)];refine e_ ?_;refine bz (ds:=[.bool n]) hb (by simp[ah]) rfl ?_;refine e_ ?_;have s:Fo U W n la lb=(U,n||xr la.2 lb.2):=by unfold Fo;rw[qs e]
   rw[s];cases n with
   |true=>
    refine e_ ?_;refine gH (b:=b) hb (by simp[ah]) ?_;refine k_ ?_;exact⟨D',fZ hb,y true,λj o t G _=>de t (Ej G),GZ ..⟩
   |false=>
    refine e_ ?_;rw[tS];refine gH (b:=b) hb (by simp[ah]) ?_;refine k_ ?_;refine⟨D',?_,y _,λj o t G _=>de t (Ej G),GZ ..⟩;rw[gu];exact fZ hb
  rw[xk (λh=>e (H4 h))];refine e_ ?_;have E:∀ {i:Nat} {a:Lit} (m:Bool) {g:HL},i<U.length->(g=h∨g=h.set b (.o (.cells (ah c m) 15 true)))->g[b]?=some (.o (.cells (ah c m) 15 true))->∀ {K:Tb},(∀h':HL,h'[b]?=some (.o (.cells (ah c m) 15 true))->hY 0 h' c.up 2 Ep (U.set i a)->(∀(j:Nat) o,h[j]?=some o->j≠b->g_ c.up≠some j->h'[j]?=some o)->h'.length=h.length->K [] h')->P1.jw (B_ 2 c.up (ofNat i)) (@i' _ ⟨λx=>P1.heap (.st x [.int .i64 (ofNat a.1),.bool a.2]) g (@i' _ ⟨K⟩)⟩):=λ{i a} m {g} hi hg Q K hK=>by
   have k:g[id]?=some (.o (.cells (U.flatMap Ep) 2 true)):=by
    grind
   have R:g.length=h.length:=by
    grind
   rw[C];refine dy (enc:=Ep) (l:=U) (i:=i) (a:=a) dV k rfl hi rfl rfl ?_;refine hK _ ?_ ?_ ?_ ?_
   .rw[cz (Ej A)];exact Q
   .exact .inr ⟨id,F,j_,D6 _,bL (ai k),j_⟩
   .intro j o t G h2;have B:j≠id:=λe=>h2 (by rw[D,e]);rw[cz B]
    grind
   .rw[iw,R]
  refine ak J ?_;refine e_ ?_;by_cases I:kv W la=0
  .rw[DZ I];refine e_ ?_;refine ak J ?_;simp(disch:=omega)only[↓n9]
   try rw[DZ I]
   refine k_ ?_;refine bz (ds:=[c.up]) hb (by simp[ah]) rfl ?_;refine e_ ?_;refine ab d.h_ ?_;refine k_ ?_;rw[tS];have s:Fo U W n la lb=(U.set la.1 (lb.1,xr la.2 lb.2),n):=by unfold Fo;simp_all
   rw[s];refine E (a:=(lb.1,xr la.2 lb.2)) n w.lt (.inl rfl) hb λh' L M N O=>?_
   try simp(disch:=omega)only[↓n9]
   simp_all
  rw[D0 I];refine e_ ?_;refine ak Y ?_;refine e_ ?_;by_cases z:kv W lb=0
  .rw[DZ z];refine e_ ?_;refine ak J ?_;simp(disch:=omega)only[↓n9]
   try rw[D0 I]
   refine k_ ?_;refine bz (ds:=[c.up]) hb (by simp[ah]) rfl ?_;refine e_ ?_;refine ab d.h_ ?_;refine k_ ?_;rw[tS];have s:Fo U W n la lb=(U.set lb.1 (la.1,xr la.2 lb.2),n):=by unfold Fo;simp_all
   rw[s];refine E (a:=(la.1,xr la.2 lb.2)) n rb.lt (.inl rfl) hb λh' L M N O=>?_
   try simp(disch:=omega)only[↓n9]
   simp_all
  rw[D0 z];refine e_ ?_;refine bz (ds:=[.bool n]) hb (by simp[ah]) rfl ?_;refine e_ ?_;have s:Fo U W n la lb=(U.set la.1 (lb.1,xr la.2 lb.2),n || !decide (kv W la=kv W lb)):=by unfold Fo;simp_all
  rw[s];cases n with
  |true=>
   refine e_ ?_;refine gH (b:=b) hb (by simp[ah]) ?_;refine k_ ?_;have f:(h.set b (.o (.cells (ah c true) 15 true)))[b]?=some (.o (.cells (ah c true) 15 true)):=fZ hb;refine bz (ds:=[c.up]) f (by simp[ah]) rfl ?_;refine e_ ?_;refine ab d.h_ ?_;refine k_ ?_;rw[tS];refine E (a:=(lb.1,xr la.2 lb.2)) true w.lt (.inr rfl) f λh' L M N O=>?_
   try simp(disch:=omega)only[↓n9]
   simp_all
  |false=>
   refine e_ ?_;refine ak J ?_;refine e_ ?_;refine ak Y ?_;refine e_ ?_;have T:∀m:Bool,m = !decide (kv W la=kv W lb)->∀h':HL,h'[b]?=some (.o (.cells (ah c m) 15 true))->h'[b]?=some (.o (.cells (ah c (false || !decide (kv W la=kv W lb))) 15 true)):=λm hm h' hh=>by
    simp_all
   by_cases V:kv W la=kv W lb
   .rw[DZ V];refine gH (b:=b) hb (by simp[ah]) ?_;refine k_ ?_;have f:(h.set b (.o (.cells (ah c false) 15 true)))[b]?=some (.o (.cells (ah c false) 15 true)):=fZ hb;refine bz (ds:=[c.up]) f (by simp[ah]) rfl ?_;refine e_ ?_;refine ab d.h_ ?_;refine k_ ?_;rw[tS];refine E (a:=(lb.1,xr la.2 lb.2)) false w.lt (.inr rfl) f λh' L M N O=>?_
    try simp(disch:=omega)only[↓n9]
    simp_all
   .rw[D0 V];refine gH (b:=b) hb (by simp[ah]) ?_;refine k_ ?_;have f:(h.set b (.o (.cells (ah c true) 15 true)))[b]?=some (.o (.cells (ah c true) 15 true)):=fZ hb;refine bz (ds:=[c.up]) f (by simp[ah]) rfl ?_;refine e_ ?_;refine ab d.h_ ?_;refine k_ ?_;rw[tS];refine E (a:=(lb.1,xr la.2 lb.2)) true w.lt (.inr rfl) f λh' L M N O=>?_
    try simp(disch:=omega)only[↓n9]
    simp_all)
 grind
end
def HN(pn:Ti)(k:Int)(x y:Nat)(a:Bool):Lit:=((DC pn x y).1,xr (DC pn x y).2 (xr (decide (k=2)) a))
section
variable {h:HL} {b:Nat} {c:XC} {n:Bool} (hb:h[b]?=some (.o (.cells (ah c n) 15 true))) {U:List Lit} (hU:q9 h c.up 2 Ep U) {r:TF} (hF:IL U r) {W:TE} (hW:Hr U W) (hV:hY 0 h c.va 1 DD W) {pn:Ti} (hp:Pe h c.pr pn)
include hb hU hF hW hV hp
theorem Dk(k:Int){x y:Nat}(d:Bool)(R:k≠3->(DC pn x y).1<U.length):∃m C h',aF cc ac 84 [.v (kb b),.i k,.i (ofNat x),.i (ofNat y),.b d] (h9 aa h) [] (h9 aa h')/\
  h'[b]?=some (.o (.cells (ah c C) 15 true))/\hY 0 h' c.va 1 DD m/\Hr U m/\(∀V,(C=false/\Rs U m V)↔(n=false/\Rs U W V/\(k≠3->v7 V (HN pn k x y d)=true)))/\(∀(j:Nat) o,h[j]?=some o->j≠b->g_ c.va≠some j->h'[j]?=some o)/\h'.length=h.length:=by
 have S:=x84 (ls:=[.v (kb b),.i k,.i (ofNat x),.i (ofNat y),.b d]) (K:=λT h'=>T=[]/\∃m C,h'[b]?=some (.o (.cells (ah c C) 15 true))/\hY 0 h' c.va 1 DD m/\Hr U m/\(∀V,(C=false/\Rs U m V)↔(n=false/\Rs U W V/\(k≠3->v7 V (HN pn k x y d)=true)))/\(∀(j:Nat) o,h[j]?=some o->j≠b->g_ c.va≠some j->h'[j]?=some o)/\h'.length=h.length) (H:=h) (pP (az _) (mc (mc (mc (Jg t0))))) (by
  unfold f84;simp only[ub];refine e_ ?_;by_cases e3:k=3
  .rw[t_ e3];refine e_ ?_
   grind
  rw[xk e3];refine e_ ?_;refine ak (kL hb hp x y) ?_;simp(disch:=omega)only[↓C3];have step:∀t:Bool,t=decide (k=2)->∀K:Bool->Prop,K (decide (t=d))->P1.eqs [(.b t,.b d)] (@i' _ ⟨K⟩):=λt _ K E=>by rw[tS];exact E
  have B:∀K:Bool->Prop,K (decide (k=2))->P1.cmp .eql k 2 (@i' _ ⟨K⟩):=λK E=>by
   by_cases D:k=2
   .rw[t_ D,←Gs D];exact E
   .rw[xk D,←GI D];exact E
  refine B _ ?_
  try rw[tS]
  refine cI (λls h'=>ls=[.i (ofNat (HN pn k x y d).1),.b (HN pn k x y d).2]/\h'=h) ?_ ?_
  case refine_2=>
   intro X z;have F:(HN pn k x y d).2=if decide (k=2)=d then(DC pn x y).2 else !(DC pn x y).2:=by
    unfold HN;simp only;generalize decide (k=2)=t;generalize (DC pn x y).2=s;cases t<;>cases s<;>cases d<;>rfl
   by_cases e:decide (k=2)=d
   .rw[qs e]at F;rw[Gs e];simp(disch:=omega)only[↓n9,EX];refine z _ _ ⟨?_,rfl⟩;rw[F];rfl
   .rw[rv e]at F;rw[GI e];simp(disch:=omega)only[↓n9,FT];refine z _ _ ⟨?_,rfl⟩;rw[F];rfl
  rintro ls h' ⟨rfl,rfl⟩;refine e_ ?_;refine bz (ds:=[.bool n]) hb (by simp[ah]) rfl ?_;refine e_ ?_;cases n with
  |true=>
   refine e_ ?_;refine gH (b:=b) hb (by simp[ah]) ?_;refine k_ ?_;refine⟨D',W,true,fZ hb,hV.ka λj o u a=>de u λe=>?_,hW,λV=>⟨λq=>(by cases q.1),λq=>(by cases q.1)⟩,λj o u I _=>de u (Ej I),GZ ..⟩;subst e;rcases hV with⟨p,_⟩|⟨id,P,p,_,J,_⟩
   .rw[p]at a;cases a
   .rw[p]at a;cases a
    simp_all
  |false=>
   refine e_ ?_;obtain⟨f,g,N,O,Q,L,M⟩:=gg hb hU hF hW hV (l:=HN pn k x y d) (R e3);refine ak O ?_;refine e_ ?_;have A:g_ c.va≠some b:=λe=>by
    rcases hV with⟨p,_⟩|⟨id,P,p,_,J,_⟩
    .rw[p]at e;cases e
    .rw[p]at e;cases e
     simp_all
   have w:=L _ _ hb A;refine gH (b:=b) w (by simp[ah]) ?_;refine k_ ?_;refine⟨D',DM W f,!decide ((DM W f).getD f.1 0=E0 f),fZ w,Q.ka λj o u a=>de u λe=>A (by rw[a,e]),vj hW f,λV=>?_,λj o u I J=>de (L j o u J) (Ej I),j_⟩;by_cases G:(DM W f).getD f.1 0=E0 f
   .rw[Gs G,M5 hW N G V]
    simp_all
   .rw[GI G];refine⟨λq=>(by cases q.1),λq=>?_⟩;have:=(S9 hW N G).2 V q.2.1
    simp_all)
 grind
end
def da{i n c e:Nat}:aI (.slice (some ⟨i,0,le e⟩) n c)=true:=by simp[aI,nc,aT,bE,bj,aP,aD,le]
def L1{lb len cx i:Nat}(b:i<len):B_ 1 (.slice (some ⟨lb,0,le 1⟩) len cx) (ofNat i)=some (.pointer (some ⟨lb,i,none⟩)):=by
 rw[qr];have a:0<=ofNat i/\ofNat i<(len:Int):=⟨G9 i,j_⟩;simp only[qs a];have:¬(le 1=some 1):=by simp[le]
 simp_all
def D4(v:Value):Tn:=[v]
def bh(v:TR):(D4 v).length=1:=rfl
def Hf(h:HL)(v:Value)(l:TC):Prop:=(v = .slice none 0 0/\l=[])∨∃id vs,v = .slice (some ⟨id,0,le 1⟩) l.length 0/\h[id]?=some (.o (.cells (l.flatMap l_++vs) 1 true))
def Hf.nil(h:HL):Hf h (.slice none 0 0) []:=.inl ⟨rfl,rfl⟩
def Hf.cut{l:TC}{vs:Tn}:cut (l.flatMap l_++vs) 0 (l.length*1)=some (l.flatMap l_):=by
 have:=gP l;refine gz.2 ⟨j_,?_⟩
 simp_all
def Hf.ls{h:HL}{v:TR}{l:TC}(c:Hf h v l):q9 h v 1 l_ l:=by
 rcases c with⟨rfl,rfl⟩|⟨id,d,rfl,b⟩
 .exact q9.nil h 1 l_
 .exact⟨λa _=>bv a,by rw[gP,ZQ],.inr ⟨id,0,0,_,true,rfl,b,Hf.cut⟩⟩
def Hf.h_{h:HL}{v:TR}{l:TC}(a:Hf h v l):aI v=true:=a.ls.h_
def Hf.ka{h h':HL}{v:TR}{l:TC}(d:Hf h v l)(c:∀(j:Nat) o,h[j]?=some o->g_ v=some j->h'[j]?=some o):Hf h' v l:=by
 rcases d with a|⟨id,e,rfl,b⟩
 .exact .inl a
 .exact .inr ⟨id,e,rfl,c _ _ b rfl⟩
def Hf.lt{h:HL}{v:TR}{l:TC}(c:Hf h v l){j:Nat}(a:g_ v=some j):j<h.length:=by
 rcases c with⟨rfl,_⟩|⟨id,d,rfl,b⟩
 .cases a
 .cases a;exact ai b
def Hf.Il{h:HL}{v:TR}{l:TC}{a m:Nat}{new:Tn}{r:Ts}{K:Tb}(A:Hf h v l)(y:m=h.length)(f:new=l_ a)(i:r=some 11)(C:l.length<=1000000)
  (p:∀v' h',Hf h' v' (l++[a])->aI v'=true->(∃j,g_ v'=some j/\h.length<=j)->(∃a n c,v' = .slice a n c)->(∀(j:Nat) o,h[j]?=some o->g_ v≠some j->h'[j]?=some o)->h.length<=h'.length->K [v'] h') :
  P1.heap (.ap cc 1 8 v (.slice (some ⟨m,0,r⟩) 1 2)) (h++[.o (.cells new 1 true)]) (@i' _ ⟨K⟩):=by
 subst y f i;have q:He (h++[HO.o (.cells (l_ a) 1 true)]) (.slice (some ⟨h.length,0,le 1⟩) 1 2) 1 1 (l_ a):=⟨rfl,.inr ⟨h.length,0,2,l_ a,true,rfl,c_,Sx.vd rfl⟩⟩;have z:bc (l.length+1) 8=true:=by
  unfold bc;rw[EY a_,EY a_];rfl
 have u:(l.flatMap l_++l_ a)=(l++[a]).flatMap l_:=c_;have d:(l++[a]).length=l.length+1:=c_;rcases A with⟨rfl,rfl⟩|⟨id,B,rfl,k⟩
 .have b:Fw cc 1 8 (.slice none 0 0) (.slice (some ⟨h.length,0,le 1⟩) 1 2) (s7 aa (h++[HO.o (.cells (l_ a) 1 true)])) (h++[HO.o (.cells (l_ a) 1 true)]).length=some ([.push (.cells (l_ a) 1 true)],[.slice (some ⟨(h++[HO.o (.cells (l_ a) 1 true)]).length,0,le 1⟩) 1 0]):=by
   unfold Fw;rw[ml q]
   simp_all
  refine bH (show(Hp.ap cc 1 8 (.slice none 0 0) (.slice (some ⟨h.length,0,le 1⟩) 1 2)).run _ _=_ from b) ?_;refine p _ _ (.inr ⟨_,[],rfl,?_⟩) da ⟨_,rfl,c_⟩ ⟨_,_,_,rfl⟩ (λj o g _=>?_) (by simp[bG,DL.onH])
  .show((h++[HO.o (.cells (l_ a) 1 true)])++[HO.o (.cells (l_ a) 1 true)])[_]?=_
   simp_all
  .exact ey (ey g)
 .have x:=ai k;have w:(h++[HO.o (.cells (l_ a) 1 true)])[id]?=some (.o (.cells (l.flatMap l_++B) 1 true)):=ey k;have b:Fw cc 1 8 (.slice (some ⟨id,0,le 1⟩) l.length 0) (.slice (some ⟨h.length,0,le 1⟩) 1 2) (s7 aa (h++[HO.o (.cells (l_ a) 1 true)])) (h++[HO.o (.cells (l_ a) 1 true)]).length=some ([.set id .dead,.push (.cells (l.flatMap l_++l_ a) 1 true)],[.slice (some ⟨(h++[HO.o (.cells (l_ a) 1 true)]).length,0,le 1⟩) (l.length+1) 0]):=by
   unfold Fw;rw[ml q];simp only[ne_eq,not_true_eq_false,if_false];rw[bB w];simp only[ne_eq,not_true_eq_false,if_false];rw[Hf.cut]
   simp_all
  refine bH (show(Hp.ap cc 1 8 (.slice (some ⟨id,0,le 1⟩) l.length 0) (.slice (some ⟨h.length,0,le 1⟩) 1 2)).run _ _=_ from b) ?_;have s:bG (h++[HO.o (.cells (l_ a) 1 true)]) [.set id .dead,.push (.cells (l.flatMap l_++l_ a) 1 true)]=(h++[HO.o (.cells (l_ a) 1 true)]).set id (.o .dead)++[.o (.cells (l.flatMap l_++l_ a) 1 true)]:=rfl;rw[s];refine p _ _ (.inr ⟨_,[],by rw[d],?_⟩) da ⟨_,rfl,c_⟩ ⟨_,_,_,rfl⟩ (λj o g t=>?_) tt
  .simp_all
  .refine ey (de (ey g) λe=>t ?_);rw[←e];rfl
def Hf.E1{h:HL}{v:TR}{l:TC}{a:Nat}{n:Int}{K:TR->Prop}(j:Hf h v (l++[a]))(g:n=ofNat l.length)(f:∀v',Hf h v' l->aI v'=true->g_ v'=g_ v->K v'):P1.jw (FN 1 v none (some n) none) (@i' _ ⟨K⟩):=by
 subst g;rcases j with⟨_,d⟩|⟨id,k,rfl,e⟩
 .simp at d
 have i:FN 1 (.slice (some ⟨id,0,le 1⟩) (l++[a]).length 0) none (some (ofNat l.length)) none=some (.slice (some ⟨id,0,le 1⟩) l.length 0):=by
  unfold FN;have b:¬(le 1≠some 1/\le 1≠le 1):=c_;simp only[rv b];have c:(0:Int)<=(none:Tt).getD 0/\(none:Tt).getD 0<=(some (ofNat l.length)).getD ((l++[a]).length:Int)/\bV (l++[a]).length 0 (some (ofNat l.length)) none:=by
   refine⟨c_,c_,?_⟩;unfold bV
   grind
  rw[qs c,fc,fc,fc];simp[bM]
 refine ae i (f _ (.inr ⟨id,l_ a++k,rfl,?_⟩) da rfl);rw[e];simp
end Go.Am
namespace Go.Am
open Sx
def JK(T:TC)(W:TE):TE:=T.foldl (λw i=>w.set i 0) W
def Nw:∀ {T:TC} {W:TE},(JK T W).length=W.length
 | [],_=>rfl
 |i :: T,W=>by
  show(JK T (W.set i 0)).length=_;rw[Nw,GZ]
def zy:∀ {T:TC} {W:TE} {j:Nat},(JK T W)[j]?=if j∈T then(W[j]?).map λ_=>0 else W[j]?
 | [],_,_=>by simp[JK]
 |i :: T,W,j=>by
  show(JK T (W.set i 0))[j]?=_;rw[zy,HZ]
  grind
def Yu{T:TC}{i:Nat}{W:TE}:JK (T++[i]) W=(JK T W).set i 0:=by simp[JK]
def Yv{T:TC}{W a:TE}(h:JK T W=a)(l:Lit):JK (if W.getD l.1 0=0 then T++[l.1]else T) (DM W l)=a:=by
 unfold DM;by_cases b:W.getD l.1 0=0
 .rw[qs b,qs b,←h];refine Ib λj=>?_;rw[zy,zy,HZ]
  grind
 simp_all
def DS(us:Ty)(l:TC):TC:=l.filter λo=>!us.getD o false
def uy{us:Ty}{l:TC}{id:Nat}(b:l.Nodup)(c:id<us.length):DS (us.set id true) l=(DS us l).erase id:=by
 unfold DS;have a:(l.filter λo=>!us.getD o false).Nodup:=b.filter _;rw[a.erase_eq_filter,List.filter_filter]
 grind
def qy{us:Ty}{l:TC}{o:Nat}:o∈DS us l↔o∈l/\us.getD o false=false:=by
 unfold DS
 simp_all
def Yr{us:Ty}{id:Nat}(h:us.getD id false=false):(us.set id true).set id false=us:=by
 rw[List.set_set];refine Ib λj=>?_
 grind
end Go.Am
namespace Go.Am
open Sx Go.Proofs
def kw{h:HL}{b e:Nat}{cs ds:Tn}{K:Ta}{o n:Nat}(a:h[b]?=some (.o (.cells cs e true)))(g:o+n<=cs.length)(f:ds=(cs.drop o).take n)(c:K (.pointer (some ⟨b,o,none⟩)) ds) :
  P1.jw (Ec (kb b)) (@i' _ ⟨λx=>P1.n4 x (@i' _ ⟨P1.jw (Eu o x) (@i' _ ⟨λy=>P1.n4 y (@i' _ ⟨P1.ma (.lg cc n y) h (@i' _ ⟨K y⟩)⟩)⟩)⟩)⟩):=by
 refine ae (x:=kb b) rfl (ab (az b) (ae (x:=.pointer (some ⟨b,0+o,none⟩)) rfl (ab (by simp[aI,nc,aT,bE,bj,aP,aD]) ?_)));rw[F9];have d:HJ h (.pointer (some ⟨b,o,none⟩)) ds:=by
  refine⟨b,o,cs,e,true,rfl,a,gz.2 ⟨?_,?_⟩⟩
  .grind
  simp_all
 refine dH (d.lg ?_) c
 grind
def SG{h:HL}{n0:Nat}{v:TR}{l:Tn}{i:Nat}{a:TR}{n:Int}{K:Ta}(d:hY n0 h v 1 D4 l)(j:n=ofNat i)(b:l[i]?=some a)(g:∀id,g_ v=some id->K (.pointer (some ⟨id,i,none⟩)) [a]) :
  P1.jw (B_ 1 v n) (@i' _ ⟨λx=>P1.ma (.lg cc 1 x) h (@i' _ ⟨K x⟩)⟩):=by
 subst j;obtain⟨id,k,rfl,_,m,_⟩:=kX d (λe=>by rw[e]at b;cases b);refine ae (L1 (ai b)) ?_;obtain⟨p,c,f⟩:=(d.ls bh).at b;rw[L1 (ai b)]at c;cases c;exact dH (f.lg rfl) (g id rfl)
def hY.KT{j7:Type}{e:Nat}{enc:j7->Tn}{h:HL}{n0:Nat}{v:TR}{l:List j7}{i:Nat}{a:j7}{n:Int}{new:Tn}{K:Tb}(b:∀a,(enc a).length=e)(t:hY n0 h v e enc l)(s:n=ofNat i)(p:i<l.length)(c:new=enc a)
  (r:∀h':HL,hY n0 h' v e enc (l.set i a)->(∀(j:Nat) o,h[j]?=some o->Sx.g_ v≠some j->h'[j]?=some o)->h'.length=h.length->K [] h') :
  P1.jw (B_ e v n) (@i' _ ⟨λx=>P1.heap (.st x new) h (@i' _ ⟨K⟩)⟩):=by
 obtain⟨id,f,rfl,g,d,m⟩:=kX t (λe=>j_);refine dy b d s p rfl c (r _ (.inr ⟨id,f,by rw[GZ],g,bL (ai d),j_⟩) (λj o q k=>?_) iw);rw[cz (λe=>k (by rw[e];rfl))];exact q
structure S3x(c:XC)(k1:Nat):Prop where
 s1:∀j,g_ c.va=some j->j<k1/\g_ c.us≠some j/\g_ c.lay≠some j
 s2:∀j,g_ c.us=some j->j<k1/\g_ c.lay≠some j
 s3:∀j,g_ c.lay=some j->j<k1
structure Mt(h:HL)(c:XC)(k1:Nat)(W:TE)(us:Ty)(LV:List (TC))(lv:Tn):Prop where
 va:hY 0 h c.va 1 DD W
 us:hY 0 h c.us 1 B6 us
 ly:hY 0 h c.lay 1 D4 lv
 ln:lv.length=LV.length
 tr:∀(j:Nat) v l,lv[j]?=some v->LV[j]?=some l->Hf h v l
 nb:∀(j:Nat) v x,lv[j]?=some v->g_ v=some x->k1<=x
 dj:∀(i j:Nat) v w x,lv[i]?=some v->lv[j]?=some w->g_ v=some x->g_ w=some x->i=j
def Mt.ka{h h':HL}{c:XC}{k1:Nat}{W:TE}{us:Ty}{f:List (TC)}{lv:Tn}(a:Mt h c k1 W us f lv)(e:∀(j:Nat) o,h[j]?=some o->g_ c.va=some j∨g_ c.us=some j∨g_ c.lay=some j∨(∃v∈lv,g_ v=some j)->h'[j]?=some o):Mt h' c k1 W us f lv:=
 ⟨a.va.ka λj o d b=>e j o d (.inl b),a.us.ka λj o d b=>e j o d (.inr (.inl b)),a.ly.ka λj o d b=>e j o d (.inr (.inr (.inl b))),a.ln,
  λi v l g k=>(a.tr i v l g k).ka λj o d b=>e j o d (.inr (.inr (.inr ⟨v,A9 g,b⟩))),a.nb,a.dj⟩
section
variable {h h':HL} {c:XC} {k1:Nat} (s:S3x c k1) {W:TE} {us:Ty} {LV:List (TC)} {lv:Tn} (hM:Mt h c k1 W us LV lv)
include s hM
theorem Mt.setV{g:TE}(m:hY 0 h' c.va 1 DD g)(f:∀(j:Nat) o,h[j]?=some o->g_ c.va≠some j->j<k1∨(∃v∈lv,g_ v=some j)->h'[j]?=some o):Mt h' c k1 g us LV lv:=
 ⟨m,hM.us.ka λj o b a=>f j o b (λe=>(s.s1 j e).2.1 a) (.inl (s.s2 j a).1),hM.ly.ka λj o b a=>f j o b (λe=>(s.s1 j e).2.2 a) (.inl (s.s3 j a)),hM.ln,
  λi v l d k=>(hM.tr i v l d k).ka λj o b a=>f j o b (λe=>by
   have n:=(s.s1 j e).1;have p:=hM.nb i v j d a;omega) (.inr ⟨v,A9 d,a⟩),hM.nb,hM.dj⟩
theorem Mt.setU{d:Ty}(m:hY 0 h' c.us 1 B6 d)(f:∀(j:Nat) o,h[j]?=some o->g_ c.us≠some j->h'[j]?=some o):Mt h' c k1 W d LV lv:=
 ⟨hM.va.ka λj o b a=>f j o b (s.s1 j a).2.1,m,hM.ly.ka λj o b a=>f j o b (λe=>(s.s2 j e).2 a),hM.ln,
  λi v l g k=>(hM.tr i v l g k).ka λj o b a=>f j o b (λe=>by
   have n:=(s.s2 j e).1;have p:=hM.nb i v j g a;omega),hM.nb,hM.dj⟩
theorem Mt.Jz{st:Nat}{v':TR}{l':TC}(q:st<LV.length)(B:hY 0 h' c.lay 1 D4 (lv.set st v'))(u:Hf h' v' l')(p:∀x,g_ v'=some x->k1<=x)(C:∀(j:Nat) w x,j≠st->lv[j]?=some w->g_ v'=some x->g_ w≠some x)
  (n:∀(j:Nat) o,h[j]?=some o->g_ c.lay≠some j->(∀v,lv[st]?=some v->g_ v≠some j)->h'[j]?=some o):Mt h' c k1 W us (LV.set st l') (lv.set st v'):=by
 have D:st<lv.length:=by rw[hM.ln];exact q
 have a:∀(j:Nat) v,(lv.set st v')[j]?=some v->(j=st/\v=v')∨(j≠st/\lv[j]?=some v):=λj v k=>by
  grind
 have f:∀x,x<k1->∀v,lv[st]?=some v->g_ v≠some x:=λx L v u e=>by
  have:=hM.nb st v x u e;omega
 refine⟨hM.va.ka λj o k d=>n j o k (s.s1 j d).2.2 (f j (s.s1 j d).1),hM.us.ka λj o k d=>n j o k (s.s2 j d).2 (f j (s.s2 j d).1),B,by rw[GZ,GZ];exact hM.ln,λj v l b g=>?_,λj v x b g=>?_,λi j v w x b g z A=>?_⟩
 .rcases a j v b with⟨rfl,rfl⟩|⟨e,b⟩
  .simp_all
  .rw[IA (Ej e)]at g;refine(hM.tr j v l b g).ka λy o E d=>n y o E (λt=>?_) λH r m=>e (hM.dj j st v H y b r d m);have I:=s.s3 y t;have J:=hM.nb j v y b d;omega
 .rcases a j v b with⟨rfl,rfl⟩|⟨_,b⟩
  .exact p x g
  .exact hM.nb j v x b g
 .rcases a i v b with⟨rfl,rfl⟩|⟨K,F⟩
  .grind
  .rcases a j w g with⟨rfl,rfl⟩|⟨t,G⟩
   .grind
   .exact hM.dj i j v w x F G z A
end
structure Ro(b:Nat)(c:XC)(U:List Lit)(F:List B5)(pn:Ti)(AT:List K3)(IDS:List (TC))(CR:TD)(k1:Nat)(mu:Tz)(P:HL->Prop):Prop where
 kp:∀h h',P h->(∀(j:Nat) o,j<k1->¬mu j->h[j]?=some o->h'[j]?=some o)->P h'
 lt:∀h,P h->k1<=h.length
 s:S3x c k1
 m1:∀j,g_ c.va=some j∨g_ c.us=some j∨g_ c.lay=some j->mu j
 bk:b<k1
 hb:∀h,P h->h[b]?=some (.o (.cells (ah c false) 15 true))
 up:∀h,P h->q9 h c.up 2 Ep U
 fo:∀h,P h->q9 h c.fo 8 Kf F
 fl:F.length<=1000000
 fv:∀f∈F,f.1.1<U.length/\f.2.1.1<U.length/\f.2.2.1.1<U.length/\f.2.2.2.1<U.length
 pr:∀h,P h->Pe h c.pr pn
 ia:∀h,P h->q9 h c.at_ 3 Gb AT
 xc:∀h,P h->q9 h c.xc 3 mi CR
 cl:CR.length<=1000000
 al:AT.length<=1000000
 il:IDS.length=AT.length
 ids:∃vs:List Value,vs.length=IDS.length/\∀h,P h->q9 h c.ids 1 D4 vs/\∀(j:Nat) v l,vs[j]?=some v->IDS[j]?=some l->q9 h v 1 l_ l
 ib:∀l∈IDS,l.Nodup/\l.length<=1000000/\∀x∈l,∀y∈l,x≠y->(DC pn x y).1<U.length
section
variable {b:Nat} {c:XC} {U:List Lit} {F:List B5} {pn:Ti} {AT:List K3} {IDS:List (TC)} {CR:TD} {k1:Nat} {mu:Tz} {P:HL->Prop} (R:Ro b c U F pn AT IDS CR k1 mu P)
include R
theorem Ro.keepV{h h':HL}(g:P h)(i:∀(j:Nat) o,h[j]?=some o->g_ c.va≠some j->j<k1->h'[j]?=some o):P h':=R.kp h h' g λj o a d f=>i j o f (λe=>d (R.m1 j (.inl e))) a
theorem Ro.keepU{h h':HL}(g:P h)(i:∀(j:Nat) o,h[j]?=some o->g_ c.us≠some j->j<k1->h'[j]?=some o):P h':=R.kp h h' g λj o a d f=>i j o f (λe=>d (R.m1 j (.inr (.inl e)))) a
end
end Go.Am
end

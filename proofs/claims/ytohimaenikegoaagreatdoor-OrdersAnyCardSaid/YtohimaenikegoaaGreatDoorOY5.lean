import Derived.Test.YtohimaenikegoaaGreatDoorOY4
set_option linter.all false
noncomputable section
set_option maxRecDepth 100000
set_option maxHeartbeats 16000000
open Int(ofNat)
open List(range)
namespace Go.Am
namespace Sx
class Bx (i6:Sort _) where
 v:i6
def hY{i6:Sort _} [b:Bx i6]:i6:=b.v
section
variable [Cf] [C8] {C:ke} {Sg:Td} {T:Tv}
def v9{n:Int}{r:TG}{K:Int->TG->Prop}:(PH C Sg T).oo (.i n :: r) K=K n r:=rfl
def w6{n:Bool}{r:TG}{K:Bool->TG->Prop}:(PH C Sg T).D7 (.b n :: r) K=K n r:=rfl
def w9{n:TR}{r:TG}{K:TR->TG->Prop}:(PH C Sg T).Ck (.v n :: r) K=K n r:=rfl
def w0{K:Prop}:(PH C Sg T).u4 [] K=K:=rfl
def o9{k:TL}{n:Int}{r:Tn}{K:Int->Tn->Prop}:(PH C Sg T).rv k (.int k n :: r) K=K n r:=by
 show(k=k/\K n r)=K n r;simp
def o8{n:Bool}{r:Tn}{K:Bool->Tn->Prop}:(PH C Sg T).DV (.bool n :: r) K=K n r:=rfl
def t9{n:TR}{r:Tn}{K:Ta}:(PH C Sg T).BM (n :: r) K=K n r:=rfl
def j3{K:Prop}:(PH C Sg T).ts [] K=K:=rfl
def Oa{X Y:Prop}:(PH C Sg T).cond true X Y=X:=by
 show((true=true->X)/\(true=false->Y))=X;simp
def N'{X Y:Prop}:(PH C Sg T).cond false X Y=Y:=by
 show((false=true->X)/\(false=false->Y))=Y;simp
def T6{a b:Int}{K:Tp}(h:a<b):(PH C Sg T).cmp .lss a b K=K true:=by
 show K (decide (a<b))=_;rw[Fo h]
def T5{a b:Int}{K:Tp}(h:b<=a):(PH C Sg T).cmp .lss a b K=K false:=by
 show K (decide (a<b))=_;grind
def T4{a b:Int}{K:Tp}(h:a<=b):(PH C Sg T).cmp .leq a b K=K true:=by
 show K (decide (a<=b))=_;rw[Fo h]
def T3{a b:Int}{K:Tp}(h:b<a):(PH C Sg T).cmp .leq a b K=K false:=by
 show K (decide (a<=b))=_;grind
def T0{a b:Int}{K:Tp}(h:b<a):(PH C Sg T).cmp .gtr a b K=K true:=by
 show K (decide (a > b))=_;rw[Fo h]
def TZ{a b:Int}{K:Tp}(h:a<=b):(PH C Sg T).cmp .gtr a b K=K false:=by
 show K (decide (a > b))=_;grind
def TY{a b:Int}{K:Tp}(h:b<=a):(PH C Sg T).cmp .geq a b K=K true:=by
 show K (decide (a ≥ b))=_;rw[Fo h]
def TX{a b:Int}{K:Tp}(h:a<b):(PH C Sg T).cmp .geq a b K=K false:=by
 show K (decide (a ≥ b))=_;grind
def TU{a b:Int}{K:Tp}(h:a=b):(PH C Sg T).cmp .eql a b K=K true:=by
 show K (a==b)=_;rw[beq_iff_eq.2 h]
def TT{a b:Int}{K:Tp}(h:a≠b):(PH C Sg T).cmp .eql a b K=K false:=by
 show K (a==b)=_;rw[beq_false_of_ne h]
def Ub{a b:Int}{K:Tp}(h:a≠b):(PH C Sg T).cmp .neq a b K=K true:=by
 show K (a != b)=_;rw[bne_iff_ne.2 h]
def Ua{a b:Int}{K:Tp}(h:a=b):(PH C Sg T).cmp .neq a b K=K false:=by
 show K (a != b)=_;subst h;simp
def Ks{a b:Int}{K:Tw}(h1:-9223372036854775808<=a+b)(c:a+b<=9223372036854775807):(PH C Sg T).w7 .add .i64 a b K=K (a+b):=by
 show K (IntKind.wrap .i64 (a+b))=_;rw[dd h1 c]
def o7{a b:Int}{K:Tw}(h1:-9223372036854775808<=a - b)(c:a - b<=9223372036854775807):(PH C Sg T).w7 .sub .i64 a b K=K (a - b):=by
 show K (IntKind.wrap .i64 (a - b))=_;rw[dd h1 c]
def BI{a b:Int}{K:Tw}(h1:-9223372036854775808<=a*b)(c:a*b<=9223372036854775807):(PH C Sg T).w7 .mul .i64 a b K=K (a*b):=by
 show K (IntKind.wrap .i64 (a*b))=_;rw[dd h1 c]
def Y3{a b:Int}{K:Tw}(h1:0<=a+b)(c:a+b<=255):(PH C Sg T).w7 .add .u8 a b K=K (a+b):=by
 show K (IntKind.wrap .u8 (a+b))=_;rw[uo h1 c]
def Y9{a b:Int}{K:Tw}(h1:0<=a - b)(c:a - b<=255):(PH C Sg T).w7 .sub .u8 a b K=K (a - b):=by
 show K (IntKind.wrap .u8 (a - b))=_;rw[uo h1 c]
def Y8{a b:Int}{K:Tw}(h1:0<=a*b)(c:a*b<=255):(PH C Sg T).w7 .mul .u8 a b K=K (a*b):=by
 show K (IntKind.wrap .u8 (a*b))=_;rw[uo h1 c]
def WP{a b:Int}(h:0<=a):a.tdiv b=a / b:=Int.tdiv_eq_ediv_of_nonneg h
def Og{a b:Int}{K:Tw}(h:0<=a)(f:0<b)(c:a<=9223372036854775807):(PH C Sg T).w7 .quo .i64 a b K=K (a / b):=by
 show(b≠0/\K (IntKind.wrap .i64 (a.tdiv b)))=_;have d:a / b<=a:=Int.ediv_le_self b h;have e:0<=a / b:=Int.ediv_nonneg h (by omega);rw[WP h,dd (by omega) (by omega)];simp;omega
def Of{a b:Int}{K:Tw}(h:a%b=0)(f:0<b)(h1:-9223372036854775808<=a)(e:a<=9223372036854775807):(PH C Sg T).w7 .quo .i64 a b K=K (a / b):=by
 show(b≠0/\K (IntKind.wrap .i64 (a.tdiv b)))=_;obtain⟨q,rfl⟩:=Int.dvd_of_emod_eq_zero h;rw[Int.mul_tdiv_cancel_left q (by omega),Int.mul_ediv_cancel_left q (by omega)];have c:-9223372036854775808<=q/\q<=9223372036854775807:=by
  rcases Int.le_total 0 q with d|d
  .have:=a8 (show(1:Int)<=b by omega) d;omega
  .have:=a8 (show(1:Int)<=b by omega) (show 0<=-q by omega)
   grind
 rw[dd c.1 c.2];simp;omega
def Oh{k:TL}{a b:Int}{K:Tw}(h:0<=a)(c:0<b):(PH C Sg T).w7 .rem k a b K=K (a%b):=by
 show(b≠0/\K (a.tmod b))=_
 grind
def Oi{k:TL}{a b:Int}{K:Tw}(h:a<=0)(d:0<b):(PH C Sg T).w7 .rem k a b K=K (-((-a)%b)):=by
 show(b≠0/\K (a.tmod b))=_;have:a.tmod b = -((-a)%b):=by
  have c:=Int.neg_tmod a b
  grind
 grind
def Y4{a:Int}{K:Tw}:(PH C Sg T).w7 .and .i64 a 1 K=K (a%2):=by
 show(((1:Int)=1/\K (a%2))∨((1:Int)≠1/\∃n,rY .and .i64 a 1 n/\K n))=K (a%2);simp
def Y5{a:Int}{K:Tw}(h1:-9223372036854775808<=a)(b:a<=9223372036854775807):(PH C Sg T).conv .i64 a K=K a:=by
 show K (IntKind.wrap .i64 a)=_;rw[dd h1 b]
def S_{a:Int}{K:Tw}(h1:0<=a)(b:a<=255):(PH C Sg T).conv .u8 a K=K a:=by
 show K (IntKind.wrap .u8 a)=_;rw[uo h1 b]
def Ue{a b:Int}{K:Tw}:(PH C Sg T).FO true a b K=K a:=rfl
def Ud{a b:Int}{K:Tw}:(PH C Sg T).FO false a b K=K b:=rfl
def XV{i6:Type}{x:i6}{K:i6->Prop}:(PH C Sg T).h_ (some x) K=K x:=by
 show(∃y,some x=some y/\K y)=K x;simp
def x3{n:Nat}{i:Int}{K:Unit->Prop}(h1:0<=i)(a:i<(n:Int)):(PH C Sg T).h_ (EU n i) K=K ():=by
 rw[show EU n i=some ()from(Pr n i).trans (n_ ⟨h1,a⟩),XV]
def Y7{b:Te}{m:(TG->HL->Prop)->Prop}:(PH C Sg T).join b m=m b:=rfl
def Y6{K:Tp}:(PH C Sg T).eqs [] K=K true:=rfl
def TW{a b:Int}{l:List (Lf×Lf)}{K:Tp}(h:a=b):(PH C Sg T).eqs ((.i a,.i b) :: l) K=(PH C Sg T).eqs l K:=by
 show K (ch _)=K (ch l);subst h;simp[ch,iq]
def TV{a b:Int}{l:List (Lf×Lf)}{K:Tp}(h:a≠b):(PH C Sg T).eqs ((.i a,.i b) :: l) K=K false:=by
 show K (ch _)=K false;have:(a==b)=false:=beq_false_of_ne h;simp[ch,iq,this]
def zK{F:(TG->HL->Prop)->TG->HL->Prop}{ls:TG}{h:HL}(n:Nat)(a:Ss F n ls h):(PH C Sg T).loop F ls h:=⟨n,a⟩
def b5{F:(TG->HL->Prop)->TG->HL->Prop}{n:Nat}{ls:TG}{h:HL}:Ss F (n+1) ls h=F (Ss F n) ls h:=rfl
def aj{g:TQ}{ls a:TG}{h:HL}{K:Te}(b:∀H,aI C Sg g ls H a H)(c:K a h):(PH C Sg T).call g ls h (@hY _ ⟨K⟩):=⟨a,h,b _,c⟩
def Ob{a b:Bool}{l:List (Lf×Lf)}{K:Tp}(h:a=b):(PH C Sg T).eqs ((.b a,.b b) :: l) K=(PH C Sg T).eqs l K:=by
 show K (ch _)=K (ch l);subst h;simp[ch,iq]
def L6{l:List (Lf×Lf)}{K:Tp}:(PH C Sg T).eqs ((.b true,.b false) :: l) K=K false:=rfl
def L5{l:List (Lf×Lf)}{K:Tp}:(PH C Sg T).eqs ((.b false,.b true) :: l) K=K false:=rfl
def T9{b:Int}{K:Tw}(h1:-9223372036854775808<=b)(a:b<=9223372036854775807):(PH C Sg T).w7 .mul .i64 1 b K=K b:=by
 show K (IntKind.wrap .i64 (1*b))=_;rw[Int.one_mul,dd h1 a]
def T8{b:Int}{K:Tw}:(PH C Sg T).w7 .mul .i64 0 b K=K 0:=by
 show K (IntKind.wrap .i64 (0*b))=_;rw[Int.zero_mul];rfl
def T_{b:Int}{K:Tw}(h1:-9223372036854775808<=-b)(a:-b<=9223372036854775807):(PH C Sg T).w7 .mul .i64 (-1) b K=K (-b):=by
 show K (IntKind.wrap .i64 (-1*b))=_;have:(-1*b:Int) = -b:=by omega
 rw[this,dd h1 a]
def Od{b:Int}{K:Tw}(h1:-9223372036854775808<=b)(a:b<=9223372036854775807):(PH C Sg T).w7 .mul .i64 b 1 K=K b:=by
 show K (IntKind.wrap .i64 (b*1))=_;rw[Int.mul_one,dd h1 a]
def Oc{b:Int}{K:Tw}:(PH C Sg T).w7 .mul .i64 b 0 K=K 0:=by
 show K (IntKind.wrap .i64 (b*0))=_;rw[Int.mul_zero];rfl
def Oe{b:Int}{K:Tw}(h1:-9223372036854775808<=-b)(a:-b<=9223372036854775807):(PH C Sg T).w7 .mul .i64 b (-1) K=K (-b):=by
 show K (IntKind.wrap .i64 (b * -1))=_;have:(b * -1:Int) = -b:=by omega
 rw[this,dd h1 a]
def S9{b:Int}{K:Tw}(h1:-9223372036854775808<=b)(a:b<=9223372036854775807):(PH C Sg T).w7 .add .i64 0 b K=K b:=by
 show K (IntKind.wrap .i64 (0+b))=_;rw[Int.zero_add,dd h1 a]
def N_{b:Int}{K:Tw}(h1:-9223372036854775808<=b)(a:b<=9223372036854775807):(PH C Sg T).w7 .add .i64 b 0 K=K b:=by
 show K (IntKind.wrap .i64 (b+0))=_;rw[Int.add_zero,dd h1 a]
def N9{K:Tw}:(PH C Sg T).w7 .add .i64 1 1 K=K 2:=by
 show K (IntKind.wrap .i64 (1+1))=_;rfl
def Uc{a:Int}{K:Tw}(h1:-9223372036854775808<=a)(b:a<=9223372036854775807):(PH C Sg T).w7 .quo .i64 a 1 K=K a:=by
 show((1:Int)≠0/\K (IntKind.wrap .i64 (a.tdiv 1)))=_;rw[Int.tdiv_one,dd h1 b];simp
def ae{i6:Type}{o:Option i6}{x:i6}{K:i6->Prop}(h:o=some x)(a:K x):(PH C Sg T).h_ o (@hY _ ⟨K⟩):=⟨x,h,a⟩
theorem Ym{n:Int}{r:TG}{K:Int->TG->Prop}:(PH C Sg T).oo (.i n :: r) (@hY _ ⟨K⟩)=K n r:=v9
theorem Yk{n:Bool}{r:TG}{K:Bool->TG->Prop}:(PH C Sg T).D7 (.b n :: r) (@hY _ ⟨K⟩)=K n r:=w6
theorem Yn{n:TR}{r:TG}{K:TR->TG->Prop}:(PH C Sg T).Ck (.v n :: r) (@hY _ ⟨K⟩)=K n r:=w9
theorem Yj{K:Prop}:(PH C Sg T).u4 [] (@hY _ ⟨K⟩)=K:=w0
theorem Yh{k:TL}{n:Int}{r:Tn}{K:Int->Tn->Prop}:(PH C Sg T).rv k (.int k n :: r) (@hY _ ⟨K⟩)=K n r:=o9
theorem Yg{n:Bool}{r:Tn}{K:Bool->Tn->Prop}:(PH C Sg T).DV (.bool n :: r) (@hY _ ⟨K⟩)=K n r:=o8
theorem Yi{n:TR}{r:Tn}{K:Ta}:(PH C Sg T).BM (n :: r) (@hY _ ⟨K⟩)=K n r:=t9
theorem Yf{K:Prop}:(PH C Sg T).ts [] (@hY _ ⟨K⟩)=K:=j3
theorem HZ{X Y:Prop}:(PH C Sg T).cond true (@hY _ ⟨X⟩) Y=X:=Oa
theorem HY{X Y:Prop}:(PH C Sg T).cond false X (@hY _ ⟨Y⟩)=Y:=N'
theorem td{a b:Int}{K:Tp}(h:a<b):(PH C Sg T).cmp .lss a b (@hY _ ⟨K⟩)=K true:=T6 h
theorem tf{a b:Int}{K:Tp}(h:b<=a):(PH C Sg T).cmp .lss a b (@hY _ ⟨K⟩)=K false:=T5 h
theorem KZ{a b:Int}{K:Tp}(h:a<=b):(PH C Sg T).cmp .leq a b (@hY _ ⟨K⟩)=K true:=T4 h
theorem KY{a b:Int}{K:Tp}(h:b<a):(PH C Sg T).cmp .leq a b (@hY _ ⟨K⟩)=K false:=T3 h
theorem Co{a b:Int}{K:Tp}(h:b<a):(PH C Sg T).cmp .gtr a b (@hY _ ⟨K⟩)=K true:=T0 h
theorem z_{a b:Int}{K:Tp}(h:a<=b):(PH C Sg T).cmp .gtr a b (@hY _ ⟨K⟩)=K false:=TZ h
theorem EZ{a b:Int}{K:Tp}(h:b<=a):(PH C Sg T).cmp .geq a b (@hY _ ⟨K⟩)=K true:=TY h
theorem FK{a b:Int}{K:Tp}(h:a<b):(PH C Sg T).cmp .geq a b (@hY _ ⟨K⟩)=K false:=TX h
theorem s_{a b:Int}{K:Tp}(h:a=b):(PH C Sg T).cmp .eql a b (@hY _ ⟨K⟩)=K true:=TU h
theorem ua{a b:Int}{K:Tp}(h:a≠b):(PH C Sg T).cmp .eql a b (@hY _ ⟨K⟩)=K false:=TT h
theorem CS{a b:Int}{K:Tp}(h:a≠b):(PH C Sg T).cmp .neq a b (@hY _ ⟨K⟩)=K true:=Ub h
theorem CQ{a b:Int}{K:Tp}(h:a=b):(PH C Sg T).cmp .neq a b (@hY _ ⟨K⟩)=K false:=Ua h
theorem EY{a b:Int}{K:Tw}(h1:-9223372036854775808<=a+b)(c:a+b<=9223372036854775807):(PH C Sg T).w7 .add .i64 a b (@hY _ ⟨K⟩)=K (a+b):=Ks h1 c
theorem K0{a b:Int}{K:Tw}(h1:-9223372036854775808<=a - b)(c:a - b<=9223372036854775807):(PH C Sg T).w7 .sub .i64 a b (@hY _ ⟨K⟩)=K (a - b):=o7 h1 c
theorem GK{a b:Int}{K:Tw}(h1:-9223372036854775808<=a*b)(c:a*b<=9223372036854775807):(PH C Sg T).w7 .mul .i64 a b (@hY _ ⟨K⟩)=K (a*b):=BI h1 c
theorem Ja{a b:Int}{K:Tw}(h1:0<=a+b)(c:a+b<=255):(PH C Sg T).w7 .add .u8 a b (@hY _ ⟨K⟩)=K (a+b):=Y3 h1 c
theorem z6{a b:Int}{K:Tw}(h1:0<=a - b)(c:a - b<=255):(PH C Sg T).w7 .sub .u8 a b (@hY _ ⟨K⟩)=K (a - b):=Y9 h1 c
theorem r8{a b:Int}{K:Tw}(h1:0<=a*b)(c:a*b<=255):(PH C Sg T).w7 .mul .u8 a b (@hY _ ⟨K⟩)=K (a*b):=Y8 h1 c
theorem F9{a b:Int}{K:Tw}(h:0<=a)(d:0<b)(c:a<=9223372036854775807):(PH C Sg T).w7 .quo .i64 a b (@hY _ ⟨K⟩)=K (a / b):=Og h d c
theorem Qt{a b:Int}{K:Tw}(h:a%b=0)(d:0<b)(h1:-9223372036854775808<=a)(c:a<=9223372036854775807):(PH C Sg T).w7 .quo .i64 a b (@hY _ ⟨K⟩)=K (a / b):=Of h d h1 c
theorem E0{k:TL}{a b:Int}{K:Tw}(h:0<=a)(c:0<b):(PH C Sg T).w7 .rem k a b (@hY _ ⟨K⟩)=K (a%b):=Oh h c
theorem F_{k:TL}{a b:Int}{K:Tw}(h:a<=0)(c:0<b):(PH C Sg T).w7 .rem k a b (@hY _ ⟨K⟩)=K (-((-a)%b)):=Oi h c
theorem Ql{a:Int}{K:Tw}:(PH C Sg T).w7 .and .i64 a 1 (@hY _ ⟨K⟩)=K (a%2):=Y4
theorem Qm{a:Int}{K:Tw}(h1:-9223372036854775808<=a)(b:a<=9223372036854775807):(PH C Sg T).conv .i64 a (@hY _ ⟨K⟩)=K a:=Y5 h1 b
theorem KX{a:Int}{K:Tw}(h1:0<=a)(b:a<=255):(PH C Sg T).conv .u8 a (@hY _ ⟨K⟩)=K a:=S_ h1 b
theorem G9{a b:Int}{K:Tw}:(PH C Sg T).FO true a b (@hY _ ⟨K⟩)=K a:=Ue
theorem G8{a b:Int}{K:Tw}:(PH C Sg T).FO false a b (@hY _ ⟨K⟩)=K b:=Ud
theorem Ye{i6:Type}{x:i6}{K:i6->Prop}:(PH C Sg T).h_ (some x) (@hY _ ⟨K⟩)=K x:=XV
theorem Yc{n:Nat}{i:Int}{K:Unit->Prop}(h1:0<=i)(a:i<(n:Int)):(PH C Sg T).h_ (EU n i) (@hY _ ⟨K⟩)=K ():=x3 h1 a
theorem Q'{b:Te}{m:(TG->HL->Prop)->Prop}:(PH C Sg T).join (@hY _ ⟨b⟩) (@hY _ ⟨m⟩)=m (@hY _ ⟨b⟩):=Y7
theorem jm{K:Tp}:(PH C Sg T).eqs [] (@hY _ ⟨K⟩)=K true:=Y6
theorem V2{a b:Int}{l:List (Lf×Lf)}{K:Tp}(h:a=b):(PH C Sg T).eqs ((.i a,.i b) :: l) (@hY _ ⟨K⟩)=(PH C Sg T).eqs l (@hY _ ⟨K⟩):=TW h
theorem V1{a b:Int}{l:List (Lf×Lf)}{K:Tp}(h:a≠b):(PH C Sg T).eqs ((.i a,.i b) :: l) (@hY _ ⟨K⟩)=K false:=TV h
theorem hE{F:(TG->HL->Prop)->TG->HL->Prop}{n:Nat}{ls:TG}{h:HL}:Ss (@hY _ ⟨F⟩) (n+1) ls h=F (Ss (@hY _ ⟨F⟩) n) ls h:=b5
theorem H0{a b:Bool}{l:List (Lf×Lf)}{K:Tp}(h:a=b):(PH C Sg T).eqs ((.b a,.b b) :: l) (@hY _ ⟨K⟩)=(PH C Sg T).eqs l (@hY _ ⟨K⟩):=Ob h
theorem M3{l:List (Lf×Lf)}{K:Tp}:(PH C Sg T).eqs ((.b true,.b false) :: l) (@hY _ ⟨K⟩)=K false:=L6
theorem M1{l:List (Lf×Lf)}{K:Tp}:(PH C Sg T).eqs ((.b false,.b true) :: l) (@hY _ ⟨K⟩)=K false:=L5
theorem V4{b:Int}{K:Tw}(h1:-9223372036854775808<=b)(a:b<=9223372036854775807):(PH C Sg T).w7 .mul .i64 1 b (@hY _ ⟨K⟩)=K b:=T9 h1 a
theorem V3{b:Int}{K:Tw}:(PH C Sg T).w7 .mul .i64 0 b (@hY _ ⟨K⟩)=K 0:=T8
theorem V5{b:Int}{K:Tw}(h1:-9223372036854775808<=-b)(a:-b<=9223372036854775807):(PH C Sg T).w7 .mul .i64 (-1) b (@hY _ ⟨K⟩)=K (-b):=T_ h1 a
theorem Qr{b:Int}{K:Tw}(h1:-9223372036854775808<=b)(a:b<=9223372036854775807):(PH C Sg T).w7 .mul .i64 b 1 (@hY _ ⟨K⟩)=K b:=Od h1 a
theorem Qq{b:Int}{K:Tw}:(PH C Sg T).w7 .mul .i64 b 0 (@hY _ ⟨K⟩)=K 0:=Oc
theorem Qs{b:Int}{K:Tw}(h1:-9223372036854775808<=-b)(a:-b<=9223372036854775807):(PH C Sg T).w7 .mul .i64 b (-1) (@hY _ ⟨K⟩)=K (-b):=Oe h1 a
theorem VZ{b:Int}{K:Tw}(h1:-9223372036854775808<=b)(a:b<=9223372036854775807):(PH C Sg T).w7 .add .i64 0 b (@hY _ ⟨K⟩)=K b:=S9 h1 a
theorem Qk{b:Int}{K:Tw}(h1:-9223372036854775808<=b)(a:b<=9223372036854775807):(PH C Sg T).w7 .add .i64 b 0 (@hY _ ⟨K⟩)=K b:=N_ h1 a
theorem Qj{K:Tw}:(PH C Sg T).w7 .add .i64 1 1 (@hY _ ⟨K⟩)=K 2:=N9
theorem V7{a:Int}{K:Tw}(h1:-9223372036854775808<=a)(b:a<=9223372036854775807):(PH C Sg T).w7 .quo .i64 a 1 (@hY _ ⟨K⟩)=K a:=Uc h1 b
theorem Qp{f:Te}{a:TG}{b:HL}:@hY _ ⟨f⟩ a b=f a b:=rfl
theorem F8{a b c d:Int}{K:Tp}(h:¬(a=c/\b=d)):(PH C Sg T).eqs [(.i a,.i c),(.i b,.i d)] (@hY _ ⟨K⟩)=K false:=by
 show K (ch _)=K false;have:ch [(.i a,.i c),(.i b,.i d)]=false:=by
  rw[w2];simpa[ch,iq]using h
 rw[this]
theorem Qn{a b c d e f:Int}{K:Tp}(h:¬(a=d/\b=e/\c=f)):(PH C Sg T).eqs [(.i a,.i d),(.i b,.i e),(.i c,.i f)] (@hY _ ⟨K⟩)=K false:=by
 show K (ch _)=K false;have:ch [(.i a,.i d),(.i b,.i e),(.i c,.i f)]=false:=by
  rw[w2];simpa[ch,iq]using h
 rw[this]
def am{g:TQ}{ls a:TG}{h h':HL}{K:Te}(b:aI C Sg g ls (f_ T h) a (f_ T h'))(c:K a h'):(PH C Sg T).call g ls h (@hY _ ⟨K⟩):=⟨a,h',b,c⟩
def sx{g:TQ}{sg:GH}{ls d:TG}{H H':Tu}(h:aI C Sg g ls H d H')(i:Sg g=some sg)(xs:List S0)(h1:cE xs sg.ps=true)(f:cN xs=ls) :
  wo C (.func (.func g) #[] #[]) (ak xs) sg.rs H d H':=by
 obtain⟨j,l,m,a,b,e,c⟩:=h;rw[i]at a;cases a;obtain⟨k,_⟩:=cV b.1 h1 (b.2.1.trans f.symm);rw[k]at c;exact⟨m,e,.inl ⟨g,#[],#[],rfl,by simpa using c⟩⟩
def iT{v:TR}{args:Tn}{b:TN}{a:TG}{h h':HL}{K:Te}(c:wo C v args b (f_ T h) a (f_ T h'))(d:K a h'):(PH C Sg T).A7 v args b h (@hY _ ⟨K⟩):=⟨a,h',c,d⟩
theorem Yd{o:ra}{h:HL}{K:Nat->HL->Prop}:(PH C Sg T).new o h (@hY _ ⟨K⟩)=K h.length (h++[.o o]):=rfl
def ab{v:TR}{K:Prop}(h:aJ v=true)(a:K):(PH C Sg T).k_ v (@hY _ ⟨K⟩):=⟨h,a⟩
def bJ{f:Hp}{h:HL}{K:Tb}{a:List Cq}{cs:Tn}(e:f.run (r_ T h) h.length=some (a,cs))(b:K cs (bH h a)):(PH C Sg T).heap f h (@hY _ ⟨K⟩):=⟨a,cs,e,b⟩
def dq{f:Pk}{h:HL}{K:Tf}{cs:Tn}(e:f.run (r_ T h)=some cs)(a:K cs):(PH C Sg T).ka f h (@hY _ ⟨K⟩):=⟨cs,e,a⟩
def pxs(C:ke)(Sg:Td)(T:Tv):=And.intro @Qp (And.intro (@Yd _ _ C Sg T) (And.intro (@Ym _ _ C Sg T) (And.intro (@Yk _ _ C Sg T) (And.intro (@Yn _ _ C Sg T) (And.intro (@Yj _ _ C Sg T) (And.intro (@Yh _ _ C Sg T) (And.intro (@Yg _ _ C Sg T) (And.intro (@Yi _ _ C Sg T) (And.intro (@Yf _ _ C Sg T) (And.intro (@HZ _ _ C Sg T) (And.intro (@HY _ _ C Sg T) (And.intro (@Ye _ _ C Sg T) (And.intro (@Yc _ _ C Sg T) (And.intro (@Q' _ _ C Sg T) (And.intro (@G9 _ _ C Sg T) (And.intro (@G8 _ _ C Sg T) ((@hE))))))))))))))))))
def pxc(C:ke)(Sg:Td)(T:Tv):=And.intro (@td _ _ C Sg T) (And.intro (@tf _ _ C Sg T) (And.intro (@KZ _ _ C Sg T) (And.intro (@KY _ _ C Sg T) (And.intro (@Co _ _ C Sg T) (And.intro (@z_ _ _ C Sg T) (And.intro (@EZ _ _ C Sg T) (And.intro (@FK _ _ C Sg T) (And.intro (@s_ _ _ C Sg T) (And.intro (@ua _ _ C Sg T) (And.intro (@CS _ _ C Sg T) (And.intro (@CQ _ _ C Sg T) (And.intro (@jm _ _ C Sg T) (And.intro (@V2 _ _ C Sg T) (And.intro (@V1 _ _ C Sg T) (And.intro (@F8 _ _ C Sg T) (And.intro (@Qn _ _ C Sg T) (And.intro (@H0 _ _ C Sg T) (And.intro (@M3 _ _ C Sg T) ((@M1 _ _ C Sg T))))))))))))))))))))
def pxa(C:ke)(Sg:Td)(T:Tv):=And.intro (@V4 _ _ C Sg T) (And.intro (@V3 _ _ C Sg T) (And.intro (@V5 _ _ C Sg T) (And.intro (@Qr _ _ C Sg T) (And.intro (@Qq _ _ C Sg T) (And.intro (@Qs _ _ C Sg T) (And.intro (@VZ _ _ C Sg T) (And.intro (@Qk _ _ C Sg T) (And.intro (@Qj _ _ C Sg T) (And.intro (@V7 _ _ C Sg T) (And.intro (@EY _ _ C Sg T) (And.intro (@K0 _ _ C Sg T) (And.intro (@GK _ _ C Sg T) (And.intro (@Ja _ _ C Sg T) (And.intro (@z6 _ _ C Sg T) (And.intro (@r8 _ _ C Sg T) (And.intro (@F9 _ _ C Sg T) (And.intro (@Qt _ _ C Sg T) (And.intro (@E0 _ _ C Sg T) (And.intro (@F_ _ _ C Sg T) (And.intro (@Ql _ _ C Sg T) (And.intro (@Qm _ _ C Sg T) ((@KX _ _ C Sg T)))))))))))))))))))))))
end
end Sx
namespace Sx
section
variable [Cf] [C8]
variable {C:ke} {Sg:Td} {T:Tv}
def vp{h:HL}{l a:Nat}{st:LoopState}{b:Tm}{vs:Tn}(e:h[l]?=some (.lp a st b vs)):eH (f_ T h) l=some { Em (T a) a vs with state:=st,pending:=b }:=by
 unfold eH f_;rw[EL,e];rfl
def L1(h:HL)(o:HO):f_ T (h++[o])=f_ T h++[EE T o]:=by simp[f_]
def Qu{g:TQ}{first cap:Tl}{k:Nat}{b:Tn}{h h1:HL}{ls s:TG}{K:Tm->HL->Prop}{d:Nat}{st:LoopState}{c:Tm}{vs:Tn}{sg:GH}{xs:List S0}
  (o:aI C Sg g ls (f_ T (h++[.lp k .ready none b])) s (f_ T h1)) (r:Sg g=some sg) (l:cE xs sg.ps=true) (m:cN xs=ls) (n:ak xs=first.toList++[.func (.yield h.length) #[] #[]]++cap.toList)
  (q:h1[h.length]?=some (.lp d st c vs)) (e:st≠.busy) (p:K c (h1.set h.length (.lp d .exhausted c vs))):(PH C Sg T).Ec k (.func (.func g) first cap) b h (@hY _ ⟨K⟩):=by
 obtain⟨t,v,w,f,i,x,j⟩:=o;rw[r]at f;cases f;have a:(f_ T h).length=h.length:=jd T h;obtain⟨u,_⟩:=cV i.1 l (i.2.1.trans m.symm);rw[u,n,L1]at j;refine⟨g,first,cap,gl (ak w),f_ T h1,{ Em (T d) d vs with state:=st,pending:=c },h1.set h.length (.lp d .exhausted c vs),rfl,?_,?_,e,?_,p⟩
 .rw[a];exact j
 .rw[a];exact vp q
 .rw[a];simp[f_,EE,sk]
def kz{h:HL}{l:Nat}{o:HO}:f_ T (h.set l o)=(f_ T h).set l (EE T o):=by
 unfold f_;rw[sk]
def xt{l a:Nat}{b:Tm}{vs:Tn}{h:HL}{K:HL->Prop}(d:h[l]?=some (.lp a .ready b vs))(c:K (h.set l (.lp a .busy b vs))):(PH C Sg T).Ir l h (@hY _ ⟨K⟩):=
 ⟨{ Em (T a) a vs with state:=.ready,pending:=b },h.set l (.lp a .busy b vs),vp d,rfl,kz,c⟩
def eX{l a:Nat}{st:LoopState}{b:Tm}{vs:Tn}{h:HL}{K:HL->Prop}(d:h[l]?=some (.lp a st b vs))(c:K (h.set l (.lp a .ready none vs))):(PH C Sg T).Gw l none h (@hY _ ⟨K⟩):=
 ⟨{ Em (T a) a vs with state:=st,pending:=b },h.set l (.lp a .ready none vs),vp d,kz,c⟩
def V0{l:Nat}{ys:List S0}{b:Bool}{h h':HL}{K:Te}(e:io C l (ak ys) (f_ T h) (.bool b) (f_ T h'))(d:K [.b b] h'):(PH C Sg T).A7 (.func (.yield l) #[] #[]) (ak ys) [.leaf .b] h (@hY _ ⟨K⟩):=
 ⟨[.b b],h',⟨[.leaf (.b b)],⟨rfl,rfl,λx a=>by
  simp only[Fm]at a;subst a;intro y c;simp only[S0.cells,Fm]at c;subst c;trivial⟩,.inr ⟨l,rfl,e⟩⟩,d⟩
end
end Sx
namespace Sx
open Go.Proofs
def hA(A:A_ Prop HL):A_ Prop HL where
 fail:=A.fail
 cond b x y:=A.cond b (@hY _ ⟨x⟩) (@hY _ ⟨y⟩)
 w7 o k a b K:=A.w7 o k a b (@hY _ ⟨K⟩)
 E5 o k a l b K:=A.E5 o k a l b (@hY _ ⟨K⟩)
 cmp o a b K:=A.cmp o a b (@hY _ ⟨K⟩)
 eqs l K:=A.eqs l (@hY _ ⟨K⟩)
 conv k a K:=A.conv k a (@hY _ ⟨K⟩)
 FO t a b K:=A.FO t a b (@hY _ ⟨K⟩)
 h_ o K:=A.h_ o (@hY _ ⟨K⟩)
 k_ v x:=A.k_ v (@hY _ ⟨x⟩)
 oo l K:=A.oo l (@hY _ ⟨K⟩)
 D7 l K:=A.D7 l (@hY _ ⟨K⟩)
 Ck l K:=A.Ck l (@hY _ ⟨K⟩)
 u4 l x:=A.u4 l (@hY _ ⟨x⟩)
 rv k l K:=A.rv k l (@hY _ ⟨K⟩)
 DV l K:=A.DV l (@hY _ ⟨K⟩)
 BM l K:=A.BM l (@hY _ ⟨K⟩)
 ts l x:=A.ts l (@hY _ ⟨x⟩)
 ka f h K:=A.ka f h (@hY _ ⟨K⟩)
 heap f h K:=A.heap f h (@hY _ ⟨K⟩)
 new o h K:=A.new o h (@hY _ ⟨K⟩)
 call g l h K:=A.call g l h (@hY _ ⟨K⟩)
 A7 v a s h K:=A.A7 v a s h (@hY _ ⟨K⟩)
 join b m:=A.join (@hY _ ⟨b⟩) (@hY _ ⟨m⟩)
 loop F l h:=A.loop (@hY _ ⟨F⟩) l h
 Ec n v a h K:=A.Ec n v a h (@hY _ ⟨K⟩)
 D4 o x y l:=A.D4 o (@hY _ ⟨x⟩) (@hY _ ⟨y⟩) l
 Ir n h K:=A.Ir n h (@hY _ ⟨K⟩)
 Gw n o h K:=A.Gw n o h (@hY _ ⟨K⟩)
def Pd(A:A_ Prop HL):hA A=A:=rfl
section
variable {A:A_ Prop HL}
theorem ZR{b:Bool}{x y:Prop}:(hA A).cond b x y=A.cond b (@hY _ ⟨x⟩) (@hY _ ⟨y⟩):=rfl
theorem hZ{o:BinOp}{k:TL}{a b:Int}{K:Tw}:(hA A).w7 o k a b K=A.w7 o k a b (@hY _ ⟨K⟩):=rfl
theorem gC{o:BinOp}{k l:TL}{a b:Int}{K:Tw}:(hA A).E5 o k a l b K=A.E5 o k a l b (@hY _ ⟨K⟩):=rfl
theorem gg{o:BinOp}{a b:Int}{K:Tp}:(hA A).cmp o a b K=A.cmp o a b (@hY _ ⟨K⟩):=rfl
theorem gu{l:List (Lf×Lf)}{K:Tp}:(hA A).eqs l K=A.eqs l (@hY _ ⟨K⟩):=rfl
theorem ZS{k:TL}{a:Int}{K:Tw}:(hA A).conv k a K=A.conv k a (@hY _ ⟨K⟩):=rfl
theorem g8{t:Bool}{a b:Int}{K:Tw}:(hA A).FO t a b K=A.FO t a b (@hY _ ⟨K⟩):=rfl
theorem l8{i6:Type}{o:Option i6}{K:i6->Prop}:(hA A).h_ o K=A.h_ o (@hY _ ⟨K⟩):=rfl
theorem z'{v:TR}{x:Prop}:(hA A).k_ v x=A.k_ v (@hY _ ⟨x⟩):=rfl
theorem nx{l:TG}{K:Int->TG->Prop}:(hA A).oo l K=A.oo l (@hY _ ⟨K⟩):=rfl
theorem o6{l:TG}{K:Bool->TG->Prop}:(hA A).D7 l K=A.D7 l (@hY _ ⟨K⟩):=rfl
theorem c'{l:TG}{K:TR->TG->Prop}:(hA A).Ck l K=A.Ck l (@hY _ ⟨K⟩):=rfl
theorem o4{l:TG}{x:Prop}:(hA A).u4 l x=A.u4 l (@hY _ ⟨x⟩):=rfl
theorem xf{k:TL}{l:Tn}{K:Int->Tn->Prop}:(hA A).rv k l K=A.rv k l (@hY _ ⟨K⟩):=rfl
theorem fa{l:Tn}{K:Bool->Tn->Prop}:(hA A).DV l K=A.DV l (@hY _ ⟨K⟩):=rfl
theorem u'{l:Tn}{K:Ta}:(hA A).BM l K=A.BM l (@hY _ ⟨K⟩):=rfl
theorem gA{l:Tn}{x:Prop}:(hA A).ts l x=A.ts l (@hY _ ⟨x⟩):=rfl
theorem ZW{f:Pk}{h:HL}{K:Tf}:(hA A).ka f h K=A.ka f h (@hY _ ⟨K⟩):=rfl
theorem ZT{f:Hp}{h:HL}{K:Tb}:(hA A).heap f h K=A.heap f h (@hY _ ⟨K⟩):=rfl
theorem hD{o:ra}{h:HL}{K:Nat->HL->Prop}:(hA A).new o h K=A.new o h (@hY _ ⟨K⟩):=rfl
theorem ZQ{g:TQ}{l:TG}{h:HL}{K:Te}:(hA A).call g l h K=A.call g l h (@hY _ ⟨K⟩):=rfl
theorem Vf{v:TR}{a:Tn}{s:TN}{h:HL}{K:Te}:(hA A).A7 v a s h K=A.A7 v a s h (@hY _ ⟨K⟩):=rfl
theorem ZU{b:Te}{m:(TG->HL->Prop)->Prop}:(hA A).join b m=A.join (@hY _ ⟨b⟩) (@hY _ ⟨m⟩):=rfl
theorem ZV{F:(TG->HL->Prop)->TG->HL->Prop}{l:TG}{h:HL}:(hA A).loop F l h=A.loop (@hY _ ⟨F⟩) l h:=rfl
theorem ZY{n:Nat}{v:TR}{a:Tn}{h:HL}{K:Tm->HL->Prop}:(hA A).Ec n v a h K=A.Ec n v a h (@hY _ ⟨K⟩):=rfl
theorem ZX{o:Tm}{x y:Prop}{l:List (Nat×Prop)}:(hA A).D4 o x y l=A.D4 o (@hY _ ⟨x⟩) (@hY _ ⟨y⟩) l:=rfl
theorem g7{n:Nat}{h:HL}{K:HL->Prop}:(hA A).Ir n h K=A.Ir n h (@hY _ ⟨K⟩):=rfl
theorem fb{n:Nat}{o:Tm}{h:HL}{K:HL->Prop}:(hA A).Gw n o h K=A.Gw n o h (@hY _ ⟨K⟩):=rfl
end
def pxh(A:A_ Prop HL):=And.intro (@ZR A) (And.intro (@hZ A) (And.intro (@gC A) (And.intro (@gg A) (And.intro (@gu A) (And.intro (@ZS A) (And.intro (@g8 A) (And.intro (@l8 A) (And.intro (@z' A) (And.intro (@nx A) (And.intro (@o6 A) (And.intro (@c' A) (And.intro (@o4 A) (And.intro (@xf A) (And.intro (@fa A) (And.intro (@u' A) (And.intro (@gA A) (And.intro (@ZW A) (And.intro (@ZT A) (And.intro (@hD A) (And.intro (@ZQ A) (And.intro (@Vf A) (And.intro (@ZU A) (And.intro (@ZV A) (And.intro (@ZY A) (And.intro (@ZX A) (And.intro (@g7 A) ((@fb A))))))))))))))))))))))))))))
end Sx
end Go.Am
namespace Go.Am
open Sx Go.Proofs
def Vd(g:Nat)(vs:Tn)(h:cc.G g=some vs):vs.all bg=true:=by
 unfold cc at h;simp only at h;split at h<;>first|(cases h;done)|(obtain rfl:=DU h;kernel_rfl)
abbrev P1:A_ Prop HL:=PH cc ac aa
abbrev Cc(g:TQ)(ls a:TG):Prop:=∀H,aI cc ac g ls H a H
def w4{f:TQ}{c:Fn1}(i:Gn (xc f) ac f c){ls:TG}{H:HL}{K:Te}(b:jH ls=true)
  (h:aw P1 (xc f) ac IH c ls H K):∃a H',aI cc ac f ls (f_ aa H) a (f_ aa H')/\K a H':=by
 obtain⟨a,g,d,_,e⟩:=sL (X:=xc f) (holds:=id) (abs:=f_ aa) (NV cc ac aa) uK i (gq b) h;exact⟨a,g,d,e⟩
def ZM{f:TQ}{c:Fn1}(i:Gn (xc f) ac f c){ls:TG}{H:HL}{K:Te}(b:dR ls)
  (h:aw P1 (xc f) ac IH c ls H K):∃a H',aI cc ac f ls (f_ aa H) a (f_ aa H')/\K a H':=by
 obtain⟨a,g,d,_,e⟩:=sL (X:=xc f) (holds:=id) (abs:=f_ aa) (NV cc ac aa) uK i b h;exact⟨a,g,d,e⟩
def u_:dR []:=λ_ h=>by cases h
def km{n:Int}{ls:TG}(h:dR ls):dR (.i n :: ls):=λl a=>by
 rcases Dy.1 a with rfl|a
 .trivial
 .exact h l a
def HM{n:Bool}{ls:TG}(h:dR ls):dR (.b n :: ls):=λl a=>by
 rcases Dy.1 a with rfl|a
 .trivial
 .exact h l a
def pu{x:TR}{ls:TG}(b:aJ x=true)(h:dR ls):dR (.v x :: ls):=λl a=>by
 rcases Dy.1 a with rfl|a
 .exact b
 .exact h l a
abbrev FP:=List Lf->HL->(TG->HL->Prop)->Prop
abbrev UG(k:TQ)(p:FP):Prop:=∀ {ls:TG} {H:HL} {K:Te},jH ls=true->p ls H K->∃a H',aI cc ac k ls (f_ aa H) a (f_ aa H')/\K a H'
abbrev XG(k:TQ)(p:FP):Prop:=∀ {ls:TG} {H:HL} {K:Te},dR ls->p ls H K->∃a H',aI cc ac k ls (f_ aa H) a (f_ aa H')/\K a H'
abbrev QG(k:TQ)(p:FP):Prop:=∀ {ls b:TG},jH ls=true->p ls [] (λa _=>a=b)->Cc k ls b
abbrev YG(k:Nat)(p:Tn->Nat->FP):Prop:=∀ {vs:Tn} {a:Nat} {ls:TG} {H:HL} {K:Te} {st:LoopState} {c:Tm} {ys:List S0},H[a]?=some (.lp k st c vs)->Told ((aa k).params.map (·.2)) ls ys->p vs a ls H K->∃b H',io cc a (ak ys) (f_ aa H) (.bool b) (f_ aa H')/\K [.b b] H'
def uu{k:TQ}{c:Fn1}{f:{R a:Type}->A_ R a->TG->a->(TG->a->R)->R}(d:Gn (xc k) ac k c)(e:@f=λR a A ls h K=>aw A (xc k) ac IH c ls h K):UG k (f (hA P1)):=by
 intro ls H K b h;rw[Pd,e]at h;exact w4 d b h
def xx{k:TQ}{c:Fn1}{f:{R a:Type}->A_ R a->TG->a->(TG->a->R)->R}(d:Gn (xc k) ac k c)(e:@f=λR a A ls h K=>aw A (xc k) ac IH c ls h K):XG k (f (hA P1)):=by
 intro ls H K b h;rw[Pd,e]at h;exact ZM d b h
def qq{k:TQ}{sg:GH}{p:FP}(e:UG k p)(d:ac k=some sg)(c:sg.plain=true):QG k p:=λa h=>by
 obtain⟨_,_,b,rfl⟩:=e a h;exact XY GE ta d c b
def yy{k:Nat}{f:{R a:Type}->A_ R a->Tn->Nat->TG->a->(TG->a->R)->R}(e:@f=λR a A vs b ls h K=>uS A (xc 0) ac IH (aa k) vs b ls h K):YG k (f (hA P1)):=by
 intro vs b ls H K i g j c d h;rw[Pd,e]at h;exact yO (X:=xc 0) (NV cc ac aa) uK (vp c) rfl rfl rfl rfl d h
def qxs:=pxs cc ac aa
def u7:=And.intro (qeq (hA P1)) (pxh P1)
def qxc:=pxc cc ac aa
def qxa:=pxa cc ac aa
def mc:=And.intro qxs (And.intro qxc qxa)
def b_{P Q:Prop}(k:Q)(h:P=Q:=by simp(disch:=omega)only[↓mc];exact rfl):P:=Eq.mpr h k
def j8{P Q:Prop}(k:Q)(h:P=Q:=by first|(simp(disch:=omega)only[↓mc];exact rfl)|exact rfl):P:=Eq.mpr h k
def x4:XG 4 (f4 (hA P1)):=xx i4 e4
def x8:XG 8 (f8 (hA P1)):=xx i8 e8
def x11:XG 11 (f11 (hA P1)):=xx i11 e11
def u12:UG 12 (f12 (hA P1)):=uu i12 e12
def q12:QG 12 (f12 (hA P1)):=qq u12 rfl (by kernel_rfl)
def x13:XG 13 (f13 (hA P1)):=xx i13 e13
def x16:XG 16 (f16 (hA P1)):=xx i16 e16
def x18:XG 18 (f18 (hA P1)):=xx i18 e18
def x23:XG 23 (f23 (hA P1)):=xx i23 e23
def u24:UG 24 (f24 (hA P1)):=uu i24 e24
def q24:QG 24 (f24 (hA P1)):=qq u24 rfl (by kernel_rfl)
def x26:XG 26 (f26 (hA P1)):=xx i26 e26
def x29:XG 29 (f29 (hA P1)):=xx i29 e29
def x30:XG 30 (f30 (hA P1)):=xx i30 e30
def x31:XG 31 (f31 (hA P1)):=xx i31 e31
def u32:UG 32 (f32 (hA P1)):=uu i32 e32
def q32:QG 32 (f32 (hA P1)):=qq u32 rfl (by kernel_rfl)
def x33:XG 33 (f33 (hA P1)):=xx i33 e33
def u34:UG 34 (f34 (hA P1)):=uu i34 e34
def q34:QG 34 (f34 (hA P1)):=qq u34 rfl (by kernel_rfl)
def u35:UG 35 (f35 (hA P1)):=uu i35 e35
def q35:QG 35 (f35 (hA P1)):=qq u35 rfl (by kernel_rfl)
def u36:UG 36 (f36 (hA P1)):=uu i36 e36
def q36:QG 36 (f36 (hA P1)):=qq u36 rfl (by kernel_rfl)
def u37:UG 37 (f37 (hA P1)):=uu i37 e37
def q37:QG 37 (f37 (hA P1)):=qq u37 rfl (by kernel_rfl)
def u38:UG 38 (X0 (hA P1)):=uu i38 e38
def q38:QG 38 (X0 (hA P1)):=qq u38 rfl (by kernel_rfl)
def u40:UG 40 (f40 (hA P1)):=uu i40 e40
def q40:QG 40 (f40 (hA P1)):=qq u40 rfl (by kernel_rfl)
def u44:UG 44 (f44 (hA P1)):=uu i44 e44
def x45:XG 45 (f45 (hA P1)):=xx i45 e45
def x46:XG 46 (f46 (hA P1)):=xx i46 e46
def x48:XG 48 (f48 (hA P1)):=xx i48 e48
def u58:UG 58 (f58 (hA P1)):=uu i58 e58
def q58:QG 58 (f58 (hA P1)):=qq u58 rfl (by kernel_rfl)
def u62:UG 62 (f62 (hA P1)):=uu i62 e62
def q62:QG 62 (f62 (hA P1)):=qq u62 rfl (by kernel_rfl)
def u63:UG 63 (f63 (hA P1)):=uu i63 e63
def q63:QG 63 (f63 (hA P1)):=qq u63 rfl (by kernel_rfl)
def u64:UG 64 (f64 (hA P1)):=uu i64 e64
def q64:QG 64 (f64 (hA P1)):=qq u64 rfl (by kernel_rfl)
def u65:UG 65 (f65 (hA P1)):=uu i65 e65
def q65:QG 65 (f65 (hA P1)):=qq u65 rfl (by kernel_rfl)
def u66:UG 66 (f66 (hA P1)):=uu i66 e66
def q66:QG 66 (f66 (hA P1)):=qq u66 rfl (by kernel_rfl)
def u67:UG 67 (f67 (hA P1)):=uu i67 e67
def q67:QG 67 (f67 (hA P1)):=qq u67 rfl (by kernel_rfl)
def x68:XG 68 (f68 (hA P1)):=xx i68 e68
def x70:XG 70 (f70 (hA P1)):=xx i70 e70
def x71:XG 71 (f71 (hA P1)):=xx i71 e71
def x72:XG 72 (f72 (hA P1)):=xx i72 e72
def x73:XG 73 (f73 (hA P1)):=xx i73 e73
def x74:XG 74 (f74 (hA P1)):=xx i74 e74
def x75:XG 75 (f75 (hA P1)):=xx i75 e75
def x76:XG 76 (f76 (hA P1)):=xx i76 e76
def x77:XG 77 (f77 (hA P1)):=xx i77 e77
def u78:UG 78 (f78 (hA P1)):=uu i78 e78
def q78:QG 78 (f78 (hA P1)):=qq u78 rfl (by kernel_rfl)
def u79:UG 79 (f79 (hA P1)):=uu i79 e79
def q79:QG 79 (f79 (hA P1)):=qq u79 rfl (by kernel_rfl)
def u81:UG 81 (ZJ (hA P1)):=uu i81 e81
def q81:QG 81 (ZJ (hA P1)):=qq u81 rfl (by kernel_rfl)
def x84:XG 84 (f84 (hA P1)):=xx i84 e84
def u85:UG 85 (f85 (hA P1)):=uu i85 e85
def q85:QG 85 (f85 (hA P1)):=qq u85 rfl (by kernel_rfl)
def u86:UG 86 (f86 (hA P1)):=uu i86 e86
def q86:QG 86 (f86 (hA P1)):=qq u86 rfl (by kernel_rfl)
def x88:XG 88 (f88 (hA P1)):=xx i88 e88
def x93:XG 93 (f93 (hA P1)):=xx i93 e93
def u94:UG 94 (f94 (hA P1)):=uu i94 e94
def q94:QG 94 (f94 (hA P1)):=qq u94 rfl (by kernel_rfl)
def u98:UG 98 (f98 (hA P1)):=uu i98 e98
def q98:QG 98 (f98 (hA P1)):=qq u98 rfl (by kernel_rfl)
def u99:UG 99 (f99 (hA P1)):=uu i99 e99
def q99:QG 99 (f99 (hA P1)):=qq u99 rfl (by kernel_rfl)
def u100:UG 100 (R1 (hA P1)):=uu i100 e100
def q100:QG 100 (R1 (hA P1)):=qq u100 rfl (by kernel_rfl)
def x101:XG 101 (UQ (hA P1)):=xx i101 e101
def x103:XG 103 (UR (hA P1)):=xx i103 e103
def u104:UG 104 (R2 (hA P1)):=uu i104 e104
def q104:QG 104 (R2 (hA P1)):=qq u104 rfl (by kernel_rfl)
def u105:UG 105 (R3 (hA P1)):=uu i105 e105
def q105:QG 105 (R3 (hA P1)):=qq u105 rfl (by kernel_rfl)
def x106:XG 106 (US (hA P1)):=xx i106 e106
def x107:XG 107 (UT (hA P1)):=xx i107 e107
def u108:UG 108 (R4 (hA P1)):=uu i108 e108
def q108:QG 108 (R4 (hA P1)):=qq u108 rfl (by kernel_rfl)
def x109:XG 109 (UU (hA P1)):=xx i109 e109
def WW:XG 110 (UV (hA P1)):=xx i110 e110
def RZ:XG 111 (R5 (hA P1)):=xx i111 e111
def x112:XG 112 (R6 (hA P1)):=xx i112 e112
def R0:XG 113 (R7 (hA P1)):=xx i113 e113
def x114:XG 114 (R8 (hA P1)):=xx i114 e114
def Do:XG 115 (R9 (hA P1)):=xx i115 e115
def x116:XG 116 (UW (hA P1)):=xx i116 e116
def u127:UG 127 (R_ (hA P1)):=uu i127 e127
def q127:QG 127 (R_ (hA P1)):=qq u127 rfl (by kernel_rfl)
def u128:UG 128 (Sa (hA P1)):=uu i128 e128
def q128:QG 128 (Sa (hA P1)):=qq u128 rfl (by kernel_rfl)
def u129:UG 129 (GT (hA P1)):=uu i129 e129
def q129:QG 129 (GT (hA P1)):=qq u129 rfl (by kernel_rfl)
def x130:XG 130 (UX (hA P1)):=xx i130 e130
def u131:UG 131 (RU (hA P1)):=uu i131 e131
def q131:QG 131 (RU (hA P1)):=qq u131 rfl (by kernel_rfl)
def u140:UG 140 (Sb (hA P1)):=uu i140 e140
def q140:QG 140 (Sb (hA P1)):=qq u140 rfl (by kernel_rfl)
def x141:XG 141 (UY (hA P1)):=xx i141 e141
def x142:XG 142 (UZ (hA P1)):=xx i142 e142
def x143:XG 143 (U0 (hA P1)):=xx i143 e143
def u149:UG 149 (RV (hA P1)):=uu i149 e149
def q149:QG 149 (RV (hA P1)):=qq u149 rfl (by kernel_rfl)
def x150:XG 150 (U1 (hA P1)):=xx i150 e150
def WX:XG 152 (U2 (hA P1)):=xx i152 e152
def u154:UG 154 (Sc (hA P1)):=uu i154 e154
def q154:QG 154 (Sc (hA P1)):=qq u154 rfl (by kernel_rfl)
def u155:UG 155 (Sd (hA P1)):=uu i155 e155
def q155:QG 155 (Sd (hA P1)):=qq u155 rfl (by kernel_rfl)
def u156:UG 156 (RW (hA P1)):=uu i156 e156
def q156:QG 156 (RW (hA P1)):=qq u156 rfl (by kernel_rfl)
def u162:UG 162 (Se (hA P1)):=uu i162 e162
def q162:QG 162 (Se (hA P1)):=qq u162 rfl (by kernel_rfl)
def u163:UG 163 (Sf (hA P1)):=uu i163 e163
def q163:QG 163 (Sf (hA P1)):=qq u163 rfl (by kernel_rfl)
def x164:XG 164 (U3 (hA P1)):=xx i164 e164
def u168:UG 168 (Si (hA P1)):=uu i168 e168
def q168:QG 168 (Si (hA P1)):=qq u168 rfl (by kernel_rfl)
def u170:UG 170 (Sj (hA P1)):=uu i170 e170
def q170:QG 170 (Sj (hA P1)):=qq u170 rfl (by kernel_rfl)
def x171:XG 171 (U4 (hA P1)):=xx i171 e171
def u172:UG 172 (Sl (hA P1)):=uu i172 e172
def q172:QG 172 (Sl (hA P1)):=qq u172 rfl (by kernel_rfl)
def c9:YG 176 (y176 (hA P1)):=yy lC
def xK{k:TQ}{p:FP}(c:XG k p){ls R:TG}{H H':HL}(b:dR ls)(h:p ls H λa h'=>a=R/\h'=H'):aI cc ac k ls (f_ aa H) R (f_ aa H'):=by
 grind
end Go.Am
namespace Go.Am
namespace Sx
def fY{vs:Tn}{off n:Nat}{cs:Tn}:cut vs off n=some cs↔off+n<=vs.length/\(vs.drop off).take n=cs:=by
 unfold cut
 simp_all
def lQ{vs:Tn}{off n:Nat}{cs:Tn}(h:cut vs off n=some cs){o k:Nat}(b:o+k<=n):cut vs (off+o) k=some ((cs.drop o).take k):=by
 obtain⟨a,rfl⟩:=fY.1 h;refine fY.2 ⟨by omega,?_⟩;rw[List.drop_take,FF,List.take_take,SH (by omega)]
def t_{vs:Tn}{n:Nat}(h:vs.length=n):cut vs 0 n=some vs:=fY.2 ⟨by omega,by grind⟩
def tx(h0 h:HL):Prop:=∃G,h=h0++G
theorem tx.refl(h:HL):tx h h:=⟨[],by simp⟩
def tx.trans{a b c:HL}(h:tx a b)(k:tx b c):tx a c:=by
 obtain⟨G,rfl⟩:=h;obtain⟨d,rfl⟩:=k;exact⟨G++d,by simp⟩
def tx.E6{a b:HL}(h:tx a b)(G:HL):tx a (b++G):=h.trans ⟨G,rfl⟩
def tx.len{a b:HL}(h:tx a b):a.length<=b.length:=by obtain⟨G,rfl⟩:=h;simp
def tx.get{a b:HL}(h:tx a b){i:Nat}{o:HO}(c:a[i]?=some o):b[i]?=some o:=by
 obtain⟨G,rfl⟩:=h
 grind
def tx.set{a b:HL}(h:tx a b){i:Nat}(c:a.length<=i)(o:HO):tx a (b.set i o):=by
 obtain⟨G,rfl⟩:=h;rw[ag _ _ c];exact⟨_,rfl⟩
def Gp(h:HL)(p:Value)(cs:Tn):Prop:=∃id o vs e rw,p = .pointer (some ⟨id,o,none⟩)/\h[id]?=some (.o (.cells vs e rw))/\cut vs o cs.length=some cs
def FU(h:HL)(v:Value)(e n:Nat)(cs:Tn):Prop:=
 cs.length=n*e/\((v = .slice none 0 0/\n=0)∨∃id off cx vs rw,v = .slice (some ⟨id,off,le e⟩) n cx/\h[id]?=some (.o (.cells vs e rw))/\cut vs off (n*e)=some cs)
def po{i6:Type}(h:HL)(v:Value)(e:Nat)(enc:i6->Tn)(l:List i6):Prop:=(∀a∈l,(enc a).length=e)/\FU h v e l.length (l.flatMap enc)
def Mk(n0:Nat)(h:HL)(v:Value)(e n:Nat)(cs:Tn):Prop:=
 cs.length=n*e/\((v = .slice none 0 0/\n=0)∨∃id,n0<=id/\v = .slice (some ⟨id,0,le e⟩) n 0/\h[id]?=some (.o (.cells cs e true)))
def MkL{i6:Type}(n0:Nat)(h:HL)(v:Value)(e:Nat)(enc:i6->Tn)(l:List i6):Prop:=(∀a∈l,(enc a).length=e)/\Mk n0 h v e l.length (l.flatMap enc)
def d_:Value->Option Nat
 | .slice (some a) _ _=>some a.block
 |_=>none
def FU.i_{h h':HL}{v:TR}{e n:Nat}{cs:Tn}(l:FU h v e n cs)(k:∀(j:Nat) o,h[j]?=some o->d_ v=some j->h'[j]?=some o):FU h' v e n cs:=by
 obtain⟨c,f|⟨id,a,d,m,b,rfl,g,i⟩⟩:=l
 .exact⟨c,.inl f⟩
 .exact⟨c,.inr ⟨id,a,d,m,b,rfl,k _ _ g rfl,i⟩⟩
def FU.pre{h h':HL}{v:TR}{e n:Nat}{cs:Tn}(b:FU h v e n cs)(a:tx h h'):FU h' v e n cs:=b.i_ λ_ _ h _=>a.get h
def po.i_{i6:Type}{h h':HL}{v:TR}{e:Nat}{enc:i6->Tn}{l:List i6}(a:po h v e enc l)(b:∀(j:Nat) o,h[j]?=some o->d_ v=some j->h'[j]?=some o):po h' v e enc l:=⟨a.1,a.2.i_ b⟩
def po.pre{i6:Type}{h h':HL}{v:TR}{e:Nat}{enc:i6->Tn}{l:List i6}(a:po h v e enc l)(b:tx h h'):po h' v e enc l:=⟨a.1,a.2.pre b⟩
def FU.len{h:HL}{v:TR}{e n:Nat}{cs:Tn}(a:FU h v e n cs):G3 v=some (.ofNat n):=by
 obtain⟨_,⟨rfl,rfl⟩|⟨id,b,d,f,c,rfl,_⟩⟩:=a<;>rfl
def po.len{i6:Type}{h:HL}{v:TR}{e:Nat}{enc:i6->Tn}{l:List i6}(a:po h v e enc l):G3 v=some (.ofNat l.length):=a.2.len
def Mk.sl{n0:Nat}{h:HL}{v:TR}{e n:Nat}{cs:Tn}(d:Mk n0 h v e n cs):FU h v e n cs:=by
 obtain⟨a,b|⟨id,_,rfl,c⟩⟩:=d
 .exact⟨a,.inl b⟩
 .exact⟨a,.inr ⟨id,0,0,cs,true,rfl,c,t_ a⟩⟩
def MkL.ls{i6:Type}{n0:Nat}{h:HL}{v:TR}{e:Nat}{enc:i6->Tn}{l:List i6}(a:MkL n0 h v e enc l):po h v e enc l:=⟨a.1,a.2.sl⟩
def Mk.nil(n0:Nat)(h:HL)(e:Nat):Mk n0 h (.slice none 0 0) e 0 []:=⟨by simp,.inl ⟨rfl,rfl⟩⟩
def MkL.nil{i6:Type}(n0:Nat)(h:HL)(e:Nat)(enc:i6->Tn):MkL n0 h (.slice none 0 0) e enc []:=⟨by simp,Mk.nil n0 h e⟩
def po.nil{i6:Type}(h:HL)(e:Nat)(enc:i6->Tn):po h (.slice none 0 0) e enc []:=(MkL.nil 0 h e enc).ls
def Mk.i_{n0:Nat}{h h':HL}{v:TR}{e n:Nat}{cs:Tn}(f:Mk n0 h v e n cs)(d:∀(j:Nat) o,h[j]?=some o->d_ v=some j->h'[j]?=some o):Mk n0 h' v e n cs:=by
 obtain⟨b,a|⟨id,a,rfl,c⟩⟩:=f
 .exact⟨b,.inl a⟩
 .exact⟨b,.inr ⟨id,a,rfl,d _ _ c rfl⟩⟩
def Mk.pre{n0:Nat}{h h':HL}{v:TR}{e n:Nat}{cs:Tn}(b:Mk n0 h v e n cs)(a:tx h h'):Mk n0 h' v e n cs:=b.i_ λ_ _ h _=>a.get h
def aS{i6:Type}{e:Nat}{enc:i6->Tn}:∀ {l:List i6},(∀a∈l,(enc a).length=e)->(l.flatMap enc).length=l.length*e
 | [],_=>by simp
 |a :: l,h=>by
  rw[SF,GA,h a M9,aS λb c=>h b (E2 _ c),Wk,Jh,SI,Nat.add_comm]
def lW{i6:Type}{e:Nat}{enc:i6->Tn}:∀ {l:List i6},(∀a∈l,(enc a).length=e)->∀ {i:Nat} {a:i6},l[i]?=some a->((l.flatMap enc).drop (i*e)).take e=enc a
 |b :: l,h,0,a,c=>by
  simp_all
 |b :: l,h,i+1,a,c=>by
  simp only[q6]at c;have d:=h b M9;have:=lW (λb d=>h b (E2 _ d)) c;rw[SF,Jh,SI,←this];have f:i*e+e=(enc b).length+i*e:=by omega
  rw[f,l3,W3 (by omega),Ds,qdk]
 | [],_,_,_,c=>by simp at c
def FU.at{h:HL}{v:TR}{e n:Nat}{cs:Tn}(j:FU h v e n cs){i:Nat}(q:i<n):∃p,A2 e v (.ofNat i)=some p/\Gp h p ((cs.drop (i*e)).take e):=by
 obtain⟨m,⟨rfl,rfl⟩|⟨id,a,l,k,c,rfl,d,f⟩⟩:=j
 .omega
 .have b:i*e+e<=n*e:=by
   have:=QS e (show i+1<=n by omega)
   grind
  refine⟨.pointer (some ⟨id,a+i*e,none⟩),?_,id,a+i*e,k,e,c,rfl,d,?_⟩
  .rw[qY];have g:0<=ofNat i/\ofNat i<(n:Int):=⟨Ga i,by simp_all⟩;simp only[n_ g];have:¬(le e=some 1):=by simp[le]
   simp_all
  .have o:=lQ f b
   grind
def po.at{i6:Type}{h:HL}{v:TR}{e:Nat}{enc:i6->Tn}{l:List i6}(d:po h v e enc l){i:Nat}{a:i6}(g:l[i]?=some a):∃p,A2 e v (.ofNat i)=some p/\Gp h p (enc a):=by
 have b:i<l.length:=by
  grind
 obtain⟨p,f,c⟩:=d.2.at b;rw[lW d.1 g]at c;exact⟨p,f,c⟩
def Gp.fd{h:HL}{p:TR}{cs:Tn}(g:Gp h p cs)(o k:Nat)(f:o+k<=cs.length):∃b,Dg o p=some b/\Gp h b ((cs.drop o).take k):=by
 obtain⟨id,i,j,e,a,rfl,c,d⟩:=g;refine⟨_,rfl,id,i+o,j,e,a,rfl,c,?_⟩;have l:=lQ d f
 grind
section
variable [Cf] [C8]
def bG{T:Tv}{h:HL}{i:Nat}{o:ra}(a:h[i]?=some (.o o)):r_ T h i=some o:=by
 unfold r_;rw[a];rfl
def Gp.ld{T:Tv}{h:HL}{p:TR}{cs:Tn}(f:Gp h p cs){n:Nat}(d:cs.length=n):(Pk.ld n p).run (r_ T h)=some cs:=by
 obtain⟨id,o,a,e,g,rfl,b,c⟩:=f;subst d;show(match (none:Ts)with|none=>(iC (r_ T h) id).bind λa=>cut a o cs.length|some _=>none)=_;unfold iC;rw[bG b];exact c
def Gp.lg{C:ke}{T:Tv}{h:HL}{p:TR}{cs:Tn}(f:Gp h p cs){n:Nat}(d:cs.length=n):(Pk.lg C n p).run (r_ T h)=some cs:=by
 obtain⟨id,o,a,e,g,rfl,b,c⟩:=f;subst d;show(iC (r_ T h) id).bind (λa=>cut a o cs.length)=_;unfold iC;rw[bG b];exact c
def ns{C:ke}{T:Tv}{h:HL}{v:TR}{e n:Nat}{cs:Tn}(c:FU h v e n cs):NH C e (r_ T h) v=some (cs,n):=by
 obtain⟨a,⟨rfl,rfl⟩|⟨id,d,g,j,f,rfl,b,i⟩⟩:=c
 .simp only[Yz,NE]at a;subst a;rfl
 .unfold NH;have:¬(le e=some 1):=by simp[le]
  simp only[qs this,if_true];rw[bG b]
  simp_all
variable {C:ke} {Sg:Td} {T:Tv}
def t'{n0:Nat}{h0 h:HL}{v x:TR}{e n k bytes:Nat}{cs new:Tn}(f:tx h0 h)(s:h0.length=n0)(p:Mk n0 h v e n cs)(r:FU h x e k new)(z:ba (n+k) bytes=true) :
  ∃b v',(Hp.ap C e bytes v x).run (r_ T h) h.length=some (b,[v'])/\tx h0 (bH h b)/\Mk n0 (bH h b) v' e (n+k) (cs++new)/\
   (∀(j:Nat) o,h[j]?=some o->d_ v≠some j->(bH h b)[j]?=some o)/\(d_ v'=d_ v∨d_ v'=none∨∃j,d_ v'=some j/\h.length<=j):=by
 obtain⟨g,p⟩:=p;have i:=r.1;have q:(cs++new).length=(n+k)*e:=by grind
 have c:=ns (C:=C) (T:=T) r;rcases p with⟨rfl,rfl⟩|⟨id,hY,rfl,l⟩
 .simp only[Yz,NE]at g;subst g;by_cases m:k=0
  .subst m;simp only[Yz,NE]at i;subst i;refine⟨[],.slice none 0 0,?_,f,Mk.nil _ _ _,λj o d _=>d,.inl rfl⟩;show Ei C e bytes (.slice none 0 0) x (r_ T h) h.length=_;unfold Ei;rw[c];rfl
  .refine⟨[.push (.cells new e true)],.slice (some ⟨h.length,0,le e⟩) k 0,?_,f.E6 _,?_,λj o d _=>?_,.inr (.inr ⟨h.length,rfl,x5 _⟩)⟩
   .show Ei C e bytes (.slice none 0 0) x (r_ T h) h.length=_;unfold Ei
    simp_all
   .rw[EM,Ds];refine⟨by omega,.inr ⟨h.length,by have:=f.len;omega,rfl,?_⟩⟩;simp[bH,Cq.onH]
   .exact tx.get ⟨_,rfl⟩ d
 .by_cases m:k=0
  .subst m;simp only[Yz,NE]at i;subst i;refine⟨[],.slice (some ⟨id,0,le e⟩) n 0,?_,f,⟨q,.inr ⟨id,hY,rfl,by simpa[bH]using l⟩⟩,λj o d _=>d,.inl rfl⟩;show Ei C e bytes (.slice (some ⟨id,0,le e⟩) n 0) x (r_ T h) h.length=_;unfold Ei;rw[c];simp only[ne_eq,not_true_eq_false,if_false];rw[bG l];simp only[ne_eq,not_true_eq_false,if_false];rw[t_ g];rfl
  .have w:id<h.length:=by
    grind
   refine⟨[.set id .dead,.push (.cells (cs++new) e true)],.slice (some ⟨h.length,0,le e⟩) (n+k) 0,?_,?_,?_,λj o d t=>?_,.inr (.inr ⟨h.length,rfl,x5 _⟩)⟩
   .show Ei C e bytes (.slice (some ⟨id,0,le e⟩) n 0) x (r_ T h) h.length=_;unfold Ei;rw[c];simp only[ne_eq,not_true_eq_false,if_false];rw[bG l];simp only[ne_eq,not_true_eq_false,if_false];rw[t_ g]
    simp_all
   .exact(f.set (by omega) _).E6 _
   .refine⟨q,.inr ⟨h.length,by omega,rfl,?_⟩⟩;simp[bH,Cq.onH]
   .have y:id≠j:=λu=>t (by subst u;rfl);refine tx.get (a:=h.set id (.o .dead)) ⟨_,rfl⟩ ?_
    simp_all
def j5{i6:Type}{h0 h:HL}{v:TR}{e bytes:Nat}{enc:i6->Tn}{l:List i6}{a:i6}{K:Tb}{new:Tn}{m:Nat}{p:Ts}(w:tx h0 h)(n:MkL h0.length h v e enc l)(u:new=enc a)(B:(enc a).length=e)(f:m=h.length)(g:p=some (e+10))
  (x:ba (l.length+1) bytes=true)
  (t:∀v' h',tx h0 h'->MkL h0.length h' v' e enc (l++[a])->aJ v'=true->(∀(j:Nat) o,h[j]?=some o->d_ v≠some j->h'[j]?=some o)->(d_ v'=d_ v∨∃j,d_ v'=some j/\h.length<=j)->K [v'] h') :
  (PH C Sg T).heap (.ap C e bytes v (.slice (some ⟨m,0,p⟩) 1 2)) (h++[.o (.cells new e true)]) (@hY _ ⟨K⟩):=by
 subst u f g;have y:FU (h++[HO.o (.cells (enc a) e true)]) (.slice (some ⟨h.length,0,le e⟩) 1 2) e 1 (enc a):=by
  refine⟨by omega,.inr ⟨h.length,0,2,enc a,true,rfl,by simp,t_ (by omega)⟩⟩
 have d:Mk h0.length (h++[HO.o (.cells (enc a) e true)]) v e l.length (l.flatMap enc):=n.2.pre ⟨_,rfl⟩;obtain⟨k,v',q,r,i,z,s⟩:=t' (C:=C) (T:=T) (w.E6 [HO.o (.cells (enc a) e true)]) rfl d y x;refine bJ q (t v' _ r ⟨?_,?_⟩ ?_ ?_ ?_)
 .intro b hb;rcases Ed.1 hb with hb|hb
  .exact n.1 b hb
  simp_all
 .simp_all
 .obtain⟨_,⟨rfl,_⟩|⟨id,_,rfl,_⟩⟩:=i
  .rfl
  .simp[aJ,l_,aV,bF,bo,aR,aD,le]
 .grind
 .rcases s with c|c|⟨j,c,A⟩
  .exact .inl c
  .obtain⟨D,⟨_,E⟩|⟨id,_,rfl,_⟩⟩:=i
   .omega
   .cases c
  grind
end
end Sx
namespace Sx
def Gp.g_{h:HL}{p:TR}{cs:Tn}(a:Gp h p cs):aJ p=true:=by
 obtain⟨id,o,c,e,b,rfl,_⟩:=a;simp[aJ,l_,aV,bF,bo,aR,aD]
def FU.g_{h:HL}{v:TR}{e n:Nat}{cs:Tn}(a:FU h v e n cs):aJ v=true:=by
 obtain⟨_,⟨rfl,_⟩|⟨id,b,d,f,c,rfl,_⟩⟩:=a
 .rfl
 .simp[aJ,l_,aV,bF,bo,aR,aD,le]
def po.g_{i6:Type}{h:HL}{v:TR}{e:Nat}{enc:i6->Tn}{l:List i6}(a:po h v e enc l):aJ v=true:=a.2.g_
section
variable [Cf] [C8] {C:ke} {Sg:Td} {T:Tv}
def Da{F:(TG->HL->Prop)->TG->HL->Prop}{s:Te}{l:TG}{h:HL}(a:F s l h):@hY _ ⟨F⟩ s l h:=a
def bE{g9:Type}{F:(TG->HL->Prop)->TG->HL->Prop}(n:Nat)(S:Nat->g9->TG)(d:Nat->g9->HL)(Inv:Nat->g9->Prop){j0:Nat}{s0:g9}{ls:TG}{h:HL}(i:ls=S j0 s0)(k:h=d j0 s0)(g:j0<=n)(e:Inv j0 s0)
  (step:∀j s,j<=n->Inv j s->∀a:TG->HL->Prop,(∀c,j<n->Inv (j+1) c->a (S (j+1) c) (d (j+1) c))->F a (S j s) (d j s)):(PH C Sg T).loop (@hY _ ⟨F⟩) ls h:=by
 subst i k;refine aG (m:=n - j0) (λm ls h=>∃j s,ls=S j s/\h=d j s/\j<=n/\m=n - j/\Inv j s) ⟨j0,s0,rfl,rfl,g,rfl,e⟩ ?_;rintro m ls h ⟨j,s,rfl,rfl,g,rfl,e⟩ a b;exact Da (step j s g e a λc l f=>b (n - (j+1)) _ _ (by omega) ⟨j+1,c,rfl,rfl,by omega,rfl,f⟩)
abbrev _root_.Tz:=Nat->Prop
def ma{F:(TG->HL->Prop)->TG->HL->Prop}(n:Nat)(Inv:Tz){j0:Nat}{h:HL}{ls:TG}(f:ls=[.i (ofNat j0)])(e:j0<=n)(d:Inv j0)
  (step:∀j,j<=n->Inv j->∀c:TG->HL->Prop,(j<n->Inv (j+1)->c [.i (ofNat j+1)] h)->F c [.i (ofNat j)] h):(PH C Sg T).loop (@hY _ ⟨F⟩) ls h:=
 bE (g9:=Unit) n (λj _=>[.i (ofNat j)]) (λ_ _=>h) (λj _=>Inv j) (s0:=()) f rfl e d λj _ e d c g=>step j e d c (λa b=>g () a b)
def bu{i6:Type}{h:HL}{v:TR}{e:Nat}{enc:i6->Tn}{l:List i6}{K:Tw}(b:po h v e enc l)(a:K (ofNat l.length)):(PH C Sg T).h_ (G3 v) (@hY _ ⟨K⟩):=ae b.len a
def aP{i6:Type}{h:HL}{v:TR}{e:Nat}{enc:i6->Tn}{l:List i6}{i:Nat}{a:i6}{n:Int}{K:Tf}(c:po h v e enc l)(j:n=ofNat i)(b:l[i]?=some a)(g:K (enc a)) :
  (PH C Sg T).h_ (A2 e v n) (@hY _ ⟨λx=>(PH C Sg T).ka (.lg C e x) h (@hY _ ⟨K⟩)⟩):=by
 subst j;obtain⟨p,d,f⟩:=c.at b;exact ae d (dq (f.lg (c.1 a (Cb b))) g)
def dF{i6:Type}{h:HL}{v:TR}{e:Nat}{enc:i6->Tn}{l:List i6}{i:Nat}{a:i6}{n:Int}{o k:Nat}{cs:Tn}{K:Tf}(j:po h v e enc l)(u:n=ofNat i)(g:l[i]?=some a)(d:cs=((enc a).drop o).take k)(c:o+k<=e)(t:K cs) :
  (PH C Sg T).h_ (A2 e v n) (@hY _ ⟨λx=>(PH C Sg T).h_ (Dg o x) (@hY _ ⟨λy=>(PH C Sg T).k_ y (@hY _ ⟨(PH C Sg T).ka (.lg C k y) h (@hY _ ⟨K⟩)⟩)⟩)⟩):=by
 subst u d;obtain⟨p,m,r⟩:=j.at g;have w:=j.1 a (Cb g);have c:o+k<=(enc a).length:=by omega
 have b:(((enc a).drop o).take k).length=k:=by grind
 obtain⟨q,s,f⟩:=r.fd o k c;refine ae m (ae s ?_);show aJ q=true/\_;exact⟨f.g_,dq (f.lg b) t⟩
end
end Sx
namespace Sx
section
variable [Cf] [C8] {C:ke} {Sg:Td} {T:Tv}
def aT{j:Nat}{K:Tw}(h:j<=4294967296):(PH C Sg T).w7 .add .i64 (ofNat j) 1 (@hY _ ⟨K⟩)=K (ofNat j+1):=
 EY (by grind) (by grind)
def kZ{j:Nat}{K:Tw}(h1:1<=j)(h:j<=4294967296):(PH C Sg T).w7 .sub .i64 (ofNat j) 1 (@hY _ ⟨K⟩)=K (ofNat (j - 1)):=by
 rw[K0 (by grind) (by grind)]
 grind
def aL{j n:Nat}{K:Tp}(h:j<n):(PH C Sg T).cmp .lss (ofNat j) (ofNat n) (@hY _ ⟨K⟩)=K true:=td (by simp_all)
def aK{j n:Nat}{K:Tp}(h:n<=j):(PH C Sg T).cmp .lss (ofNat j) (ofNat n) (@hY _ ⟨K⟩)=K false:=tf (by simp_all)
end
def ai{i6:Type}{l:List i6}{i:Nat}{a:i6}(h:l[i]?=some a):i<l.length:=by
 grind
def aq{i6:Type}{l:List i6}{i:Nat}(h:i<l.length):∃a,l[i]?=some a:=⟨_,FN h⟩
end Sx
namespace Sx
section
variable [Cf] [C8]
variable {C:ke} {Sg:Td} {T:Tv} {i6:Type}
def m'(h:HL)(id e:Nat)(enc:i6->Tn)(l:List i6):HL:=h.set id (.o (.cells (l.flatMap enc) e true))
def bA{h:HL}{id e:Nat}{enc:i6->Tn}{l:List i6}(a:id<h.length):(m' h id e enc l)[id]?=some (.o (.cells (l.flatMap enc) e true)):=by
 unfold m'
 simp_all
def QN{h:HL}{id e:Nat}{enc:i6->Tn}{l l':List i6}:(m' h id e enc l).set id (.o (.cells (l'.flatMap enc) e true))=m' h id e enc l':=by
 unfold m';rw[List.set_set]
def Wg{h:HL}{id e cx:Nat}{enc:i6->Tn}(b:∀a,(enc a).length=e){l:List i6}(c:id<h.length):po (m' h id e enc l) (.slice (some ⟨id,0,le e⟩) l.length cx) e enc l:=by
 have d:=aS (e:=e) (enc:=enc) (l:=l) λa _=>b a;exact⟨λa _=>b a,d,.inr ⟨id,0,cx,_,true,rfl,bA c,t_ d⟩⟩
def gM{e:Nat}{enc:i6->Tn}(c:∀a,(enc a).length=e):∀ {l:List i6} {i:Nat} (a:i6),i<l.length->(l.flatMap enc).take (i*e)++enc a++(l.flatMap enc).drop (i*e+e)=(l.set i a).flatMap enc
 | [],_,_,h=>by simp at h
 |b :: l,0,a,_=>by
  simp_all
 |b :: l,i+1,a,h=>by
  have f:=c b;have d:=gM c (l:=l) (i:=i) a (by simpa using h);simp only[e6,SF];rw[←d,Jh,SI,qdn,l3];rw[H4 (by omega),W3 (by omega),Ds]
  simp_all
def hJ{h:HL}{id e cx len:Nat}{enc:i6->Tn}(b:∀a,(enc a).length=e){l:List i6}{i:Nat}{a:i6}{n:Int}{new:Tn}{K:Tb}(j:id<h.length)(q:n=ofNat i)(m:i<l.length)(c:l.length=len)(d:new=enc a)
  (o:K [] (m' h id e enc (l.set i a))):(PH C Sg T).h_ (A2 e (.slice (some ⟨id,0,le e⟩) len cx) n) (@hY _ ⟨λx=>(PH C Sg T).heap (.st x new) (m' h id e enc l) (@hY _ ⟨K⟩)⟩):=by
 subst q c d;have r:A2 e (.slice (some ⟨id,0,le e⟩) l.length cx) (ofNat i)=some (.pointer (some ⟨id,i*e,none⟩)):=by
  rw[qY];have k:0<=ofNat i/\ofNat i<(l.length:Int):=⟨Ga i,by simp_all⟩;simp only[n_ k];have:¬(le e=some 1):=by simp[le]
  simp_all
 refine ae r ?_;have p:=aS (e:=e) (enc:=enc) (l:=l) λa _=>b a;have g:i*e+e<=l.length*e:=by
  have:=QS e (show i+1<=l.length by omega)
  grind
 have f:(Hp.st (.pointer (some ⟨id,i*e,none⟩)) (enc a)).run (r_ T (m' h id e enc l)) (m' h id e enc l).length=some ([.set id (.cells ((l.set i a).flatMap enc) e true)],[]):=by
  show Jw (.pointer (some ⟨id,i*e,none⟩)) (enc a) (r_ T (m' h id e enc l)) (m' h id e enc l).length=_;unfold Jw;simp only;rw[bG (bA j)];simp only;unfold q9;rw[b a,p,n_ g,gM b a m];rfl
 refine bJ f ?_;show K [] (bH _ _);have:bH (m' h id e enc l) [.set id (.cells ((l.set i a).flatMap enc) e true)]=m' h id e enc (l.set i a):=QN;rw[this];exact o
end
end Sx
namespace Sx
section
variable [Cf] [C8]
variable {C:ke} {Sg:Td} {T:Tv} {i6:Type}
def cS{enc:i6->Tn}{z:i6}{n:Nat}:aN (enc z) n=(List.replicate n z).flatMap enc:=by
 unfold aN;rw[List.flatMap_def,List.map_replicate]
def B9(h:HL)(e:Nat)(enc:i6->Tn)(l:List i6):HL:=h++[.o (.cells (l.flatMap enc) e true)]
def P9{h:HL}{e:Nat}{enc:i6->Tn}{l:List i6}:m' (h++[.o .dead]) h.length e enc l=B9 h e enc l:=by
 unfold m' B9
 simp_all
def VJ{h:HL}{e cx:Nat}{enc:i6->Tn}(b:∀a,(enc a).length=e){l:List i6}{n:Nat}(c:n=l.length):po (B9 h e enc l) (.slice (some ⟨h.length,0,le e⟩) n cx) e enc l:=by
 subst c;rw[←P9];exact Wg b (by simp)
def dM{n:Nat}(h:n<=1048576):DS (ofNat n) (ofNat n)=some ():=by
 unfold DS
 grind
end
end Sx
namespace Sx
section
variable [Cf] [C8]
variable {C:ke} {Sg:Td} {T:Tv} {i6:Type}
def fS{l:List i6}{i:Nat}{a:i6}(h:l[i]?=some a):l.set i a=l:=by
 apply GB
 grind
end
end Sx
namespace Sx
section
variable [Cf] [C8] {C:ke} {T:Tv}
abbrev Ku:=Int×Int
def MJ(k:Ku):Value:=.agg ⟨[.int .i64 k.1,.int .u8 k.2]⟩
def Hu(a:Tj)(ks:List Ku):Prop:=a.map (·.key)=ks.map MJ/\∀e∈a,e.val = .bool true
abbrev Sv:TJ:=[.i .i64,.i .u8]
def iJ(a b:Int):UL a b=decide (a=b):=by
 have c:∀m n:Nat,Nat.beq m n=decide (m=n):=λm n=>by
  by_cases h:m=n
  .subst h;simp
  .rw[Gg h];cases d:Nat.beq m n with
   |true=>simp_all
   |false=>rfl
 cases a<;>cases b<;>simp[UL,c];omega
def Uv(a b:Ku):v_ Sv [.int .i64 a.1,.int .u8 a.2] [.int .i64 b.1,.int .u8 b.2]=some (decide (a=b)):=by
 have c:cX .i64 .i64=true:=rfl;have d:cX .u8 .u8=true:=rfl;obtain⟨e,f⟩:=a;obtain⟨g,h⟩:=b;simp only[v_,c,d,iJ,QR]
 grind
def sR(k:Ku):∀ {a:Tj} {ks:List Ku} (i:Nat),Hu a ks->(k∉ks->jA Sv [.int .i64 k.1,.int .u8 k.2] a i=some none)/\(k∈ks->∃j e,jA Sv [.int .i64 k.1,.int .u8 k.2] a i=some (some (i+j))/\a[j]?=some e/\e.val = .bool true)
 | [],[],i,_=>⟨λ_=>rfl,λh=>by cases h⟩
 | [],_ :: _,i,h=>by have:=h.1;simp at this
 |_ :: _,[],i,h=>by have:=h.1;simp at this
 |e :: a,q :: ks,i,h=>by
  obtain⟨c,p⟩:=h;simp only[DD,Hq]at c;obtain⟨d,f⟩:=sR k (i+1) (⟨c.2,λx t=>p x (E2 _ t)⟩ : Hu a ks);have s:jA Sv [.int .i64 k.1,.int .u8 k.2] (e :: a) i=if k=q then some (some i)else jA Sv [.int .i64 k.1,.int .u8 k.2] a (i+1):=by
   simp only[jA,c.1,MJ];rw[Uv]
   grind
  rw[s];by_cases g:k=q
  .simp_all
  .rw[qs g];refine⟨λr=>d λb=>r (E2 _ b),λb=>?_⟩;rcases Dy.1 b with b|b
   .exact absurd b g
   .obtain⟨j,l,m,n,o⟩:=f b;exact⟨j+1,l,by rw[m];congr 2;omega,by simpa using n,o⟩
variable {kt:TP}
def Pz(h1:x6 C.P kt=some true)(c:Cz C.P 10000 kt=some Sv)(k:Ku):HQ C.P kt (MJ k)=true:=by
 have a:cX .i64 .i64=true:=rfl;have b:cX .u8 .u8=true:=rfl;unfold HQ MJ;simp only[h1,c,fF,a,b,iJ];simp
def wL(h1:x6 C.P kt=some true)(b:Cz C.P 10000 kt=some Sv)(k:Ku){a:Tj}{r:Ts}(c:jA Sv [.int .i64 k.1,.int .u8 k.2] a 0=some r):uW C.P kt (MJ k) a=some r:=by
 unfold uW MJ;simp only[h1,b,nX,c]
def t7(h1:x6 C.P kt=some true)(d:Cz C.P 10000 kt=some Sv){h:HL}{id c:Nat}{a:Tj}{ks:List Ku}(q:h[id]?=some (.o (.map a c)))(n:Hu a ks)(k:Ku) :
  E7 C kt false (.bool false) (.map (some id)) (MJ k) false (r_ T h)=some [.bool (decide (k∈ks))]:=by
 unfold E7;rw[Pz h1 d];simp only[DJ,D5,if_false];have p:G5 (r_ T h) id=some (a,c):=by
  unfold G5;rw[bG q]
 rw[p];simp only;obtain⟨f,g⟩:=sR k 0 n;by_cases b:k∈ks
 .obtain⟨j,e,i,l,m⟩:=g b;rw[wL h1 d k i];have r:ed a (0+j)=some (.bool true):=by
   rw[EM];unfold ed;rw[l];simp[m]
  simp only[r,Dj];simp[gm,b]
 .rw[wL h1 d k (f b)];simp[gm,b]
def zv(h1:x6 C.P kt=some true)(b:Cz C.P 10000 kt=some Sv){h:HL}{id c n:Nat}{a:Tj}{ks:List Ku}(g:h[id]?=some (.o (.map a c)))(d:Hu a ks){k:Ku}(f:k∉ks) :
  FH C kt (.map (some id)) (MJ k) (.bool true) (r_ T h) n=some ([.set id (.map (a++[{ key:=MJ k,val:=.bool true,born:=c }]) (c+1))],[]):=by
 unfold FH;simp only;rw[Pz h1 b];simp only[DJ,D5,if_false];have e:G5 (r_ T h) id=some (a,c):=by
  unfold G5;rw[bG g]
 rw[e];simp only;rw[wL h1 b k ((sR k 0 d).1 f)]
def Hu.push{b:Tj}{ks:List Ku}(d:Hu b ks)(k:Ku)(c:Nat):Hu (b++[{ key:=MJ k,val:=.bool true,born:=c }]) (ks++[k]):=by
 refine⟨by simp[d.1],λe a=>?_⟩;rcases Ed.1 a with a|a
 .exact d.2 e a
 simp_all
end
end Sx
namespace Sx
section
variable [Cf] [C8] {C:ke} {T:Tv}
abbrev K3:=Int×Int×Nat
def EP(k:K3):Tn:=[.int .i64 k.1,.int .i64 k.2.1,.int .u8 (ofNat k.2.2)]
abbrev kk3:TJ:=[.i .i64,.i .i64,.i .u8]
def yF(a b:K3):v_ kk3 (EP a) (EP b)=some (decide (a=b)):=by
 have e:cX .i64 .i64=true:=rfl;have f:cX .u8 .u8=true:=rfl;obtain⟨g,i,c⟩:=a;obtain⟨j,k,d⟩:=b;simp only[EP,v_,e,f,iJ,QR];have e3:decide (ofNat c=ofNat d)=decide (c=d):=decide_eq_decide.2 ⟨λh=>Jg h,λh=>by rw[h]⟩
 grind
variable {kt:TP} (h1:x6 C.P kt=some true) (h2:Cz C.P 10000 kt=some kk3)
include h1 h2
omit h1 h2 in
theorem oh{h:HL}{id c:Nat}{a:Tj}(b:h[id]?=some (.o (.map a c))):G5 (r_ T h) id=some (a,c):=by
 unfold G5;rw[bG b]
end
section
variable [Cf] [C8] {T:Tv}
end
end Sx
namespace Sx
section
variable [Cf] [C8] {C:ke} {Sg:Td} {T:Tv}
variable {kt:TP} (h1:x6 C.P kt=some true) (h2:Cz C.P 10000 kt=some kk3)
include h1 h2
end
end Sx
end Go.Am
namespace Go.Am
open Sx Go.Proofs
def iz{g:TQ}{sg:GH}{cap:Tn}{ls d:TG}{H H':Tu}{args:Tn}(i:aI cc ac g ls H d H')(j:ac g=some sg)(xs:List S0)(h1:cE xs sg.ps=true)(f:cN xs=ls)(h:ak xs=args++cap) :
  wo cc (.func (.func g) ⟨[]⟩ ⟨cap⟩) args sg.rs H d H':=by
 obtain⟨k,m,n,a,b,e,c⟩:=i;rw[j]at a;cases a;obtain⟨l,_⟩:=cV b.1 h1 (b.2.1.trans f.symm);rw[l,h]at c;exact⟨n,e,.inl ⟨g,⟨[]⟩,⟨cap⟩,rfl,by simpa using c⟩⟩
abbrev i'(b:Nat):Value:=.pointer (some ⟨b,0,none⟩)
def bz{h:HL}{b e:Nat}{cs:Tn}(a:h[b]?=some (.o (.cells cs e true))):Gp h (i' b) cs:=⟨b,0,cs,e,true,rfl,a,Sx.t_ rfl⟩
def au(b:Nat):aJ (i' b)=true:=by simp[aJ,l_,aV,bF,bo,aR,aD]
def cU{h:HL}{p:TR}{cs:Tn}{K:Tf}{n:Nat}(c:Gp h p cs)(b:cs.length=n)(a:K cs):P1.ka (.lg cc n p) h (@hY _ ⟨K⟩):=dq (c.lg b) a
def rC{h:HL}{p:TR}{cs ds:Tn}{K:Tf}{o n:Nat}(f:Gp h p cs)(e:o+n<=cs.length)(c:ds=(cs.drop o).take n)(d:K ds) :
  P1.h_ (Dg o p) (@hY _ ⟨λy=>P1.k_ y (@hY _ ⟨P1.ka (.lg cc n y) h (@hY _ ⟨K⟩)⟩)⟩):=by
 subst c;obtain⟨q,b,a⟩:=f.fd o n e;refine ae b (ab a.g_ (dq (a.lg ?_) d))
 grind
def br{h:HL}{b e:Nat}{cs ds:Tn}{K:Tf}{o n:Nat}(a:h[b]?=some (.o (.cells cs e true)))(f:o+n<=cs.length)(c:ds=(cs.drop o).take n)(d:K ds) :
  P1.h_ (CW (i' b)) (@hY _ ⟨λx=>P1.k_ x (@hY _ ⟨P1.h_ (Dg o x) (@hY _ ⟨λy=>P1.k_ y (@hY _ ⟨P1.ka (.lg cc n y) h (@hY _ ⟨K⟩)⟩)⟩)⟩)⟩):=
 ae (x:=i' b) rfl (ab (au b) (rC (bz a) f c d))
def gf{h:HL}{b e:Nat}{cs new:Tn}{K:Tb}{o:Nat}(c:h[b]?=some (.o (.cells cs e true)))(f:o+new.length<=cs.length)(d:K [] (h.set b (.o (.cells (cs.take o++new++cs.drop (o+new.length)) e true)))) :
  P1.h_ (CW (i' b)) (@hY _ ⟨λx=>P1.k_ x (@hY _ ⟨P1.h_ (Dg o x) (@hY _ ⟨λy=>P1.k_ y (@hY _ ⟨P1.heap (.st y new) h (@hY _ ⟨K⟩)⟩)⟩)⟩)⟩):=by
 refine ae (x:=i' b) rfl (ab (au b) (ae (x:=.pointer (some ⟨b,0+o,none⟩)) rfl (ab (by simp[aJ,l_,aV,bF,bo,aR,aD]) ?_)));have a:(Hp.st (.pointer (some ⟨b,0+o,none⟩)) new).run (r_ aa h) h.length=some ([.set b (.cells (cs.take o++new++cs.drop (o+new.length)) e true)],[]):=by
  show Jw (.pointer (some ⟨b,0+o,none⟩)) new (r_ aa h) h.length=_;unfold Jw;simp only;rw[bG c];simp only;unfold q9
  simp_all
 exact bJ a d
def xP{h:HL}{b e:Nat}{vs new:Tn}{K:Tb}(c:h[b]?=some (.o (.cells vs e true)))(f:new.length=vs.length)(d:K [] (h.set b (.o (.cells new e true)))):P1.heap (.st (i' b) new) h (@hY _ ⟨K⟩):=by
 have a:(Hp.st (i' b) new).run (r_ aa h) h.length=some ([.set b (.cells new e true)],[]):=by
  show Jw (i' b) new (r_ aa h) h.length=_;unfold Jw;simp only;rw[bG c];simp only;unfold q9
  simp_all
 exact bJ a d
def cO{b:Te}{m:(TG->HL->Prop)->Prop}(P:Te)(h1:∀l h,P l h->b l h)(a:∀j:TG->HL->Prop,(∀l h,P l h->j l h)->m j):P1.join (@hY _ ⟨b⟩) (@hY _ ⟨m⟩):=a _ h1
def Jb{a b:Int}{K:Tp}(h:∀t,t=decide (a=b)->K t):P1.cmp .eql a b (@hY _ ⟨K⟩):=by
 show K (a==b)
 grind
def oA{h:HL}{a b:HO}:(h++[a]).set h.length b=h++[b]:=by simp
def aH{h:HL}{a:HO}:(h++[a])[h.length]?=some a:=by simp
def dt{h:HL}{a:HO}{i:Nat}{o:HO}(b:h[i]?=some o):(h++[a])[i]?=some o:=tx.get ⟨_,rfl⟩ b
def cW{h:HL}{a:HO}{i j:Nat}{o:HO}(c:h[i]?=some o)(b:j≠i):(h.set j a)[i]?=some o:=by
 simp_all
def fG{h:HL}{a b:HO}{i:Nat}(c:h[i]?=some a):(h.set i b)[i]?=some b:=GL (ai c)
def Sx.po.blkLt{i6:Type}{h:HL}{v:TR}{e:Nat}{enc:i6->Tn}{l:List i6}(c:po h v e enc l){i:Nat}(a:d_ v=some i):i<h.length:=by
 obtain⟨_,_,⟨rfl,_⟩|⟨id,d,g,j,f,rfl,b,_⟩⟩:=c
 .cases a
 .cases a;exact ai b
def Ui(a:K3):(EP a).length=3:=rfl
def e_{i6:Type}(n0:Nat)(h:HL)(v:Value)(e:Nat)(enc:i6->Tn)(l:List i6):Prop:=
 (v = .slice none 0 0/\l=[])∨∃id cx,v = .slice (some ⟨id,0,le e⟩) l.length cx/\n0<=id/\h[id]?=some (.o (.cells (l.flatMap enc) e true))/\(cx=0∨cx=l.length+1)
section
variable {i6:Type} {n0 e:Nat} {enc:i6->Tn} {l:List i6} {h:HL} {v:Value}
def e_.nil(n0:Nat)(h:HL)(e:Nat)(enc:i6->Tn):e_ n0 h (.slice none 0 0) e enc []:=.inl ⟨rfl,rfl⟩
def e_.ls(b:∀a,(enc a).length=e)(g:e_ n0 h v e enc l):po h v e enc l:=by
 have c:=aS (e:=e) (enc:=enc) (l:=l) λa _=>b a;rcases g with⟨rfl,rfl⟩|⟨id,d,rfl,_,f,_⟩
 .exact po.nil h e enc
 .exact⟨λa _=>b a,c,.inr ⟨id,0,d,_,true,rfl,f,Sx.t_ c⟩⟩
def e_.i_{h':HL}(i:e_ n0 h v e enc l)(g:∀(j:Nat) o,h[j]?=some o->d_ v=some j->h'[j]?=some o):e_ n0 h' v e enc l:=by
 rcases i with b|⟨id,a,rfl,c,d,f⟩
 .exact .inl b
 .exact .inr ⟨id,a,rfl,c,g _ _ d rfl,f⟩
def e_.E6(a:e_ n0 h v e enc l)(G:HL):e_ n0 (h++G) v e enc l:=a.i_ λ_ _ h _=>tx.get ⟨_,rfl⟩ h
def e_.d_(b:e_ n0 h v e enc l){j:Nat}(a:d_ v=some j):n0<=j/\j<h.length:=by
 rcases b with⟨rfl,_⟩|⟨id,c,rfl,d,f,_⟩
 .cases a
 .cases a
  grind
def e_.g_(b:∀a,(enc a).length=e)(c:e_ n0 h v e enc l):aJ v=true:=(c.ls b).g_
def e_.ap{bytes k:Nat}{x:TR}{new:List i6}{K:Tb}(p:∀a,(enc a).length=e)(G:e_ n0 h v e enc l)(q:n0<=h.length)(w:NH cc e (r_ aa h) x=some (new.flatMap enc,k))(z:k=new.length)(I:ba (l.length+k) bytes=true)
  (r:∀v' h',e_ n0 h' v' e enc (l++new)->aJ v'=true->(∀(j:Nat) o,h[j]?=some o->Sx.d_ v≠some j->h'[j]?=some o)->h.length<=h'.length->(Sx.d_ v'=Sx.d_ v∨∃j,Sx.d_ v'=some j/\h.length<=j)->K [v'] h') :
  P1.heap (.ap cc e bytes v x) h (@hY _ ⟨K⟩):=by
 subst z;have u:(l++new).length=l.length+new.length:=GA;have D:l.flatMap enc++new.flatMap enc=(l++new).flatMap enc:=by simp
 have s:∀i n c,aJ (.slice (some ⟨i,0,le e⟩) n c)=true:=λi n c=>by simp[aJ,l_,aV,bF,bo,aR,aD,le]
 rcases G with⟨rfl,rfl⟩|⟨id,H,rfl,A,m,B⟩
 .by_cases g:new.length=0
  .have d:new=[]:=NE.1 g;subst d;have b:(Hp.ap cc e bytes (.slice none 0 0) x).run (r_ aa h) h.length=some ([],[.slice none 0 0]):=by
    show Ei cc e bytes (.slice none 0 0) x (r_ aa h) h.length=_;unfold Ei;rw[w];rfl
   exact bJ b (r _ _ (.inl ⟨rfl,rfl⟩) rfl (λj o f _=>f) (x5 _) (.inl rfl))
  .have b:(Hp.ap cc e bytes (.slice none 0 0) x).run (r_ aa h) h.length=some ([.push (.cells (new.flatMap enc) e true)],[.slice (some ⟨h.length,0,le e⟩) new.length 0]):=by
    show Ei cc e bytes (.slice none 0 0) x (r_ aa h) h.length=_;unfold Ei
    simp_all
   refine bJ b (r _ _ (.inr ⟨h.length,0,by simp,q,by simp[bH,Cq.onH],.inl rfl⟩) (s _ _ _) (λj o f _=>tx.get ⟨_,rfl⟩ f) (by simp[bH,Cq.onH]) (.inr ⟨h.length,rfl,x5 _⟩))
 .have t:cut (l.flatMap enc) 0 (l.length*e)=some (l.flatMap enc):=Sx.t_ (aS λa _=>p a);have F:=ai m;rcases B with rfl|rfl
  .by_cases g:new.length=0
   .have d:new=[]:=NE.1 g;subst d;have b:(Hp.ap cc e bytes (.slice (some ⟨id,0,le e⟩) l.length 0) x).run (r_ aa h) h.length=some ([],[.slice (some ⟨id,0,le e⟩) l.length 0]):=by
     show Ei cc e bytes (.slice (some ⟨id,0,le e⟩) l.length 0) x (r_ aa h) h.length=_;unfold Ei;rw[w];simp only[ne_eq,not_true_eq_false,if_false];rw[bG m]
     simp_all
    exact bJ b (r _ _ (.inr ⟨id,0,by simp,A,by simpa[bH]using m,.inl rfl⟩) (s _ _ _) (λj o f _=>f) (x5 _) (.inl rfl))
   .have b:(Hp.ap cc e bytes (.slice (some ⟨id,0,le e⟩) l.length 0) x).run (r_ aa h) h.length=some ([.set id .dead,.push (.cells ((l++new).flatMap enc) e true)],[.slice (some ⟨h.length,0,le e⟩) (l.length+new.length) 0]):=by
     show Ei cc e bytes (.slice (some ⟨id,0,le e⟩) l.length 0) x (r_ aa h) h.length=_;unfold Ei;rw[w];simp only[ne_eq,not_true_eq_false,if_false];rw[bG m]
     simp_all
    have y:bH h [.set id .dead,.push (.cells ((l++new).flatMap enc) e true)]=h.set id (.o .dead)++[.o (.cells ((l++new).flatMap enc) e true)]:=rfl;refine bJ b ?_;rw[y];refine r _ _ (.inr ⟨h.length,0,by rw[u],q,?_,.inl rfl⟩) (s _ _ _) (λj o f C=>?_) (by simp) (.inr ⟨h.length,rfl,x5 _⟩)
    .simp_all
    .exact dt (cW f λe=>C (by subst e;rfl))
  .by_cases g:l.length+new.length<=l.length
   .have d:new=[]:=NE.1 (by omega);subst d;have b:(Hp.ap cc e bytes (.slice (some ⟨id,0,le e⟩) l.length (l.length+1)) x).run (r_ aa h) h.length=some ([.set id (.cells (l.flatMap enc) e true)],[.slice (some ⟨id,0,le e⟩) l.length (l.length+1)]):=by
     show Ei cc e bytes (.slice (some ⟨id,0,le e⟩) l.length (l.length+1)) x (r_ aa h) h.length=_;unfold Ei;rw[w];simp only[ne_eq,not_true_eq_false,if_false];rw[bG m];simp only[ne_eq,not_true_eq_false,if_false];rw[t];simp only[cp,u2,x5,if_true];unfold q9;have E:=aS (e:=e) (enc:=enc) (l:=l) λa _=>p a;simp[E]
    have y:bH h [.set id (.cells (l.flatMap enc) e true)]=h:=fS m;refine bJ b ?_;rw[y];exact r _ _ (.inr ⟨id,l.length+1,by simp,A,by simpa using m,.inr (by simp)⟩) (s _ _ _) (λj o f _=>f) (x5 _) (.inl rfl)
   .have b:(Hp.ap cc e bytes (.slice (some ⟨id,0,le e⟩) l.length (l.length+1)) x).run (r_ aa h) h.length=some ([.push (.cells ((l++new).flatMap enc) e true)],[.slice (some ⟨h.length,0,le e⟩) (l.length+new.length) 0]):=by
     show Ei cc e bytes (.slice (some ⟨id,0,le e⟩) l.length (l.length+1)) x (r_ aa h) h.length=_;unfold Ei;rw[w];simp only[ne_eq,not_true_eq_false,if_false];rw[bG m]
     simp_all
    refine bJ b (r _ _ (.inr ⟨h.length,0,by rw[u],q,by simp[bH,Cq.onH],.inl rfl⟩) (s _ _ _) (λj o f _=>tx.get ⟨_,rfl⟩ f) (by simp[bH,Cq.onH]) (.inr ⟨h.length,rfl,x5 _⟩))
def e_.GX{bytes m:Nat}{a:i6}{new:Tn}{g:Ts}{K:Tb}(b:∀a,(enc a).length=e)(y:e_ n0 h v e enc l)(x:n0<=h.length)(w:m=h.length)(c:new=enc a)(f:g=some (e+10))(z:ba (l.length+1) bytes=true)
  (u:∀v' h',e_ n0 h' v' e enc (l++[a])->aJ v'=true->(∀(j:Nat) o,h[j]?=some o->Sx.d_ v≠some j->h'[j]?=some o)->h.length<=h'.length->(Sx.d_ v'=Sx.d_ v∨∃j,Sx.d_ v'=some j/\h.length<=j)->K [v'] h') :
  P1.heap (.ap cc e bytes v (.slice (some ⟨m,0,g⟩) 1 2)) (h++[.o (.cells new e true)]) (@hY _ ⟨K⟩):=by
 subst w c f;have d:e_ n0 (h++[HO.o (.cells (enc a) e true)]) v e enc l:=y.E6 _;refine d.ap (new:=[a]) (k:=1) b (by simp;omega) ?_ rfl z λv' h' i n p q B=>u v' h' i n (λj o t s=>p j o (dt t) s) (by simp at q;omega) ?_
 .have A:FU (h++[HO.o (.cells (enc a) e true)]) (.slice (some ⟨h.length,0,le e⟩) 1 2) e 1 (enc a):=⟨by rw[b,SI],.inr ⟨h.length,0,2,enc a,true,rfl,aH,Sx.t_ (by rw[b,SI])⟩⟩;have r:NH cc e (r_ aa (h++[HO.o (.cells (enc a) e true)])) (.slice (some ⟨h.length,0,le e⟩) 1 2)=some ([a].flatMap enc,1):=by
   rw[ns A];simp
  exact r
 grind
end
def A3{e id n cx o k:Nat}{x:Int}(a:x=ofNat k)(b:k<=n):Et e (.slice (some ⟨id,o,le e⟩) n cx) none (some x) none=some (.slice (some ⟨id,o,le e⟩) k cx):=by
 subst a;unfold Et;simp only;rw[qs (by simp),n_ (by simp[bT];omega)];simp[ew,bL]
def oS{e id n cx o k:Nat}{x:Int}(a:x=ofNat k)(b:k<=n):Et e (.slice (some ⟨id,o,le e⟩) n cx) (some x) none none=some (.slice (some ⟨id,o+k*e,le e⟩) (n - k) (cx - k)):=by
 subst a;unfold Et;simp only;rw[qs (by simp),n_ (by simp[bT];omega)];simp[ew,bL]
section
variable {i6:Type} {e:Nat} {enc:i6->Tn} {l:List i6} {h:HL} {v:Value}
def qS(b:∀a∈l,(enc a).length=e){k:Nat}(d:k<=l.length):(l.flatMap enc).take (k*e)=(l.take k).flatMap enc/\(l.flatMap enc).drop (k*e)=(l.drop k).flatMap enc:=by
 have f:l.flatMap enc=(l.take k).flatMap enc++(l.drop k).flatMap enc:=by rw[←Yx,Wp]
 have g:((l.take k).flatMap enc).length=k*e:=by rw[aS (e:=e) λa c=>b a (ND c),Ys,SH d]
 simp_all
def KH(s:po h v e enc l){k:Nat}(c:k<=l.length):∃x,Et e v none (some (ofNat k)) none=some x/\po h x e enc (l.take k)/\d_ x=d_ v:=by
 obtain⟨b,q,⟨rfl,m⟩|⟨id,g,j,t,i,rfl,n,o⟩⟩:=s
 .have r:=NE.1 m;subst r;simp at c;subst c;exact⟨.slice none 0 0,rfl,po.nil h e enc,rfl⟩
 .refine⟨_,A3 rfl c,⟨λa d=>b a (ND d),aS λa d=>b a (ND d),.inr ⟨id,g,j,t,i,by simp_all,n,?_⟩⟩,rfl⟩;have f:0+k*e<=l.length*e:=by rw[EM];exact QS e c
  have p:=lQ o f;rw[Ys,SH c,←(qS b c).1];simpa using p
def KF(s:po h v e enc l){k:Nat}(c:k<=l.length):∃x,Et e v (some (ofNat k)) none none=some x/\po h x e enc (l.drop k)/\d_ x=d_ v:=by
 obtain⟨b,f,⟨rfl,n⟩|⟨id,i,m,t,j,rfl,o,p⟩⟩:=s
 .have r:=NE.1 n;subst r;simp at c;subst c;exact⟨.slice none 0 0,rfl,po.nil h e enc,rfl⟩
 .refine⟨_,oS rfl c,⟨λa d=>b a (pD d),aS λa d=>b a (pD d),.inr ⟨id,i+k*e,m - k,t,j,by rw[cb],o,?_⟩⟩,rfl⟩;have g:k*e+(l.length - k)*e<=l.length*e:=by rw[←Jh,Nat.add_sub_cancel' c];omega
  have q:=lQ p g;rw[cb,q,←(qS b c).2]
  congr 1
  refine H4 ?_;rw[cb,f,Nat.sub_mul];omega
def e_.NB{n0 bytes:Nat}{x:TR}{new:List i6}{K:Tb}(b:∀a,(enc a).length=e)(f:e_ n0 h v e enc l)(c:n0<=h.length)(i:po h x e enc new)(k:(l.length+new.length)*bytes<=140737488355328)(g:l.length+new.length<=140737488355328)
  (d:∀v' h',e_ n0 h' v' e enc (l++new)->aJ v'=true->(∀(j:Nat) o,h[j]?=some o->Sx.d_ v≠some j->h'[j]?=some o)->h.length<=h'.length->(Sx.d_ v'=Sx.d_ v∨∃j,Sx.d_ v'=some j/\h.length<=j)->K [v'] h') :
  P1.heap (.ap cc e bytes v x) h (@hY _ ⟨K⟩):=
 f.ap b c (ns i.2) rfl (by unfold ba;simp_all) d
def e_.emp{n0 m:Nat}(a:h[m]?=some (.o (.cells [] e true)))(b:n0<=m):e_ (i6:=i6) n0 h (.slice (some ⟨m,0,le e⟩) 0 1) e enc []:=.inr ⟨m,1,rfl,b,a,.inr rfl⟩
end
def cY{u v:TR}{k:Nat}{l:List (Value×Nat×Value)}(h:Ci (C9 u) (A6 k v)=true)(a:Di l=some ()):Di ((u,(k,v)) :: l)=some ():=by
 show(match Ci (C9 u) (A6 k v)with
  |true=>Di l
  |false=>none)=_
 rw[h];exact a
def nQ{a:TC}:Ci a []=true:=by
 induction a with
 |nil=>rfl
 |cons x a b=>
  show(match G7 x []with
   |true=>false
   |false=>Ci a [])=true
  exact b
def wE{a b:Nat}(h:a≠b):Ci [a] [b]=true:=by
 have:G7 a [b]=false:=by
  unfold G7;have:Nat.beq a b=false:=by
   cases c:Nat.beq a b with
   |true=>simp_all
   |false=>rfl
  rw[this];rfl
 unfold Ci;rw[this];rfl
def oU{a b:Option Addr}{n c n' d:Nat}(h:∀i,d_ (.slice a n c)=some i->d_ (.slice b n' d)≠some i):Ci (C9 (.slice a n c)) (A6 0 (.slice b n' d))=true:=by
 show Ci (C9 (.slice a n c)) (C9 (.slice b n' d))=true;rcases a with _|a
 .rfl
 rcases b with _|b
 .exact nQ
 have f:a.block≠b.block:=λe=>h a.block rfl (by rw[e];rfl);have j:∀(a:Addr) n c,C9 (.slice (some a) n c)=[]∨C9 (.slice (some a) n c)=[a.block]:=λa n c=>by
  unfold C9
  grind
 rcases j a n c with e|e<;>rcases j b n' d with g|g<;>rw[e,g]
 .rfl
 .rfl
 .exact nQ
 .exact wE f
def jJ{i6:Type}{h:HL}{v:TR}{e:Nat}{enc:i6->Tn}{l:List i6}(b:po h v e enc l):∃a n c,v = .slice a n c:=by
 obtain⟨_,_,⟨rfl,_⟩|⟨id,d,g,i,f,rfl,_⟩⟩:=b
 .simp_all
 simp_all
def uI{u v:TR}(e:∃a n c,u = .slice a n c)(f:∃a n c,v = .slice a n c)(h:∀i,d_ u=some i->d_ v≠some i):Ci (C9 u) (A6 0 v)=true:=by
 obtain⟨a,n,c,rfl⟩:=e;obtain⟨b,m,d,rfl⟩:=f;exact oU h
def OM{u v:TR}(e:∃a n c,v = .slice a n c):Ci (C9 u) (A6 1 v)=true:=by
 obtain⟨b,m,d,rfl⟩:=e;exact nQ
def eR:Di []=some ():=rfl
def zJ{a b c d:Int}{K:Tp}(h1:a=c/\b=d->K true)(f:¬(a=c/\b=d)->K false):P1.eqs [(.i a,.i c),(.i b,.i d)] (@hY _ ⟨K⟩):=by
 by_cases h:a=c/\b=d
 .obtain⟨rfl,rfl⟩:=h;show K (ch _);have e:ch [(Lf.i a,Lf.i a),(Lf.i b,Lf.i b)]=true:=by simp[ch,iq]
  simp_all
 .rw[F8 h];exact f h
def xF{a b:Int}{K:Tp}(h1:a<b->K true)(c:b<=a->K false):P1.cmp .lss a b (@hY _ ⟨K⟩):=by
 rcases Int.lt_or_le a b with h|h
 .rw[td h];exact h1 h
 .rw[tf h];exact c h
def pX{i6:Type}{e cx len:Nat}{enc:i6->Tn}(b:∀a,(enc a).length=e){h:HL}{id:Nat}{l:List i6}{i o:Nat}{a a':i6}{n:Int}{new:Tn}{K:Tb}(p:h[id]?=some (.o (.cells (l.flatMap enc) e true)))(t:n=ofNat i)(k:l[i]?=some a)(c:l.length=len)(A:o+new.length<=e)
  (f:enc a'=(enc a).take o++new++(enc a).drop (o+new.length)) (r:K [] (m' h id e enc (l.set i a'))) :
  P1.h_ (A2 e (.slice (some ⟨id,0,le e⟩) len cx) n) (@hY _ ⟨λx=>P1.h_ (Dg o x) (@hY _ ⟨λy=>P1.k_ y (@hY _ ⟨P1.heap (.st y new) h (@hY _ ⟨K⟩)⟩)⟩)⟩):=by
 subst t c;have d:=ai k;have u:A2 e (.slice (some ⟨id,0,le e⟩) l.length cx) (ofNat i)=some (.pointer (some ⟨id,i*e,none⟩)):=by
  rw[qY];have q:0<=ofNat i/\ofNat i<(l.length:Int):=⟨Ga i,by simp_all⟩;simp only[n_ q];have:¬(le e=some 1):=by simp[le]
  simp_all
 refine ae u ?_;refine ae (x:=.pointer (some ⟨id,i*e+o,none⟩)) rfl ?_;refine ab (by simp[aJ,l_,aV,bF,bo,aR,aD]) ?_;have z:=aS (e:=e) (enc:=enc) (l:=l) λa _=>b a;have s:i*e+e<=l.length*e:=by
  have:=QS e (show i+1<=l.length by omega)
  grind
 have j:=gM b (l:=l) (i:=i) a d;rw[fS k]at j;have m:=gM b (l:=l) (i:=i) a' d;have hA:((l.flatMap enc).take (i*e)).length=i*e:=by grind
 have w:=b a;have v:(l.flatMap enc).take (i*e+o)++new++(l.flatMap enc).drop (i*e+o+new.length)=(l.set i a').flatMap enc:=by
  rw[←m,f];have B:(l.flatMap enc).take (i*e+o)=(l.flatMap enc).take (i*e)++(enc a).take o:=by
   conv=>lhs;rw[←j,EC]
   rw[qdn,H4 (by omega),hA,show i*e+o - i*e=o by omega,qdn,show o - (enc a).length=0 by omega,gx,GM]
  have C:(l.flatMap enc).drop (i*e+o+new.length)=(enc a).drop (o+new.length)++(l.flatMap enc).drop (i*e+e):=by
   conv=>lhs;rw[←j,EC]
   rw[l3,W3 (by omega),Ds,hA,show i*e+o+new.length - i*e=o+new.length by omega,l3,show o+new.length - (enc a).length=0 by omega,Yr]
  simp_all
 have g:(Hp.st (.pointer (some ⟨id,i*e+o,none⟩)) new).run (r_ aa h) h.length=some ([.set id (.cells ((l.set i a').flatMap enc) e true)],[]):=by
  show Jw (.pointer (some ⟨id,i*e+o,none⟩)) new (r_ aa h) h.length=_;unfold Jw;simp only;rw[bG p];simp only;unfold q9
  grind
 exact bJ g r
def PT{i6 j:Type}{e e':Nat}{enc:i6->Tn}{a:j->Tn}{l:List i6}{l':List j}{h:HL}{v v':TR}(o:po h v e enc l)(d:po h v' e' a l')(n:e≠e'){b:Nat}(g:d_ v=some b):d_ v'≠some b:=by
 intro c;obtain⟨_,_,⟨rfl,_⟩|⟨id,p,t,y,q,rfl,x,_⟩⟩:=o
 .cases g
 obtain⟨_,_,⟨rfl,_⟩|⟨f,i,k,s,r,rfl,m,_⟩⟩:=d
 .cases c
 have u:id=b:=by simpa[d_]using g
 have w:f=b:=by simpa[d_]using c
 simp_all
def Qi{i6:Type}{e:Nat}{enc:i6->Tn}(b:∀a,(enc a).length=e){h:HL}{id cx n i o k:Nat}{R:List i6}{a:i6}(q:h[id]?=some (.o (.cells (R.flatMap enc) e true)))(g:R[i]?=some a)(t:n=R.length)(v:o+k<=e) :
  A2 e (.slice (some ⟨id,0,le e⟩) n cx) (ofNat i)=some (.pointer (some ⟨id,0+i*e,none⟩))/\Dg o (.pointer (some ⟨id,0+i*e,none⟩))=some (.pointer (some ⟨id,0+i*e+o,none⟩))/\Gp h (.pointer (some ⟨id,0+i*e+o,none⟩)) (((enc a).drop o).take k):=by
 subst t;have s:=ai g;have m:A2 e (.slice (some ⟨id,0,le e⟩) R.length cx) (ofNat i)=some (.pointer (some ⟨id,0+i*e,none⟩)):=by
  rw[qY];have r:0<=ofNat i/\ofNat i<(R.length:Int):=⟨Ga i,by simp_all⟩;simp only[n_ r];have:¬(le e=some 1):=by simp[le]
  simp_all
 have d:po h (.slice (some ⟨id,0,le e⟩) R.length cx) e enc R:=by
  have j:=aS (e:=e) (enc:=enc) (l:=R) λa _=>b a;exact⟨λa _=>b a,j,.inr ⟨id,0,cx,_,true,rfl,q,Sx.t_ j⟩⟩
 obtain⟨p,c,f⟩:=d.at g;rw[m]at c;cases c;obtain⟨w,x,y⟩:=f.fd o k (by rw[b];omega);have u:Dg o (.pointer (some ⟨id,0+i*e,none⟩))=some (.pointer (some ⟨id,0+i*e+o,none⟩)):=rfl
 simp_all
def vR(b o:Nat):aJ (.pointer (some ⟨b,o,none⟩))=true:=by simp[aJ,l_,aV,bF,bo,aR,aD]
def bS{v:TR}{b o:Nat}(f:∃a n c,v = .slice a n c)(h:∀i,d_ v=some i->i≠b):Ci (C9 v) (A6 0 (.pointer (some ⟨b,o,none⟩)))=true:=by
 obtain⟨x,n,c,rfl⟩:=f;rcases x with _|x
 .rfl
 have d:x.block≠b:=h x.block rfl;have e:A6 0 (.pointer (some ⟨b,o,none⟩))=[b]:=rfl;rw[e];have g:C9 (.slice (some x) n c)=[]∨C9 (.slice (some x) n c)=[x.block]:=by
  unfold C9
  grind
 rcases g with e|e<;>rw[e]
 .rfl
 .exact wE d
def qxn:=And.intro @Qp (And.intro (@Yd _ _ cc ac aa) (And.intro (@Ym _ _ cc ac aa) (And.intro (@Yk _ _ cc ac aa) (And.intro (@Yn _ _ cc ac aa) (And.intro (@Yj _ _ cc ac aa) (And.intro (@Yh _ _ cc ac aa) (And.intro (@Yg _ _ cc ac aa) (And.intro (@Yi _ _ cc ac aa) (And.intro (@Yf _ _ cc ac aa) (And.intro (@HZ _ _ cc ac aa) (And.intro (@HY _ _ cc ac aa) (And.intro (@Ye _ _ cc ac aa) (And.intro (@Yc _ _ cc ac aa) (And.intro (@G9 _ _ cc ac aa) (And.intro (@G8 _ _ cc ac aa) (@hE))))))))))))))))
def Jc{h1 h':HL}(b:∀(j:Nat) o,h1[j]?=some o->h'[j]?=some o):tx h1 h':=by
 have a:h1.length<=h'.length:=by
  rcases Gk h'.length h1.length with h|h
  .obtain⟨o,c⟩:=aq h
   grind
  .exact h
 refine⟨h'.drop h1.length,?_⟩;have:h'.take h1.length=h1:=by
  refine GB λi=>?_
  grind
 conv=>lhs;rw[←Wp h1.length h',this]
def bQ{h1 h h':HL}(c:tx h1 h)(b:∀(j:Nat) o,j<h1.length->h[j]?=some o->h'[j]?=some o):tx h1 h':=Jc λj o a=>b j o (ai a) (c.get a)
def A9:=And.intro qxn (And.intro qxc qxa)
end Go.Am
namespace Go.Am
namespace Sx
section
variable [Cf] [C8] {C:ke} {Sg:Td} {T:Tv}
variable {j7:Type} [DecidableEq j7] (kc:j7->Tn) {kk:TJ} (hd:∀a b,v_ kk (kc a) (kc b)=some (decide (a=b)))
include hd
theorem HJ(k:j7):∀ {a:Tj} {ks:List j7} (i:Nat),a.map (·.key)=ks.map (λk=>.agg ⟨kc k⟩)->jA kk (kc k) a i=some ((ks.idxOf? k).map (i + ·))
 | [],[],i,_=>rfl
 | [],_ :: _,i,h=>by simp at h
 |_ :: _,[],i,h=>by simp at h
 |e :: a,q :: ks,i,h=>by
  simp only[DD,Hq]at h;have d:=HJ k (i+1) h.2;have c:jA kk (kc k) (e :: a) i=if k=q then some (some i)else jA kk (kc k) a (i+1):=by
   simp only[jA,h.1]
   grind
  rw[c,List.idxOf?_cons];by_cases b:k=q
  .subst b;simp
  .rw[qs b,d,qs (by grind),Option.map_map]
   congr 2
   grind
variable {kt:TP} (h1:x6 C.P kt=some true) (h2:Cz C.P 10000 kt=some kk) (h3:∀a,∃r,fF kk (kc a) (kc a)=some r)
include h1 h2 h3
omit hd in
theorem Kx(k:j7):HQ C.P kt (.agg ⟨kc k⟩)=true:=by
 obtain⟨r,a⟩:=h3 k;unfold HQ;simp only[h1,h2,a]
omit h3 hd in
theorem yQ(k:j7){a:Tj}{r:Ts}(b:jA kk (kc k) a 0=some r):uW C.P kt (.agg ⟨kc k⟩) a=some r:=by
 unfold uW;simp only[h1,h2,nX,b]
end
end Sx
namespace Sx
section
variable [Cf] [C8] {C:ke} {Sg:Td} {T:Tv}
variable {j7:Type} [DecidableEq j7] (kc:j7->Tn) {kk:TJ} (hd:∀a b,v_ kk (kc a) (kc b)=some (decide (a=b)))
def C6(h:HL)(id:Nat)(b:List (j7×Value)):Prop:=∃a c,h[id]?=some (.o (.map a c))/\a.map (λe=>(e.key,e.val))=b.map λp=>(.agg ⟨kc p.1⟩,p.2)
def C6.i_{h h':HL}{id:Nat}{a:List (j7×Value)}(g:C6 kc h id a)(f:∀o,h[id]?=some o->h'[id]?=some o):C6 kc h' id a:=by
 obtain⟨b,c,d,e⟩:=g;exact⟨b,c,f _ d,e⟩
def C6.lt{h:HL}{id:Nat}{d:List (j7×Value)}(b:C6 kc h id d):id<h.length:=by
 obtain⟨e,c,a,_⟩:=b;exact ai a
def C6.keys{a:Tj}{b:List (j7×Value)}(h:a.map (λe=>(e.key,e.val))=b.map λp=>(.agg ⟨kc p.1⟩,p.2)):a.map (·.key)=(b.map Prod.fst).map λk=>.agg ⟨kc k⟩:=by
 have:=congrArg (List.map Prod.fst) h;rw[SD,SD]at this;rw[SD];exact this
variable {kt:TP} (h1:x6 C.P kt=some true) (h2:Cz C.P 10000 kt=some kk) (h3:∀a,∃r,fF kk (kc a) (kc a)=some r)
include hd h1 h2 h3
theorem QW{h:HL}{id:Nat}{a:List (j7×Value)}{z:TR}{K:Tf}(x:C6 kc h id a)(k:j7){v:TR}(y:v = .agg ⟨kc k⟩)(H:∀cs,z≠.agg cs)(F:∀p∈a,∀cs,p.2≠.agg cs)
  (h0:k∉a.map Prod.fst->K [z]) (E:∀(i:Nat) u,a[i]?=some (k,u)->K [u]) :
  (PH C Sg T).ka (.fn (E7 C kt false z (.map (some id)) v false)) h (@hY _ ⟨K⟩):=by
 subst y;obtain⟨b,c,m,f⟩:=x;have D:∀u:Value,(∀cs,u≠.agg cs)->gm false u=some [u]:=λu G=>by
  unfold gm
  simp_all
 have d:∃cs,E7 C kt false z (.map (some id)) (.agg ⟨kc k⟩) false (r_ T h)=some cs/\K cs:=by
  unfold E7;rw[Kx kc h1 h2 h3 k];simp only[DJ,D5,if_false];rw[oh m];simp only;rw[yQ kc h1 h2 k (HJ kc hd k 0 (C6.keys kc f))];cases r:(a.map Prod.fst).idxOf? k with
  |none=>
   simp_all
  |some j=>
   obtain⟨s,w,_⟩:=qcz.1 r;have l:b.length=a.length:=by
    have:=congrArg List.length f;simpa using this
   have t:j<a.length:=by simpa using s
   have q:b[j]?=some (b[j]'(by omega)):=FN _;have g:a[j]?=some a[j]:=FN _;have n:(b.map (λe=>(e.key,e.val)))[j]?=(a.map λp=>((.agg ⟨kc p.1⟩ : Value),p.2))[j]?:=by rw[f]
   rw[EL,EL,q,g]at n;have B:(b[j]'(by omega)).val=a[j].2:=by
    simp_all
   have A:ed b j=some a[j].2:=by
    unfold ed
    simp_all
   grind
 obtain⟨cs,e,o⟩:=d;exact dq e o
theorem QX{h:HL}{id:Nat}{b:List (j7×Value)}{u:TR}{K:Tb}(j:C6 kc h id b)(k:j7)(i:k∉b.map Prod.fst){v:TR}(l:v = .agg ⟨kc k⟩)(g:∀o,C6 kc (h.set id o) id (b++[(k,u)])->K [] (h.set id o)) :
  (PH C Sg T).heap (.fn (FH C kt (.map (some id)) v u)) h (@hY _ ⟨K⟩):=by
 subst l;obtain⟨f,c,d,e⟩:=j;have a:(Hp.fn (FH C kt (.map (some id)) (.agg ⟨kc k⟩) u)).run (r_ T h) h.length=some ([.set id (.map (f++[{ key:=.agg ⟨kc k⟩,val:=u,born:=c }]) (c+1))],[]):=by
  show FH C kt (.map (some id)) (.agg ⟨kc k⟩) u (r_ T h) h.length=_;unfold FH;simp only;rw[Kx kc h1 h2 h3 k];simp only[DJ,D5,if_false];rw[oh d];simp only;rw[yQ kc h1 h2 k (HJ kc hd k 0 (C6.keys kc e)),qdg.2 i];rfl
 exact bJ a (g _ ⟨_,_,GL (ai d),by simp[e]⟩)
end
section
variable [Cf] [C8] {C:ke} {T:Tv}
abbrev K6:=K3×K3
def JW(k:K6):Tn:=EP k.1++EP k.2
abbrev kk6:TJ:=[.i .i64,.i .i64,.i .u8,.i .i64,.i .i64,.i .u8]
def OK(a b:K6):v_ kk6 (JW a) (JW b)=some (decide (a=b)):=by
 have g:cX .i64 .i64=true:=rfl;have i:cX .u8 .u8=true:=rfl;obtain⟨⟨j,k,c⟩,l,m,d⟩:=a;obtain⟨⟨n,o,e⟩,p,q,f⟩:=b;simp only[JW,EP,DC,Ds,v_,g,i,iJ,QR];have e3:decide (ofNat c=ofNat e)=decide (c=e):=decide_eq_decide.2 ⟨λh=>Jg h,λh=>by rw[h]⟩;have e4:decide (ofNat d=ofNat f)=decide (d=f):=decide_eq_decide.2 ⟨λh=>Jg h,λh=>by rw[h]⟩
 grind
def Ka(a:K6):∃r,fF kk6 (JW a) (JW a)=some r:=by
 have b:cX .i64 .i64=true:=rfl;have c:cX .u8 .u8=true:=rfl;simp only[JW,EP,DC,Ds,fF,b,c,iJ];exact⟨_,rfl⟩
end
end Sx
end Go.Am
namespace Go.Am
open Sx
abbrev Lit:=Nat×Bool
def xr(a b:Bool):Bool:=!decide (a=b)
def ub(V:Tx)(l:Lit):Bool:=xr (V l.1) l.2
def Nx(a:Bool):xr a false=a:=by cases a<;>rfl
def e7(a:Bool):xr a true = !a:=by cases a<;>rfl
def LX(a b c:Bool):xr (xr a b) c=xr a (xr b c):=by cases a<;>cases b<;>cases c<;>rfl
def z1(a b:Bool):xr a b=xr b a:=by cases a<;>cases b<;>rfl
def z2(a:Bool):xr a a=false:=by cases a<;>rfl
def g0{a b c:Bool}:xr a b=xr c b↔a=c:=by cases a<;>cases b<;>cases c<;>decide
structure Hn(U:List Lit)(r:TF):Prop where
 cl:∀(i:Nat) u,U[i]?=some u->u.1<U.length
 rk:∀(i:Nat) u,U[i]?=some u->u.1≠i->r u.1<r i
 rt:∀(i:Nat) u,U[i]?=some u->u.1=i->u.2=false
inductive Rt(U:List Lit):Lit->Lit->Prop
 |here {l:Lit} (h:U[l.1]?=some (l.1,false)):Rt U l l
 |step {l l' u:Lit} (h:U[l.1]?=some u) (hne:u.1≠l.1) (hr:Rt U (u.1,xr l.2 u.2) l'):Rt U l l'
def Rt.root{U:List Lit}{l l':Lit}(h:Rt U l l'):U[l'.1]?=some (l'.1,false):=by
 induction h with
 |here h=>exact h
 |step _ _ _ a=>exact a
def Rt.det{U:List Lit}{l a b:Lit}(h:Rt U l a)(h':Rt U l b):a=b:=by
 induction h with
 |here h=>
  cases h' with
  |here _=>rfl
  |step d c _=>
   simp_all
 |step h c _ f=>
  cases h' with
  |here d=>
   grind
  |step d _ e=>
   simp_all
def Rt.ex{U:List Lit}{r:TF}(b:Hn U r):∀(n:Nat) (l:Lit),r l.1=n->l.1<U.length->∃l',Rt U l l':=by
 intro n
 induction n using Nat.strongRecOn with
 |_ n f=>
  intro l h d;obtain⟨u,a⟩:=aq d;by_cases e:u.1=l.1
  .have:=b.rt _ _ a e;refine⟨l,.here ?_⟩
   grind
  .have g:=b.rk _ _ a e;obtain⟨l',c⟩:=f (r u.1) (by omega) (u.1,xr l.2 u.2) rfl (b.cl _ u a);exact⟨l',.step a e c⟩
def Rt.not{U:List Lit}{l l':Lit}(h:Rt U l l')(b:Bool):Rt U (l.1,xr l.2 b) (l'.1,xr l'.2 b):=by
 induction h with
 |here h=>exact .here h
 |step h d _ e=>
  refine .step h d ?_;rw[show ∀a c:Bool,xr (xr a b) c=xr (xr a c) b from λa c=>by cases a<;>cases b<;>cases c<;>rfl];exact e
def Rt.lt{U:List Lit}{l l':Lit}(h:Rt U l l'):l'.1<U.length:=ai h.root
def YR(U:List Lit)(V:Tx):Prop:=∀(i:Nat) u,U[i]?=some u->V i=ub V u
def Rt.vv{U:List Lit}{V:Tx}(a:YR U V){l l':Lit}(h:Rt U l l'):ub V l=ub V l':=by
 induction h with
 |here _=>rfl
 |step h _ _ b=>
  rw[←b];unfold ub;rw[a _ _ h];unfold ub;rw[LX]
  congr 1
  exact z1 _ _
def Rs(U:List Lit)(W:TE)(V:Tx):Prop:=YR U V/\∀i:Nat,U[i]?=some (i,false)->(W[i]?=some 1->V i=true)/\(W[i]?=some (-1)->V i=false)
def F7(U:List Lit)(W:TE):Prop:=W.length=U.length/\∀x∈W,x=0∨x=1∨x = -1
def eb{U:List Lit}{r:TF}(j:Hn U r)(W:TE):∃V,Rs U W V:=by
 classical
 obtain⟨V,k⟩ : ∃V:Nat->Bool,∀i c,Rt U (i,false) c->V i=xr (decide (W[c.1]?=some 1)) c.2:=by
  refine⟨λi=>decide (∃c,Rt U (i,false) c/\xr (decide (W[c.1]?=some 1)) c.2=true),λi c h=>?_⟩;rw[Wm,Es];exact⟨λ⟨o,f,g⟩=>by rw[h.det f];exact g,λg=>⟨c,h,g⟩⟩
 refine⟨V,λi u l=>?_,λi n=>?_⟩
 .by_cases e:u.1=i
  .have:=j.rt i u l e;obtain⟨a,b⟩:=u;simp only at e this;subst e this;unfold ub;rw[Nx]
  .obtain⟨c,d⟩:=Rt.ex j _ (u.1,false) rfl (j.cl _ u l);have m:=d.not u.2;simp only at m;have f:Rt U (i,false) (c.1,xr c.2 u.2):=.step l e m;unfold ub;rw[k _ _ f,k _ _ d,LX]
 .rw[k _ _ (.here n),Nx]
  simp_all
def kv(W:TE)(l:Lit):Int:=if l.2 then -(W.getD l.1 0)else W.getD l.1 0
def Kn(U:List Lit)(W:TE)(l:Lit)(x:Int):Prop:=∃l',Rt U l l'/\x=kv W l'
def Kn.det{U:List Lit}{W:TE}{l:Lit}{x y:Int}(h:Kn U W l x)(h':Kn U W l y):x=y:=by
 obtain⟨a,c,rfl⟩:=h;obtain⟨b,d,rfl⟩:=h';rw[c.det d]
def ze{U:List Lit}{W:TE}(a:F7 U W)(l:Lit):kv W l=0∨kv W l=1∨kv W l = -1:=by
 have:W.getD l.1 0=0∨W.getD l.1 0=1∨W.getD l.1 0 = -1:=by
  rw[List.getD_eq_getElem?_getD];cases h:W[l.1]? with
  |none=>left;rfl
  |some x=>exact a.2 x (Cb h)
 unfold kv;omega
theorem getD_some{W:TE}{i:Nat}{x:Int}(h:W.getD i 0=x)(a:x≠0):W[i]?=some x:=by
 grind
def Kz{U:List Lit}{W:TE}{V:Tx}(d:Rs U W V){l':Lit}(e:U[l'.1]?=some (l'.1,false)):(kv W l'=1->ub V l'=true)/\(kv W l' = -1->ub V l'=false):=by
 obtain⟨a,c⟩:=d.2 _ e;obtain⟨i,b⟩:=l';unfold kv ub;simp only at a c ⊢;cases b with
 |false=>
  rw[Nx]
  grind
 |true=>
  rw[e7]
  grind
def Kn.vv{U:List Lit}{W:TE}{V:Tx}(b:Rs U W V){l:Lit}{x:Int}(h:Kn U W l x):(x=1->ub V l=true)/\(x = -1->ub V l=false):=by
 obtain⟨c,a,rfl⟩:=h;rw[a.vv b.1];exact Kz b a.root
def DN(l:Lit):Int:=if l.2 then -1 else 1
def Cr(W:TE)(l:Lit):TE:=if W.getD l.1 0=0 then W.set l.1 (DN l)else W
def u3(l:Lit):DN l≠0:=by unfold DN;omega
def tZ{U:List Lit}{W:TE}(a:F7 U W)(l:Lit):F7 U (Cr W l):=by
 unfold Cr;split
 .refine⟨by rw[Fy];exact a.1,λx b=>?_⟩;rcases t3 b with h|rfl
  .exact a.2 x h
  .unfold DN;omega
 .exact a
def Lq{U:List Lit}{W:TE}(s:F7 U W){l l':Lit}(h:Rt U l l')(o:(Cr W l').getD l'.1 0=DN l')(V:Tx):Rs U (Cr W l') V↔Rs U W V/\ub V l=true:=by
 have a:=h.root;have g:l'.1<W.length:=by rw[s.1];exact h.lt
 obtain⟨i,b⟩:=l';simp only at a g o;have d:∀V,YR U V->(ub V l=true↔V i = !b):=λV r=>by
  rw[h.vv r];unfold ub;simp only;generalize V i=y;cases y<;>cases b<;>decide
 have t:∀j,j≠i->(Cr W (i,b))[j]?=W[j]?:=λj n=>by
  unfold Cr
  grind
 have f:=getD_some o (u3 _);have v:W[i]?=some 0∨W[i]?=some (DN (i,b)):=by
  unfold Cr at f
  grind
 constructor
 .rintro⟨c,m⟩;have k:V i = !b:=by
   obtain⟨p,q⟩:=m i a;rw[f]at p q;cases b with
   |false=>exact p rfl
   |true=>exact q rfl
  refine⟨⟨c,λj n=>?_⟩,(d V c).2 k⟩
  grind
 .rintro⟨⟨c,m⟩,u⟩;have k:=(d V c).1 u;refine⟨c,λj n=>?_⟩;by_cases e:j=i
  .subst e;rw[f,k];cases b with
   |false=>exact⟨λ_=>rfl,λe=>(by cases e)⟩
   |true=>exact⟨λe=>(by cases e),λ_=>rfl⟩
  simp_all
def Re{U:List Lit}{W:TE}(f:F7 U W){l l':Lit}(d:Rt U l l')(c:(Cr W l').getD l'.1 0≠DN l'):Cr W l'=W/\∀V,Rs U W V->ub V l=false:=by
 have a:=d.root;have b:l'.1<W.length:=by rw[f.1];exact d.lt
 unfold Cr at c ⊢;by_cases g:W.getD l'.1 0=0
 .simp_all
 .rw[qs g]at c ⊢;refine⟨rfl,λV e=>?_⟩;rw[d.vv e.1];refine(Kz e a).2 ?_;have h:W.getD l'.1 0=0∨W.getD l'.1 0=1∨W.getD l'.1 0 = -1:=by
   rw[List.getD_eq_getElem?_getD,FN b];exact f.2 _ (List.getElem_mem b)
  unfold kv;unfold DN at c
  grind
def Z5{U:List Lit}{W:TE}(l':Lit){l:Lit}{x:Int}(h:Kn U W l x)(c:x≠0):Kn U (Cr W l') l x:=by
 obtain⟨a,b,rfl⟩:=h;refine⟨a,b,?_⟩;unfold Cr;split
 next d=>
  by_cases e:l'.1=a.1
  .exfalso;apply c;unfold kv
   simp_all
  .unfold kv
   simp_all
 .rfl
def Z4{U:List Lit}{W:TE}{l l':Lit}(a:Rt U l l')(b:(Cr W l').getD l'.1 0=DN l'):Kn U (Cr W l') l 1:=by
 refine⟨l',a,?_⟩;unfold kv;rw[b];unfold DN;split<;>rfl
def Q6{U:List Lit}{a b:Nat}{x:Bool}(d:U[a]?=some (a,false))(V:Tx):YR (U.set a (b,x)) V↔YR U V/\V a=ub V (b,x):=by
 constructor
 .intro h;refine⟨λi u c=>?_,h a _ (GL (ai d))⟩;by_cases e:i=a
  .subst e;rw[d]at c;cases c;unfold ub;rw[Nx]
  .exact h i u (by grind)
 .rintro⟨f,g⟩ i u c;by_cases e:i=a
  .grind
  .rw[Ha (De e)]at c;exact f i u c
def sW{U:List Lit}{r:TF}(f:Hn U r){a b:Nat}{x:Bool}(g:U[a]?=some (a,false))(q:U[b]?=some (b,false))(p:a≠b):∃r',Hn (U.set a (b,x)) r':=by
 classical
 refine⟨λi=>r i+if ∃n,Rt U (i,false) (a,n)then r b+1 else 0,λi u c=>?_,λi u c j=>?_,λi u c e=>?_⟩
 .rw[Fy];by_cases e:i=a
  .grind
  .rw[Ha (De e)]at c;exact f.cl i u c
 .by_cases e:i=a
  .subst e;rw[GL (ai g)]at c;cases c;have m:¬ ∃n,Rt U (b,false) (i,n):=by
    rintro⟨n,h⟩;have:=(Rt.here (l:=(b,false)) q).det h
    simp_all
   have o:∃n,Rt U (i,false) (i,n):=⟨false,.here g⟩
   grind
  .rw[Ha (De e)]at c;have m:=f.rk i u c j;have o:(∃n,Rt U (u.1,false) (a,n))↔∃n,Rt U (i,false) (a,n):=by
    constructor
    .rintro⟨n,h⟩;refine⟨xr n u.2,.step (u:=u) c j ?_⟩;have:=h.not u.2;exact this
    .rintro⟨n,h⟩;cases h with
     |here d=>
      omega
     |step d _ s=>
      rw[c]at d;cases d;have:=s.not (xr false u.2);simp only[z2]at this;exact⟨_,this⟩
   simp_all
 .by_cases k:i=a
  .grind
  .rw[Ha (De k)]at c;exact f.rt i u c e
def xR{U:List Lit}{W:TE}{a b:Nat}{x:Bool}(c:U[a]?=some (a,false))(e:U[b]?=some (b,false))(d:a≠b){V:Tx}
  (f:V a=ub V (b,x)->((W[b]?=some 1->V b=true)/\(W[b]?=some (-1)->V b=false))->(W[a]?=some 1->V a=true)/\(W[a]?=some (-1)->V a=false)) :
  Rs (U.set a (b,x)) W V↔Rs U W V/\V a=ub V (b,x):=by
 unfold Rs;rw[Q6 c]
 grind
def D'(U:List Lit)(W:TE)(n:Bool)(p q:Lit):List Lit×Bool:=
 if p.1=q.1 then(U,n||xr p.2 q.2)
 else if kv W p≠0/\kv W q≠0 then(U.set p.1 (q.1,xr p.2 q.2),n || !decide (kv W p=kv W q))
 else if kv W p≠0 then(U.set q.1 (p.1,xr p.2 q.2),n)
 else(U.set p.1 (q.1,xr p.2 q.2),n)
def kv0{W:TE}{l:Lit}(h:kv W l=0):W.getD l.1 0=0:=by
 unfold kv at h;omega
def ZD{U:List Lit}{W:TE}{r:TF}(B:Hn U r)(m:F7 U W)(n:Bool){p q a b:Lit}(C:Rt U p a)(D:Rt U q b) :
  (∃r',Hn (D' U W n a b).1 r')/\F7 (D' U W n a b).1 W/\∀V,((D' U W n a b).2=false/\Rs (D' U W n a b).1 W V)↔(n=false/\Rs U W V/\ub V p=ub V q):=by
 have f:=C.root;have g:=D.root;have i:∀ {V},YR U V->(ub V p=ub V q↔V a.1=ub V (b.1,xr a.2 b.2)):=λ{V} u=>by
  rw[C.vv u,D.vv u];unfold ub;simp only;generalize V a.1=x;generalize V b.1=y;generalize a.2=z;generalize b.2=w;cases x<;>cases y<;>cases z<;>cases w<;>decide
 have A:∀ {V},YR U V->(ub V p=ub V q↔V b.1=ub V (a.1,xr a.2 b.2)):=λ{V} u=>by
  rw[C.vv u,D.vv u];unfold ub;simp only;generalize V a.1=x;generalize V b.1=y;generalize a.2=z;generalize b.2=w;cases x<;>cases y<;>cases z<;>cases w<;>decide
 have s:∀ {l:Lit} {V:Tx},kv W l=0->(W[l.1]?=some 1->V l.1=true)/\(W[l.1]?=some (-1)->V l.1=false):=λ{l V} h=>by
  have:=kv0 h
  grind
 unfold D';by_cases e:a.1=b.1
 .rw[n_ e];refine⟨⟨r,B⟩,m,λV=>?_⟩;simp only;constructor
  .rintro⟨d,c⟩;rw[F']at d;refine⟨d.1,c,(i c.1).2 ?_⟩;unfold ub;rw[d.2,Nx,e]
  .rintro⟨d,c,j⟩;refine⟨?_,c⟩;have:=(i c.1).1 j;unfold ub at this;simp only at this;rw[e]at this;rw[d,mH];revert this;generalize V b.1=y;generalize xr a.2 b.2=z;cases y<;>cases z<;>decide
 rw[qs e];by_cases v:kv W a≠0/\kv W b≠0
 .rw[n_ v];refine⟨sW B f g e,⟨by rw[Fy];exact m.1,m.2⟩,λV=>?_⟩;simp only;have K:=ze m a;have L:=ze m b;by_cases E:kv W a=kv W b
  .rw[Fo E,DJ,Bool.or_false,xR f g e]
   .exact⟨λh=>⟨h.1,h.2.1,(i h.2.1.1).2 h.2.2⟩,λh=>⟨h.1,h.2.1,(i h.2.1.1).1 h.2.2⟩⟩
   .intro d c;have F:∀ {l:Lit},W[l.1]?=some 1∨W[l.1]?=some (-1)->(W[l.1]?=some 1↔kv W l=if l.2 then -1 else 1)/\(W[l.1]?=some (-1)↔kv W l=if l.2 then 1 else -1):=λ{l} h=>by
     unfold kv
     grind
    have G:∀ {l:Lit},kv W l≠0->W[l.1]?=some 1∨W[l.1]?=some (-1):=λ{l} h=>by
     have J:=ze m (l.1,false);unfold kv at J h
     grind
    have H:=F (G v.1);have I:=F (G v.2);unfold ub at d;simp only at d;rw[d];rw[H.1,H.2,E];rw[I.1,I.2]at c;revert c;generalize V b.1=y;generalize kv W b=k at *;cases a.2<;>cases b.2<;>cases y<;>simp[xr]<;>omega
  .rw[Gg E,Ex,Bool.or_true];constructor
   .simp_all
   .rintro⟨_,c,j⟩;exfalso;rw[C.vv c.1,D.vv c.1]at j;have M:=Kz c f;have N:=Kz c g
    grind
 rw[qs v];by_cases o:kv W a≠0
 .rw[n_ o];have t:kv W b=0:=Classical.byContradiction λh=>v ⟨o,h⟩;refine⟨sW B g f (De e),⟨by rw[Fy];exact m.1,m.2⟩,λV=>?_⟩;simp only;rw[xR g f (De e) λ_ _=>s t];exact⟨λ⟨d,c,j⟩=>⟨d,c,(A c.1).2 j⟩,λ⟨d,c,j⟩=>⟨d,c,(A c.1).1 j⟩⟩
 .rw[qs o];have t:kv W a=0:=Classical.byContradiction λh=>o h;refine⟨sW B f g e,⟨by rw[Fy];exact m.1,m.2⟩,λV=>?_⟩;simp only;rw[xR f g e λ_ _=>s t];exact⟨λ⟨d,c,j⟩=>⟨d,c,(i c.1).2 j⟩,λ⟨d,c,j⟩=>⟨d,c,(i c.1).1 j⟩⟩
def M7:Nat->TC->List (TC)
 |0,_=>[[]]
 |n+1,l=>l.flatMap λa=>(M7 n (l.erase a)).map (a :: ·)
def Dk:List (TC)->List (List (TC))
 | []=>[[]]
 |l :: ls=>(M7 l.length l).flatMap λp=>(Dk ls).map (p :: ·)
def Gi{i6 g9:Type}(f:i6->g9->g9×Bool):List i6->g9->g9×Bool
 | [],s=>(s,true)
 |x :: xs,s=>if (f x s).2 then Gi f xs (f x s).1 else((f x s).1,false)
def oD{i6 g9:Type}{f:i6->g9->g9×Bool}{x:i6}{xs:List i6}{s:g9}:Gi f (x :: xs) s=if (f x s).2 then Gi f xs (f x s).1 else((f x s).1,false):=rfl
def uk{i6 g9:Type}{f:i6->g9->g9×Bool}:∀ {xs ys:List i6} {s:g9},Gi f (xs++ys) s=if (Gi f xs s).2 then Gi f ys (Gi f xs s).1 else Gi f xs s
 | [],ys,s=>rfl
 |x :: xs,ys,s=>by
  rw[DC,oD,oD];split
  .exact uk
  .rfl
def tL:∀ {n:Nat} {l p:TC},l.length=n->p∈M7 n l->p.Perm l
 |0,l,p,c,b=>by
  have b:p=[]:=by simpa[M7]using b
  simp_all
 |n+1,l,p,c,b=>by
  unfold M7 at b;obtain⟨a,f,b⟩:=Gc.1 b;obtain⟨q,d,rfl⟩:=CH.1 b;have e:=tL (l:=l.erase a) (by simp_all) d
  grind
abbrev x_:=Lit×Lit×Lit×Lit
def bC(V:Tx)(f:x_):Bool:=xr (xr (ub V f.1) (ub V f.2.1)) (xr (ub V f.2.2.1) (ub V f.2.2.2))
def NQ(F:List x_)(V:Tx):Prop:=∀f∈F,bC V f=false
def Sg(U:List Lit)(W:TE)(f:x_)(x:Int):Prop:=∃a b c d,Kn U W f.1 a/\Kn U W f.2.1 b/\Kn U W f.2.2.1 c/\Kn U W f.2.2.2 d/\x=a*b*c*d
def Hv(U:List Lit)(W:TE)(F:List x_):Prop:=∀f∈F,∀x,Sg U W f x->¬x<0
def Wy{a b c d:Int}(e:a=0∨a=1∨a = -1)(f:b=0∨b=1∨b = -1)(g:c=0∨c=1∨c = -1)(h:d=0∨d=1∨d = -1):a*b*c*d=0∨a*b*c*d=1∨a*b*c*d = -1:=by
 grind
def Kn.Jj{U:List Lit}{W:TE}(b:F7 U W){l:Lit}{x:Int}(h:Kn U W l x):x=0∨x=1∨x = -1:=by
 obtain⟨a,_,rfl⟩:=h;exact ze b a
def kC{U:List Lit}{W:TE}(g:F7 U W){F:List x_}{f:x_}(s:f∈F){x:Int}(t:Sg U W f x)(i:x<0):∀V,Rs U W V->¬NQ F V:=by
 intro V e r;have h:=r f s;obtain⟨a,b,c,d,j,k,l,m,rfl⟩:=t;have u:=j.Jj g;have v:=k.Jj g;have w:=l.Jj g;have rd:=m.Jj g;have n:=j.vv e;have o:=k.vv e;have p:=l.vv e;have q:=m.vv e;unfold bC at h;revert h;rcases u with rfl|rfl|rfl
 .simp at i
 all_goals rcases v with rfl|rfl|rfl
 all_goals try (simp at i;done)
 all_goals rcases w with rfl|rfl|rfl
 all_goals try (simp at i;done)
 all_goals rcases rd with rfl|rfl|rfl
 all_goals try (simp at i;done)
 all_goals first|rw[n.1 rfl]|rw[n.2 rfl]
 all_goals first|rw[o.1 rfl]|rw[o.2 rfl]
 all_goals first|rw[p.1 rfl]|rw[p.2 rfl]
 all_goals first|rw[q.1 rfl]|rw[q.2 rfl]
 all_goals decide
def ZH{U:List Lit}{W:TE}(g:F7 U W){F:List x_}(q:Hv U W F)(r:∀f∈F,∃a b c d,Kn U W f.1 a/\Kn U W f.2.1 b/\Kn U W f.2.2.1 c/\Kn U W f.2.2.2 d/\a≠0/\b≠0/\c≠0/\d≠0){V:Tx}(e:Rs U W V):NQ F V:=by
 intro f l;obtain⟨a,b,c,d,h,i,j,k,t,u,v,w⟩:=r f l;have s:=q f l _ ⟨a,b,c,d,h,i,j,k,rfl⟩;have x:=h.Jj g;have y:=i.Jj g;have z:=j.Jj g;have rd:=k.Jj g;have m:=h.vv e;have n:=i.vv e;have o:=j.vv e;have p:=k.vv e;unfold bC;rcases x with rfl|rfl|rfl
 .exact absurd rfl t
 all_goals rcases y with rfl|rfl|rfl
 all_goals try (exact absurd rfl u)
 all_goals rcases z with rfl|rfl|rfl
 all_goals try (exact absurd rfl v)
 all_goals rcases rd with rfl|rfl|rfl
 all_goals try (exact absurd rfl w)
 all_goals try (exfalso;exact s (by decide))
 all_goals first|rw[m.1 rfl]|rw[m.2 rfl]
 all_goals first|rw[n.1 rfl]|rw[n.2 rfl]
 all_goals first|rw[o.1 rfl]|rw[o.2 rfl]
 all_goals first|rw[p.1 rfl]|rw[p.2 rfl]
 all_goals decide
abbrev _root_.Ti:=Nat->Nat->Nat
def CO(pn:Ti)(a b:Nat):Lit:=if a<b then(pn a b,false)else(pn b a,true)
def JR{pn:Ti}{a b:Nat}(h:a≠b):CO pn b a=((CO pn a b).1,xr (CO pn a b).2 true):=by
 unfold CO;by_cases c:a<b
 .rw[n_ c,qs (by omega)];rfl
 .rw[qs c,n_ (by omega)];rfl
def Fh(D:List (TC))(p r:TC)(R:List (TC)):List (List (TC)):=(M7 r.length r).flatMap λq=>(Dk R).map λt=>D++(p++q) :: t
def zj{D:List (TC)}{p r:TC}{R:List (TC)}(e:r≠[]):Fh D p r R=r.flatMap λa=>Fh D (p++[a]) (r.erase a) R:=by
 unfold Fh;obtain⟨n,c⟩ : ∃n,r.length=n+1:=⟨r.length - 1,by have:=kE.2 e;omega⟩;rw[c,show M7 (n+1) r=r.flatMap λa=>(M7 n (r.erase a)).map (a :: ·)from rfl,List.flatMap_assoc];have g:∀l:List Nat,(∀a∈l,a∈r)->(l.flatMap λx=>((M7 n (r.erase x)).map (x :: ·)).flatMap λq=>(Dk R).map λt=>D++(p++q) :: t)=l.flatMap λa=>(M7 (r.erase a).length (r.erase a)).flatMap λq=>(Dk R).map λt=>D++(p++[a]++q) :: t:=by
  intro l
  induction l with
  |nil=>intro _;rfl
  |cons a l f=>
   intro h;rw[SF,SF,f λb d=>h b (E2 _ d)]
   congr 1
   rw[List.length_erase_of_mem (h a (by simp)),c,y1]
   simp_all
 simp_all
def zi{D:List (TC)}{p l:TC}{R:List (TC)}:Fh D p [] (l :: R)=Fh (D++[p]) [] l R:=by
 unfold Fh;simp[M7,Dk,List.map_flatMap];rfl
def zh{D:List (TC)}{p:TC}:Fh D p [] []=[D++[p]]:=by
 simp[Fh,M7,Dk]
def NL(pn:Ti)(V:Tx)(p:TC):Prop:=p.Pairwise λa b=>ub V (CO pn a b)=true
def GV(pn:Ti)(V:Tx)(D:List (TC))(p r:TC):Prop:=(∀q∈D,NL pn V q)/\NL pn V p/\∀a∈p,∀b∈r,ub V (CO pn a b)=true
def rP{pn:Ti}{V:Tx}{D:List (TC)}{p r:TC}{id:Nat}(hY:id∈r)(a:r.Nodup):GV pn V D (p++[id]) (r.erase id)↔GV pn V D p r/\∀b∈r.erase id,ub V (CO pn id b)=true:=by
 unfold GV NL
 grind
def Ni{pn:Ti}{V:Tx}{D:List (TC)}{p l:TC}:GV pn V (D++[p]) [] l↔GV pn V D p []:=by
 unfold GV NL;constructor
 .simp_all
 .rintro⟨c,d,_⟩;refine⟨λq e=>?_,by simp,λa b=>by cases b⟩
  grind
def SX{pn:Ti}{V:Tx}{D:List (TC)}{p r:TC}{R:List (TC)}{x:List (TC)}(e:x∈Fh D p r R)(h:∀q∈x,NL pn V q):GV pn V D p r:=by
 unfold Fh at e;obtain⟨q,k,e⟩:=Gc.1 e;obtain⟨t,_,rfl⟩:=CH.1 e;have j:=tL rfl k;have c:=h (p++q) (by simp);unfold NL at c;rw[hR]at c;exact⟨λd i=>h d (by simp[i]),c.1,λa f b g=>c.2.2 a f b (j.mem_iff.2 g)⟩
def hC(pn:Ti)(S:(Nat->Bool)->Prop)(F:List x_)(x:List (TC)):Prop:=∃V,S V/\NQ F V/\∀q∈x,NL pn V q
def Db(pn:Ti)(S:(Nat->Bool)->Prop)(F:List x_)(x:List (TC)):Bool:=@decide (hC pn S F x) (Classical.propDecidable _)
def zB{pn:Ti}{S:(Nat->Bool)->Prop}{F:List x_}{x:List (TC)}:Db pn S F x=true↔hC pn S F x:=by
 unfold Db
 simp_all
structure L0(U:List Lit)(pn:Ti)(S:(Nat->Bool)->Prop)(W:TE)(D:List (TC))(p r:TC):Prop where
 ok:F7 U W
 sem:∀V,Rs U W V↔S V/\GV pn V D p r
 kn:(∀q∈D,q.Pairwise λa b=>Kn U W (CO pn a b) 1)/\p.Pairwise (λa b=>Kn U W (CO pn a b) 1)/\∀a∈p,∀b∈r,Kn U W (CO pn a b) 1
section
variable {U:List Lit} {pn:Ti} {S:(Nat->Bool)->Prop} {F:List x_}
def L0.next{W:TE}{D:List (TC)}{p l:TC}(h:L0 U pn S W D p []):L0 U pn S W (D++[p]) [] l:=by
 obtain⟨d,e,f⟩:=h.kn;refine⟨h.ok,λV=>by rw[Ni];exact h.sem V,λq c=>?_,by simp,λa b=>by cases b⟩
 grind
structure GR(U:List Lit)(pn:Ti)(S:(Nat->Bool)->Prop)(W:TE)(D:List (TC))(p r:TC)(id:Nat)(B:TC):Prop where
 ok:F7 U W
 sem:∀V,Rs U W V↔(S V/\GV pn V D p r)/\∀b∈B,ub V (CO pn id b)=true
 kn:(∀q∈D,q.Pairwise λa b=>Kn U W (CO pn a b) 1)/\p.Pairwise (λa b=>Kn U W (CO pn a b) 1)/\(∀a∈p,∀b∈r,Kn U W (CO pn a b) 1)/\∀b∈B,Kn U W (CO pn id b) 1
def L0.start{W:TE}{D:List (TC)}{p r:TC}(h:L0 U pn S W D p r)(id:Nat):GR U pn S W D p r id []:=
 ⟨h.ok,λV=>⟨λa=>⟨(h.sem V).1 a,λb c=>by cases c⟩,λa=>(h.sem V).2 a.1⟩,h.kn.1,h.kn.2.1,h.kn.2.2,λb c=>by cases c⟩
def GR.set{W:TE}{D:List (TC)}{p r:TC}{id:Nat}{B:TC}(h:GR U pn S W D p r id B){b:Nat}{l':Lit}(f:Rt U (CO pn id b) l')(g:(Cr W l').getD l'.1 0=DN l'):GR U pn S (Cr W l') D p r id (B++[b]):=by
 obtain⟨m,n,o,s⟩:=h.kn;have e:∀ {l:Lit},Kn U W l 1->Kn U (Cr W l') l 1:=λh=>Z5 l' h (by decide);refine⟨tZ h.ok l',λV=>?_,λq k=>(m q k).imp e,n.imp e,λa i b j=>e (o a i b j),λc d=>?_⟩
 .rw[Lq h.ok f g V,h.sem V,and_assoc]
  grind
 .rcases Ed.1 d with d|d
  .exact e (s c d)
  .rw[Fm]at d;subst d;exact Z4 f g
def GR.placed{W:TE}{D:List (TC)}{p r:TC}{id:Nat}{B:TC}(h:GR U pn S W D p r id B)(hY:id∈r)(c:r.Nodup)(e:∀b,b∈B↔b∈r.erase id):L0 U pn S W D (p++[id]) (r.erase id):=by
 obtain⟨d,i,j,k⟩:=h.kn;refine⟨h.ok,λV=>?_,d,?_,λa f b g=>?_⟩
 .rw[h.sem V,rP hY c,and_assoc]
  simp_all
 .grind
 grind
def GR.fail{W:TE}{D:List (TC)}{p r:TC}{id:Nat}{B:TC}(h:GR U pn S W D p r id B)(hY:id∈r)(a:r.Nodup)(j:∀b∈B,b∈r.erase id)(c:∀V,Rs U W V->NQ F V->(∀b∈r.erase id,ub V (CO pn id b)=true)->False)(R:List (TC)):(Fh D (p++[id]) (r.erase id) R).filter (Db pn S F)=[]:=by
 rw[List.filter_eq_nil_iff];intro x l d;obtain⟨V,f,g,i⟩:=zB.1 d;have e:=(rP hY a).1 (SX l i);exact c V ((h.sem V).2 ⟨⟨f,e.1⟩,λb k=>e.2 b (j b k)⟩) g e.2
def L0.leaf{L:TF}(C:Hn U L){W:TE}{D:List (TC)}{p:TC}(h:L0 U pn S W D p [])(H:Hv U W F)(I:∀f∈F,∀l∈[f.1,f.2.1,f.2.2.1,f.2.2.2],∃q∈D++[p],∃a∈q,∃b∈q,a≠b/\l=CO pn a b):Db pn S F (D++[p])=true:=by
 rw[zB];obtain⟨V,z⟩:=eb C W;obtain⟨B,y⟩:=(h.sem V).1 z;obtain⟨M,N,_⟩:=h.kn;have n:∀q∈D++[p],q.Pairwise λa b=>Kn U W (CO pn a b) 1:=λq m=>by
  grind
 have k:∀f∈F,∀l∈[f.1,f.2.1,f.2.2.1,f.2.2.2],∃x,Kn U W l x/\x≠0:=λf g l J=>by
  obtain⟨q,m,a,E,b,G,r,rfl⟩:=I f g l J;obtain⟨i,s⟩:=DZ E;obtain⟨j,t⟩:=DZ G;have o:=n q m;rw[M8]at o;have v:=FN (ai s);have w:=FN (ai t);rw[s]at v;rw[t]at w;rcases qdf i j with e|e|e
  .grind
  .grind
  .have:=o j i (ai t) (ai s) e;rw[←DU v,←DU w]at this;obtain⟨A,u,K⟩:=this;rw[JR (De r)];refine⟨-1,⟨(A.1,xr A.2 true),u.not true,?_⟩,by decide⟩;unfold kv at K ⊢;rw[e7]
   grind
 refine⟨V,B,ZH h.ok H (λf g=>?_) z,λq m=>?_⟩
 .obtain⟨a,O,T⟩:=k f g f.1 (by simp);obtain⟨b,P,X⟩:=k f g f.2.1 (by simp);obtain⟨c,Q,Y⟩:=k f g f.2.2.1 (by simp);obtain⟨d,R,Z⟩:=k f g f.2.2.2 (by simp)
  grind
 .rcases Ed.1 m with m|m
  .exact y.1 q m
  .rw[Fm]at m;subst m;exact y.2.1
end
end Go.Am
namespace Go.Am
open Sx Go.Proofs
def sJ{a b:Bool}{K:Tp}:P1.eqs [(.b a,.b b)] (@hY _ ⟨K⟩)=K (decide (a=b)):=by
 cases a<;>cases b<;>rfl
structure XC where
 w:Nat
 v:Nat
 xc:Value
 r:Nat×Int×Int
 at_:Value
 ids:Value
 lay:Value
 us:Value
 pr:Nat
 up:Value
 va:Value
 fo:Value
def ah(c:XC)(n:Bool):Tn:=[.int .i64 (ofNat c.w),.int .i64 (ofNat c.v),c.xc,.int .u8 (ofNat c.r.1),.int .i64 c.r.2.1,.int .i64 c.r.2.2,c.at_,c.ids,c.lay,c.us,.map (some c.pr),c.up,c.va,c.fo,.bool n]
def C'(l:Lit):Tn:=[.int .i64 (ofNat l.1),.bool l.2]
def dI(l:Lit):(C' l).length=2:=rfl
def Cg(x:Int):Tn:=[.int .i64 x]
def dZ(x:Int):(Cg x).length=1:=rfl
def IJ(f:x_):Tn:=C' f.1++C' f.2.1++C' f.2.2.1++C' f.2.2.2
def sE(f:x_):(IJ f).length=8:=rfl
section
variable {h:HL} {b:Nat} {c:XC} {n:Bool} (hb:h[b]?=some (.o (.cells (ah c n) 15 true))) {U:List Lit} (hU:po h c.up 2 C' U) {r:TF} (hF:Hn U r)
include hb hU hF
theorem vg{l:Lit}(q:l.1<U.length):∃l',Rt U l l'/\aI cc ac 142 [.v (i' b),.i (ofNat l.1),.b l.2] (f_ aa h) [.i (ofNat l'.1),.b l'.2] (f_ aa h):=by
 have s:=x142 (ls:=[.v (i' b),.i (ofNat l.1),.b l.2]) (K:=λt g=>g=h/\∃l',Rt U l l'/\t=[.i (ofNat l'.1),.b l'.2]) (H:=h) (pu (au _) (km (HM u_))) (by
  unfold UZ;simp only[u7];refine b_ ?_;refine aG (m:=r l.1) (λm ls g=>∃k:Lit,ls=[.i (ofNat k.1),.b k.2]/\g=h/\m=r k.1/\k.1<U.length/\∀l',Rt U k l'->Rt U l l') ⟨l,rfl,rfl,rfl,q,λ_ h=>h⟩ ?_;rintro m ls g ⟨k,rfl,rfl,rfl,p,f⟩ j a;refine Da ?_;refine b_ ?_;obtain⟨u,d⟩:=aq p;refine br (ds:=[c.up]) hb (by simp[ah]) rfl ?_;refine b_ ?_;refine ab hU.g_ ?_;refine j8 ?_;refine dF (cs:=[.int .i64 (ofNat u.1)]) hU rfl d rfl (by omega) ?_;refine b_ ?_;by_cases e:u.1=k.1
  .rw[CQ (by rw[e])];refine b_ ?_;have:=hF.rt _ _ d e;refine⟨by trivial,k,f k (.here ?_),by trivial⟩
   grind
  .rw[CS (λh=>e (Jg h))];refine b_ ?_;refine br (ds:=[c.up]) hb (by simp[ah]) rfl ?_;refine b_ ?_;refine ab hU.g_ ?_;refine j8 ?_;refine aP hU rfl d ?_;rw[show C' u=[.int .i64 (ofNat u.1),.bool u.2]from rfl];refine b_ ?_;rw[sJ];exact a (r u.1) _ _ (hF.rk _ _ d e) ⟨(u.1,xr k.2 u.2),rfl,rfl,rfl,hF.cl _ u d,λl' h=>f l' (.step d e h)⟩)
 grind
variable {W:TE} (hW:F7 U W) (hV:po h c.va 1 Cg W)
include hW hV
theorem kV{l:Lit}(k:l.1<U.length):∃x,Kn U W l x/\aI cc ac 143 [.v (i' b),.i (ofNat l.1),.b l.2] (f_ aa h) [.i x] (f_ aa h):=by
 obtain⟨a,g,j⟩:=vg hb hU hF k;have e:a.1<W.length:=by rw[hW.1];exact g.lt
 obtain⟨y,f⟩:=aq e;have m:=hW.2 y (Cb f);have d:kv W a=if a.2 then -y else y:=by
  unfold kv
  simp_all
 refine⟨kv W a,⟨a,g,rfl⟩,?_⟩;exact xK x143 (pu (au _) (km (HM u_))) (by
  unfold U0;simp only[u7];refine b_ ?_;refine am j ?_;refine b_ ?_;rw[d];cases p:a.2 with
  |true=>
   refine b_ ?_;refine br (ds:=[c.va]) hb (by simp[ah]) rfl ?_;refine b_ ?_;refine ab hV.g_ ?_;refine j8 ?_;refine aP hV rfl f ?_;rw[show Cg y=[.int .i64 y]from rfl];simp(disch:=omega)only[↓mc]
   try simp_all
  |false=>
   refine b_ ?_;refine br (ds:=[c.va]) hb (by simp[ah]) rfl ?_;refine b_ ?_;refine ab hV.g_ ?_;refine j8 ?_;refine aP hV rfl f ?_;rw[show Cg y=[.int .i64 y]from rfl];refine b_ ?_
   simp_all)
theorem ZI{F:List x_}(m:po h c.fo 8 IJ F)(R:F.length<=1000000)(y:∀f∈F,f.1.1<U.length/\f.2.1.1<U.length/\f.2.2.1.1<U.length/\f.2.2.2.1<U.length) :
  ∃e:Bool,aI cc ac 116 [.v (i' b)] (f_ aa h) [.b e] (f_ aa h)/\(e=true->Hv U W F)/\(e=false->∃f∈F,∃x,Sg U W f x/\x<0):=by
 have T:=x116 (ls:=[.v (i' b)]) (K:=λrs Q=>Q=h/\∃e:Bool,rs=[.b e]/\(e=true->Hv U W F)/\(e=false->∃f∈F,∃x,Sg U W f x/\x<0)) (H:=h) (pu (au _) u_) (by
  unfold UW;simp only[u7];refine b_ ?_;refine br (ds:=[c.fo]) hb (by simp[ah]) rfl ?_;refine b_ ?_;refine ab m.g_ ?_;refine j8 ?_;refine bu m ?_;refine ma F.length (λj=>∀(i:Nat) f,i<j->F[i]?=some f->∀x,Sg U W f x->¬x<0) (j0:=0) rfl (CM _) (λi f h=>by omega) ?_;intro j hj hi L t;refine b_ ?_;by_cases p:j<F.length
  case neg=>
   obtain rfl:j=F.length:=by omega
   rw[aK (x5 _)];refine b_ ?_;refine⟨by trivial,true,by trivial,λ_ f w x J=>?_,λh=>by cases h⟩;obtain⟨i,z⟩:=DZ w
   grind
  rw[aL p];refine b_ ?_;obtain⟨f,w⟩:=aq p;obtain⟨V,X,Y,Z⟩:=y f (Cb w);obtain⟨d,A,M⟩:=kV hb hU hF hW hV V;obtain⟨l,B,N⟩:=kV hb hU hF hW hV X;obtain⟨u,C,O⟩:=kV hb hU hF hW hV Y;obtain⟨x4,D,P⟩:=kV hb hU hF hW hV Z;have r1:=A.Jj hW;have r2:=B.Jj hW;have r3:=C.Jj hW;have r4:=D.Jj hW;have s2:d*l=0∨d*l=1∨d*l = -1:=by
   grind
  have s3:d*l*u=0∨d*l*u=1∨d*l*u = -1:=by
   grind
  have s4:=Wy r1 r2 r3 r4;refine aP m rfl w ?_;rw[show IJ f=[.int .i64 (ofNat f.1.1),.bool f.1.2,.int .i64 (ofNat f.2.1.1),.bool f.2.1.2,.int .i64 (ofNat f.2.2.1.1),.bool f.2.2.1.2,.int .i64 (ofNat f.2.2.2.1),.bool f.2.2.2.2]from rfl];refine b_ ?_;refine bE (g9:=Int) 4 (λj s=>[.i s,.i (ofNat j)]) (λ_ _=>h) (λj s=>s=(match j with|0=>1|1=>d|2=>d*l|3=>d*l*u|_=>d*l*u*x4)) (j0:=0) (s0:=1) rfl rfl (CM _) rfl ?_;rintro k s hk q E a;refine b_ ?_;obtain rfl|rfl|rfl|rfl|rfl:k=0∨k=1∨k=2∨k=3∨k=4:=by omega
  .rw[td (by decide)];refine b_ ?_;refine ae (x:=()) rfl ?_;refine ae (x:=[.i (ofNat f.1.1),.b f.1.2]) rfl ?_;refine b_ ?_;refine am M ?_;refine b_ ?_;rw[q,GK (by simp only;omega) (by simp only;omega)];refine j8 ?_;exact a _ (by omega) (by simp)
  .rw[td (by decide)];refine b_ ?_;refine ae (x:=()) rfl ?_;refine ae (x:=[.i (ofNat f.2.1.1),.b f.2.1.2]) rfl ?_;refine b_ ?_;refine am N ?_;refine b_ ?_;rw[q,GK (by simp only;omega) (by simp only;omega)];refine j8 ?_;exact a _ (by omega) rfl
  .rw[td (by decide)];refine b_ ?_;refine ae (x:=()) rfl ?_;refine ae (x:=[.i (ofNat f.2.2.1.1),.b f.2.2.1.2]) rfl ?_;refine b_ ?_;refine am O ?_;refine b_ ?_;rw[q,GK (by simp only;omega) (by simp only;omega)];refine j8 ?_;exact a _ (by omega) rfl
  .rw[td (by decide)];refine b_ ?_;refine ae (x:=()) rfl ?_;refine ae (x:=[.i (ofNat f.2.2.2.1),.b f.2.2.2.2]) rfl ?_;refine b_ ?_;refine am P ?_;refine b_ ?_;rw[q,GK (by simp only;omega) (by simp only;omega)];refine j8 ?_;exact a _ (by omega) rfl
  .rw[tf (by decide)];refine b_ ?_;simp only at q;have S:Sg U W f s:=⟨d,l,u,x4,A,B,C,D,q⟩;by_cases I:s<0
   .rw[td I];refine b_ ?_
    grind
   .rw[tf (by omega)];refine b_ ?_;rw[aT (by omega)];refine t p λi g z G x J=>?_;by_cases e:i=j
    .subst e;rw[w]at G;cases G;obtain⟨a1,a2,a3,a4,q1,q2,q3,q4,rfl⟩:=J;rw[q1.det A,q2.det B,q3.det C,q4.det D,←q];exact I
    grind)
 grind
end
abbrev K2:=Nat×Nat
def D8(k:K2):Tn:=[.int .i64 (ofNat k.1),.int .i64 (ofNat k.2)]
abbrev kk2:TJ:=[.i .i64,.i .i64]
def OJ(a b:K2):v_ kk2 (D8 a) (D8 b)=some (decide (a=b)):=by
 have c:cX .i64 .i64=true:=rfl;obtain⟨d,e⟩:=a;obtain⟨f,g⟩:=b;have e3:∀x y:Nat,decide (ofNat x=ofNat y)=decide (x=y):=λx y=>decide_eq_decide.2 ⟨λh=>Jg h,λh=>by rw[h]⟩;simp only[D8,v_,c,iJ,QR,e3]
 grind
def J'(a:K2):∃r,fF kk2 (D8 a) (D8 a)=some r:=by
 have b:cX .i64 .i64=true:=rfl;simp only[D8,fF,b,iJ];exact⟨_,rfl⟩
def NA(h:HL)(id:Nat)(pn:Ti):Prop:=∃a:List (K2×Value),C6 D8 h id a/\(∀(i:Nat) k u,a[i]?=some (k,u)->u = .int .i64 (ofNat (pn k.1 k.2)))/\∀k,k∉a.map Prod.fst->pn k.1 k.2=0
def NA.i_{h h':HL}{id:Nat}{pn:Ti}(d:NA h id pn)(c:∀o,h[id]?=some o->h'[id]?=some o):NA h' id pn:=by
 obtain⟨e,a,b⟩:=d;exact⟨e,a.i_ D8 c,b⟩
def YB{h:HL}{id:Nat}{pn:Ti}(a:NA h id pn)(x y:Nat){K:Tf}(j:K [.int .i64 (ofNat (pn x y))]):P1.ka (.fn (E7 cc 153 false (.int .i64 (ofNat 0)) (.map (some id)) (.agg ⟨[.int .i64 (ofNat x),.int .i64 (ofNat y)]⟩) false)) h (@hY _ ⟨K⟩):=by
 obtain⟨l,c,f,g⟩:=a;refine QW D8 OJ (by kernel_rfl) (by kernel_rfl) J' c (x,y) rfl (λb e=>by cases e) (λp a b e=>?_) (λk=>?_) λi u d=>?_
 .obtain⟨i,d⟩:=DZ a
  grind
 .simp_all
 grind
def jR{h:HL}{b:Nat}{c:XC}{n:Bool}(a:h[b]?=some (.o (.cells (ah c n) 15 true))){pn:Ti}(d:NA h c.pr pn)(x y:Nat):aI cc ac 110 [.v (i' b),.i (ofNat x),.i (ofNat y)] (f_ aa h) [.i (ofNat (CO pn x y).1),.b (CO pn x y).2] (f_ aa h):=by
 exact xK WW (pu (au _) (km (km u_))) (by
  unfold UV;simp only[u7];refine b_ ?_;unfold CO;by_cases e:x<y
  .rw[n_ e,aL e];refine b_ ?_;refine br (ds:=[.map (some c.pr)]) a (by simp[ah]) rfl ?_;refine b_ ?_;refine ab rfl ?_;refine j8 ?_;refine YB d x y ?_;refine b_ ?_
   simp_all
  .rw[qs e,aK (by omega)];refine b_ ?_;refine br (ds:=[.map (some c.pr)]) a (by simp[ah]) rfl ?_;refine b_ ?_;refine ab rfl ?_;refine j8 ?_;refine YB d y x ?_;refine b_ ?_
   simp_all)
end Go.Am
namespace Go.Am
namespace Sx
section
variable [Cf]
end
section
variable [Cf]
end
end Sx
end Go.Am
namespace Go.Am
open Sx Go.Proofs
def MI{g n:Nat}{ls a:TG}{sg:GH}(i:ac g=some sg)(e:sg.plain=true)(d:jH ls=true)(h:GG n (.f g) ls .empty Hk=some a):∀H,aI cc ac g ls H a H:=by
 obtain⟨j,k,c,b⟩:=(qa n).f g ls .empty Hk a (gq d) h;rw[LM]at b;cases b;exact zW g sg ls _ _ i e c
def Kr(a:TG):Option (TG)->Bool:=λo=>@Option.rec _ (λ_=>Bool) false (λb=>UH b a) o
def kW{g n:Nat}{ls a:TG}{sg:GH}(i:ac g=some sg)(d:sg.plain=true)(c:jH ls=true)(h:Kr a (GG n (.f g) ls .empty Hk)=true):∀H,aI cc ac g ls H a H:=by
 cases e:GG n (.f g) ls .empty Hk with
 |none=>rw[e]at h;cases h
 |some b=>
  rw[e]at h;have h:UH b a=true:=h;rw[qP h]at e;exact MI i d c e
end Go.Am
namespace Go.Am
open Sx
def mA(t:Nat):Int:=match t with
 |0=>1|1=>0|2=>-1|3=>0|4=>-1|5=>0|6=>1|_=>0
def mB(t:Nat):Int:=match t with
 |0=>0|1=>-1|2=>0|3=>1|4=>0|5=>-1|6=>0|_=>1
def mC(t:Nat):Int:=match t with
 |0=>0|1=>1|2=>0|3=>-1|4=>0|5=>-1|6=>0|_=>1
def mD(t:Nat):Int:=match t with
 |0=>1|1=>0|2=>-1|3=>0|4=>1|5=>0|6=>-1|_=>0
def C5(s t:Nat):Nat:=if s<4 then(if t<4 then(s+t)%4 else 4+(t+4 - s)%4)else(if t<4 then 4+(s+t)%4 else(t+8 - s)%4)
abbrev Mv:=Nat×Int×Int
def af(a b:Mv):Mv:=(C5 a.1 b.1,mA b.1*a.2.1+mB b.1*a.2.2+b.2.1,mC b.1*a.2.1+mD b.1*a.2.2+b.2.2)
def CJ:Mv:=(0,0,0)
def CD(n:Int)(m:Mv):Prop:=m.1<8/\-n<=m.2.1/\m.2.1<=n/\-n<=m.2.2/\m.2.2<=n/\(m.2.1+m.2.2)%2=0
def t8{t:Nat}(h:t<8):t=0∨t=1∨t=2∨t=3∨t=4∨t=5∨t=6∨t=7:=by omega
def fH{s t:Nat}:C5 s t<8:=by
 unfold C5
 grind
def Bj{a b c:Nat}(e:a<8)(f:b<8)(g:c<8):C5 (C5 a b) c=C5 a (C5 b c):=by
 have d:((range 8).all λa=>(range 8).all λb=>(range 8).all λc=>C5 (C5 a b) c==C5 a (C5 b c))=true:=by decide +kernel
 simp_all
def cu{a b c:Mv}(d:a.1<8)(e:b.1<8)(f:c.1<8):af (af a b) c=af a (af b c):=by
 obtain⟨g,i,j⟩:=a;obtain⟨k,l,h⟩:=b;obtain⟨m,n,o⟩:=c;simp only at d e f;unfold af;refine Wq (Bj d e f) ?_;simp only;clear d;rcases t8 e with rfl|rfl|rfl|rfl|rfl|rfl|rfl|rfl<;>rcases t8 f with rfl|rfl|rfl|rfl|rfl|rfl|rfl|rfl<;>
  (refine Wq ?_ ?_<;>simp[C5,mA,mB,mC,mD]<;>omega)
def oC{a:Mv}(b:a.1<8):af a CJ=a:=by
 obtain⟨t,x,y⟩:=a;have b:t<8:=b;unfold af CJ;simp only[mA,mB,mC,mD];refine Wq ?_ (Wq (by simp) (by simp));rcases t8 b with rfl|rfl|rfl|rfl|rfl|rfl|rfl|rfl<;>simp[C5]
def kR{a:Mv}(b:a.1<8):af CJ a=a:=by
 obtain⟨t,x,y⟩:=a;have b:t<8:=b;unfold af CJ;refine Wq ?_ (Wq (by simp) (by simp));rcases t8 b with rfl|rfl|rfl|rfl|rfl|rfl|rfl|rfl<;>simp[C5]
def Gt(t:Nat):Nat:=match t with
 |1=>3|3=>1|n=>n
def EV(m:Mv):Mv:=(Gt m.1,-(mA (Gt m.1)*m.2.1+mB (Gt m.1)*m.2.2),-(mC (Gt m.1)*m.2.1+mD (Gt m.1)*m.2.2))
def Pt{m:Mv}(h:m.1<8):af m (EV m)=CJ:=by
 obtain⟨t,x,y⟩:=m;have h:t<8:=h;unfold af EV CJ;rcases t8 h with rfl|rfl|rfl|rfl|rfl|rfl|rfl|rfl<;>simp[C5,mA,mB,mC,mD,Gt]<;>omega
def aY{n k:Int}{m:Mv}(h:CD n m)(a:n<=k):CD k m:=by
 unfold CD at *;omega
def zC{n:Int}(h:0<=n):CD n CJ:=by
 unfold CD CJ;simp only;omega
def eh{n k:Int}{a b:Mv}(g:CD n a)(h:CD k b):CD (n+k) (af a b):=by
 obtain⟨d,j,l⟩:=a;obtain⟨o,p,f⟩:=b;unfold CD af at *;simp only at *;obtain⟨c,i⟩:=g;obtain⟨e,m⟩:=h;refine⟨fH,?_⟩;clear c;rcases t8 e with rfl|rfl|rfl|rfl|rfl|rfl|rfl|rfl<;>simp only[mA,mB,mC,mD]<;>omega
def VQ{n:Int}{a:Mv}(d:CD n a):CD n (EV a):=by
 obtain⟨c,f,g⟩:=a;unfold CD EV at *;simp only at *;obtain⟨b,e⟩:=d;rcases t8 b with rfl|rfl|rfl|rfl|rfl|rfl|rfl|rfl<;>simp[mA,mB,mC,mD,Gt]<;>omega
abbrev Ln:=Nat×Int
def wd(l:Ln):Mv:=match l.1 with
 |1=>(4,2*l.2,0)
 |2=>(6,0,2*l.2)
 |3=>(5,l.2,l.2)
 |_=>(7,-l.2,l.2)
def zA{l:Ln}{n:Int}(h:-n<=l.2/\l.2<=n):CD (2*n) (wd l):=by
 obtain⟨k,c⟩:=l;unfold wd CD
 grind
def rz(l:Ln):(wd l).1<8:=by
 unfold wd;split<;>simp
def MW(l:Ln):af (wd l) (wd l)=CJ:=by
 obtain⟨k,c⟩:=l;unfold wd af CJ;simp only;split<;>simp[C5,mA,mB,mC,mD]<;>omega
abbrev Cl:=Int×Int×Nat
def q8(c:Cl)(e:Nat):Ln:=match e with
 |0=>(match c.2.2 with
  |0=>(2,c.2.1)
  |1=>(1,c.1+1)
  |2=>(2,c.2.1+1)
  |_=>(1,c.1))
 |1=>(3,c.1+c.2.1+1)
 |_=>(4,c.2.1 - c.1)
def DA(c:Cl)(e:Nat):Cl:=match e with
 |0=>(match c.2.2 with
  |0=>(c.1,c.2.1 - 1,2)
  |1=>(c.1+1,c.2.1,3)
  |2=>(c.1,c.2.1+1,0)
  |_=>(c.1 - 1,c.2.1,1))
 |1=>(c.1,c.2.1,[1,0,3,2].getD c.2.2 0)
 |_=>(c.1,c.2.1,[3,2,1,0].getD c.2.2 0)
def qT(t q:Nat):Nat:=if t<4 then(q+t)%4 else([0,3,2,1].getD ((q+t)%4) 0+(if t%2=0 then 0 else 2))%4
def aA(m:Mv)(c:Cl):Cl:=(mA m.1*c.1+mB m.1*c.2.1+m.2.1 - (if mA m.1+mB m.1=1 then 0 else 1),mC m.1*c.1+mD m.1*c.2.1+m.2.2 - (if mC m.1+mD m.1=1 then 0 else 1),qT m.1 c.2.2)
def dP(l:Ln)(c:Cl):Bool:=match l.1 with
 |1=>decide (l.2<=c.1)
 |2=>decide (l.2<=c.2.1)
 |3=>decide (l.2<=c.1+c.2.1+(if c.2.2=1∨c.2.2=2 then 1 else 0))
 |_=>decide (l.2<=c.2.1 - c.1 - (if c.2.2=2∨c.2.2=3 then 0 else 1))
def xJ{l:Ln}{c:Cl}{e:Nat}(a:1<=l.1/\l.1<=4)(b:c.2.2<4)(d:e<3)(h:dP l c≠dP l (DA c e)):l=q8 c e:=by
 obtain⟨k,n⟩:=l;obtain⟨x,y,q⟩:=c;simp only at a b;obtain rfl|rfl|rfl|rfl:q=0∨q=1∨q=2∨q=3:=by omega
 all_goals obtain rfl|rfl|rfl:e=0∨e=1∨e=2:=by omega
 all_goals obtain rfl|rfl|rfl|rfl:k=1∨k=2∨k=3∨k=4:=by omega
 all_goals
  simp[dP,DA,q8]at h ⊢
 all_goals omega
def eT(t e:Nat):Nat:=if e=0 then 0 else if t%2=0/\t<4∨t=5∨t=7 then e else 3 - e
def iR{m:Mv}{c:Cl}{e:Nat}(a:m.1<8)(b:c.2.2<4)(d:e<3):aA m (DA c e)=DA (aA m c) (eT m.1 e):=by
 obtain⟨t,f,g⟩:=m;obtain⟨x,y,q⟩:=c;simp only at a b;rcases t8 a with rfl|rfl|rfl|rfl|rfl|rfl|rfl|rfl
 all_goals obtain rfl|rfl|rfl|rfl:q=0∨q=1∨q=2∨q=3:=by omega
 all_goals obtain rfl|rfl|rfl:e=0∨e=1∨e=2:=by omega
 all_goals simp[aA,DA,eT,qT,mA,mB,mC,mD]
 all_goals omega
def VD{m:Mv}{c:Cl}{e:Nat}(a:m.1<8)(b:c.2.2<4)(d:e<3):af m (wd (q8 (aA m c) (eT m.1 e)))=af (wd (q8 c e)) m:=by
 obtain⟨t,f,g⟩:=m;obtain⟨x,y,q⟩:=c;simp only at a b;rcases t8 a with rfl|rfl|rfl|rfl|rfl|rfl|rfl|rfl
 all_goals obtain rfl|rfl|rfl|rfl:q=0∨q=1∨q=2∨q=3:=by omega
 all_goals obtain rfl|rfl|rfl:e=0∨e=1∨e=2:=by omega
 all_goals simp[aA,eT,qT,mA,mB,mC,mD,af,wd,q8,C5]
 all_goals omega
def lS{t e:Nat}(a:e<3):eT t e<3:=by
 unfold eT
 grind
def iW{t q:Nat}:qT t q<4:=by
 unfold qT;split<;>omega
def M4{g:Mv}{l:Ln}{c:Cl}{e:Nat}(b:g.1<8)(f:1<=l.1/\l.1<=4)(d:c.2.2<4)(a:e<3)(h:dP l (aA g c)≠dP l (aA g (DA c e))):af g (wd l)=af (wd (q8 c e)) g:=by
 rw[iR b d a]at h;have:=xJ f iW (lS a) h;rw[this];exact VD b d a
def gP{g:Mv}{c:Cl}{e:Nat}(a:g.1<8)(b:c.2.2<4)(d:e<3):aA (af (wd (q8 c e)) g) (DA c e)=aA g c:=by
 obtain⟨t,f,h⟩:=g;obtain⟨x,y,q⟩:=c;simp only at a b;rcases t8 a with rfl|rfl|rfl|rfl|rfl|rfl|rfl|rfl
 all_goals obtain rfl|rfl|rfl|rfl:q=0∨q=1∨q=2∨q=3:=by omega
 all_goals obtain rfl|rfl|rfl:e=0∨e=1∨e=2:=by omega
 all_goals simp[aA,DA,qT,mA,mB,mC,mD,af,wd,q8,C5]
 all_goals omega
end Go.Am
namespace Go.Am
open Sx Go.Proofs
def lK(f:TQ)(ls a:TG):Bool:=Kr a (GG 60 (.f f) ls .empty Hk)
def fT{f:TQ}{ls a:TG}{sg:GH}(h:lK f ls a=true)(d:ac f=some sg)(c:sg.plain=true)(b:jH ls=true):Cc f ls a:=kW (n:=60) d c b h
abbrev CI(m:Mv):TG:=[.i (ofNat m.1),.i m.2.1,.i m.2.2]
abbrev Dd(c:Cl):TG:=[.i c.1,.i c.2.1,.i (ofNat c.2.2)]
def nL{n:Int}(h:-16384<=n/\n<=16384):Cc 149 [.i n] [.b false]:=by
 refine q149 rfl ?_;unfold RV;simp only[u7]
 repeat (first|simp(disch:=omega)only[↓mc])
 try rfl
def PZ{t x y:Int}(f:0<=t/\t<8)(b:-16384<=x/\x<=16384)(c:-16384<=y/\y<=16384)(e:(x+y)%2=0):Cc 129 [.i t,.i x,.i y] [.i 0]:=by
 refine q129 rfl ?_;unfold GT;simp only[u7];rcases Int.le_total 0 (x+y)with a|a
 .repeat (first|simp(disch:=omega)only[↓mc]|refine aj (nL b) ?_|refine aj (nL c) ?_|rw[E0 a (by omega)])
 .have d:-(-(x+y)%2)=0:=by omega
  repeat (first|simp(disch:=omega)only[↓mc]|refine aj (nL b) ?_|refine aj (nL c) ?_|rw[F_ a (by omega)])
def vF{n:Int}{m:Mv}(h:CD n m)(g:n<=16384):Cc 129 (CI m) [.i 0]:=by
 obtain⟨b,c,d,e,f,a⟩:=h;exact PZ ⟨Ga _,by grind⟩ (by omega) (by omega) a
def vO{t:Nat}(h:t<8):pT ZO 0 [(ofNat t,4)] 4=some [.int .i64 (mA t),.int .i64 (mB t),.int .i64 (mC t),.int .i64 (mD t)]:=by
 rcases t8 h with rfl|rfl|rfl|rfl|rfl|rfl|rfl|rfl<;>kernel_rfl
def AY{n t:Nat}(h:t<n):EU n (ofNat t)=some ():=by
 show(match Nat.blt t n with
  |true=>some ()
  |false=>none)=some ()
 rw[show Nat.blt t n=true by simp_all]
def P3{t:Nat}(a:t<8){x y:Int}(h:-200000<=x/\x<=200000/\-200000<=y/\y<=200000):Cc 155 [.i (mA t),.i (mB t),.i (mC t),.i (mD t),.i x,.i y] [.i (mA t*x+mB t*y),.i (mC t*x+mD t*y)]:=by
 rcases t8 a with rfl|rfl|rfl|rfl|rfl|rfl|rfl|rfl
 all_goals
  simp only[mA,mB,mC,mD];refine q155 rfl ?_;unfold Sd;simp only[u7]
  repeat (first|simp(disch:=omega)only[↓mc])
  (try simp only[Hq,Lf.i.injEq,and_true,true_and]);(try omega)
def eB(s t:Nat):Bool:=lK 158 [.i (mA s),.i (mB s),.i (mC s),.i (mD s),.i (mA t),.i (mB t),.i (mC t),.i (mD t)] [.i (mA (C5 s t)),.i (mB (C5 s t)),.i (mC (C5 s t)),.i (mD (C5 s t))]
def bb(t:Nat):Bool:=lK 157 [.i (mA t),.i (mB t),.i (mC t),.i (mD t)] [.i (.ofNat t)]
def Av:((range 8).all λs=>bb s&&(range 8).all λt=>eB s t)=true:=by kernel_rfl
def LN{s t:Nat}(a:s<8)(b:t<8):Cc 158 [.i (mA s),.i (mB s),.i (mC s),.i (mD s),.i (mA t),.i (mB t),.i (mC t),.i (mD t)] [.i (mA (C5 s t)),.i (mB (C5 s t)),.i (mC (C5 s t)),.i (mD (C5 s t))]:=by
 have h:=A5.1 Av s (Cd.2 a);rw[te]at h;exact fT (A5.1 h.2 t (Cd.2 b)) rfl (by kernel_rfl) rfl
def Qa{t:Nat}(a:t<8):Cc 157 [.i (mA t),.i (mB t),.i (mC t),.i (mD t)] [.i (.ofNat t)]:=by
 have h:=A5.1 Av t (Cd.2 a);rw[te]at h;exact fT h.1 rfl (by kernel_rfl) rfl
def ML{m:Mv}{n:Int}(h:CD n m)(a:n<=16384):Cc 156 (CI m) (CI m++[.i 0]):=by
 refine q156 rfl ?_;unfold RW;simp only[u7]
 repeat (first|simp(disch:=omega)only[↓mc]|refine aj (vF h a) ?_)
 rfl
def fu{a b:Mv}{n k:Int}(c:CD n a)(d:CD k b)(p:0<=n/\0<=k/\n+k<=16384):Cc 131 (CI a++CI b) (CI (af a b)++[.i 0]):=by
 have j:=eh c d;refine q131 rfl ?_;unfold RU;simp only[u7];simp only[CI,DC,Ds]
 repeat (first|simp(disch:=omega)only[↓mc]|refine aj (vF c (by omega)) ?_|refine aj (vF d (by omega)) ?_|refine ae (AY d.1) ?_|refine ae (vO d.1) ?_|refine aj (P3 d.1 ⟨by have:=c.2;omega,by have:=c.2;omega,by have:=c.2;omega,by have:=c.2;omega⟩) ?_|refine ae (AY c.1) ?_|refine ae (vO c.1) ?_|refine aj (LN c.1 d.1) ?_|refine aj (Qa fH) ?_)
 have q:∀z:Int,(-n<=z/\z<=n)∨True:=λ_=>.inr trivial;obtain⟨l,e,f,g,h,o⟩:=j;unfold af at e f g h;simp only at e f g h;rw[EY (by omega) (by omega),EY (by omega) (by omega)];refine aj (ML (m:=af a b) ⟨l,e,f,g,h,o⟩ (by omega)) ?_;simp only[CI,DC,Ds];refine b_ ?_;rfl
def Z6{k c:Int}(b:1<=k/\k<=4)(a:-4096<=c/\c<=4096):Cc 168 [.i k,.i c] [.i 0]:=by
 refine q168 rfl ?_;unfold Si;simp only[u7]
 repeat (first|simp(disch:=omega)only[↓mc])
 try rfl
def d7{k c:Int}{m:Mv}(d:1<=k/\k<=4)(b:-4096<=c/\c<=4096)(a:m=wd (k.toNat,c)):Cc 154 [.i k,.i c] (CI m++[.i 0]):=by
 subst a;obtain rfl|rfl|rfl|rfl:k=1∨k=2∨k=3∨k=4:=by omega
 all_goals
  refine q154 rfl ?_;unfold Sc;simp only[u7]
  repeat (first|simp(disch:=omega)only[↓mc]|refine aj (Z6 (by omega) (by omega)) ?_)
  simp[wd]
def BX{l:Ln}(b:1<=l.1/\l.1<=4)(a:-4096<=l.2/\l.2<=4096):Cc 154 [.i (ofNat l.1),.i l.2] (CI (wd l)++[.i 0]):=
 d7 (k:=ofNat l.1) ⟨by grind,by grind⟩ a rfl
def z9{x y:Int}(h:-65536<=x/\x<=65536/\-65536<=y/\y<=65536):Cc 170 [.i x,.i y] [.i 0]:=by
 refine q170 rfl ?_;unfold Sj;simp only[u7]
 repeat (first|simp(disch:=omega)only[↓mc])
 try rfl
def kD(m:Mv)(x y:Int):Int×Int:=(mA m.1*x+mB m.1*y+2*m.2.1,mC m.1*x+mD m.1*y+2*m.2.2)
def KB{t:Nat}(a:t<8){n x y:Int}(h:-n<=x/\x<=n/\-n<=y/\y<=n):-n<=mA t*x+mB t*y/\mA t*x+mB t*y<=n/\-n<=mC t*x+mD t*y/\mC t*x+mD t*y<=n:=by
 rcases t8 a with rfl|rfl|rfl|rfl|rfl|rfl|rfl|rfl<;>simp only[mA,mB,mC,mD]<;>omega
def K5{m:Mv}(a:CD 16384 m){x y:Int}(h:-8000<=x/\x<=8000/\-8000<=y/\y<=8000):Cc 163 (CI m++[.i x,.i y]) [.i (kD m x y).1,.i (kD m x y).2,.i 0]:=by
 have c:=KB a.1 h;have b:=a.2;refine q163 rfl ?_;unfold Sf;simp only[u7];simp only[CI,DC,Ds]
 repeat (first|simp(disch:=omega)only[↓mc]|refine aj (vF a (by omega)) ?_|refine aj (z9 (by omega)) ?_|refine ae (AY a.1) ?_|refine ae (vO a.1) ?_|refine aj (P3 a.1 (by omega)) ?_)
 rfl
def Ou{c:Cl}(h:-4096<=c.1/\c.1<=4096/\-4096<=c.2.1/\c.2.1<=4096/\c.2.2<4):Cc 81 (Dd c) [.i 0]:=by
 have a:(ofNat c.2.2)<=3:=by grind
 refine q81 rfl ?_;unfold ZJ;simp only[u7]
 repeat (first|simp(disch:=omega)only[↓mc])
 try rfl
def P2{x y q:Int}(h:-1000000<=x/\x<=1000000/\-1000000<=y/\y<=1000000):Cc 162 [.i x,.i y,.i q] [.i (2*x+1),.i (2*y+1)]:=by
 refine q162 rfl ?_;unfold Se;simp only[u7]
 repeat (first|simp(disch:=omega)only[↓mc])
 (try simp only[Hq,Lf.i.injEq,and_true,true_and]);(try omega)
def t6(q:Nat):Int:=[0,1,0,-1].getD q 0
def l7(q:Nat):Int:=[-1,0,1,0].getD q 0
def y5{q:Nat}(h:q<4):pT hH 0 [(ofNat q,17)] 2=some [.int .i64 (t6 q),.int .i64 (l7 q)]:=by
 obtain rfl|rfl|rfl|rfl:q=0∨q=1∨q=2∨q=3:=by omega
 all_goals kernel_rfl
def VE{m:Mv}(e:CD 16384 m){c:Cl}(d:-1000<=c.1/\c.1<=1000/\-1000<=c.2.1/\c.2.1<=1000/\c.2.2<4):Cc 140 (CI m++Dd c) (Dd (aA m c)):=by
 obtain⟨t,n,o⟩:=m;obtain⟨x,y,q⟩:=c;have i:CD 16384 (t,0,0):=⟨e.1,by simp,by simp,by simp,by simp,by simp⟩;have a:=K5 (aY e (by omega)) (x:=2*x+1) (y:=2*y+1) (by simp only at d;omega);have b:=K5 (aY i (by omega)) (x:=t6 q) (y:=l7 q) (by
  have j:q<4:=d.2.2.2.2;obtain rfl|rfl|rfl|rfl:q=0∨q=1∨q=2∨q=3:=by omega
  all_goals simp[t6,l7])
 obtain⟨X,k⟩ : ∃X,(kD (t,n,o) (2*x+1) (2*y+1)).1=X:=⟨_,rfl⟩;obtain⟨Y,l⟩ : ∃Y,(kD (t,n,o) (2*x+1) (2*y+1)).2=Y:=⟨_,rfl⟩;obtain⟨U,f⟩ : ∃U,(kD (t,0,0) (t6 q) (l7 q)).1=U:=⟨_,rfl⟩;obtain⟨V,g⟩ : ∃V,(kD (t,0,0) (t6 q) (l7 q)).2=V:=⟨_,rfl⟩;rw[k,l]at a;rw[f,g]at b;have h:=e.2;have p:t<8:=e.1;have j:q<4:=d.2.2.2.2;simp only at h d;refine q140 rfl ?_;unfold Sb;simp only[u7];simp only[CI,Dd,DC,Ds]
 repeat (first|simp(disch:=omega)only[↓mc]|refine aj (P2 (by omega)) ?_|refine ae (AY j) ?_|refine ae (y5 j) ?_|refine aj a ?_|refine aj b ?_)
 rcases t8 p with rfl|rfl|rfl|rfl|rfl|rfl|rfl|rfl
 all_goals obtain rfl|rfl|rfl|rfl:q=0∨q=1∨q=2∨q=3:=by omega
 all_goals
  simp[kD,mA,mB,mC,mD,t6,l7]at k l f g;subst f g
  repeat (first|simp(disch:=omega)only[↓mc]|refine ae (by simp only[jZ,lD,CX,Int.reduceToNat,Int.reduceAdd,Int.reduceMul,Int.reduceMod,Int.reduceSub,Int.reduceNeg,Int.reduceDiv,Nat.reduceAdd,Nat.reduceMul,Nat.reduceLeDiff,Wk,cp,↓reduceIte,f2,Yr,ih,gx,DC,Ds,EM,Int.toNat_zero,Yz,u2,Int.zero_add];exact rfl) ?_|refine zK 6 ?_)
  try simp[aA,mA,mB,mC,mD,qT]
  try omega
abbrev DO:=Int×Int×Int
def my(c:DO):Tn:=[.int .i64 c.1,.int .u8 c.2.1,.int .u8 c.2.2]
def nn(c:DO):Prop:=-9223372036854775808<=c.1/\c.1<=9223372036854775807/\0<=c.2.1/\c.2.1<=255/\0<=c.2.2/\c.2.2<=255
def MG(c:DO):Bool:=decide (1<=c.2.2)&&decide (c.2.2<=3)
def Pu(k:Int):Cc 35 [.i k] [.b (decide (1<=k)&&decide (k<=3))]:=by
 refine q35 rfl ?_;unfold f35;simp only[u7];by_cases a:1<=k
 .by_cases c:k<=3
  .simp(disch:=omega)only[↓mc];simp[a,c]
  .simp(disch:=omega)only[↓mc];simp[a,c]
 .simp(disch:=omega)only[↓mc];simp[a]
def Zh(c:DO):Cc 34 [.i c.1,.i c.2.1,.i c.2.2] [.b (!MG c)]:=by
 refine q34 rfl ?_;unfold f34;simp only[u7]
 repeat (first|simp(disch:=omega)only[↓mc]|refine aj (Pu c.2.2) ?_)
 simp[MG]
abbrev Zk:Value:=.func (.func 34) ⟨[]⟩ ⟨[]⟩
def X3:aJ Zk=true:=rfl
abbrev _root_.TD:=List DO
def Vi{h:HL}{x:TR}{l:TD}(d:po h x 3 my l)(u:l.length<=4294967296):∃n:Int,aI cc ac 77 [.v x,.v Zk] (f_ aa h) [.i n] (f_ aa h)/\(0<=n↔∃c∈l,MG c=false):=by
 obtain⟨m,g,p,n,rfl,rfl,q⟩:=x77 (K:=λm g=>∃n:Int,m=[.i n]/\g=h/\(0<=n↔∃c∈l,MG c=false)) (H:=h) (pu d.g_ (pu X3 u_)) (by
  unfold f77;simp only[u7];refine b_ ?_;refine bu d ?_;refine ma l.length (λj=>∀i,i<j->∀c,l[i]?=some c->MG c=true) rfl (CM _) (λi k=>absurd k (qdw _)) ?_;intro j t k o f;refine b_ ?_;by_cases e:j<l.length
  .have a:ofNat j<ofNat l.length:=by simp_all
   rw[td a];refine b_ ?_;obtain⟨c,b⟩ : ∃c,l[j]?=some c:=⟨_,FN e⟩;refine aP d rfl b ?_;unfold my
   repeat (first|simp(disch:=omega)only[↓mc]|refine iT (sx (Zh c _) rfl [.agg [.i .i64 c.1,.i .u8 c.2.1,.i .u8 c.2.2]] rfl rfl) ?_)
   cases s:MG c with
   |true=>
    show P1.cond false _ _;refine b_ ?_;rw[EY (by grind) (by grind)]
    grind
   |false=>
    show P1.cond true _ _;refine b_ ?_
    grind
  .have a:ofNat l.length<=ofNat j:=by simp_all
   rw[tf a];refine b_ ?_;refine⟨_,rfl,by trivial,λh=>by omega,λ⟨c,b,s⟩=>?_⟩;obtain⟨i,r⟩:=DZ b
   grind)
 exact⟨n,p,q⟩
def AP{h:HL}{x:TR}{l:TD}(c:po h x 3 my l)(i:l.length<=4294967296):aI cc ac 33 [.v x,.v Zk] (f_ aa h) [.b (!l.all MG)] (f_ aa h):=by
 obtain⟨n,e,f⟩:=Vi c i;obtain⟨d,a,g,rfl,rfl⟩:=x33 (K:=λd a=>d=[.b (!l.all MG)]/\a=h) (H:=h) (pu c.g_ (pu X3 u_)) (by
  unfold f33;simp only[u7]
  repeat (first|simp(disch:=omega)only[↓mc]|refine am e ?_)
  cases j:l.all MG with
  |true=>
   have:¬0<=n:=λh=>by
    grind
   refine b_ ?_
   simp_all
  |false=>
   have:0<=n:=f.2 (by
    simp_all)
   refine b_ ?_
   simp_all)
 exact g
def Cn(w v c e:Nat):Ts:=
 match e,c%4 with
 |0,0=>if 0<c / 4 / w then some (c+2 - 4*w)else none
 |0,1=>if c / 4%w+1<w then some (c+6)else none
 |0,2=>if c / 4 / w+1<v then some (c+4*w - 2)else none
 |0,_=>if 0<c / 4%w then some (c - 6)else none
 |1,0=>some (c+1)
 |1,1=>some (c - 1)
 |1,2=>some (c+1)
 |1,_=>some (c - 1)
 |2,0=>some (c+3)
 |2,1=>some (c+1)
 |2,2=>some (c - 1)
 |2,_=>some (c - 3)
 |_,_=>none
def HU(w v c e:Nat):TG:=match Cn w v c e with
 |some n=>[.i (.ofNat (min c n)),.i (.ofNat e),.i 0]
 |none=>[.i 0,.i 0,.i 7]
def HC(w c:Nat):TG:=[.i (.ofNat (c / 4%w)),.i (.ofNat (c / 4 / w)),.i (.ofNat (c%4)),.i 0]
def LL(w v:Nat):Bool:=(range (4*w*v)).all λc=>(range 3).all λe=>Kr (HU w v c e) (GG 60 (.f 36) [.i (.ofNat w),.i (.ofNat v),.i (.ofNat c),.i (.ofNat e)] .empty Hk)
def LJ(w v:Nat):Bool:=(range (4*w*v)).all λc=>Kr (HC w c) (GG 60 (.f 40) [.i (.ofNat w),.i (.ofNat v),.i (.ofNat c)] .empty Hk)
def wl(w v:Nat):List (Nat×Nat):=(range (4*w*v)).flatMap λc=>(range 3).filterMap λe=>match Cn w v c e with
 |some n=>if c<n then some (c,e)else none
 |none=>none
def Nt(w v:Nat):Bool:=LL w v&&LJ w v
def rU:∀w v:Nat,1<=w->w<=5->1<=v->v<=5->Nt w v=true:=by
 have a:((range 5).all λw=>(range 5).all λv=>Nt (w+1) (v+1))=true:=by kernel_rfl
 intro w v c d e f;have b:=A5.1 a (w - 1) (Cd.2 (by omega));have g:=A5.1 b (v - 1) (Cd.2 (by omega))
 simp_all
def B5{w v c e n:Nat}(d:1<=w)(h:Cn w v c e=some n):n≠c:=by
 have f:c / 4%w<=c / 4:=hz _ _;have g:c / 4 / w<=c / 4:=z0 _ _;have b:c%4=0∨c%4=1∨c%4=2∨c%4=3:=by omega
 rcases e with _|_|_|e<;>rcases b with a|a|a|a<;>simp only[Cn,a]at h<;>
  first
  |grind
  |grind
  |(cases h;done)
def LI{w v:Nat}(h:Nt w v=true):LL w v=true/\LJ w v=true:=by
 unfold Nt at h
 simp_all
def I6{w v:Nat}(f:Nt w v=true){c e:Nat}(b:c<4*w*v)(d:e<3):Cc 36 [.i (.ofNat w),.i (.ofNat v),.i (.ofNat c),.i (.ofNat e)] (HU w v c e):=by
 have a:=A5.1 (LI f).1 c (Cd.2 b);exact kW (n:=60) rfl (by kernel_rfl) rfl (A5.1 a e (Cd.2 d))
def Iz{w v:Nat}(b:Nt w v=true){c:Nat}(a:c<4*w*v):Cc 40 [.i (.ofNat w),.i (.ofNat v),.i (.ofNat c)] (HC w c):=
 kW (n:=60) rfl (by kernel_rfl) rfl (A5.1 (LI b).2 c (Cd.2 a))
def FC(w v:Int):Prop:=1<=w/\1<=v/\w<=256/\v<=256/\w*v<=256
instance (w v : Int) : Decidable (FC w v) := by unfold FC; infer_instance
def I5{w v a b:Int}(h:0<=w/\w<=a/\0<=v/\v<=b):0<=w*v/\w*v<=a*b:=
 ⟨Int.mul_nonneg h.1 h.2.2.1,Int.mul_le_mul h.2.1 h.2.2.2 h.2.2.1 (by omega)⟩
def Wz(w v:Int):Cc 32 [.i w,.i v] [.i (if FC w v then 0 else 1)]:=by
 refine q32 rfl ?_;unfold f32;simp only[u7];by_cases c:1<=w
 .by_cases d:1<=v
  .by_cases e:w<=256
   .by_cases f:v<=256
    .have h:=I5 (w:=w) (v:=v) (a:=256) (b:=256) (by omega);by_cases g:w*v<=256
     .simp(disch:=omega)only[↓mc];simp[FC,c,d,e,f,g]
     .simp(disch:=omega)only[↓mc];simp[FC,g]
    .simp(disch:=omega)only[↓mc];simp[FC,f]
   .simp(disch:=omega)only[↓mc];simp[FC,e]
  .simp(disch:=omega)only[↓mc];simp[FC,d]
 .simp(disch:=omega)only[↓mc];simp[FC,c]
def rQ{w v:Int}(h:FC w v):Cc 32 [.i w,.i v] [.i 0]:=by
 have:=Wz w v;grind
def H_(w v:Int):Prop:=1<=w/\w<=5/\1<=v/\v<=5
def Lw{w v:Int}(h:H_ w v):FC w v:=by
 unfold H_ at h;have:=I5 (w:=w) (v:=v) (a:=5) (b:=5) (by omega);unfold FC;omega
def sm4{w v:Int}(h:H_ w v):4<=4*w*v/\4*w*v<=100:=by
 unfold H_ at h;have c:=I5 (w:=4*w) (v:=v) (a:=20) (b:=5) (by omega);have d:4*w<=4*w*v:=by
  have:=Int.mul_le_mul_of_nonneg_left h.2.2.1 (show 0<=4*w by omega);omega
 omega
def u0{w v:Int}(h:H_ w v)(c:Int):Cc 79 [.i w,.i v,.i c] [.b (decide (0<=c)&&decide (c<4*w*v))]:=by
 have e:=sm4 h;unfold H_ at h;refine q79 rfl ?_;unfold f79;simp only[u7];by_cases a:0<=c
 .by_cases d:c<4*w*v
  .simp(disch:=omega)only[↓mc];simp[a,d]
  .simp(disch:=omega)only[↓mc];simp[a,d]
 .simp(disch:=omega)only[↓mc];simp[a]
def Bz{w v c:Int}(h:H_ w v)(a:¬(0<=c/\c<4*w*v)):Cc 40 [.i w,.i v,.i c] [.i 0,.i 0,.i 0,.i 7]:=by
 refine q40 rfl ?_;unfold f40;simp only[u7]
 repeat (first|simp(disch:=omega)only[↓mc]|refine aj (rQ (Lw h)) ?_)
 have e:(decide (0<=c)&&decide (c<4*w*v))=false:=by simp;omega
 refine aj (e▸u0 h c) ?_;simp(disch:=omega)only[↓mc,Ex]
def yc{w v c e:Int}(h:H_ w v)(a:¬(0<=c/\c<4*w*v)):Cc 78 [.i w,.i v,.i c,.i e] [.i 0,.i 7]:=by
 refine q78 rfl ?_;unfold f78;simp only[u7]
 repeat (first|simp(disch:=omega)only[↓mc]|refine aj (Bz h a) ?_)
def BB{w v c e:Int}(h:H_ w v)(a:¬(0<=c/\c<4*w*v)):Cc 36 [.i w,.i v,.i c,.i e] [.i 0,.i 0,.i 7]:=by
 refine q36 rfl ?_;unfold f36;simp only[u7]
 repeat (first|simp(disch:=omega)only[↓mc]|refine aj (yc h a) ?_)
def uy{x y q:Int}(h:-4096<=x/\x<=4096/\-4096<=y/\y<=4096/\q<=3):Cc 81 [.i x,.i y,.i q] [.i 0]:=by
 refine q81 rfl ?_;unfold ZJ;simp only[u7];simp(disch:=omega)only[↓mc]
def qu{x y q e:Int}(h:-4096<=x/\x<=4096/\-4096<=y/\y<=4096/\q<=3)(a:2<e):Cc 104 [.i x,.i y,.i q,.i e] [.i 0,.i 0,.i 0,.i 1]:=by
 refine q104 rfl ?_;unfold R2;simp only[u7]
 repeat (first|simp(disch:=omega)only[↓mc]|refine aj (uy h) ?_)
def RI{w v:Int}(h:H_ w v):∃a b:Nat,w = .ofNat a/\v = .ofNat b/\1<=a/\a<=5/\1<=b/\b<=5:=by
 unfold H_ at h;obtain⟨a,rfl⟩:=yt (show 0<=w by omega);obtain⟨b,rfl⟩:=yt (show 0<=v by omega)
 grind
def PU{a b c:Nat}(h:(c:Int)<4*(a:Int)*(b:Int)):c<4*a*b:=by
 grind
def wc{w v c e:Int}(h:H_ w v)(f:0<=c/\c<4*w*v)(g:2<e):Cc 78 [.i w,.i v,.i c,.i e] [.i 0,.i 1]:=by
 have p:=sm4 h;obtain⟨a,b,rfl,rfl,d⟩:=RI h;obtain⟨k,rfl⟩:=yt f.1;have j:k<4*a*b:=PU f.2;have l:4*a*b<=100:=by
  grind
 refine q78 rfl ?_;unfold f78;simp only[u7];refine b_ ?_;refine aj (Iz (rU a b d.1 d.2.1 d.2.2.1 d.2.2.2) j) ?_;unfold HC;refine b_ ?_;have m:k / 4%a<=k / 4:=hz _ _;have n:k / 4 / a<=k / 4:=z0 _ _;have o:(0:Int)<=((k / 4 / a:Nat):Int):=Ga _;have r:(0:Int)<=((k / 4%a:Nat):Int):=Ga _;refine aj (qu (x:=ofNat (k / 4%a)) (y:=ofNat (k / 4 / a)) (q:=ofNat (k%4)) (by grind) g) ?_;simp(disch:=omega)only[↓mc]
def yb{w v c e:Int}(h:H_ w v)(a:0<=c/\c<4*w*v)(b:2<e):Cc 36 [.i w,.i v,.i c,.i e] [.i 0,.i 0,.i 1]:=by
 refine q36 rfl ?_;unfold f36;simp only[u7]
 repeat (first|simp(disch:=omega)only[↓mc]|refine aj (wc h a b) ?_)
def Fu(w v c e:Int):Bool:=decide (0<=c)&&decide (c<4*w*v)&&decide (e<=2)&&(match Cn w.toNat v.toNat c.toNat e.toNat with
 |some n=>Nat.blt c.toNat n
 |none=>false)
def B4{w v c e:Int}(h:H_ w v)(o:0<=e):∃a b r:Int,Cc 36 [.i w,.i v,.i c,.i e] [.i a,.i b,.i r]/\(Fu w v c e=true↔r=0/\a=c/\b=e):=by
 by_cases g:0<=c/\c<4*w*v
 .by_cases m:e<=2
  .obtain⟨a,b,rfl,rfl,d⟩:=RI h;obtain⟨k,rfl⟩:=yt g.1;obtain⟨j,rfl⟩:=yt o;have p:k<4*a*b:=PU g.2;have f:=I6 (rU a b d.1 d.2.1 d.2.2.1 d.2.2.2) p (e:=j) (by omega);unfold HU at f;cases e:Cn a b k j with
   |none=>
    rw[e]at f;refine⟨_,_,_,f,?_⟩;have:Fu (.ofNat a) (.ofNat b) (k:Int) (j:Int)=false:=by
     unfold Fu
     simp_all
    rw[this];simp
   |some n=>
    rw[e]at f;refine⟨_,_,_,f,?_⟩;have q:=B5 d.1 e;have l:Cn (ofNat a).toNat (ofNat b).toNat (k:Int).toNat (j:Int).toNat=some n:=e;unfold Fu;rw[l];simp only[te,Es,Gf,w3]
    grind
  .refine⟨_,_,_,yb h g (by omega),?_⟩;have:Fu w v c e=false:=by unfold Fu;simp[m]
   rw[this];simp
 .refine⟨_,_,_,BB h g,?_⟩;have:Fu w v c e=false:=by
   unfold Fu
   grind
  rw[this];simp
def zb{w v c e:Int}(h:Fu w v c e=true):0<=c/\c<4*w*v/\e<=2:=by
 unfold Fu at h
 simp_all
def FG(a b:DO):Bool:=decide (a.1<b.1)||(decide (a.1=b.1)&&decide (a.2.1<b.2.1))
def EF:TD->Bool
 |a :: b :: l=>FG a b&&EF (b :: l)
 |_=>true
def je:∀ {l:TD},EF l=true↔∀(i:Nat) a b,l[i]?=some a->l[i+1]?=some b->FG a b=true
 | []=>by simp[EF]
 | [a]=>by simp[EF]
 |a :: b :: l=>by
  simp only[EF,te];rw[je (l:=b :: l)];constructor
  .grind
  .intro h;exact⟨h 0 a b rfl rfl,λi x y c d=>h (i+1) x y (by simpa using c) (by simpa using d)⟩
def SJ(w v:Int)(c:DO):Bool:=Fu w v c.1 c.2.1
def FZ(w v:Int)(l:TD):Int:=if l.all MG=false then 1 else if l.all (SJ w v)=false then 7 else if EF l=true then 0 else 6
def Az(c:DO):Cc 37 [.i c.1,.i c.2.1,.i c.2.2] [.i c.1,.i c.2.1]:=by
 refine q37 rfl ?_;unfold f37;simp only[u7];simp(disch:=omega)only[↓mc]
def VW{a b:DO}(h:0<=a.1/\a.1<=1000/\0<=b.1/\b.1<=1000/\0<=a.2.1/\a.2.1<=255/\0<=b.2.1/\b.2.1<=255):∃d:Int,Cc 38 [.i a.1,.i a.2.1,.i b.1,.i b.2.1] [.i d]/\(d<0↔FG a b=true):=by
 by_cases c:a.1=b.1
 .refine⟨a.2.1 - b.2.1,?_,by simp only[FG,Gd,te,Es];omega⟩;refine q38 rfl ?_;unfold X0;simp only[u7];simp(disch:=omega)only[↓mc]
 .refine⟨a.1 - b.1,?_,by simp only[FG,Gd,te,Es];omega⟩;refine q38 rfl ?_;unfold X0;simp only[u7];simp(disch:=omega)only[↓mc]
def Uk{w v:Int}(J:H_ w v){h:HL}{x:TR}{l:TD}(q:po h x 3 my l)(E:∀c∈l,nn c)(V:l.length<=4294967296) :
  aI cc ac 16 [.i w,.i v,.v x] (f_ aa h) [.i (FZ w v l)] (f_ aa h):=by
 obtain⟨N,L,P,rfl,rfl⟩:=x16 (K:=λN L=>N=[.i (FZ w v l)]/\L=h) (H:=h) (km (km (pu q.g_ u_))) (by
  unfold f16;simp only[u7]
  repeat (first|simp(disch:=omega)only[↓mc]|refine aj (rQ (Lw J)) ?_|refine am (AP q V) ?_)
  cases u:l.all MG with
  |false=>
   simp(disch:=omega)only[↓mc,Ex];exact⟨by simp[FZ,u],by trivial⟩
  |true=>
   simp(disch:=omega)only[↓mc,DJ];refine bu q ?_;refine ma l.length (λj=>∀i,i<j->∀c,l[i]?=some c->SJ w v c=true) rfl (CM _) (λi D=>absurd D (qdw _)) ?_;intro j Z D t s;refine b_ ?_;by_cases k:j<l.length
   .rw[aL k];refine b_ ?_;obtain⟨c,m⟩:=aq k;have n:=Cb m;have I:=E c n;unfold nn at I;have O:SJ w v c=false->FZ w v l=7:=λf=>by
     have:l.all (SJ w v)=false:=List.all_eq_false.2 ⟨c,n,by simp[f]⟩;simp[FZ,u,this]
    refine aP q rfl m ?_;unfold my;refine b_ ?_;obtain⟨a,b,r,G,g⟩:=B4 (c:=c.1) (e:=c.2.1) J (by omega);refine aj G ?_;refine b_ ?_;by_cases M:r=0
    .subst M
     repeat (first|simp(disch:=omega)only[↓mc]|refine aj (Az c) ?_)
     by_cases p:a=c.1/\b=c.2.1
     .have f:SJ w v c=true:=g.2 ⟨rfl,p.1,p.2⟩;simp(disch:=omega)only[↓mc,DJ];rw[aT (by omega)]
      grind
     .have f:SJ w v c=false:=by
       rw[←Gb];intro f;have:=g.1 f;omega
      rw[F8 p];simp(disch:=omega)only[↓mc,Ex]
      simp_all
    .have f:SJ w v c=false:=by
      rw[←Gb];intro f;exact M (g.1 f).1
     refine b_ ?_
     simp_all
   .obtain rfl:j=l.length:=by omega
    rw[aK (x5 _)];refine b_ ?_;have f:l.all (SJ w v)=true:=A5.2 λc m=>by
     obtain⟨i,S⟩:=DZ m
     grind
    refine ma (j0:=1) (max 1 l.length) (λj=>1<=j/\∀(i:Nat) a b,i+1<j->l[i]?=some a->l[i+1]?=some b->FG a b=true) rfl (t5 _ _) ⟨x5 _,λi a b D=>by omega⟩ ?_;intro j T ⟨h1,hi2⟩ t s;refine b_ ?_;refine bu q ?_;by_cases k:j<l.length
    .rw[aL k];refine b_ ?_;rw[kZ h1 (by omega)];obtain⟨c,m⟩:=aq (l:=l) (i:=j - 1) (by omega);obtain⟨d,B⟩:=aq k;have A:=E c (Cb m);have C:=E d (Cb B);have Q:=zb (A5.1 f c (Cb m));have R:=zb (A5.1 f d (Cb B));have Y:=sm4 J;unfold nn at A C;refine aP q rfl m ?_;unfold my
     repeat (first|simp(disch:=omega)only[↓mc]|refine aj (Az c) ?_)
     refine aP q rfl B ?_;unfold my
     repeat (first|simp(disch:=omega)only[↓mc]|refine aj (Az d) ?_)
     obtain⟨o,W,X⟩:=VW (a:=c) (b:=d) (by omega);refine aj W ?_;refine b_ ?_;by_cases U:o<0
     .simp(disch:=omega)only[↓mc];rw[aT (by omega)]
      grind
     .have F:EF l=false:=by
       rw[←Gb,je]
       grind
      refine b_ ?_;exact⟨by simp[FZ,u,f,F],by trivial⟩
    .rw[aK (by omega)];refine b_ ?_;have y:EF l=true:=je.2 λi a b y z=>hi2 i a b (by grind) y z;exact⟨by simp[FZ,u,f,y],by trivial⟩)
 exact P
def n4(w n:Nat):Cl:=(ofNat (n / 4%w),ofNat (n / 4 / w),n%4)
def b8(w n:Nat):Nat:=10*(n / 4%w+n / 4 / w)+(if n / 4 / w=0/\n / 4%w≠0 then [1,2,1,0]else [0,1,2,1]).getD (n%4) 0
def vH(w v c e:Nat):TG:=match Cn w v c e with
 |some n=>[.i (.ofNat n),.i 0]
 |none=>[.i 0,.i 7]
def YI(w v:Nat):Bool:=(range (4*w*v)).all λc=>(range 3).all λe=>lK 78 [.i (.ofNat w),.i (.ofNat v),.i (.ofNat c),.i (.ofNat e)] (vH w v c e)
def YH(w v:Nat):Bool:=(wl w v).all λu=>lK 153 [.i (.ofNat w),.i (.ofNat v),.i (.ofNat u.1),.i (.ofNat u.2)] [.i (.ofNat (q8 (n4 w u.1) u.2).1),.i (q8 (n4 w u.1) u.2).2,.i 0]
def Zz(a b:Ln):Bool:=Nat.beq a.1 b.1&&decide (a.2=b.2)
def OX{a b:Ln}:Zz a b=true↔a=b:=by
 unfold Zz;rw[te,Es,f5]
 simp_all
def Zw(a b:Cl):Bool:=decide (a.1=b.1)&&(decide (a.2.1=b.2.1)&&Nat.beq a.2.2 b.2.2)
def OW{a b:Cl}:Zw a b=true↔a=b:=by
 unfold Zw;rw[te,te,Es,Es,f5,f5]
 simp_all
def b2(w v c e:Nat):Bool:=match Cn w v c e with
 |some n=>Nat.blt n (4*w*v)&&((match Cn w v n e with
  |some m=>Nat.beq m c
  |none=>false)&&(Zz (q8 (n4 w c) e) (q8 (n4 w n) e)&&(Zw (n4 w n) (DA (n4 w c) e) && !Nat.beq n c)))
 |none=>true
def PL(w c e:Nat):Bool:=Nat.ble 1 (q8 (n4 w c) e).1&&(Nat.ble (q8 (n4 w c) e).1 4&&(decide (-10<=(q8 (n4 w c) e).2)&&decide ((q8 (n4 w c) e).2<=10)))
def gD(w v n:Nat):Bool:=Nat.beq n 0||(range 3).any λe=>match Cn w v n e with
 |some m=>Nat.blt (b8 w m) (b8 w n)
 |none=>false
def RG(w v:Nat):Bool:=(range (4*w*v)).all λc=>gD w v c&&(range 3).all λe=>b2 w v c e&&PL w c e
def RD(w v:Nat):Bool:=YI w v&&(YH w v&&RG w v)
def U':∀w v:Nat,1<=w->w<=5->1<=v->v<=5->RD w v=true:=by
 have a:((range 5).all λw=>(range 5).all λv=>RD (w+1) (v+1))=true:=by kernel_rfl
 intro w v c d e f;have b:=A5.1 a (w - 1) (Cd.2 (by omega));have g:=A5.1 b (v - 1) (Cd.2 (by omega))
 simp_all
def Sh(w v:Nat):Prop:=1<=w/\w<=5/\1<=v/\v<=5
section
variable {w v:Nat}
def ui(h:Sh w v):YI w v=true/\YH w v=true/\RG w v=true:=by
 have:=U' w v h.1 h.2.1 h.2.2.1 h.2.2.2;unfold RD at this
 simp_all
def kg(h:Sh w v){c e:Nat}(a:c<4*w*v)(b:e<3):Cc 78 [.i (.ofNat w),.i (.ofNat v),.i (.ofNat c),.i (.ofNat e)] (vH w v c e):=
 fT (A5.1 (A5.1 (ui h).1 c (Cd.2 a)) e (Cd.2 b)) rfl (by kernel_rfl) rfl
def bx(h:Sh w v){u e:Nat}(a:(u,e)∈wl w v):Cc 153 [.i (.ofNat w),.i (.ofNat v),.i (.ofNat u),.i (.ofNat e)] [.i (.ofNat (q8 (n4 w u) e).1),.i (q8 (n4 w u) e).2,.i 0]:=
 fT (A5.1 (ui h).2.1 (u,e) a) rfl (by kernel_rfl) rfl
def I8(h:Sh w v){c:Nat}(a:c<4*w*v):gD w v c=true/\∀e,e<3->b2 w v c e=true/\PL w c e=true:=by
 have:=A5.1 (ui h).2.2 c (Cd.2 a)
 simp_all
def du(h:Sh w v){c e n:Nat}(f:c<4*w*v)(g:e<3)(i:Cn w v c e=some n):n<4*w*v/\Cn w v n e=some c/\q8 (n4 w c) e=q8 (n4 w n) e/\n4 w n=DA (n4 w c) e/\n≠c:=by
 have:=((I8 h f).2 e g).1;unfold b2 at this;rw[i]at this;simp only[te]at this;obtain⟨j,a,b,d,k⟩:=this;refine⟨by simp_all,?_,OX.1 b,OW.1 d,λe=>?_⟩
 .split at a
  .simp_all
  .cases a
 simp_all
def PN(h:Sh w v){c e:Nat}(a:c<4*w*v)(b:e<3):1<=(q8 (n4 w c) e).1/\(q8 (n4 w c) e).1<=4/\-10<=(q8 (n4 w c) e).2/\(q8 (n4 w c) e).2<=10:=by
 have:=((I8 h a).2 e b).2;unfold PL at this
 simp_all
def xw(h:Sh w v){P:Tz}(h0:P 0)(o:∀c e n,c<4*w*v->e<3->Cn w v c e=some n->P c->P n):∀n,n<4*w*v->P n:=by
 have a:∀k n,n<4*w*v->b8 w n<k->P n:=by
  intro k
  induction k with
  |zero=>omega
  |succ k p=>
   intro n b l;have hw:=(I8 h b).1;unfold gD at hw;rw[Gd]at hw;rcases hw with hw|hw
   .simp_all
   .obtain⟨e,d,f⟩:=el.1 hw;have d:=Cd.1 d;split at f
    next m g=>
     rw[Gf]at f;obtain⟨i,j,_⟩:=du h b d g
     grind
    .cases f
 intro n b;exact a (b8 w n+1) n b (by omega)
def P0{c e n:Nat}(b:c<4*w*v)(d:e<3)(f:Cn w v c e=some n)(a:c<n):(c,e)∈wl w v:=by
 unfold wl;rw[Gc];refine⟨c,Cd.2 b,QT.2 ⟨e,Cd.2 d,?_⟩⟩;simp[f,a]
def xm(h:Sh w v){c e n:Nat}(f:c<4*w*v)(a:e<3)(g:Cn w v c e=some n):(min c n,e)∈wl w v/\q8 (n4 w (min c n)) e=q8 (n4 w c) e:=by
 obtain⟨i,j,k,_,l⟩:=du h f a g;rcases Gk c n with d|b
 .rw[SH (by omega)];exact⟨P0 f a g d,rfl⟩
 .rw[Nat.min_eq_right b];exact⟨P0 i a j (by omega),k.symm⟩
end
def aO(c:DO):Ku:=(c.1,c.2.1)
def Ch(l:TD)(u e:Nat):Bool:=decide (((ofNat u,ofNat e):Ku)∈l.map aO)
def HA(H:HL)(id:Nat)(l:TD):Prop:=∃a c,H[id]?=some (.o (.map a c))/\Hu a (l.map aO)
def lY{l:TD}(h:l.Pairwise λa b=>FG a b=true):(l.map aO).Nodup:=by
 rw[List.Nodup,M_];refine h.imp λ{a b} c e=>?_;unfold FG at c;simp only[Gd,te,Es]at c;unfold aO at e
 simp_all
def Mi{H:HL}{w v:Int}{x:TR}{l:TD}(k:po H x 3 my l)(A:(l.map aO).Nodup)(I:l.length<=1000) :
  ∃G,aI cc ac 150 [.i w,.i v,.v x] (f_ aa H) [.v (.map (some H.length))] (f_ aa (H++[G]))/\HA (H++[G]) H.length l:=by
 obtain⟨r,h',t,rfl,G,rfl,u⟩:=x150 (K:=λr h'=>r=[.v (.map (some H.length))]/\∃G,h'=H++[G]/\HA h' H.length l) (H:=H) (km (km (pu k.g_ u_))) (by
  unfold U1;simp only[u7];refine b_ ?_;refine bu k ?_;refine b_ ?_;refine bu k ?_;refine bE (g9:=HO) l.length (λj _=>[.i (ofNat j)]) (λ_ G=>H++[G]) (λj G=>HA (H++[G]) H.length (l.take j)) (j0:=0) (s0:=.o (.map [] 0)) rfl rfl (CM _) ⟨[],0,by simp,rfl,λe h=>(by cases h)⟩ ?_;rintro j G J ⟨f,c,p,g⟩ s d;refine b_ ?_;by_cases b:j<l.length
  .rw[aL b];refine b_ ?_;obtain⟨a,q⟩:=aq b;have m:=k.pre (h':=H++[G]) ⟨[G],rfl⟩;refine aP m rfl q ?_;unfold my;refine b_ ?_;have y:aO a∉(l.take j).map aO:=by
    intro z;rw[List.map_take]at z;have B:=A;have E:(l.map aO)[j]?=some (aO a):=by simp_all
    have F:l.map aO=(l.map aO).take j++aO a :: (l.map aO).drop (j+1):=by
     conv=>lhs;rw[←Wp j (l.map aO)]
     rw[SB (by simp_all)]
     simp_all
    grind
   refine bJ (zv (C:=cc) (T:=aa) (n:=(H++[G]).length) (by kernel_rfl) (by kernel_rfl) p g y) ?_;rw[aT (by omega)];have e:bH (H++[G]) [.set H.length (.map (f++[{ key:=MJ (aO a),val:=.bool true,born:=c }]) (c+1))]=H++[.o (.map (f++[{ key:=MJ (aO a),val:=.bool true,born:=c }]) (c+1))]:=by
    show(H++[G]).set H.length _=_;simp
   rw[e];refine d _ b ⟨f++[{ key:=MJ (aO a),val:=.bool true,born:=c }],c+1,by simp,?_⟩;have D:(l.take (j+1)).map aO=(l.take j).map aO++[aO a]:=by
    rw[H5,q,Iu];rfl
   rw[D];exact g.push _ _
  .obtain rfl:j=l.length:=by omega
   rw[aK (x5 _)];refine b_ ?_;refine⟨by trivial,G,rfl,?_⟩;rw[Yt]at g;exact⟨f,c,p,g⟩)
 exact⟨G,t,u⟩
def q7(m:Mv):Tn:=[.int .u8 (ofNat m.1),.int .i64 m.2.1,.int .i64 m.2.2]
def da(m:Mv):(q7 m).length=3:=rfl
def Eg(w:Nat)(l:TD)(g:Mv)(c n e:Nat):Mv:=if Ch l (min c n) e then af (wd (q8 (n4 w (min c n)) e)) g else g
def yv{w v:Nat}(h:Sh w v){l:TD}{c e n:Nat}(a:c<4*w*v)(b:e<3)(j:Cn w v c e=some n){k:Int}{g:Mv}(d:CD k g)(m:0<=k):CD (k+20) (Eg w l g c n e):=by
 unfold Eg;obtain⟨_,i⟩:=xm h a b j;split
 .rw[i];have f:=PN h a b;have:=eh (zA (n:=10) ⟨f.2.2.1,f.2.2.2⟩) d
  grind
 .exact aY d (by omega)
abbrev _root_.TO:=List Mv
def NZ{w v:Nat}(d:Sh w v){l:TD}{h:HL}{x B z A D:TR}{j:Nat}{G:TO}(p:Gp h B [.int .i64 (.ofNat w),.int .i64 (.ofNat v),x])(t:Gp h z [.map (some j)])(E:HA h j l)(o:Gp h A [D])(m:po h D 3 q7 G)
  {c e n:Nat} (q:c<4*w*v) (r:e<3) (y:Cn w v c e=some n) {g:Mv} (u:G[c]?=some g) {k:Int} (F:CD k g) (H:0<=k/\k<=16000) :
  aI cc ac 152 [.i (.ofNat c),.i (.ofNat e),.v B,.v z,.v A] (f_ aa h) (CI (Eg w l g c n e)) (f_ aa h):=by
 obtain⟨N,M,K,L⟩:=E;have I:=rU w v d.1 d.2.1 d.2.2.1 d.2.2.2;obtain⟨J,s⟩:=xm d q r y;have b:=PN d q r;rw[←s]at b;have a:=I6 I q r;unfold HU at a;rw[y]at a;simp only at a;exact xK WX (km (km (pu p.g_ (pu t.g_ (pu o.g_ u_))))) (by
  unfold U2;simp only[u7]
  repeat (first|simp(disch:=omega)only[↓mc]|refine rC (ds:=[.int .i64 (.ofNat w),.int .i64 (.ofNat v)]) p (by simp) rfl ?_|refine aj a ?_|refine cU t rfl ?_|refine ab rfl ?_|refine dq (t7 (C:=cc) (T:=aa) (by kernel_rfl) (by kernel_rfl) K L (ofNat (min c n),ofNat e)) ?_)
  unfold Eg Ch;by_cases f:((ofNat (min c n),ofNat e):Ku)∈l.map aO
  .rw[Fo f]
   repeat (first|simp(disch:=omega)only[↓mc,DJ,if_true]|refine rC (ds:=[.int .i64 (.ofNat w),.int .i64 (.ofNat v)]) p (by simp) rfl ?_|refine aj (bx d J) ?_)
   refine aj (BX ⟨b.1,b.2.1⟩ ⟨by omega,by omega⟩) ?_;simp only[CI,DC,Ds]
   repeat (first|simp(disch:=omega)only[↓mc]|refine cU o rfl ?_|refine ab m.g_ ?_)
   refine aP m rfl u ?_;unfold q7;refine b_ ?_;refine aj (fu (zA (n:=10) ⟨b.2.2.1,b.2.2.2⟩) F (by omega)) ?_;simp only[CI,DC,Ds];refine b_ ?_
   simp_all
  .rw[Gg f]
   repeat (first|simp(disch:=omega)only[↓mc,Ex,D5,if_false]|refine cU o rfl ?_|refine ab m.g_ ?_)
   refine aP m rfl u ?_;unfold q7;refine b_ ?_
   simp_all)
def dg{i6:Type}{e:Nat}{enc:i6->Tn}(b:∀a,(enc a).length=e){h:HL}{id cx len:Nat}{l:List i6}{i:Nat}{a:i6}{n:Int}{new:Tn}{K:Tb}(f:h[id]?=some (.o (.cells (l.flatMap enc) e true)))(k:n=ofNat i)(g:i<l.length)(c:l.length=len)(d:new=enc a)(j:K [] (m' h id e enc (l.set i a))) :
  P1.h_ (A2 e (.slice (some ⟨id,0,le e⟩) len cx) n) (@hY _ ⟨λx=>P1.heap (.st x new) h (@hY _ ⟨K⟩)⟩):=by
 have m:m' h id e enc l=h:=fS f;have:=hJ (C:=cc) (Sg:=ac) (T:=aa) (h:=h) (id:=id) (cx:=cx) (len:=len) (l:=l) b (ai f) k g c d j;rw[m]at this;exact this
def bV{i6:Type}{h:HL}{id e j:Nat}{enc:i6->Tn}{l:List i6}(a:j≠id):(m' h id e enc l)[j]?=h[j]?:=by
 unfold m'
 grind
def j_(n:Nat):Tn:=[.int .i64 (ofNat n)]
def bq(n:Nat):(j_ n).length=1:=rfl
def y0(t:Bool):Tn:=[.bool t]
def cM(t:Bool):(y0 t).length=1:=rfl
def gp(q:TC):(q.flatMap j_).length=q.length:=by
 rw[aS (e:=1) (enc:=j_) λa _=>bq a,YA]
def WQ(b:Nat)(h:HL)(v:Value)(q:TC):Prop:=∃id off cx vs,v = .slice (some ⟨id,off,le 1⟩) q.length cx/\b<=id/\h[id]?=some (.o (.cells vs 1 true))/\cut vs off (q.length*1)=some (q.flatMap j_)/\(cx=0∨cx=q.length+1)
def WQ.ls{b:Nat}{h:HL}{v:TR}{q:TC}(g:WQ b h v q):po h v 1 j_ q:=by
 obtain⟨id,c,d,i,rfl,j,e,f,_⟩:=g;exact⟨λa _=>bq a,by rw[gp,YA],.inr ⟨id,c,d,i,true,rfl,e,f⟩⟩
def WQ.i_{b:Nat}{h h':HL}{v:TR}{q:TC}(k:WQ b h v q)(i:∀(j:Nat) o,b<=j->h[j]?=some o->h'[j]?=some o):WQ b h' v q:=by
 obtain⟨id,a,d,l,e,c,f,g⟩:=k;exact⟨id,a,d,l,e,c,i _ _ c f,g⟩
def iX{b:Nat}{h:HL}{v:TR}{a:Nat}{q:TC}{K:TR->Prop}(p:WQ b h v (a :: q))(m:∀v',WQ b h v' q->aJ v'=true->K v'):P1.h_ (Et 1 v (some 1) none none) (@hY _ ⟨K⟩):=by
 obtain⟨id,c,d,e,rfl,i,j,l,r⟩:=p;have n:Et 1 (.slice (some ⟨id,c,le 1⟩) (a :: q).length d) (some 1) none none=some (.slice (some ⟨id,c+1,le 1⟩) q.length (d - 1)):=by
  unfold Et;have f:¬(le 1≠some 1/\le 1≠le 1):=by simp
  simp only[qs f];have g:(0:Int)<=(some (1:Int)).getD 0/\(some (1:Int)).getD 0<=(none:Tt).getD ((a :: q).length:Int)/\bT (a :: q).length d none none:=by
   refine⟨by simp,?_,?_⟩
   .grind
   .unfold bT;left;simp
  rw[n_ g];rw[ew,ew,ew];simp[bL]
 refine ae n (m _ ⟨id,c+1,d - 1,e,rfl,i,j,?_,?_⟩ ?_)
 .have:=lQ (l:cut e c ((a :: q).length*1)=some _) (o:=1) (k:=q.length*1) (by grind);rw[this];simp only[SF,j_,DC,Ds,f2,Yr,YA];rw[←gp q]
  grind
 .grind
 .simp[aJ,l_,aV,bF,bo,aR,aD,le]
def hT{b:Nat}{h:HL}{v:TR}{q:TC}{n m:Nat}{new:Tn}{K:Tb}(A:WQ b h v q)(t:b<=h.length)(x:m=h.length)(f:new=j_ n)(F:q.length<=1000)
  (l:∀v' h',WQ b h' v' (q++[n])->aJ v'=true->(∀(j:Nat) o,j<b->h[j]?=some o->h'[j]?=some o)->h.length<=h'.length->K [v'] h') :
  P1.heap (.ap cc 1 8 v (.slice (some ⟨m,0,some 11⟩) 1 2)) (h++[.o (.cells new 1 true)]) (@hY _ ⟨K⟩):=by
 subst x f;obtain⟨id,d,C,B,rfl,D,r,E,s⟩:=A;have w:=ai r;have p:FU (h++[HO.o (.cells (j_ n) 1 true)]) (.slice (some ⟨h.length,0,le 1⟩) 1 2) 1 1 (j_ n):=⟨rfl,.inr ⟨h.length,0,2,j_ n,true,rfl,by simp,Sx.t_ rfl⟩⟩;have k:(h++[HO.o (.cells (j_ n) 1 true)])[id]?=some (.o (.cells B 1 true)):=by grind
 have z:ba (q.length+1) 8=true:=by
  unfold ba;rw[DK (by omega),DK (by omega)];rfl
 have g:∀i,aJ (.slice (some ⟨i,0,le 1⟩) (q.length+1) 0)=true:=λi=>by simp[aJ,l_,aV,bF,bo,aR,aD,le]
 have e:(q.flatMap j_++j_ n)=(q++[n]).flatMap j_:=by simp
 have a:(q++[n]).length=q.length+1:=by simp
 rcases s with rfl|rfl
 .have c:Ei cc 1 8 (.slice (some ⟨id,d,le 1⟩) q.length 0) (.slice (some ⟨h.length,0,le 1⟩) 1 2) (r_ aa (h++[HO.o (.cells (j_ n) 1 true)])) (h++[HO.o (.cells (j_ n) 1 true)]).length=some ([.set id .dead,.push (.cells (q.flatMap j_++j_ n) 1 true)],[.slice (some ⟨(h++[HO.o (.cells (j_ n) 1 true)]).length,0,le 1⟩) (q.length+1) 0]):=by
   unfold Ei;rw[ns p];simp only[ne_eq,not_true_eq_false,if_false];rw[bG k]
   simp_all
  refine bJ (show(Hp.ap cc 1 8 (.slice (some ⟨id,d,le 1⟩) q.length 0) (.slice (some ⟨h.length,0,le 1⟩) 1 2)).run _ _=_ from c) ?_;refine l _ _ ⟨(h++[HO.o (.cells (j_ n) 1 true)]).length,0,0,q.flatMap j_++j_ n,by rw[a],by simp;omega,?_,?_,.inl rfl⟩ (g _) (λj o u y=>?_) ?_
  .show(((h++[HO.o (.cells (j_ n) 1 true)]).set id (.o .dead))++[HO.o (.cells (q.flatMap j_++j_ n) 1 true)])[_]?=_
   simp_all
  .rw[e,a];exact Sx.t_ (by rw[gp,a,YA])
  .show(((h++[HO.o (.cells (j_ n) 1 true)]).set id (.o .dead))++[HO.o (.cells (q.flatMap j_++j_ n) 1 true)])[j]?=_
   grind
  .show h.length<=(((h++[HO.o (.cells (j_ n) 1 true)]).set id (.o .dead))++[HO.o (.cells (q.flatMap j_++j_ n) 1 true)]).length;simp;omega
 .have c:Ei cc 1 8 (.slice (some ⟨id,d,le 1⟩) q.length (q.length+1)) (.slice (some ⟨h.length,0,le 1⟩) 1 2) (r_ aa (h++[HO.o (.cells (j_ n) 1 true)])) (h++[HO.o (.cells (j_ n) 1 true)]).length=some ([.push (.cells (q.flatMap j_++j_ n) 1 true)],[.slice (some ⟨(h++[HO.o (.cells (j_ n) 1 true)]).length,0,le 1⟩) (q.length+1) 0]):=by
   unfold Ei;rw[ns p];simp only[ne_eq,not_true_eq_false,if_false];rw[bG k]
   simp_all
  refine bJ (show(Hp.ap cc 1 8 (.slice (some ⟨id,d,le 1⟩) q.length (q.length+1)) (.slice (some ⟨h.length,0,le 1⟩) 1 2)).run _ _=_ from c) ?_;refine l _ _ ⟨(h++[HO.o (.cells (j_ n) 1 true)]).length,0,0,q.flatMap j_++j_ n,by rw[a],by simp;omega,?_,?_,.inl rfl⟩ (g _) (λj o u y=>?_) ?_
  .show((h++[HO.o (.cells (j_ n) 1 true)])++[HO.o (.cells (q.flatMap j_++j_ n) 1 true)])[_]?=_
   simp_all
  .rw[e,a];exact Sx.t_ (by rw[gp,a,YA])
  .show((h++[HO.o (.cells (j_ n) 1 true)])++[HO.o (.cells (q.flatMap j_++j_ n) 1 true)])[j]?=_
   grind
  .show h.length<=((h++[HO.o (.cells (j_ n) 1 true)])++[HO.o (.cells (q.flatMap j_++j_ n) 1 true)]).length;simp
abbrev _root_.Ty:=List Bool
structure RS(H h:HL)(w v:Nat)(x:Value)(l:TD)(A:TO)(B:Ty):Prop where
 pre:tx H h
 len:H.length+6<=h.length
 p:h[H.length]?=some (.o (.cells [.int .i64 (.ofNat w),.int .i64 (.ofNat v),x] 3 true))
 mp:HA h (H.length+1) l
 mv:h[H.length+2]?=some (.o (.cells [.map (some (H.length+1))] 1 true))
 ol:h[H.length+3]?=some (.o (.cells (A.flatMap q7) 3 true))
 ov:h[H.length+4]?=some (.o (.cells [.slice (some ⟨H.length+3,0,le 3⟩) (4*w*v) (4*w*v+1)] 1 true))
 kn:h[H.length+5]?=some (.o (.cells (B.flatMap y0) 1 true))
 la:A.length=4*w*v
 lb:B.length=4*w*v
section
variable {H h:HL} {w v:Nat} {x:Value} {l:TD} {A:TO} {B:Ty}
def RS.lsA(c:RS H h w v x l A B):po h (.slice (some ⟨H.length+3,0,le 3⟩) (4*w*v) (4*w*v+1)) 3 q7 A:=by
 have b:=aS (e:=3) (enc:=q7) (l:=A) λa _=>da a;rw[←c.la];exact⟨λa _=>da a,b,.inr ⟨_,0,_,_,true,rfl,c.ol,Sx.t_ b⟩⟩
def RS.lsB(c:RS H h w v x l A B):po h (.slice (some ⟨H.length+5,0,le 1⟩) (4*w*v) (4*w*v+1)) 1 y0 B:=by
 have b:=aS (e:=1) (enc:=y0) (l:=B) λa _=>cM a;rw[←c.lb];exact⟨λa _=>cM a,b,.inr ⟨_,0,_,_,true,rfl,c.kn,Sx.t_ b⟩⟩
def RS.i_{h':HL}(a:RS H h w v x l A B)(b:∀(j:Nat) o,j<H.length+6->h[j]?=some o->h'[j]?=some o)(k:h.length<=h'.length):RS H h' w v x l A B:=by
 obtain⟨g,c,m,n⟩:=a.mp;refine⟨?_,NG a.len k,b _ _ (by omega) a.p,⟨g,c,b _ _ (by omega) m,n⟩,b _ _ (by omega) a.mv,b _ _ (by omega) a.ol,b _ _ (by omega) a.ov,b _ _ (by omega) a.kn,a.la,a.lb⟩;have d:=a.pre;refine⟨h'.drop H.length,?_⟩;apply GB;intro i;rcases Gk i H.length with e|e
 .rw[GD e];have f:H[i]?=some H[i]:=FN e;rw[f];exact b _ _ (by omega) (d.get f)
 grind
def iU{i6:Type}{id e:Nat}{enc:i6->Tn}{L:List i6}(a:tx H h)(hY:H.length<=id):tx H (m' h id e enc L):=a.set hY _
def gV{i6:Type}{h:HL}{id e:Nat}{enc:i6->Tn}{L:List i6}:(m' h id e enc L).length=h.length:=by simp[m']
def RS.Ff(a:RS H h w v x l A B){A':TO}(d:A'.length=A.length):RS H (m' h (H.length+3) 3 q7 A') w v x l A' B:=by
 obtain⟨b,c,f,g⟩:=a.mp;have e:=a.len;exact⟨iU a.pre (by omega),by rw[gV];exact e,by rw[bV (by omega)];exact a.p,⟨b,c,by rw[bV (by omega)];exact f,g⟩,by rw[bV (by omega)];exact a.mv,bA (by omega),by rw[bV (by omega)];exact a.ov,by rw[bV (by omega)];exact a.kn,by rw[d];exact a.la,a.lb⟩
def RS.putB(a:RS H h w v x l A B){B':Ty}(d:B'.length=B.length):RS H (m' h (H.length+5) 1 y0 B') w v x l A B':=by
 obtain⟨b,c,f,g⟩:=a.mp;have e:=a.len;exact⟨iU a.pre (by omega),by rw[gV];exact e,by rw[bV (by omega)];exact a.p,⟨b,c,by rw[bV (by omega)];exact f,g⟩,by rw[bV (by omega)];exact a.mv,by rw[bV (by omega)];exact a.ol,by rw[bV (by omega)];exact a.ov,bA (by omega),a.la,by rw[d];exact a.lb⟩
end
def Uj{a b:Tn}{e e':Nat}{x y:Bool}(h:some (HO.o (.cells a e x))=some (HO.o (.cells b e' y))):e=e':=by
 simp_all
def gS{i6:Type}{n0 e:Nat}{enc:i6->Tn}{l:List i6}{h:HL}{v:TR}(b:e_ n0 h v e enc l)(a:l≠[]):∃id cx,v = .slice (some ⟨id,0,le e⟩) l.length cx/\n0<=id/\h[id]?=some (.o (.cells (l.flatMap enc) e true))/\(cx=0∨cx=l.length+1):=by
 rcases b with⟨_,h⟩|h
 .exact absurd h a
 .exact h
def Rc{W:TE}{l:Lit}(h:W.getD l.1 0=0):Cr W l=W.set l.1 (DN l):=by unfold Cr;rw[n_ h]
def Rd{W:TE}{l:Lit}(h:W.getD l.1 0≠0):Cr W l=W:=by unfold Cr;rw[qs h]
section
variable {h:HL} {b:Nat} {c:XC} {n:Bool} (hb:h[b]?=some (.o (.cells (ah c n) 15 true))) {U:List Lit} (hU:po h c.up 2 C' U) {r:TF} (hF:Hn U r) {W:TE} (hW:F7 U W) (hV:e_ 0 h c.va 1 Cg W)
include hb hU hF hW hV
theorem nH{l:Lit}(F:l.1<U.length):∃l' h',Rt U l l'/\aI cc ac 115 [.v (i' b),.i (ofNat l.1),.b l.2,.v (.pointer none)] (f_ aa h) [.b (decide ((Cr W l').getD l'.1 0=DN l'))] (f_ aa h')/\
  e_ 0 h' c.va 1 Cg (Cr W l')/\(∀(j:Nat) o,h[j]?=some o->d_ c.va≠some j->h'[j]?=some o)/\h'.length=h.length:=by
 obtain⟨l',G,B⟩:=vg hb hU hF F;have f:l'.1<W.length:=by rw[hW.1];exact G.lt
 have k:W≠[]:=λe=>by simp_all
 obtain⟨id,C,m,_,hY,D⟩:=gS hV k;have d:=hV.ls dZ;obtain⟨y,A⟩:=aq f;have u:W.getD l'.1 0=y:=by simp_all
 have q:id≠b:=λe=>by
  simp_all
 have I:=Do (ls:=[.v (i' b),.i (ofNat l.1),.b l.2,.v (.pointer none)]) (K:=λJ h'=>J=[.b (decide ((Cr W l').getD l'.1 0=DN l'))]/\e_ 0 h' c.va 1 Cg (Cr W l')/\(∀(j:Nat) o,h[j]?=some o->d_ c.va≠some j->h'[j]?=some o)/\h'.length=h.length) (H:=h) (pu (au _) (km (HM (pu rfl u_)))) (by
  unfold R9;simp only[u7];refine b_ ?_;refine am B ?_;simp(disch:=omega)only[↓A9];refine cO (λls h'=>ls=[.i (DN l')]/\h'=h) ?_ ?_
  case refine_2=>
   intro L g;unfold DN at g;cases w:l'.2 with
   |true=>
    rw[w]at g;refine b_ ?_
    simp_all
   |false=>
    rw[w]at g;refine b_ ?_
    simp_all
  rintro ls h' ⟨rfl,rfl⟩;refine b_ ?_;refine br (ds:=[c.va]) hb (by simp[ah]) rfl ?_;refine b_ ?_;refine ab d.g_ ?_;refine j8 ?_;refine aP d rfl A ?_;rw[show Cg y=[.int .i64 y]from rfl];refine b_ ?_;by_cases s:y=0
  case neg=>
   rw[ua s];refine b_ ?_;refine br (ds:=[c.va]) hb (by simp[ah]) rfl ?_;refine b_ ?_;refine ab d.g_ ?_;refine j8 ?_;refine aP d rfl A ?_;rw[show Cg y=[.int .i64 y]from rfl];refine b_ ?_;rw[Rd (by omega),u];by_cases e:y=DN l'
   .rw[s_ e,Fo e]
    simp_all
   .rw[ua e,Gg e]
    simp_all
  rw[s_ s];refine b_ ?_;refine br (ds:=[c.va]) hb (by simp[ah]) rfl ?_;refine b_ ?_;refine ab d.g_ ?_;refine j8 ?_;rw[m];refine dg (enc:=Cg) (l:=W) (i:=l'.1) (a:=DN l') dZ hY rfl f rfl rfl ?_;refine j8 ?_;refine ae (x:=true) rfl ?_;simp(disch:=omega)only[↓mc,DJ];have t:(m' h' id 1 Cg (W.set l'.1 (DN l')))[b]?=some (.o (.cells (ah c n) 15 true)):=by rw[bV (De q)];exact hb
  have z:e_ 0 (m' h' id 1 Cg (W.set l'.1 (DN l'))) c.va 1 Cg (W.set l'.1 (DN l')):=.inr ⟨id,C,by simp_all,CM _,bA (ai hY),by simp_all⟩;have p:=z.ls dZ;refine br (ds:=[c.va]) t (by simp[ah]) rfl ?_;refine b_ ?_;refine ab p.g_ ?_;refine j8 ?_;refine aP p rfl (GL f) ?_;rw[show Cg (DN l')=[.int .i64 (DN l')]from rfl];simp(disch:=omega)only[↓mc]
  try rw[s_ rfl]
  rw[←m,Rc (by omega),List.getD_eq_getElem?_getD,GL f];refine⟨by simp,z,λj o E k=>?_,gV⟩;rw[bV]
  .exact E
  .rintro rfl;exact k (by rw[m];rfl))
 grind
theorem nS{n0 d:Nat}{x:TR}{T:TC}(ht:h[d]?=some (.o (.cells [x] 1 true)))(hT:e_ n0 h x 1 j_ T)(av:n0<=h.length)(an:T.length<=1000000)(Z:d_ c.va≠some d)(d2:d_ x≠some d)(d3:∀j,d_ x=some j->d_ c.va≠some j){l:Lit}(hl:l.1<U.length) :
  ∃l' x' h',Rt U l l'/\aI cc ac 115 [.v (i' b),.i (ofNat l.1),.b l.2,.v (i' d)] (f_ aa h) [.b (decide ((Cr W l').getD l'.1 0=DN l'))] (f_ aa h')/\
   e_ 0 h' c.va 1 Cg (Cr W l')/\h'[d]?=some (.o (.cells [x'] 1 true))/\e_ n0 h' x' 1 j_ (if W.getD l'.1 0=0 then T++[l'.1]else T)/\
   (∀(j:Nat) o,h[j]?=some o->j≠d->d_ c.va≠some j->d_ x≠some j->h'[j]?=some o)/\h.length<=h'.length/\(d_ x'=d_ x∨∃j,d_ x'=some j/\h.length<=j):=by
 obtain⟨l',hr,cf⟩:=vg hb hU hF hl;have q:l'.1<W.length:=by rw[hW.1];exact hr.lt
 have k:W≠[]:=λe=>by simp_all
 obtain⟨id,cx,A,_,hY,ap⟩:=gS hV k;have p:=hV.ls dZ;obtain⟨y,hy⟩:=aq q;have J:W.getD l'.1 0=y:=by simp_all
 have u:d_ c.va=some id:=by rw[A];rfl
 have F:id≠b:=λe=>by
  simp_all
 have E:d≠b:=λe=>by
  simp_all
 have G:id≠d:=λe=>Z (by rw[u,e]);have V:d_ x≠some b:=λe=>by
  rcases hT with⟨e3,_⟩|⟨i,ag,e3,_,hh,_⟩
  .rw[e3]at e;cases e
  .rw[e3]at e;have e4:i=b:=by simpa[Sx.d_]using e
   simp_all
 have ay:=Do (ls:=[.v (i' b),.i (ofNat l.1),.b l.2,.v (i' d)]) (K:=λrs h'=>∃x',rs=[.b (decide ((Cr W l').getD l'.1 0=DN l'))]/\e_ 0 h' c.va 1 Cg (Cr W l')/\h'[d]?=some (.o (.cells [x'] 1 true))/\e_ n0 h' x' 1 j_ (if W.getD l'.1 0=0 then T++[l'.1]else T)/\
   (∀(j:Nat) o,h[j]?=some o->j≠d->d_ c.va≠some j->d_ x≠some j->h'[j]?=some o)/\h.length<=h'.length/\(d_ x'=d_ x∨∃j,d_ x'=some j/\h.length<=j)) (H:=h) (pu (au _) (km (HM (pu (au _) u_)))) (by
  unfold R9;simp only[u7];refine b_ ?_;refine am cf ?_;simp(disch:=omega)only[↓A9];refine cO (λls h'=>ls=[.i (DN l')]/\h'=h) ?_ ?_
  case refine_2=>
   intro jj w;unfold DN at w;cases L:l'.2 with
   |true=>
    rw[L]at w;refine b_ ?_
    simp_all
   |false=>
    rw[L]at w;refine b_ ?_
    simp_all
  rintro ls h' ⟨rfl,rfl⟩;refine b_ ?_;refine br (ds:=[c.va]) hb (by simp[ah]) rfl ?_;refine b_ ?_;refine ab p.g_ ?_;refine j8 ?_;refine aP p rfl hy ?_;rw[show Cg y=[.int .i64 y]from rfl];refine b_ ?_;by_cases s:y=0
  case neg=>
   rw[ua s];refine b_ ?_;refine br (ds:=[c.va]) hb (by simp[ah]) rfl ?_;refine b_ ?_;refine ab p.g_ ?_;refine j8 ?_;refine aP p rfl hy ?_;rw[show Cg y=[.int .i64 y]from rfl];refine b_ ?_;rw[Rd (by omega),J,qs s];by_cases e:y=DN l'
   .rw[s_ e,Fo e]
    simp_all
   .rw[ua e,Gg e]
    simp_all
  rw[s_ s];refine b_ ?_;refine br (ds:=[c.va]) hb (by simp[ah]) rfl ?_;refine b_ ?_;refine ab p.g_ ?_;refine j8 ?_;rw[A];refine dg (enc:=Cg) (l:=W) (i:=l'.1) (a:=DN l') dZ hY rfl q rfl rfl ?_;refine j8 ?_;refine ae (x:=false) rfl ?_;simp(disch:=omega)only[↓mc,Ex];have X:∀(j:Nat) o,h'[j]?=some o->j≠id->(m' h' id 1 Cg (W.set l'.1 (DN l')))[j]?=some o:=λj o m k=>by rw[bV k];exact m
  have hO:e_ 0 (m' h' id 1 Cg (W.set l'.1 (DN l'))) c.va 1 Cg (W.set l'.1 (DN l')):=.inr ⟨id,cx,by simp_all,CM _,bA (ai hY),by simp_all⟩;have P:=X _ _ hb (De F);have z:=X _ _ ht (De G);have D:e_ n0 (m' h' id 1 Cg (W.set l'.1 (DN l'))) x 1 j_ T:=hT.i_ λj o m f=>X j o m λe=>d3 j f (by rw[u,e]);have ad:(m' h' id 1 Cg (W.set l'.1 (DN l'))).length=h'.length:=gV;generalize m' h' id 1 Cg (W.set l'.1 (DN l'))=g at *;refine ae (x:=i' d) rfl (ab (au _) (cU (bz z) rfl ?_));refine b_ ?_;refine ab (D.g_ bq) ?_;refine j8 ?_;refine e_.GX bq D (by omega) rfl rfl rfl (by unfold ba;rw[DK (by omega),DK (by omega)];rfl) ?_;intro x' t O gx kg lg bx;have B:∀(j:Nat) o,g[j]?=some o->d_ x≠some j->t[j]?=some o:=λj o m k=>kg j o m k;have aE:g.length<=t.length:=lg;have I:=B _ _ z d2;have Q:=B _ _ P V;have M:e_ 0 t c.va 1 Cg (W.set l'.1 (DN l')):=hO.i_ λj o m f=>B j o m λe=>d3 j e f;refine b_ ?_;refine ab gx ?_;refine j8 ?_;refine ae (x:=i' d) rfl (ab (au _) ?_);refine xP I rfl ?_;have S:∀j,d_ x'=some j->j≠d:=λj m e=>by
   grind
  refine ae (x:=()) (cY (bS ⟨_,_,_,rfl⟩ λi hi=>?_) eR) ?_
  .have h1:=ai z;have L:g.length=i:=by simpa[Sx.d_]using hi
   omega
  refine j8 ?_;have ax:(t.set d (.o (.cells [x'] 1 true)))[d]?=some (.o (.cells [x'] 1 true)):=fG I;have Y:∀(j:Nat) o,t[j]?=some o->j≠d->(t.set d (.o (.cells [x'] 1 true)))[j]?=some o:=λj o m k=>cW m (De k);have R:=Y _ _ Q (De E);have N:e_ 0 (t.set d (.o (.cells [x'] 1 true))) c.va 1 Cg (W.set l'.1 (DN l')):=M.i_ λj o m f=>Y j o m λe=>Z (by rw[f,e]);have al:e_ n0 (t.set d (.o (.cells [x'] 1 true))) x' 1 j_ (T++[l'.1]):=O.i_ λj o m f=>Y j o m (S j f);have C:=N.ls dZ;refine br (ds:=[c.va]) R (by simp[ah]) rfl ?_;refine b_ ?_;refine ab C.g_ ?_;refine j8 ?_;refine aP C rfl (GL q) ?_;rw[show Cg (DN l')=[.int .i64 (DN l')]from rfl];simp(disch:=omega)only[↓mc]
  try rw[s_ rfl]
  rw[←A,Rc (by omega),List.getD_eq_getElem?_getD,GL q,J,n_ s]
  grind)
 grind
end
section
variable {h:HL} {b:Nat} {c:XC} {n:Bool} (hb:h[b]?=some (.o (.cells (ah c n) 15 true))) {U:List Lit} (hU:e_ 0 h c.up 2 C' U) {r:TF} (hF:Hn U r) {W:TE} (hW:F7 U W) (hV:e_ 0 h c.va 1 Cg W)
include hb hU hF hW hV
theorem UP{p q:Lit}(hp:p.1<U.length)(hq:q.1<U.length):∃la lb h',Rt U p la/\Rt U q lb/\aI cc ac 109 [.v (i' b),.i (ofNat p.1),.b p.2,.i (ofNat q.1),.b q.2] (f_ aa h) [] (f_ aa h')/\
  h'[b]?=some (.o (.cells (ah c (D' U W n la lb).2) 15 true))/\e_ 0 h' c.up 2 C' (D' U W n la lb).1/\(∀(j:Nat) o,h[j]?=some o->j≠b->d_ c.up≠some j->h'[j]?=some o)/\h'.length=h.length:=by
 have d:=hU.ls dI;have P:=hV.ls dZ;obtain⟨la,w,c1⟩:=vg hb d hF hp;obtain⟨lb,rb,c2⟩:=vg hb d hF hq;have Z:∀ {l u:Lit},Rt U l u->aI cc ac 143 [.v (i' b),.i (ofNat u.1),.b u.2] (f_ aa h) [.i (kv W u)] (f_ aa h):=λ{l u} X=>by
  obtain⟨x,kx,F⟩:=kV hb d hF hW P X.lt;rw[kx.det ⟨u,.here X.root,rfl⟩]at F;exact F
 have J:=Z w;have Y:=Z rb;refine⟨la,lb,?_⟩;have an:=w.lt;have S:U≠[]:=λe=>by simp_all
 obtain⟨id,F,C,_,al,ag⟩:=gS hU S;have D:d_ c.up=some id:=by rw[C];rfl
 have A:id≠b:=λe=>by
  simp_all
 have y:∀m:Bool,e_ 0 (h.set b (.o (.cells (ah c m) 15 true))) c.up 2 C' U:=λm=>hU.i_ λj o t ad=>cW t λe=>by
  simp_all
 have ap:=x109 (ls:=[.v (i' b),.i (ofNat p.1),.b p.2,.i (ofNat q.1),.b q.2]) (K:=λrs h'=>rs=[]/\h'[b]?=some (.o (.cells (ah c (D' U W n la lb).2) 15 true))/\e_ 0 h' c.up 2 C' (D' U W n la lb).1/\(∀(j:Nat) o,h[j]?=some o->j≠b->d_ c.up≠some j->h'[j]?=some o)/\h'.length=h.length) (H:=h) (pu (au _) (km (HM (km (HM u_))))) (by
  unfold UU;simp only[u7];refine b_ ?_;refine am c1 ?_;refine b_ ?_;refine am c2 ?_;refine b_ ?_;by_cases e:la.1=lb.1
  .rw[s_ (congrArg ofNat e)];refine b_ ?_;refine br (ds:=[.bool n]) hb (by simp[ah]) rfl ?_;refine b_ ?_;have s:D' U W n la lb=(U,n||xr la.2 lb.2):=by unfold D';rw[n_ e]
   rw[s];cases n with
   |true=>
    refine b_ ?_;refine gf (b:=b) hb (by simp[ah]) ?_;refine j8 ?_;exact⟨by trivial,fG hb,y true,λj o t G _=>cW t (De G),Fy ..⟩
   |false=>
    refine b_ ?_;rw[sJ];refine gf (b:=b) hb (by simp[ah]) ?_;refine j8 ?_;refine⟨by trivial,?_,y _,λj o t G _=>cW t (De G),Fy ..⟩;rw[mH];exact fG hb
  rw[ua (λh=>e (Jg h))];refine b_ ?_;have E:∀ {i:Nat} {a:Lit} (m:Bool) {g:HL},i<U.length->(g=h∨g=h.set b (.o (.cells (ah c m) 15 true)))->g[b]?=some (.o (.cells (ah c m) 15 true))->∀ {K:Tb},(∀h':HL,h'[b]?=some (.o (.cells (ah c m) 15 true))->e_ 0 h' c.up 2 C' (U.set i a)->(∀(j:Nat) o,h[j]?=some o->j≠b->d_ c.up≠some j->h'[j]?=some o)->h'.length=h.length->K [] h')->P1.h_ (A2 2 c.up (ofNat i)) (@hY _ ⟨λx=>P1.heap (.st x [.int .i64 (ofNat a.1),.bool a.2]) g (@hY _ ⟨K⟩)⟩):=λ{i a} m {g} hi hg Q K hK=>by
   have k:g[id]?=some (.o (.cells (U.flatMap C') 2 true)):=by
    grind
   have R:g.length=h.length:=by
    grind
   rw[C];refine dg (enc:=C') (l:=U) (i:=i) (a:=a) dI k rfl hi rfl rfl ?_;refine hK _ ?_ ?_ ?_ ?_
   .rw[bV (De A)];exact Q
   .exact .inr ⟨id,F,by simp_all,CM _,bA (ai k),by simp_all⟩
   .intro j o t G h2;have B:j≠id:=λe=>h2 (by rw[D,e]);rw[bV B]
    grind
   .rw[gV,R]
  refine am J ?_;refine b_ ?_;by_cases I:kv W la=0
  .rw[CQ I];refine b_ ?_;refine am J ?_;simp(disch:=omega)only[↓mc]
   try rw[CQ I]
   refine j8 ?_;refine br (ds:=[c.up]) hb (by simp[ah]) rfl ?_;refine b_ ?_;refine ab d.g_ ?_;refine j8 ?_;rw[sJ];have s:D' U W n la lb=(U.set la.1 (lb.1,xr la.2 lb.2),n):=by unfold D';simp_all
   rw[s];refine E (a:=(lb.1,xr la.2 lb.2)) n w.lt (.inl rfl) hb λh' L M N O=>?_
   try simp(disch:=omega)only[↓mc]
   simp_all
  rw[CS I];refine b_ ?_;refine am Y ?_;refine b_ ?_;by_cases z:kv W lb=0
  .rw[CQ z];refine b_ ?_;refine am J ?_;simp(disch:=omega)only[↓mc]
   try rw[CS I]
   refine j8 ?_;refine br (ds:=[c.up]) hb (by simp[ah]) rfl ?_;refine b_ ?_;refine ab d.g_ ?_;refine j8 ?_;rw[sJ];have s:D' U W n la lb=(U.set lb.1 (la.1,xr la.2 lb.2),n):=by unfold D';simp_all
   rw[s];refine E (a:=(la.1,xr la.2 lb.2)) n rb.lt (.inl rfl) hb λh' L M N O=>?_
   try simp(disch:=omega)only[↓mc]
   simp_all
  rw[CS z];refine b_ ?_;refine br (ds:=[.bool n]) hb (by simp[ah]) rfl ?_;refine b_ ?_;have s:D' U W n la lb=(U.set la.1 (lb.1,xr la.2 lb.2),n || !decide (kv W la=kv W lb)):=by unfold D';simp_all
  rw[s];cases n with
  |true=>
   refine b_ ?_;refine gf (b:=b) hb (by simp[ah]) ?_;refine j8 ?_;have f:(h.set b (.o (.cells (ah c true) 15 true)))[b]?=some (.o (.cells (ah c true) 15 true)):=fG hb;refine br (ds:=[c.up]) f (by simp[ah]) rfl ?_;refine b_ ?_;refine ab d.g_ ?_;refine j8 ?_;rw[sJ];refine E (a:=(lb.1,xr la.2 lb.2)) true w.lt (.inr rfl) f λh' L M N O=>?_
   try simp(disch:=omega)only[↓mc]
   simp_all
  |false=>
   refine b_ ?_;refine am J ?_;refine b_ ?_;refine am Y ?_;refine b_ ?_;have T:∀m:Bool,m = !decide (kv W la=kv W lb)->∀h':HL,h'[b]?=some (.o (.cells (ah c m) 15 true))->h'[b]?=some (.o (.cells (ah c (false || !decide (kv W la=kv W lb))) 15 true)):=λm hm h' hh=>by
    simp_all
   by_cases V:kv W la=kv W lb
   .rw[CQ V];refine gf (b:=b) hb (by simp[ah]) ?_;refine j8 ?_;have f:(h.set b (.o (.cells (ah c false) 15 true)))[b]?=some (.o (.cells (ah c false) 15 true)):=fG hb;refine br (ds:=[c.up]) f (by simp[ah]) rfl ?_;refine b_ ?_;refine ab d.g_ ?_;refine j8 ?_;rw[sJ];refine E (a:=(lb.1,xr la.2 lb.2)) false w.lt (.inr rfl) f λh' L M N O=>?_
    try simp(disch:=omega)only[↓mc]
    simp_all
   .rw[CS V];refine gf (b:=b) hb (by simp[ah]) ?_;refine j8 ?_;have f:(h.set b (.o (.cells (ah c true) 15 true)))[b]?=some (.o (.cells (ah c true) 15 true)):=fG hb;refine br (ds:=[c.up]) f (by simp[ah]) rfl ?_;refine b_ ?_;refine ab d.g_ ?_;refine j8 ?_;rw[sJ];refine E (a:=(lb.1,xr la.2 lb.2)) true w.lt (.inr rfl) f λh' L M N O=>?_
    try simp(disch:=omega)only[↓mc]
    simp_all)
 grind
end
def Fb(pn:Ti)(k:Int)(x y:Nat)(a:Bool):Lit:=((CO pn x y).1,xr (CO pn x y).2 (xr (decide (k=2)) a))
section
variable {h:HL} {b:Nat} {c:XC} {n:Bool} (hb:h[b]?=some (.o (.cells (ah c n) 15 true))) {U:List Lit} (hU:po h c.up 2 C' U) {r:TF} (hF:Hn U r) {W:TE} (hW:F7 U W) (hV:e_ 0 h c.va 1 Cg W) {pn:Ti} (hp:NA h c.pr pn)
include hb hU hF hW hV hp
theorem Y'(k:Int){x y:Nat}(d:Bool)(Q:k≠3->(CO pn x y).1<U.length):∃m n' h',aI cc ac 107 [.v (i' b),.i k,.i (ofNat x),.i (ofNat y),.b d] (f_ aa h) [] (f_ aa h')/\
  h'[b]?=some (.o (.cells (ah c n') 15 true))/\e_ 0 h' c.va 1 Cg m/\F7 U m/\(∀V,(n'=false/\Rs U m V)↔(n=false/\Rs U W V/\(k≠3->ub V (Fb pn k x y d)=true)))/\(∀(j:Nat) o,h[j]?=some o->j≠b->d_ c.va≠some j->h'[j]?=some o)/\h'.length=h.length:=by
 have R:=x107 (ls:=[.v (i' b),.i k,.i (ofNat x),.i (ofNat y),.b d]) (K:=λS h'=>S=[]/\∃m n',h'[b]?=some (.o (.cells (ah c n') 15 true))/\e_ 0 h' c.va 1 Cg m/\F7 U m/\(∀V,(n'=false/\Rs U m V)↔(n=false/\Rs U W V/\(k≠3->ub V (Fb pn k x y d)=true)))/\(∀(j:Nat) o,h[j]?=some o->j≠b->d_ c.va≠some j->h'[j]?=some o)/\h'.length=h.length) (H:=h) (pu (au _) (km (km (km (HM u_))))) (by
  unfold UT;simp only[u7];refine b_ ?_;by_cases e3:k=3
  .rw[s_ e3];refine b_ ?_
   grind
  rw[ua e3];refine b_ ?_;refine am (jR hb hp x y) ?_;simp(disch:=omega)only[↓A9];have step:∀t:Bool,t=decide (k=2)->∀K:Bool->Prop,K (decide (t=d))->P1.eqs [(.b t,.b d)] (@hY _ ⟨K⟩):=λt _ K D=>by rw[sJ];exact D
  have B:∀K:Bool->Prop,K (decide (k=2))->P1.cmp .eql k 2 (@hY _ ⟨K⟩):=λK D=>by
   by_cases C:k=2
   .rw[s_ C,←Fo C];exact D
   .rw[ua C,←Gg C];exact D
  refine B _ ?_
  try rw[sJ]
  refine cO (λls h'=>ls=[.i (ofNat (Fb pn k x y d).1),.b (Fb pn k x y d).2]/\h'=h) ?_ ?_
  case refine_2=>
   intro T z;have E:(Fb pn k x y d).2=if decide (k=2)=d then(CO pn x y).2 else !(CO pn x y).2:=by
    unfold Fb;simp only;generalize decide (k=2)=t;generalize (CO pn x y).2=s;cases t<;>cases s<;>cases d<;>rfl
   by_cases e:decide (k=2)=d
   .rw[n_ e]at E;rw[Fo e];simp(disch:=omega)only[↓mc,DJ];refine z _ _ ⟨?_,rfl⟩;rw[E];rfl
   .rw[qs e]at E;rw[Gg e];simp(disch:=omega)only[↓mc,Ex];refine z _ _ ⟨?_,rfl⟩;rw[E];rfl
  rintro ls h' ⟨rfl,rfl⟩;refine b_ ?_;refine br (ds:=[.bool n]) hb (by simp[ah]) rfl ?_;refine b_ ?_;cases n with
  |true=>
   refine b_ ?_;refine gf (b:=b) hb (by simp[ah]) ?_;refine j8 ?_;refine⟨by trivial,W,true,fG hb,hV.i_ λj o u a=>cW u λe=>?_,hW,λV=>⟨λq=>(by cases q.1),λq=>(by cases q.1)⟩,λj o u G _=>cW u (De G),Fy ..⟩;subst e;rcases hV with⟨p,_⟩|⟨id,O,p,_,I,_⟩
   .rw[p]at a;cases a
   .rw[p]at a;cases a
    simp_all
  |false=>
   refine b_ ?_;obtain⟨f,g,M,N,P,J,L⟩:=nH hb hU hF hW hV (l:=Fb pn k x y d) (Q e3);refine am N ?_;refine b_ ?_;have A:d_ c.va≠some b:=λe=>by
    rcases hV with⟨p,_⟩|⟨id,O,p,_,I,_⟩
    .rw[p]at e;cases e
    .rw[p]at e;cases e
     simp_all
   have w:=J _ _ hb A;refine gf (b:=b) w (by simp[ah]) ?_;refine j8 ?_;refine⟨by trivial,Cr W f,!decide ((Cr W f).getD f.1 0=DN f),fG w,P.i_ λj o u a=>cW u λe=>A (by rw[a,e]),tZ hW f,λV=>?_,λj o u G I=>cW (J j o u I) (De G),by simp_all⟩;by_cases F:(Cr W f).getD f.1 0=DN f
   .rw[Fo F,Lq hW M F V]
    simp_all
   .rw[Gg F];refine⟨λq=>(by cases q.1),λq=>?_⟩;have:=(Re hW M F).2 V q.2.1
    simp_all)
 grind
end
def cT{i n c e:Nat}:aJ (.slice (some ⟨i,0,le e⟩) n c)=true:=by simp[aJ,l_,aV,bF,bo,aR,aD,le]
def Kq{lb len cx i:Nat}(b:i<len):A2 1 (.slice (some ⟨lb,0,le 1⟩) len cx) (ofNat i)=some (.pointer (some ⟨lb,i,none⟩)):=by
 rw[qY];have a:0<=ofNat i/\ofNat i<(len:Int):=⟨Ga i,by simp_all⟩;simp only[n_ a];have:¬(le 1=some 1):=by simp[le]
 simp_all
def CG(v:Value):Tn:=[v]
def be(v:TR):(CG v).length=1:=rfl
def FV(h:HL)(v:Value)(l:TC):Prop:=(v = .slice none 0 0/\l=[])∨∃id vs,v = .slice (some ⟨id,0,le 1⟩) l.length 0/\h[id]?=some (.o (.cells (l.flatMap j_++vs) 1 true))
def FV.nil(h:HL):FV h (.slice none 0 0) []:=.inl ⟨rfl,rfl⟩
def FV.cut{l:TC}{vs:Tn}:cut (l.flatMap j_++vs) 0 (l.length*1)=some (l.flatMap j_):=by
 have:=gp l;refine fY.2 ⟨by simp_all,?_⟩
 simp_all
def FV.ls{h:HL}{v:TR}{l:TC}(c:FV h v l):po h v 1 j_ l:=by
 rcases c with⟨rfl,rfl⟩|⟨id,d,rfl,b⟩
 .exact po.nil h 1 j_
 .exact⟨λa _=>bq a,by rw[gp,YA],.inr ⟨id,0,0,_,true,rfl,b,FV.cut⟩⟩
def FV.g_{h:HL}{v:TR}{l:TC}(a:FV h v l):aJ v=true:=a.ls.g_
def FV.i_{h h':HL}{v:TR}{l:TC}(d:FV h v l)(c:∀(j:Nat) o,h[j]?=some o->d_ v=some j->h'[j]?=some o):FV h' v l:=by
 rcases d with a|⟨id,e,rfl,b⟩
 .exact .inl a
 .exact .inr ⟨id,e,rfl,c _ _ b rfl⟩
def FV.lt{h:HL}{v:TR}{l:TC}(c:FV h v l){j:Nat}(a:d_ v=some j):j<h.length:=by
 rcases c with⟨rfl,_⟩|⟨id,d,rfl,b⟩
 .cases a
 .cases a;exact ai b
def FV.GX{h:HL}{v:TR}{l:TC}{a m:Nat}{new:Tn}{r:Ts}{K:Tb}(A:FV h v l)(y:m=h.length)(f:new=j_ a)(i:r=some 11)(C:l.length<=1000000)
  (p:∀v' h',FV h' v' (l++[a])->aJ v'=true->(∃j,d_ v'=some j/\h.length<=j)->(∃a n c,v' = .slice a n c)->(∀(j:Nat) o,h[j]?=some o->d_ v≠some j->h'[j]?=some o)->h.length<=h'.length->K [v'] h') :
  P1.heap (.ap cc 1 8 v (.slice (some ⟨m,0,r⟩) 1 2)) (h++[.o (.cells new 1 true)]) (@hY _ ⟨K⟩):=by
 subst y f i;have q:FU (h++[HO.o (.cells (j_ a) 1 true)]) (.slice (some ⟨h.length,0,le 1⟩) 1 2) 1 1 (j_ a):=⟨rfl,.inr ⟨h.length,0,2,j_ a,true,rfl,by simp,Sx.t_ rfl⟩⟩;have z:ba (l.length+1) 8=true:=by
  unfold ba;rw[DK (by omega),DK (by omega)];rfl
 have u:(l.flatMap j_++j_ a)=(l++[a]).flatMap j_:=by simp
 have d:(l++[a]).length=l.length+1:=by simp
 rcases A with⟨rfl,rfl⟩|⟨id,B,rfl,k⟩
 .have b:Ei cc 1 8 (.slice none 0 0) (.slice (some ⟨h.length,0,le 1⟩) 1 2) (r_ aa (h++[HO.o (.cells (j_ a) 1 true)])) (h++[HO.o (.cells (j_ a) 1 true)]).length=some ([.push (.cells (j_ a) 1 true)],[.slice (some ⟨(h++[HO.o (.cells (j_ a) 1 true)]).length,0,le 1⟩) 1 0]):=by
   unfold Ei;rw[ns q]
   simp_all
  refine bJ (show(Hp.ap cc 1 8 (.slice none 0 0) (.slice (some ⟨h.length,0,le 1⟩) 1 2)).run _ _=_ from b) ?_;refine p _ _ (.inr ⟨_,[],rfl,?_⟩) cT ⟨_,rfl,by simp⟩ ⟨_,_,_,rfl⟩ (λj o g _=>?_) (by simp[bH,Cq.onH])
  .show((h++[HO.o (.cells (j_ a) 1 true)])++[HO.o (.cells (j_ a) 1 true)])[_]?=_
   simp_all
  .exact dt (dt g)
 .have x:=ai k;have w:(h++[HO.o (.cells (j_ a) 1 true)])[id]?=some (.o (.cells (l.flatMap j_++B) 1 true)):=dt k;have b:Ei cc 1 8 (.slice (some ⟨id,0,le 1⟩) l.length 0) (.slice (some ⟨h.length,0,le 1⟩) 1 2) (r_ aa (h++[HO.o (.cells (j_ a) 1 true)])) (h++[HO.o (.cells (j_ a) 1 true)]).length=some ([.set id .dead,.push (.cells (l.flatMap j_++j_ a) 1 true)],[.slice (some ⟨(h++[HO.o (.cells (j_ a) 1 true)]).length,0,le 1⟩) (l.length+1) 0]):=by
   unfold Ei;rw[ns q];simp only[ne_eq,not_true_eq_false,if_false];rw[bG w];simp only[ne_eq,not_true_eq_false,if_false];rw[FV.cut]
   simp_all
  refine bJ (show(Hp.ap cc 1 8 (.slice (some ⟨id,0,le 1⟩) l.length 0) (.slice (some ⟨h.length,0,le 1⟩) 1 2)).run _ _=_ from b) ?_;have s:bH (h++[HO.o (.cells (j_ a) 1 true)]) [.set id .dead,.push (.cells (l.flatMap j_++j_ a) 1 true)]=(h++[HO.o (.cells (j_ a) 1 true)]).set id (.o .dead)++[.o (.cells (l.flatMap j_++j_ a) 1 true)]:=rfl;rw[s];refine p _ _ (.inr ⟨_,[],by rw[d],?_⟩) cT ⟨_,rfl,by simp⟩ ⟨_,_,_,rfl⟩ (λj o g t=>?_) (by simp;omega)
  .simp_all
  .refine dt (cW (dt g) λe=>t ?_);rw[←e];rfl
def FV.DP{h:HL}{v:TR}{l:TC}{a:Nat}{n:Int}{K:TR->Prop}(j:FV h v (l++[a]))(g:n=ofNat l.length)(f:∀v',FV h v' l->aJ v'=true->d_ v'=d_ v->K v'):P1.h_ (Et 1 v none (some n) none) (@hY _ ⟨K⟩):=by
 subst g;rcases j with⟨_,d⟩|⟨id,k,rfl,e⟩
 .simp at d
 have i:Et 1 (.slice (some ⟨id,0,le 1⟩) (l++[a]).length 0) none (some (ofNat l.length)) none=some (.slice (some ⟨id,0,le 1⟩) l.length 0):=by
  unfold Et;have b:¬(le 1≠some 1/\le 1≠le 1):=by simp
  simp only[qs b];have c:(0:Int)<=(none:Tt).getD 0/\(none:Tt).getD 0<=(some (ofNat l.length)).getD ((l++[a]).length:Int)/\bT (l++[a]).length 0 (some (ofNat l.length)) none:=by
   refine⟨by simp,by simp,?_⟩;unfold bT
   grind
  rw[n_ c,ew,ew,ew];simp[bL]
 refine ae i (f _ (.inr ⟨id,j_ a++k,rfl,?_⟩) cT rfl);rw[e];simp
end Go.Am
namespace Go.Am
open Sx
def Ii(T:TC)(W:TE):TE:=T.foldl (λw i=>w.set i 0) W
def LY:∀ {T:TC} {W:TE},(Ii T W).length=W.length
 | [],_=>rfl
 |i :: T,W=>by
  show(Ii T (W.set i 0)).length=_;rw[LY,Fy]
def yo:∀ {T:TC} {W:TE} {j:Nat},(Ii T W)[j]?=if j∈T then(W[j]?).map λ_=>0 else W[j]?
 | [],_,_=>by simp[Ii]
 |i :: T,W,j=>by
  show(Ii T (W.set i 0))[j]?=_;rw[yo,GC]
  grind
def WY{T:TC}{i:Nat}{W:TE}:Ii (T++[i]) W=(Ii T W).set i 0:=by simp[Ii]
def WZ{T:TC}{W a:TE}(h:Ii T W=a)(l:Lit):Ii (if W.getD l.1 0=0 then T++[l.1]else T) (Cr W l)=a:=by
 unfold Cr;by_cases b:W.getD l.1 0=0
 .rw[n_ b,n_ b,←h];refine GB λj=>?_;rw[yo,yo,GC]
  grind
 simp_all
def Cx(us:Ty)(l:TC):TC:=l.filter λo=>!us.getD o false
def tt{us:Ty}{l:TC}{id:Nat}(b:l.Nodup)(c:id<us.length):Cx (us.set id true) l=(Cx us l).erase id:=by
 unfold Cx;have a:(l.filter λo=>!us.getD o false).Nodup:=b.filter _;rw[a.erase_eq_filter,List.filter_filter]
 grind
def pH{us:Ty}{l:TC}{o:Nat}:o∈Cx us l↔o∈l/\us.getD o false=false:=by
 unfold Cx
 simp_all
def WV{us:Ty}{id:Nat}(h:us.getD id false=false):(us.set id true).set id false=us:=by
 rw[List.set_set];refine GB λj=>?_
 grind
end Go.Am
namespace Go.Am
open Sx Go.Proofs
def jK{h:HL}{b e:Nat}{cs ds:Tn}{K:Ta}{o n:Nat}(a:h[b]?=some (.o (.cells cs e true)))(g:o+n<=cs.length)(f:ds=(cs.drop o).take n)(c:K (.pointer (some ⟨b,o,none⟩)) ds) :
  P1.h_ (CW (i' b)) (@hY _ ⟨λx=>P1.k_ x (@hY _ ⟨P1.h_ (Dg o x) (@hY _ ⟨λy=>P1.k_ y (@hY _ ⟨P1.ka (.lg cc n y) h (@hY _ ⟨K y⟩)⟩)⟩)⟩)⟩):=by
 refine ae (x:=i' b) rfl (ab (au b) (ae (x:=.pointer (some ⟨b,0+o,none⟩)) rfl (ab (by simp[aJ,l_,aV,bF,bo,aR,aD]) ?_)));rw[EM];have d:Gp h (.pointer (some ⟨b,o,none⟩)) ds:=by
  refine⟨b,o,cs,e,true,rfl,a,fY.2 ⟨?_,?_⟩⟩
  .grind
  simp_all
 refine dq (d.lg ?_) c
 grind
def QV{h:HL}{n0:Nat}{v:TR}{l:Tn}{i:Nat}{a:TR}{n:Int}{K:Ta}(d:e_ n0 h v 1 CG l)(j:n=ofNat i)(b:l[i]?=some a)(g:∀id,d_ v=some id->K (.pointer (some ⟨id,i,none⟩)) [a]) :
  P1.h_ (A2 1 v n) (@hY _ ⟨λx=>P1.ka (.lg cc 1 x) h (@hY _ ⟨K x⟩)⟩):=by
 subst j;obtain⟨id,k,rfl,_,m,_⟩:=gS d (λe=>by rw[e]at b;cases b);refine ae (Kq (ai b)) ?_;obtain⟨p,c,f⟩:=(d.ls be).at b;rw[Kq (ai b)]at c;cases c;exact dq (f.lg rfl) (g id rfl)
def e_.Jq{i6:Type}{e:Nat}{enc:i6->Tn}{h:HL}{n0:Nat}{v:TR}{l:List i6}{i:Nat}{a:i6}{n:Int}{new:Tn}{K:Tb}(b:∀a,(enc a).length=e)(t:e_ n0 h v e enc l)(s:n=ofNat i)(p:i<l.length)(c:new=enc a)
  (r:∀h':HL,e_ n0 h' v e enc (l.set i a)->(∀(j:Nat) o,h[j]?=some o->Sx.d_ v≠some j->h'[j]?=some o)->h'.length=h.length->K [] h') :
  P1.h_ (A2 e v n) (@hY _ ⟨λx=>P1.heap (.st x new) h (@hY _ ⟨K⟩)⟩):=by
 obtain⟨id,f,rfl,g,d,m⟩:=gS t (λe=>by simp_all);refine dg b d s p rfl c (r _ (.inr ⟨id,f,by rw[Fy],g,bA (ai d),by simp_all⟩) (λj o q k=>?_) gV);rw[bV (λe=>k (by rw[e];rfl))];exact q
structure S3x(c:XC)(k1:Nat):Prop where
 s1:∀j,d_ c.va=some j->j<k1/\d_ c.us≠some j/\d_ c.lay≠some j
 s2:∀j,d_ c.us=some j->j<k1/\d_ c.lay≠some j
 s3:∀j,d_ c.lay=some j->j<k1
structure Mt(h:HL)(c:XC)(k1:Nat)(W:TE)(us:Ty)(LV:List (TC))(lv:Tn):Prop where
 va:e_ 0 h c.va 1 Cg W
 us:e_ 0 h c.us 1 y0 us
 ly:e_ 0 h c.lay 1 CG lv
 ln:lv.length=LV.length
 tr:∀(j:Nat) v l,lv[j]?=some v->LV[j]?=some l->FV h v l
 nb:∀(j:Nat) v x,lv[j]?=some v->d_ v=some x->k1<=x
 dj:∀(i j:Nat) v w x,lv[i]?=some v->lv[j]?=some w->d_ v=some x->d_ w=some x->i=j
def Mt.i_{h h':HL}{c:XC}{k1:Nat}{W:TE}{us:Ty}{f:List (TC)}{lv:Tn}(a:Mt h c k1 W us f lv)(e:∀(j:Nat) o,h[j]?=some o->d_ c.va=some j∨d_ c.us=some j∨d_ c.lay=some j∨(∃v∈lv,d_ v=some j)->h'[j]?=some o):Mt h' c k1 W us f lv:=
 ⟨a.va.i_ λj o d b=>e j o d (.inl b),a.us.i_ λj o d b=>e j o d (.inr (.inl b)),a.ly.i_ λj o d b=>e j o d (.inr (.inr (.inl b))),a.ln,
  λi v l g k=>(a.tr i v l g k).i_ λj o d b=>e j o d (.inr (.inr (.inr ⟨v,Cb g,b⟩))),a.nb,a.dj⟩
section
variable {h h':HL} {c:XC} {k1:Nat} (s:S3x c k1) {W:TE} {us:Ty} {LV:List (TC)} {lv:Tn} (hM:Mt h c k1 W us LV lv)
include s hM
theorem Mt.setV{g:TE}(m:e_ 0 h' c.va 1 Cg g)(f:∀(j:Nat) o,h[j]?=some o->d_ c.va≠some j->j<k1∨(∃v∈lv,d_ v=some j)->h'[j]?=some o):Mt h' c k1 g us LV lv:=
 ⟨m,hM.us.i_ λj o b a=>f j o b (λe=>(s.s1 j e).2.1 a) (.inl (s.s2 j a).1),hM.ly.i_ λj o b a=>f j o b (λe=>(s.s1 j e).2.2 a) (.inl (s.s3 j a)),hM.ln,
  λi v l d k=>(hM.tr i v l d k).i_ λj o b a=>f j o b (λe=>by
   have n:=(s.s1 j e).1;have p:=hM.nb i v j d a;omega) (.inr ⟨v,Cb d,a⟩),hM.nb,hM.dj⟩
theorem Mt.setU{d:Ty}(m:e_ 0 h' c.us 1 y0 d)(f:∀(j:Nat) o,h[j]?=some o->d_ c.us≠some j->h'[j]?=some o):Mt h' c k1 W d LV lv:=
 ⟨hM.va.i_ λj o b a=>f j o b (s.s1 j a).2.1,m,hM.ly.i_ λj o b a=>f j o b (λe=>(s.s2 j e).2 a),hM.ln,
  λi v l g k=>(hM.tr i v l g k).i_ λj o b a=>f j o b (λe=>by
   have n:=(s.s2 j e).1;have p:=hM.nb i v j g a;omega),hM.nb,hM.dj⟩
theorem Mt.H8{st:Nat}{v':TR}{l':TC}(q:st<LV.length)(B:e_ 0 h' c.lay 1 CG (lv.set st v'))(u:FV h' v' l')(p:∀x,d_ v'=some x->k1<=x)(C:∀(j:Nat) w x,j≠st->lv[j]?=some w->d_ v'=some x->d_ w≠some x)
  (n:∀(j:Nat) o,h[j]?=some o->d_ c.lay≠some j->(∀v,lv[st]?=some v->d_ v≠some j)->h'[j]?=some o):Mt h' c k1 W us (LV.set st l') (lv.set st v'):=by
 have D:st<lv.length:=by rw[hM.ln];exact q
 have a:∀(j:Nat) v,(lv.set st v')[j]?=some v->(j=st/\v=v')∨(j≠st/\lv[j]?=some v):=λj v k=>by
  grind
 have f:∀x,x<k1->∀v,lv[st]?=some v->d_ v≠some x:=λx L v u e=>by
  have:=hM.nb st v x u e;omega
 refine⟨hM.va.i_ λj o k d=>n j o k (s.s1 j d).2.2 (f j (s.s1 j d).1),hM.us.i_ λj o k d=>n j o k (s.s2 j d).2 (f j (s.s2 j d).1),B,by rw[Fy,Fy];exact hM.ln,λj v l b g=>?_,λj v x b g=>?_,λi j v w x b g z A=>?_⟩
 .rcases a j v b with⟨rfl,rfl⟩|⟨e,b⟩
  .simp_all
  .rw[Ha (De e)]at g;refine(hM.tr j v l b g).i_ λy o E d=>n y o E (λt=>?_) λH r m=>e (hM.dj j st v H y b r d m);have I:=s.s3 y t;have J:=hM.nb j v y b d;omega
 .rcases a j v b with⟨rfl,rfl⟩|⟨_,b⟩
  .exact p x g
  .exact hM.nb j v x b g
 .rcases a i v b with⟨rfl,rfl⟩|⟨K,F⟩
  .grind
  .rcases a j w g with⟨rfl,rfl⟩|⟨t,G⟩
   .grind
   .exact hM.dj i j v w x F G z A
end
structure Ro(b:Nat)(c:XC)(U:List Lit)(F:List x_)(pn:Ti)(AT:List K3)(IDS:List (TC))(CR:TD)(k1:Nat)(mu:Tz)(P:HL->Prop):Prop where
 kp:∀h h',P h->(∀(j:Nat) o,j<k1->¬mu j->h[j]?=some o->h'[j]?=some o)->P h'
 lt:∀h,P h->k1<=h.length
 s:S3x c k1
 m1:∀j,d_ c.va=some j∨d_ c.us=some j∨d_ c.lay=some j->mu j
 bk:b<k1
 hb:∀h,P h->h[b]?=some (.o (.cells (ah c false) 15 true))
 up:∀h,P h->po h c.up 2 C' U
 fo:∀h,P h->po h c.fo 8 IJ F
 fl:F.length<=1000000
 fv:∀f∈F,f.1.1<U.length/\f.2.1.1<U.length/\f.2.2.1.1<U.length/\f.2.2.2.1<U.length
 pr:∀h,P h->NA h c.pr pn
 ia:∀h,P h->po h c.at_ 3 EP AT
 xc:∀h,P h->po h c.xc 3 my CR
 cl:CR.length<=1000000
 al:AT.length<=1000000
 il:IDS.length=AT.length
 ids:∃vs:List Value,vs.length=IDS.length/\∀h,P h->po h c.ids 1 CG vs/\∀(j:Nat) v l,vs[j]?=some v->IDS[j]?=some l->po h v 1 j_ l
 ib:∀l∈IDS,l.Nodup/\l.length<=1000000/\∀x∈l,∀y∈l,x≠y->(CO pn x y).1<U.length
section
variable {b:Nat} {c:XC} {U:List Lit} {F:List x_} {pn:Ti} {AT:List K3} {IDS:List (TC)} {CR:TD} {k1:Nat} {mu:Tz} {P:HL->Prop} (R:Ro b c U F pn AT IDS CR k1 mu P)
include R
theorem Ro.keepV{h h':HL}(g:P h)(i:∀(j:Nat) o,h[j]?=some o->d_ c.va≠some j->j<k1->h'[j]?=some o):P h':=R.kp h h' g λj o a d f=>i j o f (λe=>d (R.m1 j (.inl e))) a
theorem Ro.keepU{h h':HL}(g:P h)(i:∀(j:Nat) o,h[j]?=some o->d_ c.us≠some j->j<k1->h'[j]?=some o):P h':=R.kp h h' g λj o a d f=>i j o f (λe=>d (R.m1 j (.inr (.inl e)))) a
end
section
variable {b:Nat} {c:XC} {U:List Lit} {F:List x_} {pn:Ti} {AT:List K3} {IDS:List (TC)} {CR:TD} {k1:Nat} {mu:Tz} {P:HL->Prop} (R:Ro b c U F pn AT IDS CR k1 mu P) {r:TF} (hF:Hn U r)
include R hF
theorem V_{h:HL}(hP:P h){W:TE}{us:Ty}{LV:List (TC)}{lv:Tn}(hM:Mt h c k1 W us LV lv){S:(Nat->Bool)->Prop}{D:List (TC)}{st id:Nat}{d p:TC}(hN:L0 U pn S W D p (Cx us d))(Z:IDS[st]?=some d)(hp:LV[st]?=some p)(X:id∈d)(cw:us.getD id false=false)(cx:∀x∈d,x<us.length)(cr:p.length<=1000000)
  {A:Nat} (ht:h[A]?=some (.o (.cells [.slice none 0 0] 1 true))) (c8:k1<=A) (co:∀v∈lv,d_ v≠some A) :
  ∃ok q T x' v' h',aI cc ac 75 [.v (i' b),.i (ofNat st),.i (ofNat id),.v (i' A)] (f_ aa h) [.b ok] (f_ aa h')/\P h'/\Mt h' c k1 q (us.set id true) (LV.set st (p++[id])) (lv.set st v')/\F7 U q/\
   h'[A]?=some (.o (.cells [x'] 1 true))/\po h' x' 1 j_ T/\(T.length<=d.length/\∀i∈T,i<U.length)/\(∀j,d_ x'=some j->h.length<=j/\∀v∈lv.set st v',d_ v≠some j)/\Ii T q=W/\(∃j,d_ v'=some j/\h.length<=j)/\
   (ok=true->L0 U pn S q D (p++[id]) ((Cx us d).erase id)/\Hv U q F)/\(ok=false->∀Rs,(Fh D (p++[id]) ((Cx us d).erase id) Rs).filter (Db pn S F)=[])/\
   (∀(j:Nat) o,h[j]?=some o->j≠A->d_ c.va≠some j->d_ c.us≠some j->d_ c.lay≠some j->(∀v,lv[st]?=some v->d_ v≠some j)->h'[j]?=some o)/\h.length<=h'.length:=by
 have J:=R.ib d (Cb Z);have ad:=cx id X;have Y:id∈Cx us d:=pH.2 ⟨X,cw⟩;have bn:(Cx us d).Nodup:=J.1.filter _;have a4:=ai hp;have a5:st<lv.length:=by rw[hM.ln];exact a4
 obtain⟨v0,I⟩:=aq a5;have cb:=Cb I;have dr:=x75 (ls:=[.v (i' b),.i (ofNat st),.i (ofNat id),.v (i' A)]) (K:=λrs h'=>∃ok q T x' v',rs=[.b ok]/\P h'/\Mt h' c k1 q (us.set id true) (LV.set st (p++[id])) (lv.set st v')/\F7 U q/\
   h'[A]?=some (.o (.cells [x'] 1 true))/\po h' x' 1 j_ T/\(T.length<=d.length/\∀i∈T,i<U.length)/\(∀j,d_ x'=some j->h.length<=j/\∀v∈lv.set st v',d_ v≠some j)/\Ii T q=W/\(∃j,d_ v'=some j/\h.length<=j)/\
   (ok=true->L0 U pn S q D (p++[id]) ((Cx us d).erase id)/\Hv U q F)/\(ok=false->∀Rs,(Fh D (p++[id]) ((Cx us d).erase id) Rs).filter (Db pn S F)=[])/\
   (∀(j:Nat) o,h[j]?=some o->j≠A->d_ c.va≠some j->d_ c.us≠some j->d_ c.lay≠some j->(∀v,lv[st]?=some v->d_ v≠some j)->h'[j]?=some o)/\h.length<=h'.length) (H:=h) (pu (au _) (km (km (pu (au _) u_)))) (by
  unfold f75;simp only[u7];refine b_ ?_;refine br (ds:=[c.us]) (R.hb h hP) (by simp[ah]) rfl ?_;refine b_ ?_;refine ab (hM.us.g_ cM) ?_;refine j8 ?_;refine hM.us.Jq cM rfl ad (a:=true) rfl ?_;intro g1 cm bb c9;refine j8 ?_;have b6:P g1:=R.keepU hP λj o z hb _=>bb j o z hb;have E:=hM.setU R.s cm bb;refine jK (ds:=[c.lay]) (R.hb g1 b6) (by simp[ah]) rfl ?_;refine b_ ?_;refine ab (E.ly.g_ be) ?_;refine j8 ?_;refine jK (ds:=[c.lay]) (R.hb g1 b6) (by simp[ah]) rfl ?_;refine b_ ?_;refine ab (E.ly.g_ be) ?_;refine j8 ?_;refine QV E.ly rfl I ?_;intro lb cp;refine b_ ?_;have a8:=E.tr st v0 p I hp;refine ab a8.g_ ?_;refine j8 ?_;refine a8.GX rfl rfl rfl cr ?_;intro v' g2 an ci L cy bd av;refine b_ ?_;refine ab ci ?_;refine j8 ?_;obtain⟨vb,L,dn⟩:=L;have ag:=R.s.s3;have b9:e_ 0 g2 c.lay 1 CG lv:=E.ly.i_ λj o z hb=>bd j o z λe=>by
   have a1:=ag j hb;have a2:=hM.nb st v0 j I e;omega
  refine b9.Jq be rfl a5 (a:=v') rfl ?_;intro C cn bl dj;have dk:=R.lt h hP;have c3:∀j,d_ v0=some j->k1<=j:=λj z=>hM.nb st v0 j I z;refine ae (x:=()) (cY (bS ⟨_,_,_,rfl⟩ λi n=>?_) (cY (bS ⟨_,_,_,rfl⟩ λi n=>?_) (cY (bS ⟨_,_,_,rfl⟩ λi n=>?_) (cY (bS (jJ a8.ls) λi n=>?_) (cY (bS cy λi n=>?_) eR))))) ?_
  .have a1:=R.bk;have:g1.length=i:=by simpa[d_]using n
   omega
  .have a1:=R.bk;have:g1.length=i:=by simpa[d_]using n
   omega
  .have a1:=ag lb cp;have:g1.length=i:=by simpa[d_]using n
   omega
  .have a1:=R.bk
   grind
  .have a1:=R.bk
   grind
  refine j8 ?_;have bP:∀(j:Nat) o,h[j]?=some o->d_ c.us≠some j->d_ c.lay≠some j->d_ v0≠some j->C[j]?=some o:=λj o z O b2 b3=>bl j o (bd j o (bb j o z O) b3) b2;have a7:P C:=R.kp h C hP λj o j1 j2 z=>bP j o z (λe=>j2 (R.m1 j (.inr (.inl e)))) (λe=>j2 (R.m1 j (.inr (.inr e)))) λe=>by
   grind
  have a6:Mt C c k1 W (us.set id true) (LV.set st (p++[id])) (lv.set st v'):=by
   refine E.H8 R.s a4 cn (an.i_ λj o z hb=>bl j o z λe=>?_) (λx hx=>?_) (λj w x _ hw hx cA=>?_) λj o z O b2=>bl j o (bd j o z (b2 v0 I)) O
   .grind
   .grind
   .rw[L]at hx;cases hx;obtain⟨l2,av⟩ : ∃l2,LV[j]?=some l2:=aq (by rw[←hM.ln];exact ai hw);have:=(E.tr j w l2 hw av).lt cA;omega
  have b7:C[A]?=some (.o (.cells [.slice none 0 0] 1 true)):=bP A _ ht (λe=>by
   have:=(R.s.s2 A e).1;omega) (λe=>by
   grind) (co v0 cb)
  have c4:h.length<=C.length:=by omega
  have c6:vb<C.length:=by
   have:=an.lt L;omega
  refine br (ds:=[c.ids]) (R.hb C a7) (by simp[ah]) rfl ?_;refine b_ ?_;obtain⟨vs,i2,i4⟩:=R.ids;obtain⟨i1,i3⟩:=i4 C a7;refine ab i1.g_ ?_;refine j8 ?_;obtain⟨vi,bx⟩:=aq (l:=vs) (i:=st) (by grind);refine aP i1 rfl bx ?_;rw[show CG vi=[vi]from rfl];refine b_ ?_;have b0:=i3 st vi d bx Z;refine ab b0.g_ ?_;refine j8 ?_;refine bu b0 ?_;have c5:∀v∈lv.set st v',∀j,d_ v=some j->j<C.length:=λv hv j z=>by
   obtain⟨i,n⟩:=DZ hv;obtain⟨l2,av⟩ : ∃l2,(LV.set st (p++[id]))[i]?=some l2:=aq (by rw[←a6.ln];exact ai n);exact(a6.tr i v l2 n av).lt z
  refine aG (m:=d.length) (λm ls g=>∃j q T x',ls=[.i (ofNat j)]/\m=d.length - j/\j<=d.length/\P g/\Mt g c k1 q (us.set id true) (LV.set st (p++[id])) (lv.set st v')/\F7 U q/\g[A]?=some (.o (.cells [x'] 1 true))/\e_ C.length g x' 1 j_ T/\(T.length<=j/\∀i∈T,i<U.length)/\Ii T q=W/\
   GR U pn S q D p (Cx us d) id (Cx (us.set id true) (d.take j))/\(∀(i:Nat) o,C[i]?=some o->i≠A->d_ c.va≠some i->g[i]?=some o)/\C.length<=g.length) ⟨0,W,[],_,rfl,rfl,CM _,a7,a6,hN.ok,b7,.inl ⟨rfl,rfl⟩,⟨x5 _,λi n=>by cases n⟩,rfl,hN.start id,λi o n _ _=>n,x5 _⟩ ?_
  rintro m ls g ⟨j,q,T,x',rfl,rfl,z,u,G,B,a9,M,ap,bC,Q,bm,cq⟩ c7 al;refine Da ?_;have ca:∀ {k:Nat} {y:Nat},y∈Cx (us.set id true) (d.take k)->y∈(Cx us d).erase id:=λ{k y} hy=>by
   rw[←tt J.1 ad];obtain⟨a1,a2⟩:=pH.1 hy;exact pH.2 ⟨ND a1,a2⟩
  have b8:∀ {g':HL},(∀(i:Nat) o,C[i]?=some o->i≠A->d_ c.va≠some i->g'[i]?=some o)->(∀(j:Nat) o,h[j]?=some o->j≠A->d_ c.va≠some j->d_ c.us≠some j->d_ c.lay≠some j->(∀v,lv[st]?=some v->d_ v≠some j)->g'[j]?=some o):=λ{g'} hk j o z O b2 b3 b4 b5=>hk j o (bP j o z b3 b4 (b5 v0 I)) O b2;have cd:∀ {g':HL} {x2:TR} {T2:TC},e_ C.length g' x2 1 j_ T2->∀j,d_ x2=some j->h.length<=j/\∀v∈lv.set st v',d_ v≠some j:=λ{g' x2 T2} ho j z=>by
   have:=(ho.d_ z).1
   grind
  refine b_ ?_;by_cases ax:j<d.length
  case neg=>
   obtain rfl:j=d.length:=by omega
   rw[aK (x5 _)];refine b_ ?_;obtain⟨e,ce,e1,e2⟩:=ZI (R.hb g u) (R.up g u) hF B (G.va.ls dZ) (R.fo g u) R.fl R.fv;refine am ce ?_;refine b_ ?_;rw[Yt]at Q;have hB:∀y,y∈Cx (us.set id true) d↔y∈(Cx us d).erase id:=λy=>by rw[tt J.1 ad]
   refine⟨e,q,T,x',v',by trivial,u,G,B,a9,M.ls bq,ap,cd M,bC,⟨vb,L,by omega⟩,λhe=>⟨Q.placed Y bn hB,e1 he⟩,λhe R'=>?_,b8 bm,by omega⟩;obtain⟨f,hf,x,hx,hn⟩:=e2 he;exact Q.fail Y bn (λy hy=>(hB y).1 hy) (λV hV ck _=>kC B hf hx hn V hV ck) R'
  rw[aL ax];refine b_ ?_;obtain⟨y,hy⟩:=aq ax;have c0:=Cb hy;have cl:po g vi 1 j_ d:=(i4 g u).2 st vi d bx Z;refine aP cl rfl hy ?_;rw[show j_ y=[.int .i64 (ofNat y)]from rfl];refine b_ ?_;refine br (ds:=[c.us]) (R.hb g u) (by simp[ah]) rfl ?_;refine b_ ?_;refine ab (G.us.g_ cM) ?_;refine j8 ?_;obtain⟨t,c1⟩:=aq (l:=us.set id true) (i:=y) (by grind);have dm:(us.set id true).getD y false=t:=by grind
  refine aP (G.us.ls cM) rfl c1 ?_;rw[show y0 t=[.bool t]from rfl];refine b_ ?_;have bs:Cx (us.set id true) (d.take (j+1))=Cx (us.set id true) (d.take j)++if t=true then []else [y]:=by
   rw[H5,hy];unfold Cx
   grind
  cases t with
  |true=>
   simp(disch:=omega)only[↓mc,DJ];rw[aT (by omega)];refine al _ _ _ ?_ ⟨j+1,q,T,x',rfl,rfl,ax,u,G,B,a9,M,⟨by omega,ap.2⟩,bC,?_,bm,cq⟩
   .omega
   grind
  |false=>
   simp(disch:=omega)only[↓mc,Ex];have cf:id≠y:=λe=>by
    grind
   refine am (jR (R.hb g u) (R.pr g u) id y) ?_;refine b_ ?_;obtain⟨N,x2,g',hr,cs,s1,s2,s3,s4,s5,s6⟩:=nS (R.hb g u) (R.up g u) hF B G.va a9 M (by omega) (by omega) (λe=>by
    have:=(R.s.s1 A e).1;omega) (λe=>by
    grind) (λi n e=>by
    have a1:=(M.d_ n).1;have a2:=(R.s.s1 i e).1;omega) (J.2.2 id X y c0 cf)
   refine am cs ?_;refine b_ ?_;have a0:P g':=R.keepV u λi o n O b2=>s4 i o n (by omega) O λe=>by
    grind
   have aE:Mt g' c k1 (Cr q N) (us.set id true) (LV.set st (p++[id])) (lv.set st v'):=G.setV R.s s1 λi o n O b2=>s4 i o n (λe=>by
    grind) O λe=>by
    grind
   have a3:∀(i:Nat) o,C[i]?=some o->i≠A->d_ c.va≠some i->g'[i]?=some o:=λi o n O b2=>s4 i o (bm i o n O b2) O b2 λe=>by
    have a1:=(M.d_ e).1
    grind
   have hz:=WZ bC N;have an:(if q.getD N.1 0=0 then T++[N.1]else T).length<=j+1/\∀i∈(if q.getD N.1 0=0 then T++[N.1]else T),i<U.length:=by
    have:=ap.1;split
    .refine⟨by simp;omega,λi n=>?_⟩;rcases Ed.1 n with n|n
     .exact ap.2 i n
     .rw[Fm]at n;rw[n];exact hr.lt
    grind
   by_cases ay:(Cr q N).getD N.1 0=DN N
   .rw[Fo ay];simp(disch:=omega)only[↓mc,DJ];rw[aT (by omega)];refine al _ _ _ ?_ ⟨j+1,Cr q N,_,x2,rfl,rfl,ax,a0,aE,tZ B N,s2,s3,?_,hz,?_,a3,by omega⟩
    .omega
    .exact an
    .rw[bs];exact Q.set hr ay
   .rw[Gg ay];simp(disch:=omega)only[↓mc,Ex];obtain⟨ct,dl⟩:=Re B hr ay;refine⟨false,Cr q N,_,x2,v',by trivial,a0,aE,tZ B N,s2,s3.ls bq,?_,cd s3,hz,⟨vb,L,by omega⟩,λhe=>(by cases he),λ_ R'=>?_,b8 a3,by omega⟩
    .grind
    .refine Q.fail Y bn (λy hy=>ca hy) (λV hV _ c2=>?_) R'
     grind)
 grind
end
end Go.Am
end

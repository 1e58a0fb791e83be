/-
  PART 6 OF THE PROOF (no conditions).
-/
import Derived.Test.YtiimabnndpeioaaGreatDoorSX5
set_option linter.unusedSectionVars false
set_option linter.unusedSimpArgs false
set_option linter.unusedVariables false
set_option linter.constructorNameAsVariable false
set_option linter.defProp false
noncomputable section
set_option maxRecDepth 100000
set_option maxHeartbeats 16000000
namespace Go.Am
open Sx
def mA(t:Nat):Int:=match t with
 |0=>1|1=>0|2=>-1|3=>0|4=>-1|5=>0|6=>1|_=>0
def mB(t:Nat):Int:=match t with
 |0=>0|1=>-1|2=>0|3=>1|4=>0|5=>-1|6=>0|_=>1
def mC(t:Nat):Int:=match t with
 |0=>0|1=>1|2=>0|3=>-1|4=>0|5=>-1|6=>0|_=>1
def mD(t:Nat):Int:=match t with
 |0=>1|1=>0|2=>-1|3=>0|4=>1|5=>0|6=>-1|_=>0
def A4(s t:Nat):Nat:=if s<4 then(if t<4 then(s+t)%4 else 4+(t+4 - s)%4)else(if t<4 then 4+(s+t)%4 else(t+8 - s)%4)
abbrev Mv:=Nat×Int×Int
def af(a b:Mv):Mv:=(A4 a.1 b.1,mA b.1*a.2.1+mB b.1*a.2.2+b.2.1,mC b.1*a.2.1+mD b.1*a.2.2+b.2.2)
def AZ:Mv:=(0,0,0)
def AK(n:Int)(m:Mv):Prop:=m.1<8/\-n<=m.2.1/\m.2.1<=n/\-n<=m.2.2/\m.2.2<=n/\(m.2.1+m.2.2)%2=0
def t8{t:Nat}(h:t<8):t=0∨t=1∨t=2∨t=3∨t=4∨t=5∨t=6∨t=7:=by omega
def fk{s t:Nat}:A4 s t<8:=by
 unfold A4
 repeat' split
 all_goals omega
def zt{a b c:Nat}(h:a<8)(i:b<8)(j:c<8):A4 (A4 a b) c=A4 a (A4 b c):=by
 have d:((List.range 8).all λa=>(List.range 8).all λb=>(List.range 8).all λc=>A4 (A4 a b) c==A4 a (A4 b c))=true:=by decide +kernel
 have e:=qac.1 d a (qad.2 h);have f:=qac.1 e b (qad.2 i);have g:=qac.1 f c (qad.2 j);simpa using g
def cv{a b c:Mv}(d:a.1<8)(e:b.1<8)(f:c.1<8):af (af a b) c=af a (af b c):=by
 obtain⟨g,i,j⟩:=a;obtain⟨k,l,h⟩:=b;obtain⟨m,n,o⟩:=c;simp only at d e f;unfold af;refine Ed (zt d e f) ?_;simp only;clear d;rcases t8 e with rfl|rfl|rfl|rfl|rfl|rfl|rfl|rfl<;>rcases t8 f with rfl|rfl|rfl|rfl|rfl|rfl|rfl|rfl<;>
  (refine Ed ?_ ?_<;>simp[A4,mA,mB,mC,mD]<;>omega)
def ny{a:Mv}(b:a.1<8):af a AZ=a:=by
 obtain⟨t,x,y⟩:=a;have b:t<8:=b;unfold af AZ;simp only[mA,mB,mC,mD];refine Ed ?_ (Ed (by simp) (by simp));rcases t8 b with rfl|rfl|rfl|rfl|rfl|rfl|rfl|rfl<;>simp[A4]
def jP{a:Mv}(b:a.1<8):af AZ a=a:=by
 obtain⟨t,x,y⟩:=a;have b:t<8:=b;unfold af AZ;refine Ed ?_ (Ed (by simp) (by simp));rcases t8 b with rfl|rfl|rfl|rfl|rfl|rfl|rfl|rfl<;>simp[A4]
def C9(t:Nat):Nat:=match t with
 |1=>3|3=>1|n=>n
def Cn(m:Mv):Mv:=(C9 m.1,-(mA (C9 m.1)*m.2.1+mB (C9 m.1)*m.2.2),-(mC (C9 m.1)*m.2.1+mD (C9 m.1)*m.2.2))
def Ks{m:Mv}(h:m.1<8):af m (Cn m)=AZ:=by
 obtain⟨t,x,y⟩:=m;have h:t<8:=h;unfold af Cn AZ;rcases t8 h with rfl|rfl|rfl|rfl|rfl|rfl|rfl|rfl<;>simp[A4,mA,mB,mC,mD,C9]<;>omega
def aN{n k:Int}{m:Mv}(h:AK n m)(a:n<=k):AK k m:=by
 unfold AK at *;omega
def xM{n:Int}(h:0<=n):AK n AZ:=by
 unfold AK AZ;simp only;omega
def dp{n k:Int}{a b:Mv}(g:AK n a)(h:AK k b):AK (n+k) (af a b):=by
 obtain⟨d,j,l⟩:=a;obtain⟨o,p,f⟩:=b;unfold AK af at *;simp only at *;obtain⟨c,i⟩:=g;obtain⟨e,m⟩:=h;refine⟨fk,?_⟩;clear c;rcases t8 e with rfl|rfl|rfl|rfl|rfl|rfl|rfl|rfl<;>simp only[mA,mB,mC,mD]<;>omega
def Pw{n:Int}{a:Mv}(d:AK n a):AK n (Cn a):=by
 obtain⟨c,f,g⟩:=a;unfold AK Cn at *;simp only at *;obtain⟨b,e⟩:=d;rcases t8 b with rfl|rfl|rfl|rfl|rfl|rfl|rfl|rfl<;>simp[mA,mB,mC,mD,C9]<;>omega
abbrev Ln:=Nat×Int
def Bm(l:Ln):Mv:=match l.1 with
 |1=>(4,2*l.2,0)
 |2=>(6,0,2*l.2)
 |3=>(5,l.2,l.2)
 |_=>(7,-l.2,l.2)
def xL{l:Ln}{n:Int}(h:-n<=l.2/\l.2<=n):AK (2*n) (Bm l):=by
 obtain⟨k,c⟩:=l;unfold Bm AK;simp only at h ⊢;split<;>simp only<;>omega
def uM(l:Ln):(Bm l).1<8:=by
 unfold Bm;split<;>simp
def H3(l:Ln):af (Bm l) (Bm l)=AZ:=by
 obtain⟨k,c⟩:=l;unfold Bm af AZ;simp only;split<;>simp[A4,mA,mB,mC,mD]<;>omega
abbrev Cl:=Int×Int×Nat
def uc(c:Cl)(e:Nat):Ln:=match e with
 |0=>(match c.2.2 with
  |0=>(2,c.2.1)
  |1=>(1,c.1+1)
  |2=>(2,c.2.1+1)
  |_=>(1,c.1))
 |1=>(3,c.1+c.2.1+1)
 |_=>(4,c.2.1 - c.1)
def AP(c:Cl)(e:Nat):Cl:=match e with
 |0=>(match c.2.2 with
  |0=>(c.1,c.2.1 - 1,2)
  |1=>(c.1+1,c.2.1,3)
  |2=>(c.1,c.2.1+1,0)
  |_=>(c.1 - 1,c.2.1,1))
 |1=>(c.1,c.2.1,[1,0,3,2].getD c.2.2 0)
 |_=>(c.1,c.2.1,[3,2,1,0].getD c.2.2 0)
def qT(t q:Nat):Nat:=if t<4 then(q+t)%4 else([0,3,2,1].getD ((q+t)%4) 0+(if t%2=0 then 0 else 2))%4
def am(m:Mv)(c:Cl):Cl:=(mA m.1*c.1+mB m.1*c.2.1+m.2.1 - (if mA m.1+mB m.1=1 then 0 else 1),mC m.1*c.1+mD m.1*c.2.1+m.2.2 - (if mC m.1+mD m.1=1 then 0 else 1),qT m.1 c.2.2)
def dh(l:Ln)(c:Cl):Bool:=match l.1 with
 |1=>decide (l.2<=c.1)
 |2=>decide (l.2<=c.2.1)
 |3=>decide (l.2<=c.1+c.2.1+(if c.2.2=1∨c.2.2=2 then 1 else 0))
 |_=>decide (l.2<=c.2.1 - c.1 - (if c.2.2=2∨c.2.2=3 then 0 else 1))
def wl{l:Ln}{c:Cl}{e:Nat}(a:1<=l.1/\l.1<=4)(b:c.2.2<4)(d:e<3)(h:dh l c≠dh l (AP c e)):l=uc c e:=by
 obtain⟨k,n⟩:=l;obtain⟨x,y,q⟩:=c;simp only at a b;obtain rfl|rfl|rfl|rfl:q=0∨q=1∨q=2∨q=3:=by omega
 all_goals obtain rfl|rfl|rfl:e=0∨e=1∨e=2:=by omega
 all_goals obtain rfl|rfl|rfl|rfl:k=1∨k=2∨k=3∨k=4:=by omega
 all_goals
  simp[dh,AP,uc]at h ⊢
 all_goals first|done|omega|(exfalso;omega)
def eT(t e:Nat):Nat:=if e=0 then 0 else if t%2=0/\t<4∨t=5∨t=7 then e else 3 - e
def gk{m:Mv}{c:Cl}{e:Nat}(a:m.1<8)(b:c.2.2<4)(d:e<3):am m (AP c e)=AP (am m c) (eT m.1 e):=by
 obtain⟨t,f,g⟩:=m;obtain⟨x,y,q⟩:=c;simp only at a b;rcases t8 a with rfl|rfl|rfl|rfl|rfl|rfl|rfl|rfl
 all_goals obtain rfl|rfl|rfl|rfl:q=0∨q=1∨q=2∨q=3:=by omega
 all_goals obtain rfl|rfl|rfl:e=0∨e=1∨e=2:=by omega
 all_goals simp[am,AP,eT,qT,mA,mB,mC,mD]
 all_goals first|done|omega|(constructor<;>omega)
def Ph{m:Mv}{c:Cl}{e:Nat}(a:m.1<8)(b:c.2.2<4)(d:e<3):af m (Bm (uc (am m c) (eT m.1 e)))=af (Bm (uc c e)) m:=by
 obtain⟨t,f,g⟩:=m;obtain⟨x,y,q⟩:=c;simp only at a b;rcases t8 a with rfl|rfl|rfl|rfl|rfl|rfl|rfl|rfl
 all_goals obtain rfl|rfl|rfl|rfl:q=0∨q=1∨q=2∨q=3:=by omega
 all_goals obtain rfl|rfl|rfl:e=0∨e=1∨e=2:=by omega
 all_goals simp[am,eT,qT,mA,mB,mC,mD,af,Bm,uc,A4]
 all_goals first|done|omega|(constructor<;>omega)
def kR{t e:Nat}(a:e<3):eT t e<3:=by
 unfold eT
 repeat' split
 all_goals omega
def gL{t q:Nat}:qT t q<4:=by
 unfold qT;split<;>omega
def H9{g:Mv}{l:Ln}{c:Cl}{e:Nat}(hg:g.1<8)(d:1<=l.1/\l.1<=4)(b:c.2.2<4)(a:e<3)(h:dh l (am g c)≠dh l (am g (AP c e))):af g (Bm l)=af (Bm (uc c e)) g:=by
 rw[gk hg b a]at h;have:=wl d gL (kR a) h;rw[this];exact Ph hg b a
def gj{g:Mv}{c:Cl}{e:Nat}(hg:g.1<8)(a:c.2.2<4)(b:e<3):am (af (Bm (uc c e)) g) (AP c e)=am g c:=by
 obtain⟨t,d,f⟩:=g;obtain⟨x,y,q⟩:=c;simp only at hg a;rcases t8 hg with rfl|rfl|rfl|rfl|rfl|rfl|rfl|rfl
 all_goals obtain rfl|rfl|rfl|rfl:q=0∨q=1∨q=2∨q=3:=by omega
 all_goals obtain rfl|rfl|rfl:e=0∨e=1∨e=2:=by omega
 all_goals simp[am,AP,qT,mA,mB,mC,mD,af,Bm,uc,A4]
 all_goals first|done|omega|(constructor<;>omega)
end Go.Am
namespace Go.Am
open Sx Go.Proofs
def jA(f:TK)(ls a:TB):Bool:=FQ a (Eh 60 (.f f) ls .empty DA)
def ez{f:TK}{ls a:TB}{sg:Sig}(h:jA f ls a=true)(c:ab f=some sg)(b:sg.plain=true)(hg:jO ls=true):Cc f ls a:=ir (n:=60) c b hg h
abbrev AB(m:Mv):TB:=[.i (Int.ofNat m.1),.i m.2.1,.i m.2.2]
abbrev As(c:Cl):TB:=[.i c.1,.i c.2.1,.i (Int.ofNat c.2.2)]
def mR{n:Int}(h:-16384<=n/\n<=16384):Cc 53 [.i n] [.b false]:=by
 refine q53 rfl ?_;unfold VJ;simp only[xp]
 repeat (first|simp(disch:=omega)only[↓po])
 try rfl
def KU{t x y:Int}(f:0<=t/\t<8)(b:-16384<=x/\x<=16384)(c:-16384<=y/\y<=16384)(e:(x+y)%2=0):Cc 18 [.i t,.i x,.i y] [.i 0]:=by
 refine q18 rfl ?_;unfold VH;simp only[xp];rcases Int.le_total 0 (x+y)with a|a
 ·repeat (first|simp(disch:=omega)only[↓po]|refine ah (mR b) ?_|refine ah (mR c) ?_|rw[Bh a (by omega)])
 ·have d:-(-(x+y)%2)=0:=by omega
  repeat (first|simp(disch:=omega)only[↓po]|refine ah (mR b) ?_|refine ah (mR c) ?_|rw[C0 a (by omega)])
def uF{n:Int}{m:Mv}(h:AK n m)(g:n<=16384):Cc 18 (AB m) [.i 0]:=by
 obtain⟨b,c,d,e,f,a⟩:=h;exact KU ⟨B8 _,by show(m.1:Int)<8;omega⟩ (by omega) (by omega) a
def uP{t:Nat}(h:t<8):mI T2 0 [(Int.ofNat t,4)] 4=some [.int .i64 (mA t),.int .i64 (mB t),.int .i64 (mC t),.int .i64 (mD t)]:=by
 rcases t8 h with rfl|rfl|rfl|rfl|rfl|rfl|rfl|rfl<;>kernel_rfl
def zh{n t:Nat}(h:t<n):Cf n (Int.ofNat t)=some ():=by
 show(match Nat.blt t n with
  |true=>some ()
  |false=>none)=some ()
 rw[show Nat.blt t n=true by rw[BW];exact h]
def K1{t:Nat}(a:t<8){x y:Int}(h:-200000<=x/\x<=200000/\-200000<=y/\y<=200000):Cc 132 [.i (mA t),.i (mB t),.i (mC t),.i (mD t),.i x,.i y] [.i (mA t*x+mB t*y),.i (mC t*x+mD t*y)]:=by
 rcases t8 a with rfl|rfl|rfl|rfl|rfl|rfl|rfl|rfl
 all_goals
  simp only[mA,mB,mC,mD];refine q132 rfl ?_;unfold JY;simp only[xp]
  repeat (first|simp(disch:=omega)only[↓po])
  (try simp only[Dt,Lf.i.injEq,and_true,true_and]);(try omega)
def thenT(s t:Nat):Bool:=jA 135 [.i (mA s),.i (mB s),.i (mC s),.i (mD s),.i (mA t),.i (mB t),.i (mC t),.i (mD t)] [.i (mA (A4 s t)),.i (mB (A4 s t)),.i (mC (A4 s t)),.i (mD (A4 s t))]
def numT(t:Nat):Bool:=jA 134 [.i (mA t),.i (mB t),.i (mC t),.i (mD t)] [.i (.ofNat t)]
def yB:((List.range 8).all λs=>numT s&&(List.range 8).all λt=>thenT s t)=true:=by kernel_rfl
def GO{s t:Nat}(a:s<8)(b:t<8):Cc 135 [.i (mA s),.i (mB s),.i (mC s),.i (mD s),.i (mA t),.i (mB t),.i (mC t),.i (mD t)] [.i (mA (A4 s t)),.i (mB (A4 s t)),.i (mC (A4 s t)),.i (mD (A4 s t))]:=by
 have h:=qac.1 yB s (qad.2 a);rw[wa]at h;exact ez (qac.1 h.2 t (qad.2 b)) rfl (by kernel_rfl) rfl
def Ld{t:Nat}(a:t<8):Cc 134 [.i (mA t),.i (mB t),.i (mC t),.i (mD t)] [.i (.ofNat t)]:=by
 have h:=qac.1 yB t (qad.2 a);rw[wa]at h;exact ez h.1 rfl (by kernel_rfl) rfl
def HQ{m:Mv}{n:Int}(h:AK n m)(a:n<=16384):Cc 133 (AB m) (AB m++[.i 0]):=by
 refine q133 rfl ?_;unfold Hs;simp only[xp]
 repeat (first|simp(disch:=omega)only[↓po]|refine ah (uF h a) ?_)
 rfl
def Vx{a b:Mv}{n k:Int}(c:AK n a)(d:AK k b)(p:0<=n/\0<=k/\n+k<=16384):Cc 101 (AB a++AB b) (AB (af a b)++[.i 0]):=by
 have j:=dp c d;refine q101 rfl ?_;unfold Hq;simp only[xp];simp only[AB,AO,AG]
 repeat (first|simp(disch:=omega)only[↓po]|refine ah (uF c (by omega)) ?_|refine ah (uF d (by omega)) ?_|refine ae (zh d.1) ?_|refine ae (uP d.1) ?_|refine ah (K1 d.1 ⟨by have:=c.2;omega,by have:=c.2;omega,by have:=c.2;omega,by have:=c.2;omega⟩) ?_|refine ae (zh c.1) ?_|refine ae (uP c.1) ?_|refine ah (GO c.1 d.1) ?_|refine ah (Ld fk) ?_)
 have q:∀z:Int,(-n<=z/\z<=n)∨True:=λ_=>.inr trivial;obtain⟨l,e,f,g,h,o⟩:=j;unfold af at e f g h;simp only at e f g h;rw[Cr (by omega) (by omega),Cr (by omega) (by omega)];refine ah (HQ (m:=af a b) ⟨l,e,f,g,h,o⟩ (by omega)) ?_;simp only[AB,AO,AG];refine jn ?_;rfl
def Uh{k c:Int}(b:1<=k/\k<=4)(a:-4096<=c/\c<=4096):Cc 172 [.i k,.i c] [.i 0]:=by
 refine q172 rfl ?_;unfold J1;simp only[xp]
 repeat (first|simp(disch:=omega)only[↓po])
 try rfl
def of1_c{k c:Int}{m:Mv}(d:1<=k/\k<=4)(b:-4096<=c/\c<=4096)(a:m=Bm (k.toNat,c)):Cc 131 [.i k,.i c] (AB m++[.i 0]):=by
 subst a;obtain rfl|rfl|rfl|rfl:k=1∨k=2∨k=3∨k=4:=by omega
 all_goals
  refine q131 rfl ?_;unfold JX;simp only[xp]
  repeat (first|simp(disch:=omega)only[↓po]|refine ah (Uh (by omega) (by omega)) ?_)
  simp[Bm]
def Uy{l:Ln}(b:1<=l.1/\l.1<=4)(a:-4096<=l.2/\l.2<=4096):Cc 131 [.i (Int.ofNat l.1),.i l.2] (AB (Bm l)++[.i 0]):=
 of1_c (k:=Int.ofNat l.1) ⟨by show(1:Int)<=(l.1:Int);omega,by show(l.1:Int)<=4;omega⟩ a rfl
def U3{x y:Int}(h:-65536<=x/\x<=65536/\-65536<=y/\y<=65536):Cc 173 [.i x,.i y] [.i 0]:=by
 refine q173 rfl ?_;unfold J2;simp only[xp]
 repeat (first|simp(disch:=omega)only[↓po])
 try rfl
def U7(m:Mv)(x y:Int):Int×Int:=(mA m.1*x+mB m.1*y+2*m.2.1,mC m.1*x+mD m.1*y+2*m.2.2)
def FX{t:Nat}(a:t<8){n x y:Int}(h:-n<=x/\x<=n/\-n<=y/\y<=n):-n<=mA t*x+mB t*y/\mA t*x+mB t*y<=n/\-n<=mC t*x+mD t*y/\mC t*x+mD t*y<=n:=by
 rcases t8 a with rfl|rfl|rfl|rfl|rfl|rfl|rfl|rfl<;>simp only[mA,mB,mC,mD]<;>omega
def Gi{m:Mv}(a:AK 16384 m){x y:Int}(h:-8000<=x/\x<=8000/\-8000<=y/\y<=8000):Cc 137 (AB m++[.i x,.i y]) [.i (U7 m x y).1,.i (U7 m x y).2,.i 0]:=by
 have c:=FX a.1 h;have b:=a.2;refine q137 rfl ?_;unfold J0;simp only[xp];simp only[AB,AO,AG]
 repeat (first|simp(disch:=omega)only[↓po]|refine ah (uF a (by omega)) ?_|refine ah (U3 (by omega)) ?_|refine ae (zh a.1) ?_|refine ae (uP a.1) ?_|refine ah (K1 a.1 (by omega)) ?_)
 rfl
def wQ{c:Cl}(h:-4096<=c.1/\c.1<=4096/\-4096<=c.2.1/\c.2.1<=4096/\c.2.2<4):Cc 94 (As c) [.i 0]:=by
 have a:(Int.ofNat c.2.2)<=3:=by show(c.2.2:Int)<=3;omega
 refine q94 rfl ?_;unfold TW;simp only[xp]
 repeat (first|simp(disch:=omega)only[↓po])
 try rfl
def K0{x y q:Int}(h:-1000000<=x/\x<=1000000/\-1000000<=y/\y<=1000000):Cc 136 [.i x,.i y,.i q] [.i (2*x+1),.i (2*y+1)]:=by
 refine q136 rfl ?_;unfold JZ;simp only[xp]
 repeat (first|simp(disch:=omega)only[↓po])
 (try simp only[Dt,Lf.i.injEq,and_true,true_and]);(try omega)
def V1(q:Nat):Int:=[0,1,0,-1].getD q 0
def V2(q:Nat):Int:=[-1,0,1,0].getD q 0
def U5{q:Nat}(h:q<4):mI T0 0 [(Int.ofNat q,17)] 2=some [.int .i64 (V1 q),.int .i64 (V2 q)]:=by
 obtain rfl|rfl|rfl|rfl:q=0∨q=1∨q=2∨q=3:=by omega
 all_goals kernel_rfl
def Pi{m:Mv}(e:AK 16384 m){c:Cl}(d:-1000<=c.1/\c.1<=1000/\-1000<=c.2.1/\c.2.1<=1000/\c.2.2<4):Cc 104 (AB m++As c) (As (am m c)):=by
 obtain⟨t,n,o⟩:=m;obtain⟨x,y,q⟩:=c;have i:AK 16384 (t,0,0):=⟨e.1,by simp,by simp,by simp,by simp,by simp⟩;have a:=Gi (aN e (by omega)) (x:=2*x+1) (y:=2*y+1) (by simp only at d;omega);have b:=Gi (aN i (by omega)) (x:=V1 q) (y:=V2 q) (by
  have j:q<4:=d.2.2.2.2;obtain rfl|rfl|rfl|rfl:q=0∨q=1∨q=2∨q=3:=by omega
  all_goals simp[V1,V2])
 obtain⟨X,k⟩ : ∃X,(U7 (t,n,o) (2*x+1) (2*y+1)).1=X:=⟨_,rfl⟩;obtain⟨Y,l⟩ : ∃Y,(U7 (t,n,o) (2*x+1) (2*y+1)).2=Y:=⟨_,rfl⟩;obtain⟨U,f⟩ : ∃U,(U7 (t,0,0) (V1 q) (V2 q)).1=U:=⟨_,rfl⟩;obtain⟨V,g⟩ : ∃V,(U7 (t,0,0) (V1 q) (V2 q)).2=V:=⟨_,rfl⟩;rw[k,l]at a;rw[f,g]at b;have h:=e.2;have p:t<8:=e.1;have j:q<4:=d.2.2.2.2;simp only at h d;refine q104 rfl ?_;unfold JQ;simp only[xp];simp only[AB,As,AO,AG]
 repeat (first|simp(disch:=omega)only[↓po]|refine ah (K0 (by omega)) ?_|refine ae (zh j) ?_|refine ae (U5 j) ?_|refine ah a ?_|refine ah b ?_)
 rcases t8 p with rfl|rfl|rfl|rfl|rfl|rfl|rfl|rfl
 all_goals obtain rfl|rfl|rfl|rfl:q=0∨q=1∨q=2∨q=3:=by omega
 all_goals
  simp[U7,mA,mB,mC,mD,V1,V2]at k l f g;subst f g
  repeat (first|simp(disch:=omega)only[↓po]|refine ae (by simp only[mG,LN,A1,Int.reduceToNat,Int.reduceAdd,Int.reduceMul,Int.reduceMod,Int.reduceSub,Int.reduceNeg,Int.reduceDiv,Nat.reduceAdd,Nat.reduceMul,Nat.reduceLeDiff,C6,Vj,↓reduceIte,qcU,Gl,qcF,VW,AO,AG,BT,Int.toNat_zero,L0,Vf,Int.zero_add];exact rfl) ?_|refine gG 6 ?_)
  try simp[am,mA,mB,mC,mD,qT]
  try omega
abbrev B3:=Int×Int×Int
def Ac(c:B3):Tk:=[.int .i64 c.1,.int .u8 c.2.1,.int .u8 c.2.2]
def okC(c:B3):Prop:=-9223372036854775808<=c.1/\c.1<=9223372036854775807/\0<=c.2.1/\c.2.1<=255/\0<=c.2.2/\c.2.2<=255
def HJ(c:B3):Bool:=decide (1<=c.2.2)&&decide (c.2.2<=3)
def Kt(k:Int):Cc 124 [.i k] [.b (decide (1<=k)&&decide (k<=3))]:=by
 refine q124 rfl ?_;unfold JV;simp only[xp];by_cases a:1<=k
 ·by_cases c:k<=3
  ·simp(disch:=omega)only[↓po];simp[a,c]
  ·simp(disch:=omega)only[↓po];simp[a,c]
 ·simp(disch:=omega)only[↓po];simp[a]
def SO(c:B3):Cc 123 [.i c.1,.i c.2.1,.i c.2.2] [.b (!HJ c)]:=by
 refine q123 rfl ?_;unfold JU;simp only[xp]
 repeat (first|simp(disch:=omega)only[↓po]|refine ah (Kt c.2.2) ?_)
 simp[HJ]
abbrev SS:Value:=.func (.func 123) ⟨[]⟩ ⟨[]⟩
def Rs:aC SS=true:=rfl
abbrev _root_.Ty:=List B3
def OU{h:HL}{x:Value}{l:Ty}(o:LsH h x 3 Ac l)(z:l.length<=4294967296):∃n:Int,aD cc ab 169 [.v x,.v SS] (ka aa h) [.i n] (ka aa h)/\(0<=n↔∃c∈l,HJ c=false):=by
 obtain⟨r,p,u,n,rfl,rfl,w⟩:=x169 (K:=λr p=>∃n:Int,r=[.i n]/\p=h/\(0<=n↔∃c∈l,HJ c=false)) (H:=h) (oo o.good (oo Rs ua)) (by
  unfold OI;simp only[xp];refine jn ?_;refine bz o ?_;refine cG l.length (λj=>∀i,i<j->∀c,l[i]?=some c->HJ c=true) rfl (AF _) (λi k=>absurd k (qd2 _)) ?_;intro j y k s d;refine jn ?_;by_cases g:j<l.length
  ·have m:Int.ofNat j<Int.ofNat l.length:=by show(j:Int)<l.length;omega
   rw[us m];refine jn ?_;obtain⟨c,e⟩ : ∃c,l[j]?=some c:=⟨_,Be g⟩;refine aP o rfl e ?_;unfold Ac
   repeat (first|simp(disch:=omega)only[↓po]|refine ju (mV (SO c _) rfl [.agg [.i .i64 c.1,.i .u8 c.2.1,.i .u8 c.2.2]] rfl rfl) ?_)
   cases f:HJ c with
   |true=>
    show P1.cond false _ _;refine jn ?_;rw[Cr (by show -9223372036854775808<=(j:Int)+1;omega) (by show(j:Int)+1<=9223372036854775807;omega)];refine d g λi a t b=>?_;rcases Bu i j with h|h
    ·exact k i h t b
    ·obtain rfl:i=j:=by omega
     rw[e]at b;cases b;exact f
   |false=>
    show P1.cond true _ _;refine jn ?_;exact⟨_,rfl,by trivial,λ_=>⟨c,Ap e,f⟩,λ_=>B8 j⟩
  ·have m:Int.ofNat l.length<=Int.ofNat j:=by show(l.length:Int)<=j;omega
   rw[tx m];refine jn ?_;refine⟨_,rfl,by trivial,λh=>by omega,λ⟨c,e,f⟩=>?_⟩;obtain⟨i,a⟩:=BK e;have q:i<l.length:=by
    rcases Bu i l.length with h|h
    ·exact h
    ·rw[Bp h]at a;cases a
   rw[k i (by omega) c a]at f;cases f)
 exact⟨n,u,w⟩
def yU{h:HL}{x:Value}{l:Ty}(i:LsH h x 3 Ac l)(o:l.length<=4294967296):aD cc ab 122 [.v x,.v SS] (ka aa h) [.b (!l.all HJ)] (ka aa h):=by
 obtain⟨n,k,f⟩:=OU i o;obtain⟨j,e,m,rfl,rfl⟩:=x122 (K:=λj e=>j=[.b (!l.all HJ)]/\e=h) (H:=h) (oo i.good (oo Rs ua)) (by
  unfold OA;simp only[xp]
  repeat (first|simp(disch:=omega)only[↓po]|refine ai k ?_)
  cases g:l.all HJ with
  |true=>
   have:¬0<=n:=λh=>by
    obtain⟨c,d,a⟩:=f.1 h;rw[qac.1 g c d]at a;cases a
   simp(disch:=omega)only[↓po];trivial
  |false=>
   have:0<=n:=f.2 (by
    obtain⟨c,d,a⟩:=List.all_eq_false.1 g;exact⟨c,d,by simpa using a⟩)
   simp(disch:=omega)only[↓po];trivial)
 exact m
def Aj(w v c e:Nat):To:=
 match e,c%4 with
 |0,0=>if 0<c / 4 / w then some (c+2 - 4*w)else none
 |0,1=>if c / 4%w+1<w then some (c+6)else none
 |0,2=>if c / 4 / w+1<v then some (c+4*w - 2)else none
 |0,_=>if 0<c / 4%w then some (c - 6)else none
 |1,0=>some (c+1)
 |1,1=>some (c - 1)
 |1,2=>some (c+1)
 |1,_=>some (c - 1)
 |2,0=>some (c+3)
 |2,1=>some (c+1)
 |2,2=>some (c - 1)
 |2,_=>some (c - 3)
 |_,_=>none
def D2(w v c e:Nat):TB:=match Aj w v c e with
 |some n=>[.i (.ofNat (min c n)),.i (.ofNat e),.i 0]
 |none=>[.i 0,.i 0,.i 7]
def DM(w c:Nat):TB:=[.i (.ofNat (c / 4%w)),.i (.ofNat (c / 4 / w)),.i (.ofNat (c%4)),.i 0]
def GM(w v:Nat):Bool:=(List.range (4*w*v)).all λc=>(List.range 3).all λe=>FQ (D2 w v c e) (Eh 60 (.f 125) [.i (.ofNat w),.i (.ofNat v),.i (.ofNat c),.i (.ofNat e)] .empty DA)
def GL(w v:Nat):Bool:=(List.range (4*w*v)).all λc=>FQ (DM w c) (Eh 60 (.f 64) [.i (.ofNat w),.i (.ofNat v),.i (.ofNat c)] .empty DA)
def vi(w v:Nat):List (Nat×Nat):=(List.range (4*w*v)).flatMap λc=>(List.range 3).filterMap λe=>match Aj w v c e with
 |some n=>if c<n then some (c,e)else none
 |none=>none
def Iz(w v:Nat):Bool:=GM w v&&GL w v
def qY:∀w v:Nat,1<=w->w<=5->1<=v->v<=5->Iz w v=true:=by
 have a:((List.range 5).all λw=>(List.range 5).all λv=>Iz (w+1) (v+1))=true:=by kernel_rfl
 intro w v f g h i;have e:=qac.1 a (w - 1) (qad.2 (by omega));have b:=qac.1 e (v - 1) (qad.2 (by omega));have c:w - 1+1=w:=by omega
 have d:v - 1+1=v:=by omega
 rw[c,d]at b;exact b
def UE{w v c e n:Nat}(d:1<=w)(h:Aj w v c e=some n):n≠c:=by
 have f:c / 4%w<=c / 4:=qd8 _ _;have g:c / 4 / w<=c / 4:=qdx _ _;have b:c%4=0∨c%4=1∨c%4=2∨c%4=3:=by omega
 rcases e with _|_|_|e<;>rcases b with a|a|a|a<;>simp only[Aj,a]at h<;>
  first
  |(split at h<;>first|(simp only[B7]at h;omega)|(cases h;done))
  |(simp only[B7]at h;omega)
  |(cases h;done)
def GK{w v:Nat}(h:Iz w v=true):GM w v=true/\GL w v=true:=by
 unfold Iz at h;simp only[wa]at h;exact h
def ER{w v:Nat}(f:Iz w v=true){c e:Nat}(b:c<4*w*v)(d:e<3):Cc 125 [.i (.ofNat w),.i (.ofNat v),.i (.ofNat c),.i (.ofNat e)] (D2 w v c e):=by
 have a:=qac.1 (GK f).1 c (qad.2 b);exact ir (n:=60) rfl (by kernel_rfl) rfl (qac.1 a e (qad.2 d))
def Ex{w v:Nat}(b:Iz w v=true){c:Nat}(a:c<4*w*v):Cc 64 [.i (.ofNat w),.i (.ofNat v),.i (.ofNat c)] (DM w c):=
 ir (n:=60) rfl (by kernel_rfl) rfl (qac.1 (GK b).2 c (qad.2 a))
def Cy(w v:Int):Prop:=1<=w/\1<=v/\w<=256/\v<=256/\w*v<=256
instance (w v : Int) : Decidable (Cy w v) := by unfold Cy; infer_instance
def EQ{w v a b:Int}(h:0<=w/\w<=a/\0<=v/\v<=b):0<=w*v/\w*v<=a*b:=
 ⟨Int.mul_nonneg h.1 h.2.2.1,Int.mul_le_mul h.2.1 h.2.2.2 h.2.2.1 (by omega)⟩
def P5(w v:Int):Cc 62 [.i w,.i v] [.i (if Cy w v then 0 else 1)]:=by
 refine q62 rfl ?_;unfold Y2;simp only[xp];by_cases c:1<=w
 ·by_cases d:1<=v
  ·by_cases e:w<=256
   ·by_cases f:v<=256
    ·have h:=EQ (w:=w) (v:=v) (a:=256) (b:=256) (by omega);by_cases g:w*v<=256
     ·simp(disch:=omega)only[↓po];simp[Cy,c,d,e,f,g]
     ·simp(disch:=omega)only[↓po];simp[Cy,g]
    ·simp(disch:=omega)only[↓po];simp[Cy,f]
   ·simp(disch:=omega)only[↓po];simp[Cy,e]
  ·simp(disch:=omega)only[↓po];simp[Cy,d]
 ·simp(disch:=omega)only[↓po];simp[Cy,c]
def lQ{w v:Int}(h:Cy w v):Cc 62 [.i w,.i v] [.i 0]:=by
 have:=P5 w v;rw[mc h]at this;exact this
def DB(w v:Int):Prop:=1<=w/\w<=5/\1<=v/\v<=5
def wz{w v:Int}(h:DB w v):Cy w v:=by
 unfold DB at h;have:=EQ (w:=w) (v:=v) (a:=5) (b:=5) (by omega);unfold Cy;omega
def sm4{w v:Int}(h:DB w v):4<=4*w*v/\4*w*v<=100:=by
 unfold DB at h;have c:=EQ (w:=4*w) (v:=v) (a:=20) (b:=5) (by omega);have d:4*w<=4*w*v:=by
  have:=Int.mul_le_mul_of_nonneg_left h.2.2.1 (show 0<=4*w by omega);rw[Int.mul_one]at this;exact this
 omega
def ZF{w v:Int}(h:DB w v)(c:Int):Cc 102 [.i w,.i v,.i c] [.b (decide (0<=c)&&decide (c<4*w*v))]:=by
 have e:=sm4 h;unfold DB at h;refine q102 rfl ?_;unfold JP;simp only[xp];by_cases a:0<=c
 ·by_cases d:c<4*w*v
  ·simp(disch:=omega)only[↓po];simp[a,d]
  ·simp(disch:=omega)only[↓po];simp[a,d]
 ·simp(disch:=omega)only[↓po];simp[a]
def zQ{w v c:Int}(h:DB w v)(a:¬(0<=c/\c<4*w*v)):Cc 64 [.i w,.i v,.i c] [.i 0,.i 0,.i 0,.i 7]:=by
 refine q64 rfl ?_;unfold Y3;simp only[xp]
 repeat (first|simp(disch:=omega)only[↓po]|refine ah (lQ (wz h)) ?_)
 have e:(decide (0<=c)&&decide (c<4*w*v))=false:=by simp;omega
 refine ah (e▸ZF h c) ?_;simp(disch:=omega)only[↓po,CI]
def wy{w v c e:Int}(h:DB w v)(a:¬(0<=c/\c<4*w*v)):Cc 67 [.i w,.i v,.i c,.i e] [.i 0,.i 7]:=by
 refine q67 rfl ?_;unfold VL;simp only[xp]
 repeat (first|simp(disch:=omega)only[↓po]|refine ah (zQ h a) ?_)
def zR{w v c e:Int}(h:DB w v)(a:¬(0<=c/\c<4*w*v)):Cc 125 [.i w,.i v,.i c,.i e] [.i 0,.i 0,.i 7]:=by
 refine q125 rfl ?_;unfold Hr;simp only[xp]
 repeat (first|simp(disch:=omega)only[↓po]|refine ah (wy h a) ?_)
def tK{x y q:Int}(h:-4096<=x/\x<=4096/\-4096<=y/\y<=4096/\q<=3):Cc 94 [.i x,.i y,.i q] [.i 0]:=by
 refine q94 rfl ?_;unfold TW;simp only[xp];simp(disch:=omega)only[↓po]
def pO{x y q e:Int}(h:-4096<=x/\x<=4096/\-4096<=y/\y<=4096/\q<=3)(a:2<e):Cc 51 [.i x,.i y,.i q,.i e] [.i 0,.i 0,.i 0,.i 1]:=by
 refine q51 rfl ?_;unfold VI;simp only[xp]
 repeat (first|simp(disch:=omega)only[↓po]|refine ah (tK h) ?_)
def MN{w v:Int}(h:DB w v):∃a b:Nat,w = .ofNat a/\v = .ofNat b/\1<=a/\a<=5/\1<=b/\b<=5:=by
 unfold DB at h;obtain⟨a,rfl⟩:=VS (show 0<=w by omega);obtain⟨b,rfl⟩:=VS (show 0<=v by omega);exact⟨a,b,rfl,rfl,by omega,by omega,by omega,by omega⟩
def KM{a b c:Nat}(h:(c:Int)<4*(a:Int)*(b:Int)):c<4*a*b:=by
 have:(4*(a:Int)*(b:Int))=((4*a*b:Nat):Int):=by simp
 rw[this]at h;omega
def uY{w v c e:Int}(h:DB w v)(g:0<=c/\c<4*w*v)(l:2<e):Cc 67 [.i w,.i v,.i c,.i e] [.i 0,.i 1]:=by
 have j:=sm4 h;obtain⟨a,b,rfl,rfl,d⟩:=MN h;obtain⟨k,rfl⟩:=VS g.1;have m:k<4*a*b:=KM g.2;have n:4*a*b<=100:=by
  have:(4*(a:Int)*(b:Int))=((4*a*b:Nat):Int):=by simp
  have f:=j.2;change 4*(a:Int)*(b:Int)<=100 at f;rw[this]at f;omega
 refine q67 rfl ?_;unfold VL;simp only[xp];refine jn ?_;refine ah (Ex (qY a b d.1 d.2.1 d.2.2.1 d.2.2.2) m) ?_;unfold DM;refine jn ?_;have o:k / 4%a<=k / 4:=qd8 _ _;have p:k / 4 / a<=k / 4:=qdx _ _;have r:(0:Int)<=((k / 4 / a:Nat):Int):=B8 _;have f:(0:Int)<=((k / 4%a:Nat):Int):=B8 _;refine ah (pO (x:=Int.ofNat (k / 4%a)) (y:=Int.ofNat (k / 4 / a)) (q:=Int.ofNat (k%4)) (by simp only[Eo];omega) l) ?_;simp(disch:=omega)only[↓po]
def wx{w v c e:Int}(h:DB w v)(a:0<=c/\c<4*w*v)(b:2<e):Cc 125 [.i w,.i v,.i c,.i e] [.i 0,.i 0,.i 1]:=by
 refine q125 rfl ?_;unfold Hr;simp only[xp]
 repeat (first|simp(disch:=omega)only[↓po]|refine ah (uY h a b) ?_)
def CG(w v c e:Int):Bool:=decide (0<=c)&&decide (c<4*w*v)&&decide (e<=2)&&(match Aj w.toNat v.toNat c.toNat e.toNat with
 |some n=>Nat.blt c.toNat n
 |none=>false)
def UD{w v c e:Int}(h:DB w v)(p:0<=e):∃a b r:Int,Cc 125 [.i w,.i v,.i c,.i e] [.i a,.i b,.i r]/\(CG w v c e=true↔r=0/\a=c/\b=e):=by
 by_cases d:0<=c/\c<4*w*v
 ·by_cases o:e<=2
  ·obtain⟨a,b,rfl,rfl,f⟩:=MN h;obtain⟨k,rfl⟩:=VS d.1;obtain⟨j,rfl⟩:=VS p;have q:k<4*a*b:=KM d.2;have g:=ER (qY a b f.1 f.2.1 f.2.2.1 f.2.2.2) q (e:=j) (by omega);unfold D2 at g;cases e:Aj a b k j with
   |none=>
    rw[e]at g;refine⟨_,_,_,g,?_⟩;have:CG (.ofNat a) (.ofNat b) (k:Int) (j:Int)=false:=by
     unfold CG;have l:Aj (Int.ofNat a).toNat (Int.ofNat b).toNat (k:Int).toNat (j:Int).toNat=none:=e;rw[l];simp
    rw[this];simp
   |some n=>
    rw[e]at g;refine⟨_,_,_,g,?_⟩;have s:=UE f.1 e;have l:Aj (Int.ofNat a).toNat (Int.ofNat b).toNat (k:Int).toNat (j:Int).toNat=some n:=e;unfold CG;rw[l];simp only[wa,BQ,BW,qc6];constructor
    ·rintro⟨_,m⟩;exact⟨by trivial,by show((min k n:Nat):Int)=k;omega,by trivial⟩
    ·rintro⟨_,m,_⟩;have m:((min k n:Nat):Int)=k:=m;exact⟨⟨⟨d.1,d.2⟩,o⟩,by omega⟩
  ·refine⟨_,_,_,wx h d (by omega),?_⟩;have:CG w v c e=false:=by unfold CG;simp[o]
   rw[this];simp
 ·refine⟨_,_,_,zR h d,?_⟩;have:CG w v c e=false:=by
   unfold CG;have:(decide (0<=c)&&decide (c<4*w*v))=false:=by simp;omega
   rw[this];simp
  rw[this];simp
def xq{w v c e:Int}(h:CG w v c e=true):0<=c/\c<4*w*v/\e<=2:=by
 unfold CG at h;simp only[wa,BQ]at h;exact⟨h.1.1.1,h.1.1.2,h.1.2⟩
def Do(a b:B3):Bool:=decide (a.1<b.1)||(decide (a.1=b.1)&&decide (a.2.1<b.2.1))
def Ce:Ty->Bool
 |a :: b :: l=>Do a b&&Ce (b :: l)
 |_=>true
def iJ:∀ {l:Ty},Ce l=true↔∀(i:Nat) a b,l[i]?=some a->l[i+1]?=some b->Do a b=true
 | []=>by simp[Ce]
 | [a]=>by simp[Ce]
 |a :: b :: l=>by
  simp only[Ce,wa];rw[iJ (l:=b :: l)];constructor
  ·rintro⟨h1,e⟩ i x y c d;cases i with
   |zero=>
    simp only[Va,B7,IF]at c d;subst c d;exact h1
   |succ i=>exact e i x y (by simpa using c) (by simpa using d)
  ·intro h;exact⟨h 0 a b rfl rfl,λi x y c d=>h (i+1) x y (by simpa using c) (by simpa using d)⟩
def Nc(w v:Int)(c:B3):Bool:=CG w v c.1 c.2.1
def CS(w v:Int)(l:Ty):Int:=if l.all HJ=false then 1 else if l.all (Nc w v)=false then 7 else if Ce l=true then 0 else 6
def yF(c:B3):Cc 126 [.i c.1,.i c.2.1,.i c.2.2] [.i c.1,.i c.2.1]:=by
 refine q126 rfl ?_;unfold JW;simp only[xp];simp(disch:=omega)only[↓po]
def PB{a b:B3}(h:0<=a.1/\a.1<=1000/\0<=b.1/\b.1<=1000/\0<=a.2.1/\a.2.1<=255/\0<=b.2.1/\b.2.1<=255):∃d:Int,Cc 127 [.i a.1,.i a.2.1,.i b.1,.i b.2.1] [.i d]/\(d<0↔Do a b=true):=by
 by_cases c:a.1=b.1
 ·refine⟨a.2.1 - b.2.1,?_,by simp only[Do,Cz,wa,BQ];omega⟩;refine PW rfl ?_;unfold DR;simp only[xp];simp(disch:=omega)only[↓po]
 ·refine⟨a.1 - b.1,?_,by simp only[Do,Cz,wa,BQ];omega⟩;refine PW rfl ?_;unfold DR;simp only[xp];simp(disch:=omega)only[↓po]
def NS{w v:Int}(Q:DB w v){h:HL}{x:Value}{l:Ty}(z:LsH h x 3 Ac l)(M:∀c∈l,okC c)(hn:l.length<=4294967296) :
  aD cc ab 99 [.i w,.i v,.v x] (ka aa h) [.i (CS w v l)] (ka aa h):=by
 obtain⟨T,R,X,rfl,rfl⟩:=x99 (K:=λT R=>T=[.i (CS w v l)]/\R=h) (H:=h) (km (km (oo z.good ua))) (by
  unfold f99;simp only[xp]
  repeat (first|simp(disch:=omega)only[↓po]|refine ah (lQ (wz Q)) ?_|refine ai (yU z hn) ?_)
  cases I:l.all HJ with
  |false=>
   simp(disch:=omega)only[↓po,CI];exact⟨by simp[CS,I],by trivial⟩
  |true=>
   simp(disch:=omega)only[↓po,BS];refine bz z ?_;refine cG l.length (λj=>∀i,i<j->∀c,l[i]?=some c->Nc w v c=true) rfl (AF _) (λi D=>absurd D (qd2 _)) ?_;intro j hj D G g;refine jn ?_;by_cases m:j<l.length
   ·rw[au m];refine jn ?_;obtain⟨c,n⟩:=aG m;have t:=Ap n;have P:=M c t;unfold okC at P;have A:Nc w v c=false->CS w v l=7:=λf=>by
     have:l.all (Nc w v)=false:=List.all_eq_false.2 ⟨c,t,by simp[f]⟩;simp[CS,I,this]
    refine aP z rfl n ?_;unfold Ac;refine jn ?_;obtain⟨a,b,r,O,p⟩:=UD (c:=c.1) (e:=c.2.1) Q (by omega);refine ah O ?_;refine jn ?_;by_cases S:r=0
    ·subst S
     repeat (first|simp(disch:=omega)only[↓po]|refine ah (yF c) ?_)
     by_cases q:a=c.1/\b=c.2.1
     ·have f:Nc w v c=true:=p.2 ⟨rfl,q.1,q.2⟩;simp(disch:=omega)only[↓po,BS];rw[aI (by omega)];refine g m λi s U y=>?_;rcases Bu i j with h|h
      ·exact D i h U y
      ·obtain rfl:i=j:=by omega
       rw[n]at y;cases y;exact f
     ·have f:Nc w v c=false:=by
       rw[←CO];intro f;have:=p.1 f;exact q ⟨this.2.1,this.2.2⟩
      rw[CY q];simp(disch:=omega)only[↓po,CI];exact⟨by rw[A f],by trivial⟩
    ·have f:Nc w v c=false:=by
      rw[←CO];intro f;exact S (p.1 f).1
     refine jn ?_;exact⟨by rw[A f],by trivial⟩
   ·obtain rfl:j=l.length:=by omega
    rw[ao (Ah _)];refine jn ?_;have f:l.all (Nc w v)=true:=qac.2 λc n=>by
     obtain⟨i,s⟩:=BK n;exact D i (al s) c s
    refine cG (j0:=1) (max 1 l.length) (λj=>1<=j/\∀(i:Nat) a b,i+1<j->l[i]?=some a->l[i+1]?=some b->Do a b=true) rfl (VV _ _) ⟨Ah _,λi a b D=>by omega⟩ ?_;intro j ad ⟨h1,hi2⟩ G g;refine jn ?_;refine bz z ?_;by_cases m:j<l.length
    ·rw[au m];refine jn ?_;rw[jp h1 (by omega)];obtain⟨c,n⟩:=aG (l:=l) (i:=j - 1) (by omega);obtain⟨d,C⟩:=aG m;have J:=M c (Ap n);have L:=M d (Ap C);have Y:=xq (qac.1 f c (Ap n));have Z:=xq (qac.1 f d (Ap C));have h4:=sm4 Q;unfold okC at J L;refine aP z rfl n ?_;unfold Ac
     repeat (first|simp(disch:=omega)only[↓po]|refine ah (yF c) ?_)
     refine aP z rfl C ?_;unfold Ac
     repeat (first|simp(disch:=omega)only[↓po]|refine ah (yF d) ?_)
     obtain⟨o,ho,F⟩:=PB (a:=c) (b:=d) (by omega);refine ah ho ?_;refine jn ?_;by_cases E:o<0
     ·simp(disch:=omega)only[↓po];rw[aI (by omega)];refine g (by omega) ⟨by omega,λi a b s u k=>?_⟩;rcases Bu (i+1) j with h|h
      ·exact hi2 i a b h u k
      ·have V:i=j - 1:=by omega
       have W:i+1=j:=by omega
       rw[W,C]at k;rw[V,n]at u;cases u;cases k;exact F.1 E
     ·have N:Ce l=false:=by
       rw[←CO,iJ];intro B;have:=B (j - 1) c d n (by rw[show j - 1+1=j by omega];exact C);exact E (F.2 this)
      refine jn ?_;exact⟨by simp[CS,I,f,N],by trivial⟩
    ·rw[ao (by omega)];refine jn ?_;have u:Ce l=true:=iJ.2 λi a b u k=>hi2 i a b (by have:=al k;omega) u k;exact⟨by simp[CS,I,f,u],by trivial⟩)
 exact X
def sd(w n:Nat):Cl:=(Int.ofNat (n / 4%w),Int.ofNat (n / 4 / w),n%4)
def rkN(w n:Nat):Nat:=10*(n / 4%w+n / 4 / w)+(if n / 4 / w=0/\n / 4%w≠0 then [1,2,1,0]else [0,1,2,1]).getD (n%4) 0
def uI(w v c e:Nat):TB:=match Aj w v c e with
 |some n=>[.i (.ofNat n),.i 0]
 |none=>[.i 0,.i 7]
def Sc(w v:Nat):Bool:=(List.range (4*w*v)).all λc=>(List.range 3).all λe=>jA 67 [.i (.ofNat w),.i (.ofNat v),.i (.ofNat c),.i (.ofNat e)] (uI w v c e)
def Sb(w v:Nat):Bool:=(vi w v).all λu=>jA 130 [.i (.ofNat w),.i (.ofNat v),.i (.ofNat u.1),.i (.ofNat u.2)] [.i (.ofNat (uc (sd w u.1) u.2).1),.i (uc (sd w u.1) u.2).2,.i 0]
def TN(a b:Ln):Bool:=Nat.beq a.1 b.1&&decide (a.2=b.2)
def eqLn_iff{a b:Ln}:TN a b=true↔a=b:=by
 unfold TN;rw[wa,BQ,qdF];exact⟨λh=>⟨AW h.1,h.2⟩,λh=>⟨by rw[h.1];exact Er _,h.2⟩⟩
def S8(a b:Cl):Bool:=decide (a.1=b.1)&&(decide (a.2.1=b.2.1)&&Nat.beq a.2.2 b.2.2)
def eqCl_iff{a b:Cl}:S8 a b=true↔a=b:=by
 unfold S8;rw[wa,wa,BQ,BQ,qdF,qdF];exact⟨λh=>⟨h.1,h.2.1,AW h.2.2⟩,λh=>⟨h.1,h.2.1,by rw[h.2.2];exact Er _⟩⟩
def nbT(w v c e:Nat):Bool:=match Aj w v c e with
 |some n=>Nat.blt n (4*w*v)&&((match Aj w v n e with
  |some m=>Nat.beq m c
  |none=>false)&&(TN (uc (sd w c) e) (uc (sd w n) e)&&(S8 (sd w n) (AP (sd w c) e) && !Nat.beq n c)))
 |none=>true
def KG(w c e:Nat):Bool:=Nat.ble 1 (uc (sd w c) e).1&&(Nat.ble (uc (sd w c) e).1 4&&(decide (-10<=(uc (sd w c) e).2)&&decide ((uc (sd w c) e).2<=10)))
def VE(w v n:Nat):Bool:=Nat.beq n 0||(List.range 3).any λe=>match Aj w v n e with
 |some m=>Nat.blt (rkN w m) (rkN w n)
 |none=>false
def MK(w v:Nat):Bool:=(List.range (4*w*v)).all λc=>VE w v c&&(List.range 3).all λe=>nbT w v c e&&KG w c e
def MH(w v:Nat):Bool:=Sc w v&&(Sb w v&&MK w v)
def Wa:∀w v:Nat,1<=w->w<=5->1<=v->v<=5->MH w v=true:=by
 have a:((List.range 5).all λw=>(List.range 5).all λv=>MH (w+1) (v+1))=true:=by kernel_rfl
 intro w v d e f g;have c:=qac.1 a (w - 1) (qad.2 (by omega));have b:=qac.1 c (v - 1) (qad.2 (by omega));rw[show w - 1+1=w by omega,show v - 1+1=v by omega]at b;exact b
def Sh(w v:Nat):Prop:=1<=w/\w<=5/\1<=v/\v<=5
section
variable {w v:Nat}
def tq(h:Sh w v):Sc w v=true/\Sb w v=true/\MK w v=true:=by
 have:=Wa w v h.1 h.2.1 h.2.2.1 h.2.2.2;unfold MH at this;simpa only[wa]using this
def nb_c(h:Sh w v){c e:Nat}(a:c<4*w*v)(b:e<3):Cc 67 [.i (.ofNat w),.i (.ofNat v),.i (.ofNat c),.i (.ofNat e)] (uI w v c e):=
 ez (qac.1 (qac.1 (tq h).1 c (qad.2 a)) e (qad.2 b)) rfl (by kernel_rfl) rfl
def ln_c(h:Sh w v){u e:Nat}(a:(u,e)∈vi w v):Cc 130 [.i (.ofNat w),.i (.ofNat v),.i (.ofNat u),.i (.ofNat e)] [.i (.ofNat (uc (sd w u) e).1),.i (uc (sd w u) e).2,.i 0]:=
 ez (qac.1 (tq h).2.1 (u,e) a) rfl (by kernel_rfl) rfl
def ES(h:Sh w v){c:Nat}(a:c<4*w*v):VE w v c=true/\∀e,e<3->nbT w v c e=true/\KG w c e=true:=by
 have:=qac.1 (tq h).2.2 c (qad.2 a);rw[wa]at this;refine⟨this.1,λe b=>?_⟩;have:=qac.1 this.2 e (qad.2 b)
 rwa [wa]at this
def dJ(h:Sh w v){c e n:Nat}(i:c<4*w*v)(j:e<3)(l:Aj w v c e=some n):n<4*w*v/\Aj w v n e=some c/\uc (sd w c) e=uc (sd w n) e/\sd w n=AP (sd w c) e/\n≠c:=by
 have:=((ES h i).2 e j).1;unfold nbT at this;rw[l]at this;simp only[wa]at this;obtain⟨d,a,f,g,b⟩:=this;refine⟨by simpa[BW]using d,?_,eqLn_iff.1 f,eqCl_iff.1 g,λe=>?_⟩
 ·split at a
  next m k=>
   rw[k,AW a]
  ·cases a
 ·subst e;rw[show Nat.beq n n=true from Er n]at b;cases b
def FZ(h:Sh w v){c e:Nat}(a:c<4*w*v)(b:e<3):1<=(uc (sd w c) e).1/\(uc (sd w c) e).1<=4/\-10<=(uc (sd w c) e).2/\(uc (sd w c) e).2<=10:=by
 have:=((ES h a).2 e b).2;unfold KG at this;simp only[wa,Ds,BQ]at this;exact this
def vX(h:Sh w v){P:Nat->Prop}(h0:P 0)(o:∀c e n,c<4*w*v->e<3->Aj w v c e=some n->P c->P n):∀n,n<4*w*v->P n:=by
 have a:∀k n,n<4*w*v->rkN w n<k->P n:=by
  intro k
  induction k with
  |zero=>intro n _ l;omega
  |succ k p=>
   intro n d l;have hw:=(ES h d).1;unfold VE at hw;rw[Cz]at hw;rcases hw with hw|hw
   ·rw[AW hw];exact h0
   ·obtain⟨e,b,f⟩:=qcn.1 hw;have b:=qad.1 b;split at f
    next m g=>
     rw[BW]at f;obtain⟨i,j,_⟩:=dJ h d b g;exact o m e n i b j (p m i (by omega))
    ·cases f
 intro n d;exact a (rkN w n+1) n d (by omega)
def KY{c e n:Nat}(b:c<4*w*v)(d:e<3)(f:Aj w v c e=some n)(a:c<n):(c,e)∈vi w v:=by
 unfold vi;rw[qa2];refine⟨c,qad.2 b,qaH.2 ⟨e,qad.2 d,?_⟩⟩;simp[f,a]
def sA(h:Sh w v){c e n:Nat}(f:c<4*w*v)(a:e<3)(g:Aj w v c e=some n):(min c n,e)∈vi w v/\uc (sd w (min c n)) e=uc (sd w c) e:=by
 obtain⟨i,j,k,_,l⟩:=dJ h f a g;rcases Bu c n with d|b
 ·rw[CL (by omega)];exact⟨KY f a g d,rfl⟩
 ·rw[R3 b];exact⟨KY i a j (by omega),k.symm⟩
end
def bB(c:B3):Ku:=(c.1,c.2.1)
def Bb(l:Ty)(u e:Nat):Bool:=decide (((Int.ofNat u,Int.ofNat e):Ku)∈l.map bB)
def DH(H:HL)(id:Nat)(l:Ty):Prop:=∃a c,H[id]?=some (.o (.map a c))/\EntS a (l.map bB)
def lh{l:Ty}(h:l.Pairwise λa b=>Do a b=true):(l.map bB).Nodup:=by
 rw[List.Nodup,qbi];refine h.imp λ{a b} c e=>?_;unfold Do at c;simp only[Cz,wa,BQ]at c;unfold bB at e;simp only[PZ]at e;omega
def Hc{H:HL}{w v:Int}{x:Value}{l:Ty}(m:LsH H x 3 Ac l)(E:(l.map bB).Nodup)(I:l.length<=1000) :
  ∃G,aD cc ab 128 [.i w,.i v,.v x] (ka aa H) [.v (.map (some H.length))] (ka aa (H++[G]))/\DH (H++[G]) H.length l:=by
 obtain⟨u,h',z,rfl,G,rfl,B⟩:=x128 (K:=λu h'=>u=[.v (.map (some H.length))]/\∃G,h'=H++[G]/\DH h' H.length l) (H:=H) (km (km (oo m.good ua))) (by
  unfold OB;simp only[xp];refine jn ?_;refine bz m ?_;refine jn ?_;refine bz m ?_;refine aO (σ:=HO) l.length (λj _=>[.i (Int.ofNat j)]) (λ_ G=>H++[G]) (λj G=>DH (H++[G]) H.length (l.take j)) (j0:=0) (s0:=.o (.map [] 0)) rfl rfl (AF _) ⟨[],0,by simp,rfl,λe h=>(by cases h)⟩ ?_;rintro j G J ⟨g,c,r,k⟩ y d;refine jn ?_;by_cases b:j<l.length
  ·rw[au b];refine jn ?_;obtain⟨a,p⟩:=aG b;have q:=m.pre (h':=H++[G]) ⟨[G],rfl⟩;refine aP q rfl p ?_;unfold Ac;refine jn ?_;have D:bB a∉(l.take j).map bB:=by
    intro t;rw[R1]at t;have f:=E;have s:(l.map bB)[j]?=some (bB a):=by rw[AX,p];rfl
    have A:l.map bB=(l.map bB).take j++bB a :: (l.map bB).drop (j+1):=by
     conv=>lhs;rw[←LW j (l.map bB)]
     rw[M8 (by rw[A9];exact b)]
     congr 2
     rw[Be (by rw[A9];exact b)]at s;exact AR s
    rw[A,qb0]at f;exact f.2.2 _ t _ Cw rfl
   refine ce (UA (C:=cc) (T:=aa) (n:=(H++[G]).length) (by kernel_rfl) (by kernel_rfl) r k D) ?_;rw[aI (by omega)];have e:bK (H++[G]) [.set H.length (.map (g++[{ key:=HM (bB a),val:=.bool true,born:=c }]) (c+1))]=H++[.o (.map (g++[{ key:=HM (bB a),val:=.bool true,born:=c }]) (c+1))]:=by
    show(H++[G]).set H.length _=_;simp
   rw[e];refine d _ b ⟨g++[{ key:=HM (bB a),val:=.bool true,born:=c }],c+1,by simp,?_⟩;have F:(l.take (j+1)).map bB=(l.take j).map bB++[bB a]:=by
    rw[Ec,p,CA];rfl
   rw[F];exact k.push _ _
  ·obtain rfl:j=l.length:=by omega
   rw[ao (Ah _)];refine jn ?_;refine⟨by trivial,G,rfl,?_⟩;rw[IJ]at k;exact⟨g,c,r,k⟩)
 exact⟨G,z,B⟩
def ub(m:Mv):Tk:=[.int .u8 (Int.ofNat m.1),.int .i64 m.2.1,.int .i64 m.2.2]
def bR(m:Mv):(ub m).length=3:=rfl
def B4(w:Nat)(l:Ty)(g:Mv)(c n e:Nat):Mv:=if Bb l (min c n) e then af (Bm (uc (sd w (min c n)) e)) g else g
def wM{w v:Nat}(h:Sh w v){l:Ty}{c e n:Nat}(a:c<4*w*v)(b:e<3)(i:Aj w v c e=some n){k:Int}{g:Mv}(hg:AK k g)(j:0<=k):AK (k+20) (B4 w l g c n e):=by
 unfold B4;obtain⟨_,f⟩:=sA h a b i;split
 ·rw[f];have d:=FZ h a b;have:=dp (xL (n:=10) ⟨d.2.2.1,d.2.2.2⟩) hg;exact aN this (by omega)
 ·exact aN hg (by omega)
abbrev _root_.TI:=List Mv
def I2{w v:Nat}(d:Sh w v){l:Ty}{h:HL}{x A y z B:Value}{j:Nat}{G:TI}(p:Ptr h A [.int .i64 (.ofNat w),.int .i64 (.ofNat v),x])(t:Ptr h y [.map (some j)])(D:DH h j l)(o:Ptr h z [B])(m:LsH h B 3 ub G)
  {c e n:Nat} (q:c<4*w*v) (r:e<3) (u:Aj w v c e=some n) {g:Mv} (hg:G[c]?=some g) {k:Int} (E:AK k g) (F:0<=k/\k<=16000) :
  aD cc ab 129 [.i (.ofNat c),.i (.ofNat e),.v A,.v y,.v z] (ka aa h) (AB (B4 w l g c n e)) (ka aa h):=by
 obtain⟨M,L,J,K⟩:=D;have H:=qY w v d.1 d.2.1 d.2.2.1 d.2.2.2;obtain⟨I,s⟩:=sA d q r u;have b:=FZ d q r;rw[←s]at b;have a:=ER H q r;unfold D2 at a;rw[u]at a;simp only at a;exact xK x129 (km (km (oo p.good (oo t.good (oo o.good ua))))) (by
  unfold OC;simp only[xp]
  repeat (first|simp(disch:=omega)only[↓po]|refine iC (ds:=[.int .i64 (.ofNat w),.int .i64 (.ofNat v)]) p (by simp) rfl ?_|refine ah a ?_|refine cq t rfl ?_|refine ac rfl ?_|refine fG (Uo (C:=cc) (T:=aa) (by kernel_rfl) (by kernel_rfl) J K (Int.ofNat (min c n),Int.ofNat e)) ?_)
  unfold B4 Bb;by_cases f:((Int.ofNat (min c n),Int.ofNat e):Ku)∈l.map bB
  ·rw[BJ f]
   repeat (first|simp(disch:=omega)only[↓po,BS,if_true]|refine iC (ds:=[.int .i64 (.ofNat w),.int .i64 (.ofNat v)]) p (by simp) rfl ?_|refine ah (ln_c d I) ?_)
   refine ah (Uy ⟨b.1,b.2.1⟩ ⟨by omega,by omega⟩) ?_;simp only[AB,AO,AG]
   repeat (first|simp(disch:=omega)only[↓po]|refine cq o rfl ?_|refine ac m.good ?_)
   refine aP m rfl hg ?_;unfold ub;refine jn ?_;refine ah (Vx (xL (n:=10) ⟨b.2.2.1,b.2.2.2⟩) E (by omega)) ?_;simp only[AB,AO,AG];simp(disch:=omega)only[↓po];trivial
  ·rw[Ch f]
   repeat (first|simp(disch:=omega)only[↓po,CI,Bq,if_false]|refine cq o rfl ?_|refine ac m.good ?_)
   refine aP m rfl hg ?_;unfold ub;simp(disch:=omega)only[↓po];trivial)
def de{α:Type}{e:Nat}{enc:α->Tk}(b:∀a,(enc a).length=e){h:HL}{id cx len:Nat}{l:List α}{i:Nat}{a:α}{n:Int}{new:Tk}{K:Ta}(hg:h[id]?=some (.o (.cells (l.flatMap enc) e true)))(j:n=Int.ofNat i)(f:i<l.length)(c:l.length=len)(d:new=enc a)(g:K [] (td h id e enc (l.set i a))) :
  P1.opt (Ax e (.slice (some ⟨id,0,qs e⟩) len cx) n) (@hid _ ⟨λx=>P1.heap (.st x new) h (@hid _ ⟨K⟩)⟩):=by
 have k:td h id e enc l=h:=bq hg;have:=r_set (C:=cc) (Sg:=ab) (T:=aa) (h:=h) (id:=id) (cx:=cx) (len:=len) (l:=l) b (al hg) j f c d g;rw[k]at this;exact this
def cV{α:Type}{h:HL}{id e j:Nat}{enc:α->Tk}{l:List α}(a:j≠id):(td h id e enc l)[j]?=h[j]?:=by
 unfold td;rw[B5 (B9 a)]
def kl(n:Nat):Tk:=[.int .i64 (Int.ofNat n)]
def aU(n:Nat):(kl n).length=1:=rfl
def Al(t:Bool):Tk:=[.bool t]
def eF(t:Bool):(Al t).length=1:=rfl
def jL(q:Tx):(q.flatMap kl).length=q.length:=by
 rw[ba (e:=1) (enc:=kl) λa _=>aU a,Vc]
def WQ(b:Nat)(h:HL)(v:Value)(q:Tx):Prop:=∃id off cx vs,v = .slice (some ⟨id,off,qs 1⟩) q.length cx/\b<=id/\h[id]?=some (.o (.cells vs 1 true))/\cut vs off (q.length*1)=some (q.flatMap kl)/\(cx=0∨cx=q.length+1)
def WQ.ls{b:Nat}{h:HL}{v:Value}{q:Tx}(g:WQ b h v q):LsH h v 1 kl q:=by
 obtain⟨id,c,d,i,rfl,j,e,f,_⟩:=g;exact⟨λa _=>aU a,by rw[jL,Vc],.inr ⟨id,c,d,i,true,rfl,e,f⟩⟩
def WQ.good{b:Nat}{h:HL}{v:Value}{q:Tx}(a:WQ b h v q):aC v=true:=a.ls.good
def WQ.keep{b:Nat}{h h':HL}{v:Value}{q:Tx}(k:WQ b h v q)(i:∀(j:Nat) o,b<=j->h[j]?=some o->h'[j]?=some o):WQ b h' v q:=by
 obtain⟨id,a,d,l,e,c,f,g⟩:=k;exact⟨id,a,d,l,e,c,i _ _ c f,g⟩
def Vm{b:Nat}{h:HL}{v:Value}{a:Nat}{q:Tx}{K:Value->Prop}(r:WQ b h v (a :: q))(n:∀v',WQ b h v' q->aC v'=true->K v'):P1.opt (C3 1 v (some 1) none none) (@hid _ ⟨K⟩):=by
 obtain⟨id,c,d,f,rfl,j,l,m,e⟩:=r;have p:C3 1 (.slice (some ⟨id,c,qs 1⟩) (a :: q).length d) (some 1) none none=some (.slice (some ⟨id,c+1,qs 1⟩) q.length (d - 1)):=by
  unfold C3;have g:¬(qs 1≠some 1/\qs 1≠qs 1):=by simp
  simp only[ra g];have i:(0:Int)<=(some (1:Int)).getD 0/\(some (1:Int)).getD 0<=(none:Option Int).getD ((a :: q).length:Int)/\cW (a :: q).length d none none:=by
   refine⟨by simp,?_,?_⟩
   ·simp only[Ie,qdo,C6];omega
   ·unfold cW;left;simp
  rw[mc i];rw[fQ,fQ,fQ];simp[bT]
 refine ae p (n _ ⟨id,c+1,d - 1,f,rfl,j,l,?_,?_⟩ ?_)
 ·have:=nO (m:cut f c ((a :: q).length*1)=some _) (o:=1) (k:=q.length*1) (by simp only[C6];omega);rw[this];simp only[Df,kl,AO,AG,qcU,Gl,Vc];rw[←jL q]
  congr 1
  exact IJ
 ·rcases e with e|e
  ·left;omega
  ·right;simp only[C6]at e;omega
 ·simp[aC,noLoc,aR,bh,aX,aJ,aA,qs]
def r_apQ{b:Nat}{h:HL}{v:Value}{q:Tx}{n m:Nat}{new:Tk}{K:Ta}(B:WQ b h v q)(y:b<=h.length)(A:m=h.length)(f:new=kl n)(F:q.length<=1000)
  (u:∀v' h',WQ b h' v' (q++[n])->aC v'=true->(∀(j:Nat) o,j<b->h[j]?=some o->h'[j]?=some o)->h.length<=h'.length->K [v'] h') :
  P1.heap (.ap cc 1 8 v (.slice (some ⟨m,0,some 11⟩) 1 2)) (h++[.o (.cells new 1 true)]) (@hid _ ⟨K⟩):=by
 subst A f;obtain⟨id,d,D,C,rfl,E,r,s,x⟩:=B;have l:=al r;have w:SlC (h++[HO.o (.cells (kl n) 1 true)]) (.slice (some ⟨h.length,0,qs 1⟩) 1 2) 1 1 (kl n):=⟨rfl,.inr ⟨h.length,0,2,kl n,true,rfl,by simp,Sx.cut_all rfl⟩⟩;have t:(h++[HO.o (.cells (kl n) 1 true)])[id]?=some (.o (.cells C 1 true)):=by rw[BZ l];exact r
 have k:bb (q.length+1) 8=true:=by
  unfold bb;rw[Bg (by omega),Bg (by omega)];rfl
 have p:∀i,aC (.slice (some ⟨i,0,qs 1⟩) (q.length+1) 0)=true:=λi=>by simp[aC,noLoc,aR,bh,aX,aJ,aA,qs]
 have e:(q.flatMap kl++kl n)=(q++[n]).flatMap kl:=by simp
 have a:(q++[n]).length=q.length+1:=by simp
 rcases x with rfl|rfl
 ·have c:Cd cc 1 8 (.slice (some ⟨id,d,qs 1⟩) q.length 0) (.slice (some ⟨h.length,0,qs 1⟩) 1 2) (zz aa (h++[HO.o (.cells (kl n) 1 true)])) (h++[HO.o (.cells (kl n) 1 true)]).length=some ([.set id .dead,.push (.cells (q.flatMap kl++kl n) 1 true)],[.slice (some ⟨(h++[HO.o (.cells (kl n) 1 true)]).length,0,qs 1⟩) (q.length+1) 0]):=by
   unfold Cd;rw[qS w];simp only[ne_eq,not_true_eq_false,if_false];rw[bD t];simp only[ne_eq,not_true_eq_false,if_false];rw[s];simp only[qds];rw[ra (by omega),mc k]
  refine ce (show(Hp.ap cc 1 8 (.slice (some ⟨id,d,qs 1⟩) q.length 0) (.slice (some ⟨h.length,0,qs 1⟩) 1 2)).run _ _=_ from c) ?_;refine u _ _ ⟨(h++[HO.o (.cells (kl n) 1 true)]).length,0,0,q.flatMap kl++kl n,by rw[a],by simp;omega,?_,?_,.inl rfl⟩ (p _) (λj o z g=>?_) ?_
  ·show(((h++[HO.o (.cells (kl n) 1 true)]).set id (.o .dead))++[HO.o (.cells (q.flatMap kl++kl n) 1 true)])[_]?=_;rw[Cv (by simp)];simp
  ·rw[e,a];exact Sx.cut_all (by rw[jL,a,Vc])
  ·show(((h++[HO.o (.cells (kl n) 1 true)]).set id (.o .dead))++[HO.o (.cells (q.flatMap kl++kl n) 1 true)])[j]?=_;have:=al g;rw[BZ (by simp;omega),B5 (by omega),BZ this];exact g
  ·show h.length<=(((h++[HO.o (.cells (kl n) 1 true)]).set id (.o .dead))++[HO.o (.cells (q.flatMap kl++kl n) 1 true)]).length;simp;omega
 ·have c:Cd cc 1 8 (.slice (some ⟨id,d,qs 1⟩) q.length (q.length+1)) (.slice (some ⟨h.length,0,qs 1⟩) 1 2) (zz aa (h++[HO.o (.cells (kl n) 1 true)])) (h++[HO.o (.cells (kl n) 1 true)]).length=some ([.push (.cells (q.flatMap kl++kl n) 1 true)],[.slice (some ⟨(h++[HO.o (.cells (kl n) 1 true)]).length,0,qs 1⟩) (q.length+1) 0]):=by
   unfold Cd;rw[qS w];simp only[ne_eq,not_true_eq_false,if_false];rw[bD t];simp only[ne_eq,not_true_eq_false,if_false];rw[s];simp only;rw[ra (by omega),mc k]
  refine ce (show(Hp.ap cc 1 8 (.slice (some ⟨id,d,qs 1⟩) q.length (q.length+1)) (.slice (some ⟨h.length,0,qs 1⟩) 1 2)).run _ _=_ from c) ?_;refine u _ _ ⟨(h++[HO.o (.cells (kl n) 1 true)]).length,0,0,q.flatMap kl++kl n,by rw[a],by simp;omega,?_,?_,.inl rfl⟩ (p _) (λj o z g=>?_) ?_
  ·show((h++[HO.o (.cells (kl n) 1 true)])++[HO.o (.cells (q.flatMap kl++kl n) 1 true)])[_]?=_;rw[Cv (by simp)];simp
  ·rw[e,a];exact Sx.cut_all (by rw[jL,a,Vc])
  ·show((h++[HO.o (.cells (kl n) 1 true)])++[HO.o (.cells (q.flatMap kl++kl n) 1 true)])[j]?=_;have:=al g;rw[BZ (by simp;omega),BZ this];exact g
  ·show h.length<=((h++[HO.o (.cells (kl n) 1 true)])++[HO.o (.cells (q.flatMap kl++kl n) 1 true)]).length;simp
abbrev _root_.Tv:=List Bool
structure RS(H h:HL)(w v:Nat)(x:Value)(l:Ty)(A:TI)(B:Tv):Prop where
 pre:Pre H h
 len:H.length+6<=h.length
 p:h[H.length]?=some (.o (.cells [.int .i64 (.ofNat w),.int .i64 (.ofNat v),x] 3 true))
 mp:DH h (H.length+1) l
 mv:h[H.length+2]?=some (.o (.cells [.map (some (H.length+1))] 1 true))
 ol:h[H.length+3]?=some (.o (.cells (A.flatMap ub) 3 true))
 ov:h[H.length+4]?=some (.o (.cells [.slice (some ⟨H.length+3,0,qs 3⟩) (4*w*v) (4*w*v+1)] 1 true))
 kn:h[H.length+5]?=some (.o (.cells (B.flatMap Al) 1 true))
 la:A.length=4*w*v
 lb:B.length=4*w*v
section
variable {H h:HL} {w v:Nat} {x:Value} {l:Ty} {A:TI} {B:Tv}
def RS.lsA(c:RS H h w v x l A B):LsH h (.slice (some ⟨H.length+3,0,qs 3⟩) (4*w*v) (4*w*v+1)) 3 ub A:=by
 have b:=ba (e:=3) (enc:=ub) (l:=A) λa _=>bR a;rw[←c.la];exact⟨λa _=>bR a,b,.inr ⟨_,0,_,_,true,rfl,c.ol,Sx.cut_all b⟩⟩
def RS.lsB(c:RS H h w v x l A B):LsH h (.slice (some ⟨H.length+5,0,qs 1⟩) (4*w*v) (4*w*v+1)) 1 Al B:=by
 have b:=ba (e:=1) (enc:=Al) (l:=B) λa _=>eF a;rw[←c.lb];exact⟨λa _=>eF a,b,.inr ⟨_,0,_,_,true,rfl,c.kn,Sx.cut_all b⟩⟩
def RS.keep{h':HL}(a:RS H h w v x l A B)(b:∀(j:Nat) o,j<H.length+6->h[j]?=some o->h'[j]?=some o)(k:h.length<=h'.length):RS H h' w v x l A B:=by
 obtain⟨g,c,m,n⟩:=a.mp;refine⟨?_,Es a.len k,b _ _ (by omega) a.p,⟨g,c,b _ _ (by omega) m,n⟩,b _ _ (by omega) a.mv,b _ _ (by omega) a.ol,b _ _ (by omega) a.ov,b _ _ (by omega) a.kn,a.la,a.lb⟩;have e:=a.pre;refine⟨h'.drop H.length,?_⟩;apply Gm;intro i;rcases Bu i H.length with d|d
 ·rw[BZ d];have f:H[i]?=some H[i]:=Be d;rw[f];exact b _ _ (by omega) (e.get f)
 ·rw[Cv d,Ii,Nat.add_sub_cancel' d]
def gt{α:Type}{id e:Nat}{enc:α->Tk}{L:List α}(a:Pre H h)(hid:H.length<=id):Pre H (td h id e enc L):=a.set hid _
def sM{α:Type}{h:HL}{id e:Nat}{enc:α->Tk}{L:List α}:(td h id e enc L).length=h.length:=by simp[td]
def RS.putA(a:RS H h w v x l A B){A':TI}(d:A'.length=A.length):RS H (td h (H.length+3) 3 ub A') w v x l A' B:=by
 obtain⟨b,c,f,g⟩:=a.mp;have e:=a.len;exact⟨gt a.pre (by omega),by rw[sM];exact e,by rw[cV (by omega)];exact a.p,⟨b,c,by rw[cV (by omega)];exact f,g⟩,by rw[cV (by omega)];exact a.mv,bL (by omega),by rw[cV (by omega)];exact a.ov,by rw[cV (by omega)];exact a.kn,by rw[d];exact a.la,a.lb⟩
def RS.putB(a:RS H h w v x l A B){B':Tv}(d:B'.length=B.length):RS H (td h (H.length+5) 1 Al B') w v x l A B':=by
 obtain⟨b,c,f,g⟩:=a.mp;have e:=a.len;exact⟨gt a.pre (by omega),by rw[sM];exact e,by rw[cV (by omega)];exact a.p,⟨b,c,by rw[cV (by omega)];exact f,g⟩,by rw[cV (by omega)];exact a.mv,by rw[cV (by omega)];exact a.ol,by rw[cV (by omega)];exact a.ov,bL (by omega),a.la,by rw[d];exact a.lb⟩
end
abbrev _root_.TC:=Nat->Mv
def nC(w v:Nat)(l:Ty)(G:TC):Prop:=∀c e n,c<4*w*v->e<3->Aj w v c e=some n->G n=B4 w l (G c) c n e
def Bi:Tv->Nat
 | []=>0
 |b :: l=>(if b then 1 else 0)+Bi l
def gW:∀l:List Bool,Bi l<=l.length
 | []=>Ah _
 |b :: l=>by
  have:=gW l;simp only[Bi,C6];split<;>omega
def gf:∀ {l:Tv} {n:Nat},l[n]?=some false->Bi (l.set n true)=Bi l+1
 | [],n,h=>by simp at h
 |b :: l,0,h=>by
  simp only[Va,B7]at h;subst h;simp[Bi];omega
 |b :: l,n+1,h=>by
  simp only[IF]at h;have:=gf h;simp only[qcJ,Bi,this];omega
structure JS(w v:Nat)(l:Ty)(A:TI)(B:Tv)(q:Tx)(D:Nat->Nat->Prop):Prop where
 a0:A[0]?=some AZ
 b0:B[0]?=some true
 q1:∀c∈q,B[c]?=some true
 dn:∀c e n,D c e->c<4*w*v->e<3->Aj w v c e=some n->B[c]?=some true->c∉q->B[n]?=some true/\∃a,A[c]?=some a/\A[n]?=some (B4 w l a c n e)
 bd:∀(c:Nat) a,B[c]?=some true->A[c]?=some a->AK (20*(Bi B:Int)) a
 un:∀G,nC w v l G->G 0=AZ->∀(c:Nat) a,B[c]?=some true->A[c]?=some a->a=G c
structure GoodA(w v:Nat)(l:Ty)(A:TI):Prop where
 len:A.length=4*w*v
 a0:A[0]?=some AZ
 ok:∀a∈A,AK 2000 a
 cons:∀c e n a,c<4*w*v->e<3->Aj w v c e=some n->A[c]?=some a->A[n]?=some (B4 w l a c n e)
section
variable {w v:Nat} {l:Ty} {A:TI} {B:Tv} {q:Tx}
def JS.start(j:Sh w v):JS w v l (List.replicate (4*w*v) AZ) ((List.replicate (4*w*v) false).set 0 true) [0] λ_ _=>True:=by
 have d:0<4*w*v:=by
  have k:=j.1;have m:=j.2.2.1;have:0<w*v:=Nat.mul_pos k m;rw[Na];omega
 have i:∀c,((List.replicate (4*w*v) false).set 0 true)[c]?=some true->c=0:=by
  intro c b;by_cases h:c=0
  ·exact h
  ·rw[B5 (B9 h),IG]at b;split at b<;>cases b
 refine⟨by rw[IG,mc d],by rw[C2 (by simpa using d)],λc b=>?_,λc e n _ _ _ _ g o=>?_,λc a g f=>?_,λG p h c a g f=>?_⟩
 ·simp only[qav]at b;subst b;rw[C2 (by simpa using d)]
 ·exact absurd (by rw[i c g];simp) o
 ·have:=i c g;subst this;rw[IG,mc d]at f;cases f;exact xM (by omega)
 ·have:=i c g;subst this;rw[IG,mc d]at f;cases f;exact h.symm
def JS.pop{c0:Nat}(h:JS w v l A B (c0 :: q) λ_ _=>True):JS w v l A B q λc e=>c=c0->e<0:=by
 refine⟨h.a0,h.b0,λc d=>h.q1 c (BF _ d),λc e n g d i j f k=>?_,h.bd,h.un⟩;by_cases a:c=c0
 ·have:=g a;omega
 ·exact h.dn c e n trivial d i j f λb=>by
   rcases qas.1 b with b|b
   ·exact a b
   ·exact k b
def JS.skip{c0 j:Nat}(h:JS w v l A B q λc e=>c=c0->e<j)(o:Aj w v c0 j=none):JS w v l A B q λc e=>c=c0->e<j+1:=by
 refine⟨h.a0,h.b0,h.q1,λc e n i g k a f p=>?_,h.bd,h.un⟩;refine h.dn c e n (λb=>?_) g k a f p;have:=i b;rcases Bu e j with d|m
 ·exact d
 ·obtain rfl:e=j:=by omega
  subst b;rw[o]at a;cases a
def JS.seen{c0 j n:Nat}{a:Mv}(h:JS w v l A B q λc e=>c=c0->e<j)(t:Aj w v c0 j=some n)(m:B[n]?=some true)(k:A[c0]?=some a)(s:A[n]?=some (B4 w l a c0 n j)):JS w v l A B q λc e=>c=c0->e<j+1:=by
 refine⟨h.a0,h.b0,h.q1,λc e x p o r b g u=>?_,h.bd,h.un⟩;by_cases f:c=c0/\e=j
 ·obtain⟨rfl,rfl⟩:=f;rw[t]at b;cases b;exact⟨m,a,k,s⟩
 ·exact h.dn c e x (λd=>by have:=p d;have:e≠j:=λi=>f ⟨d,i⟩;omega) o r b g u
def JS.fresh(O:Sh w v){c0 j n:Nat}{a:Mv}(h:JS w v l A B q λc e=>c=c0->e<j)(V:A.length=4*w*v)(W:B.length=4*w*v)(m:c0<4*w*v)(L:j<3)(z:Aj w v c0 j=some n)(t:B[c0]?=some true)(I:B[n]?=some false)(H:A[c0]?=some a) :
  JS w v l (A.set n (B4 w l a c0 n j)) (B.set n true) (q++[n]) λc e=>c=c0->e<j+1:=by
 obtain⟨Y,_,_,_,Z⟩:=dJ O m L z;have k:(B.set n true)[n]?=some true:=C2 (by omega);have i:(A.set n (B4 w l a c0 n j))[n]?=some (B4 w l a c0 n j):=C2 (by omega);have p:∀c,c≠n->(B.set n true)[c]?=B[c]?:=λc g=>B5 (B9 g);have hA:∀c,c≠n->(A.set n (B4 w l a c0 n j))[c]?=A[c]?:=λc g=>B5 (B9 g);have r:(0:Nat)≠n:=λe=>by have:=h.b0;rw[e,I]at this;cases this
 have M:AK (20*(Bi B:Int)) a:=h.bd c0 a t H;refine⟨by rw[hA 0 r];exact h.a0,by rw[p 0 r];exact h.b0,λc g=>?_,λc e C T g U o f N=>?_,λc D f d=>?_,λG F s c D f d=>?_⟩
 ·rcases qar.1 g with g|g
  ·have:=h.q1 c g;by_cases b:c=n
   ·rw[b];exact k
   ·rw[p c b];exact this
  ·simp only[qav]at g;rw[g];exact k
 ·have b:c≠n:=λe=>N (by rw[e];simp);have J:c∉q:=λX=>N (D9 _ X);rw[p c b]at f;by_cases x:c=c0/\e=j
  ·obtain⟨rfl,rfl⟩:=x;rw[z]at o;cases o;exact⟨k,a,by rw[hA c b];exact H,i⟩
  ·obtain⟨E,P,Q,R⟩:=h.dn c e C (λu=>by have:=T u;have:e≠j:=λK=>x ⟨u,K⟩;omega) g U o f J;have y:C≠n:=λS=>by rw[S,I]at E;cases E
   exact⟨by rw[p C y];exact E,P,by rw[hA c b];exact Q,by rw[hA C y];exact R⟩
 ·rw[gf I];by_cases b:c=n
  ·rw[b,i]at d;cases d;exact aN (wM O m L z M (by omega)) (by omega)
  ·rw[p c b]at f;rw[hA c b]at d;exact aN (h.bd c D f d) (by omega)
 ·by_cases b:c=n
  ·rw[b,i]at d;cases d;rw[b,F c0 j n m L z,←h.un G F s c0 a t H]
  ·rw[p c b]at f;rw[hA c b]at d;exact h.un G F s c D f d
def JS.done{c0:Nat}(h:JS w v l A B q λc e=>c=c0->e<3):JS w v l A B q λ_ _=>True:=
 ⟨h.a0,h.b0,h.q1,λc e n _ d a f b g=>h.dn c e n (λ_=>a) d a f b g,h.bd,h.un⟩
def Bw(a:Sh w v):0<4*w*v/\4*w*v<=100:=by
 have b:1*1<=w*v:=qd4 a.1 a.2.2.1;have c:w*v<=5*5:=qd4 a.2.1 a.2.2.2;rw[Na];omega
def JS.good(p:Sh w v)(h:JS w v l A B [] λ_ _=>True)(g:A.length=4*w*v)(u:B.length=4*w*v):GoodA w v l A:=by
 have b:∀n,n<4*w*v->B[n]?=some true:=vX p h.b0 λc e n d f j t=>(h.dn c e n trivial d f j t (by simp)).1;have z:=Bw p;have m:=gW B;refine⟨g,h.a0,λa x=>?_,λc e n a d f j s=>?_⟩
 ·obtain⟨i,o⟩:=BK x;have:=al o;exact aN (h.bd i a (b i (by omega)) o) (by omega)
 ·obtain⟨_,y,k,r⟩:=h.dn c e n trivial d f j (b c d) (by simp);rw[s]at k;cases k;exact r
def JS.tear(r:Sh w v){c0 j n:Nat}{a b:Mv}{D:Nat->Nat->Prop}(h:JS w v l A B q D)(g:c0<4*w*v)(o:j<3)(p:Aj w v c0 j=some n)(e:B[c0]?=some true)(m:B[n]?=some true)(k:A[c0]?=some a)(f:A[n]?=some b)(i:b≠B4 w l a c0 n j):¬ ∃G,nC w v l G/\G 0=AZ:=by
 rintro⟨G,d,c⟩;refine i ?_;rw[h.un G d c n b m f,d c0 j n g o p,←h.un G d c c0 a e k]
end
def left(B:Tv)(q:Tx):Nat:=q.length+(B.length - Bi B)
def Vw:Bool:=(List.range 5).all λw=>(List.range 5).all λv=>jA 23 [.i (.ofNat (w+1)),.i (.ofNat (v+1))] [.i (.ofNat (4*(w+1)*(v+1)))]
def NY:Vw=true:=by kernel_rfl
def Jv{w v:Nat}(h:Sh w v):Cc 23 [.i (.ofNat w),.i (.ofNat v)] [.i (.ofNat (4*w*v))]:=by
 have b:=qac.1 NY (w - 1) (qad.2 (by have:=h.2.1;have:=h.1;omega));have a:=qac.1 b (v - 1) (qad.2 (by have:=h.2.2.1;have:=h.2.2.2;omega));rw[show w - 1+1=w by have:=h.1;omega,show v - 1+1=v by have:=h.2.2.1;omega]at a;exact ez a rfl (by kernel_rfl) rfl
def TR{a b:Mv}{K:Tm}:P1.eqs [(.i (Int.ofNat a.1),.i (Int.ofNat b.1)),(.i a.2.1,.i b.2.1),(.i a.2.2,.i b.2.2)] (@hid _ ⟨K⟩)=K (decide (a=b)):=by
 show K (cp _)=_;have e:cp [(.i (Int.ofNat a.1),.i (Int.ofNat b.1)),(.i a.2.1,.i b.2.1),(.i a.2.2,.i b.2.2)]=decide (a=b):=by
  rw[IK];simp[cp,gJ,qdF];intro _ _;omega
 rw[e]
def Qv(w v:Nat)(l:Ty)(H:HL)(a:TB)(h':HL):Prop:=
 Pre H h'/\((∃A id,a=[.v (.slice (some ⟨id,0,qs 3⟩) (4*w*v) (4*w*v+1)),.i 0]/\H.length<=id/\h'[id]?=some (.o (.cells (A.flatMap ub) 3 true))/\GoodA w v l A)∨
  (a=[.v (.slice none 0 0),.i 11]/\¬ ∃G,nC w v l G/\G 0=AZ))
def zG{w v:Nat}(G:Sh w v){l:Ty}(hk:(l.map bB).Nodup)(a9:l.length<=1000){H:HL}{x:Value}(hl:LsH H x 3 Ac l) :
  ∃rs h',aD cc ab 100 [.i (.ofNat w),.i (.ofNat v),.v x] (ka aa H) rs (ka aa h')/\Qv w v l H rs h':=by
 have hN:=Bw G;obtain⟨rs,h',h1,R⟩:=x100 (K:=λrs h'=>Qv w v l H rs h') (H:=H) (km (km (oo hl.good ua))) (by
  unfold Ou;simp only[xp]
  repeat (first|simp(disch:=omega)only[↓po]|refine cq (cU az) rfl ?_|refine ac hl.good ?_)
  obtain⟨M,W,V⟩:=Hc (w:=.ofNat w) (v:=.ofNat v) (hl.pre (h':=H++[HO.o (.cells [.int .i64 (.ofNat w),.int .i64 (.ofNat v),x] 3 true)]) ⟨_,rfl⟩) hk a9;rw[show(H++[HO.o (.cells [.int .i64 (.ofNat w),.int .i64 (.ofNat v),x] 3 true)]).length=H.length+1 by simp]at W V;have k0:(H++[HO.o (.cells [.int .i64 (.ofNat w),.int .i64 (.ofNat v),x] 3 true)]++[M]).length=H.length+2:=by simp
  have kp:(H++[HO.o (.cells [.int .i64 (.ofNat w),.int .i64 (.ofNat v),x] 3 true)]++[M])[H.length]?=some (HO.o (.cells [.int .i64 (.ofNat w),.int .i64 (.ofNat v),x] 3 true)):=by simp
  have kH:Pre H (H++[HO.o (.cells [.int .i64 (.ofNat w),.int .i64 (.ofNat v),x] 3 true)]++[M]):=⟨_,A6 ..⟩;refine ai W ?_;clear W;generalize H++[HO.o (.cells [.int .i64 (.ofNat w),.int .i64 (.ofNat v),x] 3 true)]++[M]=R at *;refine jn ?_;refine sS az rfl ?_;rw[ed];have m0:(R++[HO.o (.cells [.map (some (H.length+1))] 1 true)]).length=H.length+3:=by simp[k0]
  have mp:=kp |> (Pre.get (b:=R++[HO.o (.cells [.map (some (H.length+1))] 1 true)]) ⟨_,rfl⟩)
  have mv:(R++[HO.o (.cells [.map (some (H.length+1))] 1 true)])[H.length+2]?=some (HO.o (.cells [.map (some (H.length+1))] 1 true)):=by rw[←k0];exact az
  have mH:Pre H (R++[HO.o (.cells [.map (some (H.length+1))] 1 true)]):=kH.app _;have mS:DH (R++[HO.o (.cells [.map (some (H.length+1))] 1 true)]) (H.length+1) l:=by
   obtain⟨U,c,J,L⟩:=V;exact⟨U,c,Pre.get ⟨_,rfl⟩ J,L⟩
  rw[k0];generalize R++[HO.o (.cells [.map (some (H.length+1))] 1 true)]=h3 at *;clear kp kH V k0
  repeat (first|simp(disch:=omega)only[↓po]|refine iC (p:=te H.length) (cs:=[.int .i64 (.ofNat w),.int .i64 (.ofNat v),x]) (ds:=[.int .i64 (.ofNat w),.int .i64 (.ofNat v)]) (cU mp) (by simp) rfl ?_|refine ah (Jv G) ?_|refine ae (eI (by omega)) ?_)
  rw[show(Int.ofNat (4*w*v)).toNat=4*w*v from rfl];have z0:HO.o (.cells (bk [.int .u8 0,.int .i64 0,.int .i64 0] (4*w*v)) 3 true)=HO.o (.cells ((List.replicate (4*w*v) AZ).flatMap ub) 3 true):=by
   rw[←dd (enc:=ub) (z:=AZ) (n:=4*w*v)];rfl
  rw[z0,m0];have n0:(h3++[HO.o (.cells ((List.replicate (4*w*v) AZ).flatMap ub) 3 true)]).length=H.length+4:=by simp[m0]
  have np:=mp |> (Pre.get (b:=h3++[HO.o (.cells ((List.replicate (4*w*v) AZ).flatMap ub) 3 true)]) ⟨_,rfl⟩)
  have nv:=mv |> (Pre.get (b:=h3++[HO.o (.cells ((List.replicate (4*w*v) AZ).flatMap ub) 3 true)]) ⟨_,rfl⟩)
  have na:(h3++[HO.o (.cells ((List.replicate (4*w*v) AZ).flatMap ub) 3 true)])[H.length+3]?=some (HO.o (.cells ((List.replicate (4*w*v) AZ).flatMap ub) 3 true)):=by rw[←m0];exact az
  have nH:Pre H (h3++[HO.o (.cells ((List.replicate (4*w*v) AZ).flatMap ub) 3 true)]):=mH.app _;have nS:DH (h3++[HO.o (.cells ((List.replicate (4*w*v) AZ).flatMap ub) 3 true)]) (H.length+1) l:=by
   obtain⟨U,c,J,L⟩:=mS;exact⟨U,c,Pre.get ⟨_,rfl⟩ J,L⟩
  generalize h3++[HO.o (.cells ((List.replicate (4*w*v) AZ).flatMap ub) 3 true)]=h4 at *;clear mp mv mH mS m0;refine sS az rfl ?_;rw[ed];refine pu ?_;refine cq (cU az) rfl ?_;refine jn ?_;refine ac (by simp[aC,noLoc,aR,bh,aX,aJ,aA]) ?_;refine jn ?_;refine ae (x:=Int.ofNat (4*w*v)) rfl ?_;refine ae (eI (by omega)) ?_;refine jn ?_;rw[n0,show(Int.ofNat (4*w*v)).toNat=4*w*v from rfl];refine ac (by simp[aC,noLoc,aR,bh,aX,aJ,aA]) ?_;have o0:(h4++[HO.o (.cells [.slice (some ⟨H.length+3,0,some 13⟩) (4*w*v) (4*w*v+1)] 1 true)]).length=H.length+5:=by simp[n0]
  have op:=np |> (Pre.get (b:=h4++[HO.o (.cells [.slice (some ⟨H.length+3,0,some 13⟩) (4*w*v) (4*w*v+1)] 1 true)]) ⟨_,rfl⟩)
  have om:=nv |> (Pre.get (b:=h4++[HO.o (.cells [.slice (some ⟨H.length+3,0,some 13⟩) (4*w*v) (4*w*v+1)] 1 true)]) ⟨_,rfl⟩)
  have oa:=na |> (Pre.get (b:=h4++[HO.o (.cells [.slice (some ⟨H.length+3,0,some 13⟩) (4*w*v) (4*w*v+1)] 1 true)]) ⟨_,rfl⟩)
  have ov:(h4++[HO.o (.cells [.slice (some ⟨H.length+3,0,some 13⟩) (4*w*v) (4*w*v+1)] 1 true)])[H.length+4]?=some (HO.o (.cells [.slice (some ⟨H.length+3,0,some 13⟩) (4*w*v) (4*w*v+1)] 1 true)):=by rw[←n0];exact az
  have oH:Pre H (h4++[HO.o (.cells [.slice (some ⟨H.length+3,0,some 13⟩) (4*w*v) (4*w*v+1)] 1 true)]):=nH.app _;have oS:DH (h4++[HO.o (.cells [.slice (some ⟨H.length+3,0,some 13⟩) (4*w*v) (4*w*v+1)] 1 true)]) (H.length+1) l:=by
   obtain⟨U,c,J,L⟩:=nS;exact⟨U,c,Pre.get ⟨_,rfl⟩ J,L⟩
  generalize h4++[HO.o (.cells [.slice (some ⟨H.length+3,0,some 13⟩) (4*w*v) (4*w*v+1)] 1 true)]=h5 at *;clear np nv na nH nS n0;have z1:HO.o (.cells (bk [.bool false] (4*w*v)) 1 true)=HO.o (.cells ((List.replicate (4*w*v) false).flatMap Al) 1 true):=by
   rw[←dd (enc:=Al) (z:=false) (n:=4*w*v)];rfl
  rw[z1,o0];have r0:RS H (h5++[HO.o (.cells ((List.replicate (4*w*v) false).flatMap Al) 1 true)]) w v x l (List.replicate (4*w*v) AZ) (List.replicate (4*w*v) false):=by
   obtain⟨U,c,J,L⟩:=oS;exact⟨oH.app _,by simp[o0],Pre.get ⟨_,rfl⟩ op,⟨U,c,Pre.get ⟨_,rfl⟩ J,L⟩,Pre.get ⟨_,rfl⟩ om,Pre.get ⟨_,rfl⟩ oa,Pre.get ⟨_,rfl⟩ ov,by rw[←o0];exact az,by simp,by simp⟩
  generalize h5++[HO.o (.cells ((List.replicate (4*w*v) false).flatMap Al) 1 true)]=h6 at *;clear op om oa ov oH oS o0;refine de (enc:=Al) (l:=List.replicate (4*w*v) false) (i:=0) (a:=true) eF r0.kn rfl (by simpa using hN.1) (by simp) rfl ?_;have r1:=r0.putB (B':=(List.replicate (4*w*v) false).set 0 true) (by simp);generalize td h6 (H.length+5) 1 Al ((List.replicate (4*w*v) false).set 0 true)=h7 at *;refine pu ?_;have r2:RS H (h7++[HO.o (.cells [.int .i64 0] 1 true)]) w v x l (List.replicate (4*w*v) AZ) ((List.replicate (4*w*v) false).set 0 true):=r1.keep (λj o _ ho=>Pre.get ⟨_,rfl⟩ ho) (by simp);have ay:WQ (H.length+6) (h7++[HO.o (.cells [.int .i64 0] 1 true)]) (.slice (some ⟨h7.length,0,some 11⟩) 1 2) [0]:=⟨h7.length,0,2,_,rfl,r1.len,az,Sx.cut_all rfl,.inr rfl⟩;have an:=JS.start (l:=l) G;have ag:[0].length<=Bi ((List.replicate (4*w*v) false).set 0 true):=by
   rw[gf (by rw[IG,mc hN.1])];simp
  generalize h7++[HO.o (.cells [.int .i64 0] 1 true)]=h8 at *;generalize Value.slice (some ⟨h7.length,0,some 11⟩) 1 2=v8 at *;generalize List.replicate (4*w*v) AZ=A0 at *;generalize (List.replicate (4*w*v) false).set 0 true=B0 at *;clear r0 r1;refine eU (m:=left B0 [0]) (λm ls h'=>∃A B q vv,ls=[.v vv]/\RS H h' w v x l A B/\WQ (H.length+6) h' vv q/\JS w v l A B q (λ_ _=>True)/\q.length<=Bi B/\m=left B q) ⟨A0,B0,[0],v8,rfl,r2,ay,an,ag,rfl⟩ ?_;clear r2 ay an ag;rintro m ls h' ⟨A,B,q,vv,rfl,d,I,D,bn,rfl⟩ bX X;refine HH ?_;refine jn ?_;refine bz I.ls ?_;cases q with
  |nil=>
   rw[Ag (by show((List.length ([]:Tx):Nat):Int)<=0;simp)]
   repeat (first|simp(disch:=omega)only[↓po]|refine cq (cU d.ov) rfl ?_|refine ac d.lsA.good ?_)
   exact⟨d.pre,.inl ⟨A,H.length+3,rfl,by omega,d.ol,D.good G d.la d.lb⟩⟩
  |cons y q=>
   rw[Au (by show(0:Int)<((List.length (y :: q):Nat):Int);simp only[C6];omega)];refine jn ?_;refine aP I.ls (i:=0) rfl rfl ?_;unfold kl;refine jn ?_;refine Vm I ?_;intro v1 aE ax;refine ac ax ?_;have f:B[y]?=some true:=D.q1 y Cw;have r:y<4*w*v:=by have:=al f;have:=d.lb;omega
   have b1:=gW B;refine aO (σ:=Value×HL×List Mv×List Bool×List Nat) 3 (λj s=>[.v s.1,.i (Int.ofNat j)]) (λ_ s=>s.2.1) (λj s=>RS H s.2.1 w v x l s.2.2.1 s.2.2.2.1/\WQ (H.length+6) s.2.1 s.1 s.2.2.2.2/\JS w v l s.2.2.1 s.2.2.2.1 s.2.2.2.2 (λc e=>c=y->e<j)/\s.2.2.2.2.length<=Bi s.2.2.2.1/\left s.2.2.2.1 s.2.2.2.2=left B q/\s.2.2.2.1[y]?=some true) (j0:=0) (s0:=(v1,h',A,B,q)) rfl rfl (by omega) ⟨d,aE,D.pop,by show q.length<=Bi B;simp only[C6]at bn;omega,rfl,f⟩ ?_;clear d I D aE ax f;rintro j ⟨v2,ad,S,Q,q2⟩ b2 ⟨d,I,D,O,g,f⟩ Y C;simp only at d I D O g f C;refine jn ?_;by_cases u:j<3
   case neg=>
    obtain rfl:j=3:=by omega
    rw[tx (by show(3:Int)<=((3:Nat):Int);omega)];refine jn ?_;refine X (left B q) _ _ ?_ ⟨S,Q,q2,v2,rfl,d,I,D.done,O,g.symm⟩;unfold left;simp only[C6];omega
   rw[us (by show((j:Nat):Int)<3;omega)];refine jn ?_;have next:∀(v3:Value) (k:HL) (A3:TI) (T:Tv) (q3:Tx),RS H k w v x l A3 T->WQ (H.length+6) k v3 q3->JS w v l A3 T q3 (λc e=>c=y->e<j+1)->q3.length<=Bi T->left T q3=left B q->T[y]?=some true->Y [.v v3,.i (Int.ofNat j+1)] k:=λv3 k A3 T q3 J L a3 a4 a5 a6=>C (v3,k,A3,T,q3) u ⟨J,L,a3,a4,a5,a6⟩
   have E:∀K:Int->Prop,P1.ari .add .u8 (Int.ofNat j) 1 (@hid _ ⟨K⟩)=K (Int.ofNat j+1):=λK=>Dq (by show(0:Int)<=(j:Int)+1;omega) (by show(j:Int)+1<=255;omega);refine iC (p:=te H.length) (cs:=[.int .i64 (.ofNat w),.int .i64 (.ofNat v),x]) (ds:=[.int .i64 (.ofNat w),.int .i64 (.ofNat v)]) (cU d.p) (by simp) rfl ?_;refine jn ?_;refine ah (nb_c G r u) ?_;have bP:=gW Q;have bS:=d.lb;cases h:Aj w v y j with
   |none=>
    unfold uI;rw[h];refine jn ?_;rw[E];exact next _ _ _ _ _ d I (D.skip h) O g f
   |some n=>
    unfold uI;rw[h];refine jn ?_;obtain⟨a,ha⟩:=aG (l:=S) (i:=y) (by rw[d.la];exact r);have bm:=D.bd y a f ha;have a0:=I2 G (cU d.p) (cU d.mv) d.mp (cU d.ov) d.lsA r u h ha bm (by omega);refine ju (jC (args:=[.int .i64 (Int.ofNat y),.int .u8 (Int.ofNat j)]) a0 rfl [.leaf (.i .i64 (Int.ofNat y)),.leaf (.i .u8 (Int.ofNat j)),.leaf (.v (te H.length)),.leaf (.v (te (H.length+2))),.leaf (.v (te (H.length+4)))] rfl rfl rfl) ?_;have F:=(dJ G r u h).1;have bl:=(dJ G r u h).2.2.2.2;generalize hm:B4 w l a y n j=m at *;simp only[AB];refine jn ?_;obtain⟨t,Z⟩:=aG (l:=Q) (i:=n) (by rw[d.lb];exact F);refine aP d.lsB rfl Z ?_;unfold Al;refine jn ?_;cases t with
    |true=>
     repeat (first|simp(disch:=omega)only[↓po,BS]|refine cq (cU d.ov) rfl ?_|refine ac d.lsA.good ?_)
     obtain⟨b,hb⟩:=aG (l:=S) (i:=n) (by rw[d.la];exact F);refine aP d.lsA rfl hb ?_;unfold ub;refine jn ?_;rw[TR];by_cases N:b=m
     ·rw[BJ N];simp(disch:=omega)only[↓po,BS];rw[E];exact next _ _ _ _ _ d I (D.seen h Z ha (by rw[hb,N,hm])) O g f
     ·rw[Ch N];simp(disch:=omega)only[↓po,CI];exact⟨d.pre,.inr ⟨rfl,D.tear G r u h f Z ha hb (by rw[hm];exact N)⟩⟩
    |false=>
     repeat (first|simp(disch:=omega)only[↓po,CI]|refine cq (cU d.ov) rfl ?_|refine ac d.lsA.good ?_)
     refine de (enc:=ub) (l:=S) (i:=n) (a:=m) bR d.ol rfl (by rw[d.la];exact F) d.la rfl ?_;have ap:=d.putA (A':=S.set n m) (by simp);have bx:=I.keep (h':=td ad (H.length+3) 3 ub (S.set n m)) (λj o a7 ho=>by rw[cV (by omega)];exact ho);generalize td ad (H.length+3) 3 ub (S.set n m)=k at *;refine pu ?_;refine de (enc:=Al) (l:=Q) (i:=n) (a:=true) eF ap.kn rfl (by rw[d.lb];exact F) d.lb rfl ?_;have ar:=ap.putB (B':=Q.set n true) (by simp);have bI:=bx.keep (h':=td k (H.length+5) 1 Al (Q.set n true)) (λj o a7 ho=>by rw[cV (by omega)];exact ho);generalize td k (H.length+5) 1 Al (Q.set n true)=h4' at *;refine pu ?_;refine r_apQ (n:=n) bI ar.len rfl rfl (by omega) ?_;intro v5 b0 bt bs a8 be;have P:=ar.keep a8 be
     repeat (first|simp(disch:=omega)only[↓po]|refine ac bs ?_|refine cq (cU P.ov) rfl ?_|refine ac P.lsA.good ?_)
     refine aP P.lsA (a:=m) rfl (C2 (by rw[d.la];exact F)) ?_;unfold ub;simp(disch:=omega)only[↓po]
     try rw[TR,BJ rfl]
     simp(disch:=omega)only[↓po,BS];rw[E];refine next _ _ _ _ _ P bt ?_ ?_ ?_ ?_
     ·rw[←hm];exact D.fresh G d.la d.lb r u h f Z ha
     ·rw[gf Z];simp;omega
     ·rw[←g];have:=gW (Q.set n true);unfold left;rw[gf Z]at this ⊢;simp only[Bv,C6,Vj,Bo]at this ⊢;omega
     ·rw[B5 bl];exact f)
 exact⟨rs,h',h1,R⟩
def bu(c:Cl):Tk:=[.int .i64 c.1,.int .i64 c.2.1,.int .u8 (Int.ofNat c.2.2)]
def ee(c:Cl):(bu c).length=3:=rfl
def uG{m:Mv}{n:Int}(a:AK n m){c:Cl}{k:Int}(b:-k<=c.1/\c.1<=k/\-k<=c.2.1/\c.2.1<=k):-(n+k+1)<=(am m c).1/\(am m c).1<=n+k+1/\-(n+k+1)<=(am m c).2.1/\(am m c).2.1<=n+k+1/\(am m c).2.2<4:=by
 have d:=FX a.1 b;have e:=a.2;unfold am;simp only;refine⟨?_,?_,?_,?_,gL⟩<;>split<;>omega
def ID(m:Mv):Bool:=decide (-16384<=m.2.1/\m.2.1<=16384/\-16384<=m.2.2/\m.2.2<=16384)
def Ek(c:Cl):Bool:=decide (-4096<=c.1/\c.1<=4096/\-4096<=c.2.1/\c.2.1<=4096)
def VD{n:Int}{m:Mv}(h:AK n m)(a:ID m=true):AK 16384 m:=by
 unfold ID at a;rw[BQ]at a;exact⟨h.1,a.1,a.2.1,a.2.2.1,a.2.2.2,h.2.2.2.2.2⟩
def Qs(t x y:Int):Bool:=decide (t<8/\(-16384<=x/\x<=16384)/\(-16384<=y/\y<=16384)/\(x+y)%2=0)
def pX{n:Int}:Cc 53 [.i n] [.b (!decide (-16384<=n/\n<=16384))]:=by
 refine q53 rfl ?_;unfold VJ;simp only[xp];refine jn ?_;by_cases a:n < -16384
 ·rw[us (show n < -16384 by omega)];refine jn ?_;rw[Ch (by omega)]
  try rfl
 ·rw[tx (show(-16384:Int)<=n by omega)];refine jn ?_;by_cases c:n<=16384
  ·rw[Ag (by omega)];refine jn ?_;rw[BJ (by omega)]
   try rfl
  ·rw[Au (by omega)];refine jn ?_;rw[Ch (by omega)]
   try rfl
def KT{t x y:Int}(g:0<=t/\t<=255):Cc 18 [.i t,.i x,.i y] [.i (if Qs t x y then 0 else 1)]:=by
 by_cases a:Qs t x y=true
 ·rw[mc a];unfold Qs at a;rw[BQ]at a;exact KU ⟨g.1,a.1⟩ a.2.1 a.2.2.1 a.2.2.2
 ·rw[ra a];unfold Qs at a;rw[BQ]at a;refine q18 rfl ?_;unfold VH;simp only[xp];refine jn ?_;by_cases f:8<=t
  ·rw[BI f];simp(disch:=omega)only[↓po]
   try rfl
  rw[Bn (by omega)]
  repeat (first|simp(disch:=omega)only[↓po]|refine ah pX ?_)
  by_cases b:-16384<=x/\x<=16384
  case neg=>
   rw[Ch b];simp(disch:=omega)only[↓po,CI]
   try rfl
  rw[BJ b]
  repeat (first|simp(disch:=omega)only[↓po,BS]|refine ah pX ?_)
  by_cases c:-16384<=y/\y<=16384
  case neg=>
   rw[Ch c];simp(disch:=omega)only[↓po,CI]
   try rfl
  rw[BJ c];simp(disch:=omega)only[↓po,BS];have j:(x+y)%2≠0:=λe=>a ⟨by omega,b,c,e⟩;rcases Int.le_total 0 (x+y)with d|d
  ·repeat (first|simp(disch:=omega)only[↓po]|rw[Bh d (by omega)])
   try rfl
  ·have h:-(-(x+y)%2)≠0:=by omega
   repeat (first|simp(disch:=omega)only[↓po]|rw[C0 d (by omega)])
   try rfl
def HR{m:Mv}{n:Int}(h:AK n m)(c:n<=100000):Cc 133 (AB m) (if ID m then AB m++[.i 0]else [.i 0,.i 0,.i 0,.i 3]):=by
 refine q133 rfl ?_;unfold Hs;simp only[xp]
 repeat (first|simp(disch:=omega)only[↓po]|refine ah (KT (by have:=h.1;show 0<=(m.1:Int)/\(m.1:Int)<=255;omega)) ?_)
 have e:Qs (Int.ofNat m.1) m.2.1 m.2.2=ID m:=by
  have a:=h.1;have b:=h.2.2.2.2.2;unfold Qs ID;rw[decide_eq_decide];show((m.1:Int)<8/\_)↔_;omega
 rw[e];cases ID m with
 |true=>
  simp only[if_true];simp(disch:=omega)only[↓po]
  try rfl
 |false=>
  simp only[Bq,if_false];simp(disch:=omega)only[↓po]
  try rfl
def Vy{a b:Mv}(c:AK 2000 a)(d:AK 16384 b):Cc 101 (AB a++AB b) (if ID (af a b)then AB (af a b)++[.i 0]else [.i 0,.i 0,.i 0,.i 3]):=by
 have e:=dp c d;refine q101 rfl ?_;unfold Hq;simp only[xp];simp only[AB,AO,AG]
 repeat (first|simp(disch:=omega)only[↓po]|refine ah (uF c (by omega)) ?_|refine ah (uF d (by omega)) ?_|refine ae (zh d.1) ?_|refine ae (uP d.1) ?_|refine ah (K1 d.1 ⟨by have:=c.2;omega,by have:=c.2;omega,by have:=c.2;omega,by have:=c.2;omega⟩) ?_|refine ae (zh c.1) ?_|refine ae (uP c.1) ?_|refine ah (GO c.1 d.1) ?_|refine ah (Ld fk) ?_)
 have k:=e;obtain⟨_,f,g,h,j,_⟩:=k;unfold af at f g h j;simp only at f g h j;rw[Cr (by omega) (by omega),Cr (by omega) (by omega)];refine ah (HR (m:=af a b) e (by omega)) ?_;cases ID (af a b)with
 |true=>
  simp only[if_true];simp only[AB,AO,AG];simp(disch:=omega)only[↓po]
  try rfl
 |false=>
  simp only[Bq,if_false];simp(disch:=omega)only[↓po]
  try rfl
def wP{c:Cl}(b:c.2.2<4):Cc 94 (As c) [.i (if Ek c then 0 else 1)]:=by
 by_cases a:Ek c=true
 ·rw[mc a];unfold Ek at a;rw[BQ]at a;exact wQ ⟨a.1,a.2.1,a.2.2.1,a.2.2.2,b⟩
 ·rw[ra a];unfold Ek at a;rw[BQ]at a;refine q94 rfl ?_;unfold TW;simp only[xp];simp only[As];refine jn ?_;by_cases d:c.1 < -4096
  ·repeat (first|simp(disch:=omega)only[↓po])
   try rfl
  by_cases e:4096<c.1
  ·repeat (first|simp(disch:=omega)only[↓po])
   try rfl
  by_cases f:c.2.1 < -4096
  ·repeat (first|simp(disch:=omega)only[↓po])
   try rfl
  ·have g:4096<c.2.1:=by omega
   repeat (first|simp(disch:=omega)only[↓po])
   try rfl
def K4{m:Mv}(b:AK 16384 m){c:Cl}(a:-1000<=c.1/\c.1<=1000/\-1000<=c.2.1/\c.2.1<=1000/\c.2.2<4):Cc 65 (AB m++As c) (if Ek (am m c)then As (am m c)++[.i 0]else [.i 0,.i 0,.i 0,.i 3]):=by
 have d:=uG b (k:=1000) ⟨a.1,a.2.1,a.2.2.1,a.2.2.2.1⟩;refine q65 rfl ?_;unfold Y4;simp only[xp];simp only[AB,As,AO,AG]
 repeat (first|simp(disch:=omega)only[↓po]|refine ah (uF b (by omega)) ?_|refine ah (wQ (c:=c) ⟨by omega,by omega,by omega,by omega,a.2.2.2.2⟩) ?_)
 refine ah (Pi b a) ?_;simp only[As];refine jn ?_;refine ah (wP (c:=am m c) d.2.2.2.2) ?_;cases Ek (am m c)with
 |true=>
  simp only[if_true];simp(disch:=omega)only[↓po]
  try rfl
 |false=>
  simp only[Bq,if_false];simp(disch:=omega)only[↓po]
  try rfl
def GoodA.eq{w v:Nat}{l:Ty}{A:TI}(g:Sh w v)(hA:GoodA w v l A){G:TC}(f:nC w v l G)(h0:G 0=AZ):∀c,c<4*w*v->A[c]?=some (G c):=
 vX g (by rw[h0];exact hA.a0) λc e n a b d h=>by rw[f c e n a b d];exact hA.cons c e n _ a b d h
def Bt(w v:Nat)(G:TC)(r:Mv):TI:=(List.range (4*w*v)).map λc=>af (G c) r
def FO(w v:Nat)(G:TC)(r:Mv):List Cl:=(List.range (4*w*v)).map λc=>am (af (G c) r) (sd w c)
def iD{w v:Nat}{G:TC}{r:Mv}{c:Nat}(h:c<4*w*v):(Bt w v G r)[c]?=some (af (G c) r):=by
 unfold Bt;rw[AX,Ih h];rfl
def rY{w v:Nat}{G:TC}{r:Mv}{c:Nat}(h:c<4*w*v):(FO w v G r)[c]?=some (am (af (G c) r) (sd w c)):=by
 unfold FO;rw[AX,Ih h];rfl
def take_set{α:Type}{L A:List α}{j:Nat}{a:α}(b:L[j]?=some a)(c:L.length=A.length):(L.take j++A.drop j).set j a=L.take (j+1)++A.drop (j+1):=by
 have e:=al b;have d:(L.take j).length=j:=by rw[BX];omega
 rw[RY _ _ (by omega),d,Ic,M8 (by omega),qc1,Ec,b];simp
def Pe{α:Type}{L A:List α}{j:Nat}{a:α}(hA:A[j]?=some a)(b:L.length=A.length):(L.take j++A.drop j)[j]?=some a:=by
 have c:=al hA;rw[Cv (by rw[BX];omega),BX,CL (by omega),Ic,Ii,Vf];exact hA
def vS{α:Type}{L A:List α}{j:Nat}(a:L.length=A.length)(b:j<=L.length):(L.take j++A.drop j).length=A.length:=by
 rw[Bv,BX,M6];omega
def bW{α:Type}{e cx n:Nat}{enc:α->Tk}(b:∀a,(enc a).length=e){h:HL}{id:Nat}{L:List α}(hg:h[id]?=some (.o (.cells (L.flatMap enc) e true)))(d:n=L.length):LsH h (.slice (some ⟨id,0,qs e⟩) n cx) e enc L:=by
 subst d;have c:=ba (e:=e) (enc:=enc) (l:=L) λa _=>b a;exact⟨λa _=>b a,c,.inr ⟨id,0,cx,_,true,rfl,hg,Sx.cut_all c⟩⟩
def Ful{α:Type}(h:HL)(x:Value)(e:Nat)(enc:α->Tk)(l:List α):Prop:=∃id,x = .slice (some ⟨id,0,qs e⟩) l.length (l.length+1)/\h[id]?=some (.o (.cells (l.flatMap enc) e true))
def Ful.ls{α:Type}{h:HL}{x:Value}{e:Nat}{enc:α->Tk}{l:List α}(b:∀a,(enc a).length=e)(d:Ful h x e enc l):LsH h x e enc l:=by
 obtain⟨id,rfl,c⟩:=d;exact bW b c rfl
def Ful.pre{α:Type}{h h':HL}{x:Value}{e:Nat}{enc:α->Tk}{l:List α}(b:Ful h x e enc l)(c:Pre h h'):Ful h' x e enc l:=by
 obtain⟨id,rfl,a⟩:=b;exact⟨id,rfl,c.get a⟩
def Ful.cap{α:Type}{h:HL}{x:Value}{e:Nat}{enc:α->Tk}{l:List α}(a:Ful h x e enc l):NR x=some (Int.ofNat l.length):=by
 obtain⟨id,rfl,b⟩:=a;exact Jm
abbrev jq:Value:=.slice none 0 0
def allV(w:Nat)(G:TC)(r:Mv)(n:Nat):Prop:=∀c,c<n->ID (af (G c) r)=true/\Ek (am (af (G c) r) (sd w c))=true
def allV.succ{w:Nat}{G:TC}{r:Mv}{n:Nat}(h:allV w G r n)(h1:ID (af (G n) r)=true)(a:Ek (am (af (G n) r) (sd w n))=true):allV w G r (n+1):=λc b=>by
 by_cases e:c=n
 ·subst e;exact⟨h1,a⟩
 ·exact h c (by omega)
structure ConsO(w v:Nat)(l:Ty)(G:TC):Prop where
 g:nC w v l G
 z:G 0=AZ
 ok:∀c,c<4*w*v->AK 2000 (G c)
def GoodA.consO{w v:Nat}(k:Sh w v){l:Ty}{A:TI}(h:GoodA w v l A):ConsO w v l (λc=>A.getD c AZ):=by
 have o:=Bw k;have f:∀c,c<4*w*v->A[c]?=some (A.getD c AZ):=λc b=>by
  obtain⟨a,m⟩:=aG (l:=A) (i:=c) (by rw[h.len];exact b);rw[List.getD_eq_getElem?_getD,m];rfl
 refine⟨λc e n b g j=>?_,?_,λc b=>h.ok _ (Ap (f c b))⟩
 ·have d:=h.cons c e n _ b g j (f c b);rw[f n (dJ k b g j).1]at d;exact AR d
 ·have d:=h.a0;rw[f 0 (by omega)]at d;exact AR d
def di{w v:Nat}(a:Sh w v){j:Nat}(e:j<4*w*v):-1000<=(sd w j).1/\(sd w j).1<=1000/\-1000<=(sd w j).2.1/\(sd w j).2.1<=1000/\(sd w j).2.2<4:=by
 have d:=Bw a;have b:j / 4%w<=j / 4:=qd8 _ _;have c:j / 4 / w<=j / 4:=qdx _ _;refine⟨?_,?_,?_,?_,Il _ (by omega)⟩
 ·exact Int.le_trans (show(-1000:Int)<=0 by decide) (B8 _)
 ·exact qdc.2 (show j / 4%w<=1000 by omega)
 ·exact Int.le_trans (show(-1000:Int)<=0 by decide) (B8 _)
 ·exact qdc.2 (show j / 4 / w<=1000 by omega)
def IU(w v:Nat)(l:Ty)(r:Mv)(a:TB)(h':HL):Prop:=
 (a=[.v jq,.v jq,.i 11]/\¬ ∃G,nC w v l G/\G 0=AZ)∨
 ∃G,ConsO w v l G/\((a=[.v jq,.v jq,.i 3]/\¬allV w G r (4*w*v))∨
  (∃b ix,a=[.v b,.v ix,.i 0]/\allV w G r (4*w*v)/\Ful h' b 3 ub (Bt w v G r)/\Ful h' ix 3 bu (FO w v G r)))
def Ev{w v:Nat}(t:Sh w v){l:Ty}(hk:(l.map bB).Nodup)(ax:l.length<=1000){H:HL}{x:Value}(hl:LsH H x 3 Ac l)(ar:aD cc ab 99 [.i (.ofNat w),.i (.ofNat v),.v x] (ka aa H) [.i 0] (ka aa H))
  {r:Mv} (hr:AK 16384 r) :
  ∃N h',aD cc ab 63 ([.i (.ofNat w),.i (.ofNat v),.v x]++AB r) (ka aa H) N (ka aa h')/\Pre H h'/\IU w v l r N h':=by
 have hN:=Bw t;obtain⟨a5,y,c1,e,U⟩:=zG t hk ax hl;have a0:=x63 (ls:=[.i (.ofNat w),.i (.ofNat v),.v x,.i (Int.ofNat r.1),.i r.2.1,.i r.2.2]) (K:=λN h'=>Pre H h'/\IU w v l r N h') (H:=H) (km (km (oo hl.good (km (km (km ua)))))) (by
  unfold f63;simp only[xp]
  repeat (first|simp(disch:=omega)only[↓po]|refine ai ar ?_|refine ah (uF hr (by omega)) ?_)
  refine ai c1 ?_;rcases U with⟨A,id,rfl,hid,T,hA⟩|⟨rfl,ay⟩
  case inr=>
   refine jn ?_;exact⟨e,.inl ⟨by trivial,ay⟩⟩
  refine jn ?_;have M:=hA.consO t;generalize a4:(λc=>A.getD c AZ)=G at M;have ag:=hA.eq t M.g M.z;have p:(Bt w v G r).length=A.length:=by rw[hA.len];simp[Bt]
  have k:(FO w v G r).length=4*w*v:=by simp[FO]
  have a2:=al T;refine ae (x:=Int.ofNat (4*w*v)) rfl ?_;refine ae (eI (by omega)) ?_;refine jn ?_;rw[show(Int.ofNat (4*w*v)).toNat=4*w*v from rfl];have z0:HO.o (.cells (bk [.int .i64 0,.int .i64 0,.int .u8 0] (4*w*v)) 3 true)=HO.o (.cells ((List.replicate (4*w*v) ((0,0,0):Cl)).flatMap bu) 3 true):=by
   rw[←dd (enc:=bu) (z:=((0,0,0):Cl)) (n:=4*w*v)];rfl
  rw[z0];refine ae (x:=Int.ofNat (4*w*v)) rfl ?_;have D:(FO w v G r).length=(List.replicate (4*w*v) ((0,0,0):Cl)).length:=by rw[k];simp
  have u:(y++[HO.o (.cells ((List.replicate (4*w*v) ((0,0,0):Cl)).flatMap bu) 3 true)])[id]?=some (.o (.cells (A.flatMap ub) 3 true)):=Pre.get ⟨_,rfl⟩ T;have O:(y++[HO.o (.cells ((List.replicate (4*w*v) ((0,0,0):Cl)).flatMap bu) 3 true)])[y.length]?=some (HO.o (.cells ((List.replicate (4*w*v) ((0,0,0):Cl)).flatMap bu) 3 true)):=az;have P:Pre H (y++[HO.o (.cells ((List.replicate (4*w*v) ((0,0,0):Cl)).flatMap bu) 3 true)]):=e.app _;have S:y.length≠id:=by omega
  have Q:H.length<=y.length:=e.len;generalize List.replicate (4*w*v) ((0,0,0):Cl)=Z at *;generalize y++[HO.o (.cells (Z.flatMap bu) 3 true)]=h2 at *;generalize y.length=iX at *;refine aO (σ:=HL) (4*w*v) (λj _=>[.i (Int.ofNat j)]) (λ_ s=>s) (λj s=>Pre H s/\s[id]?=some (.o (.cells (((Bt w v G r).take j++A.drop j).flatMap ub) 3 true))/\s[iX]?=some (.o (.cells (((FO w v G r).take j++Z.drop j).flatMap bu) 3 true))/\allV w G r j) (j0:=0) (s0:=h2) rfl rfl (AF _) ⟨P,by simpa using u,by simpa using O,λc hc=>by omega⟩ ?_;clear u O P;rintro j h hj ⟨P,u,O,B⟩ a3 F;refine jn ?_;by_cases b:j<4*w*v
  ·rw[au b];refine jn ?_;have ha:=ag j b;have R:=iD (G:=G) (r:=r) b;have an:=rY (G:=G) (r:=r) b;have d:=vS (j:=j) p (by rw[p,hA.len];omega);have f:=vS (j:=j) D (by rw[k];omega);refine aP (bW bR u (by rw[d,hA.len])) rfl (Pe ha p) ?_;unfold ub;refine jn ?_;refine ah (Ex (qY w v t.1 t.2.1 t.2.2.1 t.2.2.2) b) ?_;unfold DM;refine jn ?_;have W:AK 2000 (G j):=hA.ok _ (Ap ha);have a1:=dp W hr;refine ah (Vy W hr) ?_;cases I:ID (af (G j) r)with
   |false=>
    simp only[Bq,if_false]
    repeat (first|simp(disch:=omega)only[↓po]|refine de (enc:=ub) (l:=(Bt w v G r).take j++A.drop j) (i:=j) (a:=AZ) bR u rfl (by rw[d,hA.len];exact b) (by rw[d,hA.len]) rfl ?_)
    exact⟨gt P hid,.inr ⟨G,M,.inl ⟨by trivial,λq=>by rw[(q j b).1]at I;cases I⟩⟩⟩
   |true=>
   simp only[if_true];have C:ID (af (G j) r)=true:=I;have X:=VD a1 C;have E:=di t b;have aE:=C;generalize hm:af (G j) r=m at *;simp only[AB,AO,AG];refine jn ?_;refine de (enc:=ub) (l:=(Bt w v G r).take j++A.drop j) (i:=j) (a:=m) bR u rfl (by rw[d,hA.len];exact b) (by rw[d,hA.len]) rfl ?_;rw[take_set R p];have Y:(td h id 3 ub ((Bt w v G r).take (j+1)++A.drop (j+1)))[id]?=some (.o (.cells (((Bt w v G r).take (j+1)++A.drop (j+1)).flatMap ub) 3 true)):=bL (al u);have L:(td h id 3 ub ((Bt w v G r).take (j+1)++A.drop (j+1)))[iX]?=some (.o (.cells (((FO w v G r).take j++Z.drop j).flatMap bu) 3 true)):=by rw[cV S];exact O
   have ad:Pre H (td h id 3 ub ((Bt w v G r).take (j+1)++A.drop (j+1))):=gt P hid;generalize td h id 3 ub ((Bt w v G r).take (j+1)++A.drop (j+1))=h3 at *;refine jn ?_;have J:=vS (j:=j+1) p (by rw[p,hA.len];omega);refine aP (a:=m) (bW bR Y (by rw[J,hA.len])) rfl ?_ ?_
   ·rw[BZ (by rw[BX,p,hA.len];omega),Ij,mc (by omega)];exact R
   unfold ub;refine jn ?_;refine ah (K4 (c:=sd w j) X E) ?_;cases V:Ek (am m (sd w j))with
   |false=>
    simp only[Bq,if_false]
    repeat (first|simp(disch:=omega)only[↓po]|refine de (enc:=bu) (l:=(FO w v G r).take j++Z.drop j) (i:=j) (a:=((0,0,0):Cl)) ee L rfl (by rw[f,←D,k];exact b) (by rw[f,←D,k]) rfl ?_)
    exact⟨gt ad Q,.inr ⟨G,M,.inl ⟨by trivial,λq=>by
     have:=(q j b).2;rw[hm,V]at this;cases this⟩⟩⟩
   |true=>
   simp only[if_true];generalize ap:am m (sd w j)=ci at *;simp only[As,AO,AG];refine jn ?_;refine de (enc:=bu) (l:=(FO w v G r).take j++Z.drop j) (i:=j) (a:=ci) ee L rfl (by rw[f,←D,k];exact b) (by rw[f,←D,k]) rfl ?_;rw[take_set an D];refine jn ?_;rw[aI (by omega)];refine F _ b ⟨gt ad Q,by rw[cV (B9 S)];exact Y,bL (al L),B.succ (by rw[hm];exact aE) (by rw[hm,ap];exact V)⟩
  ·obtain rfl:j=4*w*v:=by omega
   rw[ao (Ah _)];refine jn ?_;rw[CJ (by rw[p,hA.len];exact Ah _),RW (by rw[hA.len];exact Ah _),Cx]at u;rw[CJ (by rw[k];exact Ah _),RW (by rw[←D,k];exact Ah _),Cx]at O;have e1:(Bt w v G r).length=4*w*v:=by rw[p,hA.len]
   refine⟨P,.inr ⟨G,M,.inr ⟨_,_,rfl,B,⟨id,?_,u⟩,⟨iX,?_,O⟩⟩⟩⟩
   ·rw[e1]
   ·rw[k];rfl)
 obtain⟨N,h',h2,h3,h4⟩:=a0;exact⟨N,h',h2,h3,h4⟩
section
variable {w v:Nat} {l:Ty} {A:TI} {B:Tv} {q:Tx}
def JS.begin{c0:Nat}(h:JS w v l A B q λ_ _=>True):JS w v l A B (q.filter λc=>!Nat.beq c c0) λc e=>c=c0->False:=by
 refine⟨h.a0,h.b0,λc a=>h.q1 c (qaO.1 a).1,λc e n d a f i b j=>?_,h.bd,h.un⟩;refine h.dn c e n trivial a f i b λg=>j ?_;rw[qaO];refine⟨g,?_⟩;rw[R2,qcx];exact λe=>d (AW e)
def JS.skipP{c0 j:Nat}{P:Nat->Prop}(h:JS w v l A B q λc e=>c=c0->P e)(k:Aj w v c0 j=none):JS w v l A B q λc e=>c=c0->P e∨e=j:=by
 refine⟨h.a0,h.b0,h.q1,λc e n g f i a d o=>?_,h.bd,h.un⟩;refine h.dn c e n (λb=>?_) f i a d o;rcases g b with m|rfl
 ·exact m
 ·subst b;rw[k]at a;cases a
def JS.seenP{c0 j n:Nat}{a:Mv}{P:Nat->Prop}(h:JS w v l A B q λc e=>c=c0->P e)(t:Aj w v c0 j=some n)(m:B[n]?=some true)(k:A[c0]?=some a)(s:A[n]?=some (B4 w l a c0 n j)):JS w v l A B q λc e=>c=c0->P e∨e=j:=by
 refine⟨h.a0,h.b0,h.q1,λc e x p o r b g u=>?_,h.bd,h.un⟩;by_cases f:c=c0/\e=j
 ·obtain⟨rfl,rfl⟩:=f;rw[t]at b;cases b;exact⟨m,a,k,s⟩
 ·exact h.dn c e x (λd=>(p d).resolve_right λi=>f ⟨d,i⟩) o r b g u
def JS.freshP(O:Sh w v){c0 j n:Nat}{a:Mv}{P:Nat->Prop}(h:JS w v l A B q λc e=>c=c0->P e)(W:A.length=4*w*v)(X:B.length=4*w*v)(m:c0<4*w*v)(L:j<3)(z:Aj w v c0 j=some n)(t:B[c0]?=some true)(I:B[n]?=some false)(H:A[c0]?=some a) :
  JS w v l (A.set n (B4 w l a c0 n j)) (B.set n true) (q++[n]) λc e=>c=c0->P e∨e=j:=by
 obtain⟨Z,_,_,_,g5⟩:=dJ O m L z;have k:(B.set n true)[n]?=some true:=C2 (by omega);have i:(A.set n (B4 w l a c0 n j))[n]?=some (B4 w l a c0 n j):=C2 (by omega);have p:∀c,c≠n->(B.set n true)[c]?=B[c]?:=λc g=>B5 (B9 g);have hA:∀c,c≠n->(A.set n (B4 w l a c0 n j))[c]?=A[c]?:=λc g=>B5 (B9 g);have r:(0:Nat)≠n:=λe=>by have:=h.b0;rw[e,I]at this;cases this
 have M:AK (20*(Bi B:Int)) a:=h.bd c0 a t H;refine⟨by rw[hA 0 r];exact h.a0,by rw[p 0 r];exact h.b0,λc g=>?_,λc e C U g V o f N=>?_,λc D f d=>?_,λG F s c D f d=>?_⟩
 ·rcases qar.1 g with g|g
  ·have:=h.q1 c g;by_cases b:c=n
   ·rw[b];exact k
   ·rw[p c b];exact this
  ·simp only[qav]at g;rw[g];exact k
 ·have b:c≠n:=λe=>N (by rw[e];simp);have J:c∉q:=λY=>N (D9 _ Y);rw[p c b]at f;by_cases x:c=c0/\e=j
  ·obtain⟨rfl,rfl⟩:=x;rw[z]at o;cases o;exact⟨k,a,by rw[hA c b];exact H,i⟩
  ·obtain⟨E,Q,R,S⟩:=h.dn c e C (λu=>(U u).resolve_right λK=>x ⟨u,K⟩) g V o f J;have y:C≠n:=λT=>by rw[T,I]at E;cases E
   exact⟨by rw[p C y];exact E,Q,by rw[hA c b];exact R,by rw[hA C y];exact S⟩
 ·rw[gf I];by_cases b:c=n
  ·rw[b,i]at d;cases d;exact aN (wM O m L z M (by omega)) (by omega)
  ·rw[p c b]at f;rw[hA c b]at d;exact aN (h.bd c D f d) (by omega)
 ·by_cases b:c=n
  ·rw[b,i]at d;cases d;rw[b,F c0 j n m L z,←h.un G F s c0 a t H]
  ·rw[p c b]at f;rw[hA c b]at d;exact h.un G F s c D f d
def JS.doneP{c0:Nat}{P:Nat->Prop}(h:JS w v l A B q λc e=>c=c0->P e)(g:∀e,e<3->P e):JS w v l A B q λ_ _=>True:=
 ⟨h.a0,h.b0,h.q1,λc e n _ d a f b i=>h.dn c e n (λ_=>g e a) d a f b i,h.bd,h.un⟩
def JS.monoP{c0:Nat}{P Q:Nat->Prop}(h:JS w v l A B q λc e=>c=c0->P e)(i:∀e,Q e->P e):JS w v l A B q λc e=>c=c0->Q e:=
 ⟨h.a0,h.b0,h.q1,λc e n d a f g b j=>h.dn c e n (λa=>i e (d a)) a f g b j,h.bd,h.un⟩
end
def eK(q k:Nat):Nat:=if k=0 then 0 else if decide (q%2=0)=decide (k=1)then 1 else 2
def fy(q k:Nat):eK q k<3:=by
 unfold eK
 repeat' split
 all_goals omega
def JF{q:Nat}(e:Nat)(c:e<3):∃k,k<3/\eK q k=e:=by
 have a:q%2=0∨q%2=1:=by omega
 have b:e=0∨e=1∨e=2:=by omega
 rcases a with a|a<;>rcases b with rfl|rfl|rfl
 ·exact⟨0,by omega,rfl⟩
 ·exact⟨1,by omega,by simp[eK,a]⟩
 ·exact⟨2,by omega,by simp[eK,a]⟩
 ·exact⟨0,by omega,rfl⟩
 ·exact⟨2,by omega,by simp[eK,a]⟩
 ·exact⟨1,by omega,by simp[eK,a]⟩
def Bl(m:Mv)(p:Int×Int):Int×Int:=(mA m.1*p.1+mB m.1*p.2+6*m.2.1,mC m.1*p.1+mD m.1*p.2+6*m.2.2)
def VN(q:Nat):Int:=match q with
 |0=>3
 |1=>5
 |2=>3
 |_=>1
def VO(q:Nat):Int:=match q with
 |0=>1
 |1=>3
 |2=>5
 |_=>3
def AH(c:Cl):Int×Int:=(6*c.1+VN c.2.2,6*c.2.1+VO c.2.2)
def atQ(x y:Int):Nat:=if y<x/\x+y<6 then 0 else if y<x then 1 else if 6<x+y then 2 else 3
def XB(p:Int×Int):Cl:=(p.1 / 6,p.2 / 6,atQ (p.1 - 6*(p.1 / 6)) (p.2 - 6*(p.2 / 6)))
def BR{q:Nat}(h:q<4):q=0∨q=1∨q=2∨q=3:=by omega
def XC{m:Mv}{c:Cl}(a:m.1<8)(b:c.2.2<4):XB (Bl m (AH c))=am m c:=by
 obtain⟨t,X,Y⟩:=m;obtain⟨x,y,q⟩:=c;simp only at a b;rcases t8 a with rfl|rfl|rfl|rfl|rfl|rfl|rfl|rfl<;>rcases BR b with rfl|rfl|rfl|rfl
 all_goals
  simp only[XB,Bl,AH,VN,VO,mA,mB,mC,mD,am,qT];refine Ed ?_ (Ed ?_ ?_)
  ·simp;omega
  ·simp;omega
  ·simp only[atQ]
   repeat' split
   all_goals first|rfl|(exfalso;omega)|(exfalso;rename_i h;exact h trivial)
end Go.Am
namespace Go.Am
open Sx
def OP{a b:Mv}(c:a.1<8)(d:b.1<8)(p:Int×Int):Bl b (Bl a p)=Bl (af a b) p:=by
 obtain⟨s,X,Y⟩:=a;obtain⟨t,U,V⟩:=b;obtain⟨x,y⟩:=p;simp only at c d;rcases t8 c with rfl|rfl|rfl|rfl|rfl|rfl|rfl|rfl<;>rcases t8 d with rfl|rfl|rfl|rfl|rfl|rfl|rfl|rfl
 all_goals
  simp[Bl,af,A4,mA,mB,mC,mD];omega
def Pb{s t:Nat}(d:s<8)(e:t<8)(h1:mA s=mA t)(a:mC s=mC t)(b:mB s=mB t)(c:mD s=mD t):s=t:=by
 rcases t8 d with rfl|rfl|rfl|rfl|rfl|rfl|rfl|rfl<;>rcases t8 e with rfl|rfl|rfl|rfl|rfl|rfl|rfl|rfl
 all_goals first
  |rfl
  |(exfalso;simp[mA,mB,mC,mD]at h1 a b c)
end Go.Am
namespace Go.Am
open Sx Go.Proofs
def Dc(w v c k:Nat):Int:=match Aj w v c (eK (c%4) k)with
 |some n=>Int.ofNat n
 |none=>-1
def mirT(w v c k:Nat):Bool:=match Aj w v c (eK (c%4) k)with
 |some n=>jA 34 (As (sd w c)++As (sd w n)) (AB (Bm (uc (sd w c) (eK (c%4) k))))
 |none=>true
def zY(w v c k:Nat):Bool:=jA 32 [.i (.ofNat w),.i (.ofNat v),.i (.ofNat c),.i (.ofNat k)] [.i (Dc w v c k)]&&(jA 39 (As (sd w c)++[.i (.ofNat k)]) (As (AP (sd w c) (eK (c%4) k)))&&(jA 36 [.i (.ofNat w),.i (.ofNat v),.i (.ofNat c),.i (.ofNat k)] [.i (.ofNat (eK (c%4) k))]&&mirT w v c k))
def tab4(w v:Nat):Bool:=(List.range (4*w*v)).all λc=>jA 35 [.i (.ofNat w),.i (.ofNat v),.i (.ofNat c)] (As (sd w c))&&(List.range 3).all λk=>zY w v c k
def all4:∀w v:Nat,1<=w->w<=3->1<=v->v<=3->tab4 w v=true:=by
 have a:((List.range 3).all λw=>(List.range 3).all λv=>tab4 (w+1) (v+1))=true:=by kernel_rfl
 intro w v d e f g;have c:=qac.1 a (w - 1) (qad.2 (by omega));have b:=qac.1 c (v - 1) (qad.2 (by omega));rw[show w - 1+1=w by omega,show v - 1+1=v by omega]at b;exact b
def S3(w v:Nat):Prop:=1<=w/\w<=3/\1<=v/\v<=3
def S3.sh{w v:Nat}(h:S3 w v):Sh w v:=⟨h.1,by have:=h.2.1;omega,h.2.2.1,by have:=h.2.2.2;omega⟩
section
variable {w v c k:Nat}
def pE(h:S3 w v)(a:c<4*w*v):jA 35 [.i (.ofNat w),.i (.ofNat v),.i (.ofNat c)] (As (sd w c))=true/\∀k,k<3->zY w v c k=true:=by
 have:=qac.1 (all4 w v h.1 h.2.1 h.2.2.1 h.2.2.2) c (qad.2 a);rw[wa]at this;exact⟨this.1,λk b=>qac.1 this.2 k (qad.2 b)⟩
def iK(h:S3 w v)(a:c<4*w*v):Cc 35 [.i (.ofNat w),.i (.ofNat v),.i (.ofNat c)] (As (sd w c)):=ez (pE h a).1 rfl (by kernel_rfl) rfl
def uH(h:S3 w v)(a:c<4*w*v)(b:k<3):Cc 32 [.i (.ofNat w),.i (.ofNat v),.i (.ofNat c),.i (.ofNat k)] [.i (Dc w v c k)]:=by
 have:=(pE h a).2 k b;unfold zY at this;rw[wa]at this;exact ez this.1 rfl (by kernel_rfl) rfl
def yM(h:S3 w v)(a:c<4*w*v)(b:k<3):Cc 39 (As (sd w c)++[.i (.ofNat k)]) (As (AP (sd w c) (eK (c%4) k))):=by
 have:=(pE h a).2 k b;unfold zY at this;rw[wa,wa]at this;exact ez this.2.1 rfl (by kernel_rfl) rfl
def JH(h:S3 w v)(a:c<4*w*v)(b:k<3):Cc 36 [.i (.ofNat w),.i (.ofNat v),.i (.ofNat c),.i (.ofNat k)] [.i (.ofNat (eK (c%4) k))]:=by
 have:=(pE h a).2 k b;unfold zY at this;rw[wa,wa,wa]at this;exact ez this.2.2.1 rfl (by kernel_rfl) rfl
def Pf(h:S3 w v)(a:c<4*w*v)(b:k<3){n:Nat}(d:Aj w v c (eK (c%4) k)=some n):Cc 34 (As (sd w c)++As (sd w n)) (AB (Bm (uc (sd w c) (eK (c%4) k)))):=by
 have:=(pE h a).2 k b;unfold zY mirT at this;rw[wa,wa,wa,d]at this;exact ez this.2.2.2 rfl (by kernel_rfl) rfl
end
def of0:Int.ofNat 0=0:=rfl
def of1:Int.ofNat 1=1:=rfl
def of2:Int.ofNat 2=2:=rfl
def of3:Int.ofNat 3=3:=rfl
def of4:Int.ofNat 4=4:=rfl
def of5:Int.ofNat 5=5:=rfl
def of6:Int.ofNat 6=6:=rfl
def of7:Int.ofNat 7=7:=rfl
def uo{m:Mv}{x y:Int}(a:m.1<8)(b:-100000<=m.2.1/\m.2.1<=100000/\-100000<=m.2.2/\m.2.2<=100000)(c:-10000000<=x/\x<=10000000/\-10000000<=y/\y<=10000000):Cc 84 (AB m++[.i x,.i y]) [.i (Bl m (x,y)).1,.i (Bl m (x,y)).2]:=by
 obtain⟨t,X,Y⟩:=m;simp only at a b;refine q84 rfl ?_;unfold Zc;simp only[xp];simp only[AB,AO,AG];rcases t8 a with rfl|rfl|rfl|rfl|rfl|rfl|rfl|rfl
 all_goals
  simp only[of0,of1,of2,of3,of4,of5,of6,of7]
  repeat (first|simp(disch:=omega)only[↓po]|refine gG 5 ?_)
  simp only[Bl,mA,mB,mC,mD,Dt,Lf.i.injEq,and_true];constructor<;>omega
def qp{c:Cl}(a:c.2.2<4)(b:-100000<=c.1/\c.1<=100000/\-100000<=c.2.1/\c.2.1<=100000):Cc 88 (As c) [.i (AH c).1,.i (AH c).2]:=by
 obtain⟨x,y,q⟩:=c;simp only at a b;refine q88 rfl ?_;unfold Zg;simp only[xp];simp only[As];have d:Cc 121 [.i x,.i y,.i (Int.ofNat q)] (match q with
  |0=>[.i (6*x+3),.i (6*y+3),.i (6*x),.i (6*y),.i (6*x+6),.i (6*y)]
  |1=>[.i (6*x+3),.i (6*y+3),.i (6*x+6),.i (6*y),.i (6*x+6),.i (6*y+6)]
  |2=>[.i (6*x+3),.i (6*y+3),.i (6*x+6),.i (6*y+6),.i (6*x),.i (6*y+6)]
  |_=>[.i (6*x+3),.i (6*y+3),.i (6*x),.i (6*y+6),.i (6*x),.i (6*y)]):=by
  refine q121 rfl ?_;unfold JT;simp only[xp];rcases BR a with rfl|rfl|rfl|rfl
  all_goals
   simp only[of0,of1,of2,of3,of4,of5,of6,of7]
   repeat (first|simp(disch:=omega)only[↓po] )
 rcases BR a with rfl|rfl|rfl|rfl
 all_goals
  repeat (first|simp(disch:=omega)only[↓po]|refine ah d ?_)
  simp only[AH,VN,VO,Dt,Lf.i.injEq,and_true];constructor<;>omega
def rF{a:Int}(h:-100000000<=a/\a<=100000000):Cc 85 [.i a,.i 6] [.i (a / 6)]:=by
 refine q85 rfl ?_;unfold Zd;simp only[xp];by_cases b:a<0
 ·repeat (first|simp(disch:=omega)only[↓po]|rw[CZ (by omega) (by omega) (by omega)])
  simp only[Dt,Lf.i.injEq,and_true];omega
 ·repeat (first|simp(disch:=omega)only[↓po]|rw[CZ (by omega) (by omega) (by omega)])
def Sz{x y:Int}(h:-100000000<=x/\x<=100000000/\-100000000<=y/\y<=100000000):Cc 87 [.i x,.i y] (As (XB (x,y))):=by
 refine q87 rfl ?_;unfold Zf;simp only[xp]
 repeat (first|simp(disch:=omega)only[↓po]|refine ah (rF (by omega)) ?_)
 have e:As (XB (x,y))=[.i (x / 6),.i (y / 6),.i (Int.ofNat (atQ (x - 6*(x / 6)) (y - 6*(y / 6))))]:=rfl;rw[e];have g:0<=x - 6*(x / 6)/\x - 6*(x / 6)<=5:=by omega
 have j:0<=y - 6*(y / 6)/\y - 6*(y / 6)<=5:=by omega
 generalize x / 6=a at *;generalize y / 6=b at *;by_cases c:y - 6*b<x - 6*a<;>by_cases d:x - 6*a+(y - 6*b)<6<;>by_cases f:6<x - 6*a+(y - 6*b)
 all_goals
  first|(exfalso;omega)|skip
  repeat (first|simp(disch:=omega)only[↓po])
  try simp only[atQ,c,d,f,and_true,and_false,true_and,false_and,if_true,if_false]
  try rfl
def jQ{m:Mv}{c:Cl}(a:m.1<8)(f:-100000<=m.2.1/\m.2.1<=100000/\-100000<=m.2.2/\m.2.2<=100000)(b:c.2.2<4)(g:-100000<=c.1/\c.1<=100000/\-100000<=c.2.1/\c.2.1<=100000):Cc 38 (AB m++As c) (As (am m c)):=by
 refine q38 rfl ?_;unfold YW;simp only[xp];have e:=XC a b;have l:-1000000<=(AH c).1/\(AH c).1<=1000000/\-1000000<=(AH c).2/\(AH c).2<=1000000:=by
  obtain⟨x,y,q⟩:=c;simp only at b g;rcases BR b with rfl|rfl|rfl|rfl<;>simp only[AH,VN,VO]<;>omega
 have k:-100000000<=(Bl m (AH c)).1/\(Bl m (AH c)).1<=100000000/\-100000000<=(Bl m (AH c)).2/\(Bl m (AH c)).2<=100000000:=by
  generalize AH c=p at *;obtain⟨t,X,Y⟩:=m;obtain⟨x,y⟩:=p;simp only at a f l;rcases t8 a with rfl|rfl|rfl|rfl|rfl|rfl|rfl|rfl<;>simp only[Bl,mA,mB,mC,mD]<;>omega
 have h:=qp b g;have i:=uo (m:=m) (x:=(AH c).1) (y:=(AH c).2) a f (by omega);have d:=Sz (x:=(Bl m (AH c)).1) (y:=(Bl m (AH c)).2) k;have j:XB ((Bl m (AH c)).1,(Bl m (AH c)).2)=am m c:=e;rw[j]at d;simp only[AB,As,AO,AG]at h i d ⊢
 repeat (first|simp(disch:=omega)only[↓po]|refine ah h ?_|refine ah i ?_|refine ah d ?_)
def Ro{a b c d:Int}{K:Tm}:P1.eqs [(.i a,.i b),(.i c,.i d)] (@hid _ ⟨K⟩)=K (decide (a=b/\c=d)):=by
 show K (cp _)=_;have e:cp [(.i a,.i b),(.i c,.i d)]=decide (a=b/\c=d):=by
  rw[IK];simp[cp,gJ]
 rw[e]
def yA{a b:Mv}(ha:AK 30000 a)(hb:AK 30000 b):Cc 33 (AB a++AB b) (AB (af a b)):=by
 obtain⟨d,D,E,F,H,U⟩:=ha;obtain⟨q,V,W,Z,b5,b6⟩:=hb;have r:=dp (n:=30000) (k:=30000) ⟨d,D,E,F,H,U⟩ ⟨q,V,W,Z,b5,b6⟩;obtain⟨P,g2,g3,g4,g5,_⟩:=r;refine q33 rfl ?_;unfold YU;simp only[xp];have I:∀(x y:Int),(0<=x/\x<=6/\0<=y/\y<=6)->-1000000<=(Bl a (x,y)).1/\(Bl a (x,y)).1<=1000000/\-1000000<=(Bl a (x,y)).2/\(Bl a (x,y)).2<=1000000:=by
  intro x y h;obtain⟨t,X,Y⟩:=a;simp only at d D E F H;rcases t8 d with rfl|rfl|rfl|rfl|rfl|rfl|rfl|rfl<;>simp only[Bl,mA,mB,mC,mD]<;>omega
 have o:∀(x y:Int),(0<=x/\x<=6/\0<=y/\y<=6)->Cc 84 (AB a++[.i x,.i y]) [.i (Bl a (x,y)).1,.i (Bl a (x,y)).2]:=λx y h=>uo d (by omega) (by omega);have p:∀(x y:Int),(0<=x/\x<=6/\0<=y/\y<=6)->Cc 84 (AB b++[.i (Bl a (x,y)).1,.i (Bl a (x,y)).2]) [.i (Bl (af a b) (x,y)).1,.i (Bl (af a b) (x,y)).2]:=λx y h=>by
  have:=uo (m:=b) (x:=(Bl a (x,y)).1) (y:=(Bl a (x,y)).2) q (by omega) (by have:=I x y h;omega);rw[show Bl b ((Bl a (x,y)).1,(Bl a (x,y)).2)=Bl (af a b) (x,y)from OP d q (x,y)]at this;exact this
 generalize af a b=G at *;have M:Bl G (0,0)=(6*G.2.1,6*G.2.2):=by simp[Bl]
 have N:∀t X Y,Bl (t,X,Y) (6,0)=(mA t*6+6*X,mC t*6+6*Y):=λt X Y=>by simp[Bl]
 have O:∀t X Y,Bl (t,X,Y) (0,6)=(mB t*6+6*X,mD t*6+6*Y):=λt X Y=>by simp[Bl]
 have R:=o 0 0 (by omega);have S:=o 6 0 (by omega);have T:=o 0 6 (by omega);have w:=p 0 0 (by omega);have z:=p 6 0 (by omega);have A:=p 0 6 (by omega);obtain⟨t,X,Y⟩:=G;simp only at P g2 g3 g4 g5 M;rw[M]at w;rw[N t X Y]at z;rw[O t X Y]at A;simp only[AB,AO,AG]at R S T w z A ⊢;clear I o p;generalize Bl a (0,0)=q0 at *;generalize Bl a (6,0)=q1 at *;generalize Bl a (0,6)=q2 at *
 repeat (first|simp(disch:=omega)only[↓po]|refine ah R ?_|refine ah S ?_|refine ah T ?_|refine ah w ?_|refine ah z ?_|refine ah A ?_)
 refine aO (σ:=Unit) 8 (λj _=>[.i (Int.ofNat j)]) (λ_ _=>_) (λj _=>j<=t) (j0:=0) (s0:=()) rfl rfl (AF _) (AF _) ?_;intro j _ ad ag g c;have u:j<8:=by omega
 have B:=uo (m:=(j,X,Y)) (x:=6) (y:=0) u (by show -100000<=X/\X<=100000/\-100000<=Y/\Y<=100000;omega) (by omega);have C:=uo (m:=(j,X,Y)) (x:=0) (y:=6) u (by show -100000<=X/\X<=100000/\-100000<=Y/\Y<=100000;omega) (by omega);rw[N]at B;rw[O]at C;have J:=rF (a:=6*X) (by omega);have K:=rF (a:=6*Y) (by omega);rw[show 6*X / 6=X by omega]at J;rw[show 6*Y / 6=Y by omega]at K;simp only[AB,AO,AG]at B C;have hn:(0:Int)<=Int.ofNat j/\Int.ofNat j<=7:=⟨B8 _,by show(j:Int)<=7;omega⟩;have Q:j≠t->g [.i (Int.ofNat j+1)] []:=λh=>c () (by omega) (by omega);have v:=λh1 h2 h3 h4=>Pb (s:=j) (t:=t) u P h1 h2 h3 h4
 repeat (first|simp(disch:=omega)only[↓po]|refine ah J ?_|refine ah K ?_|refine ah B ?_)
 by_cases f:mA j=mA t/\mC j=mC t
 ·obtain⟨f,L⟩:=f;rw[←f,←L]
  repeat (first|simp(disch:=omega)only[↓po]|refine ah C ?_)
  by_cases l:mB j=mB t/\mD j=mD t
  ·obtain⟨l,e4⟩:=l;obtain rfl:=v f L l e4
   repeat (first|simp(disch:=omega)only[↓po])
  ·rw[Ro,Ch (by omega)]
   repeat (first|simp(disch:=omega)only[↓po])
   exact Q λe=>l (by rw[e];exact⟨rfl,rfl⟩)
 ·rw[Ro,Ch (by omega)]
  repeat (first|simp(disch:=omega)only[↓po])
  exact Q λe=>f (by rw[e];exact⟨rfl,rfl⟩)
def mt{q k:Nat}(h:k<3):eK q (eK q k)=k:=by
 have b:k=0∨k=1∨k=2:=by omega
 have a:q%2=0∨q%2=1:=by omega
 rcases a with a|a<;>rcases b with rfl|rfl|rfl<;>simp[eK,a]
def vV{c:Cl}{e f:Nat}(a:c.2.2<4)(g:e<3)(i:f<3)(h:AP c e=AP c f):e=f:=by
 obtain⟨x,y,q⟩:=c;simp only at a;have b:e=0∨e=1∨e=2:=by omega
 have d:f=0∨f=1∨f=2:=by omega
 rcases BR a with rfl|rfl|rfl|rfl<;>rcases b with rfl|rfl|rfl<;>rcases d with rfl|rfl|rfl
 all_goals first
  |rfl
  |(exfalso;simp[AP]at h;done)
  |(exfalso;simp[AP]at h;omega)
def Po{w v:Nat}(i:Sh w v){c e f n:Nat}(d:c<4*w*v)(g:e<3)(h:f<3)(h1:Aj w v c e=some n)(j:Aj w v c f=some n):e=f:=by
 obtain⟨_,_,_,a,_⟩:=dJ i d g h1;obtain⟨_,_,_,b,_⟩:=dJ i d h j;exact vV (c:=sd w c) (Il _ (by omega)) g h (a.symm.trans b)
def Co(l:Ty)(u e:Nat):Int:=l.foldl (λa c=>if bB c=((Int.ofNat u,Int.ofNat e):Ku)then c.2.2 else a) 0
def vM{l:Ty}{c:B3}{u e:Nat}:Co (l++[c]) u e=if bB c=((Int.ofNat u,Int.ofNat e):Ku)then c.2.2 else Co l u e:=by
 unfold Co;rw[qcM];rfl
def ma{l:Ty}(j:∀c∈l,c.2.2≠0){u e:Nat}:Co l u e≠0↔Bb l u e=true:=by
 have f:∀(l:Ty) (a:Int),(∀c∈l,c.2.2≠0)->(l.foldl (λa c=>if bB c=((Int.ofNat u,Int.ofNat e):Ku)then c.2.2 else a) a≠0↔a≠0∨((Int.ofNat u,Int.ofNat e):Ku)∈l.map bB):=by
  intro l
  induction l with
  |nil=>intro a _;simp
  |cons c l k=>
   intro a h;rw[IL,k _ λd i=>h d (BF _ i),A5,qas];have g:=h c (by simp);by_cases b:bB c=((Int.ofNat u,Int.ofNat e):Ku)
   ·rw[mc b];exact⟨λ_=>.inr (.inl b.symm),λ_=>.inl g⟩
   ·rw[ra b];exact⟨λh=>h.imp id .inr,λh=>h.imp id λh=>h.resolve_left λe=>b e.symm⟩
 unfold Bb Co;rw[BQ,f l 0 j];simp
def CV(w v:Nat)(l:Ty)(c k:Nat):Int:=match Aj w v c (eK (c%4) k)with
 |some n=>Co l (min c n) (eK (c%4) k)
 |none=>0
def Az(w v:Nat)(l:Ty):TA:=(List.range (12*w*v)).map λi=>CV w v l (i / 3) (i%3)
def gC{w v:Nat}{l:Ty}:(Az w v l).length=12*w*v:=by simp[Az]
def kJ{w v:Nat}{l:Ty}{c k:Nat}(a:c<4*w*v)(b:k<3):(Az w v l)[3*c+k]?=some (CV w v l c k):=by
 have:12*w*v=3*(4*w*v):=by rw[show 12*w*v=3*4*w*v by rfl,Na 3 4 w,Na 3 (4*w) v]
 unfold Az;rw[AX,Ih (by omega)];show some (CV w v l ((3*c+k) / 3) ((3*c+k)%3))=_;rw[show(3*c+k) / 3=c by omega,show(3*c+k)%3=k by omega]
def MJ{w v:Nat}:Az w v []=List.replicate (12*w*v) 0:=by
 unfold Az;rw[List.eq_replicate_iff];refine⟨by simp,λx a=>?_⟩;obtain⟨i,_,rfl⟩:=qax.1 a;unfold CV;split<;>rfl
def ML{w v:Nat}(x:Sh w v){l:Ty}{u e n:Nat}{kd:Int}(G:u<4*w*v)(g:e<3)(p:Aj w v u e=some n)(E:u<n) :
  Az w v (l++[(Int.ofNat u,Int.ofNat e,kd)])=((Az w v l).set (3*u+eK (u%4) e) kd).set (3*n+eK (n%4) e) kd:=by
 obtain⟨J,A,_,_,K⟩:=dJ x G g p;have M:=fy (u%4) e;have N:=fy (n%4) e;have H:=mt (q:=u%4) g;have I:=mt (q:=n%4) g;have B:12*w*v=3*(4*w*v):=by rw[show 12*w*v=3*4*w*v by rfl,Na 3 4 w,Na 3 (4*w) v]
 refine Gm λi=>?_;by_cases L:i<12*w*v
 case neg=>rw[Bp (by rw[gC];omega),Bp (by rw[Bo,Bo,gC];omega)]
 obtain⟨c,k,j,o,rfl⟩ : ∃c k,c<4*w*v/\k<3/\i=3*c+k:=⟨i / 3,i%3,by omega,by omega,by omega⟩;rw[kJ j o,Eb,Eb,Bo,gC,kJ j o,mc (show 3*n+eK (n%4) e<12*w*v by omega),mc (show 3*u+eK (u%4) e<12*w*v by omega)];have b:∀a f:Nat,bB (Int.ofNat u,Int.ofNat e,kd)=((Int.ofNat a,Int.ofNat f):Ku)↔u=a/\e=f:=by
  intro a f;unfold bB;rw[PZ];exact⟨λh=>⟨Du h.1,Du h.2⟩,λh=>⟨by rw[h.1],by rw[h.2]⟩⟩
 have d:=mt (q:=c%4) o;have D:=fy (c%4) k;unfold CV;by_cases s:3*n+eK (n%4) e=3*c+k
 ·obtain rfl:c=n:=by omega
  have:eK (c%4) k=e:=by rw[show k=eK (c%4) e by omega,I]
  rw[mc s,this,A];simp only;rw[vM,mc ((b _ _).2 ⟨by omega,rfl⟩)]
 ·rw[ra s];by_cases t:3*u+eK (u%4) e=3*c+k
  ·obtain rfl:c=u:=by omega
   have:eK (c%4) k=e:=by rw[show k=eK (c%4) e by omega,H]
   rw[mc t,this,p];simp only;rw[vM,mc ((b _ _).2 ⟨by omega,rfl⟩)]
  ·rw[ra t];cases y:Aj w v c (eK (c%4) k)with
   |none=>rfl
   |some m=>
    simp only;rw[vM,ra ?_];rw[b];rintro⟨O,z⟩;rw[←z]at y;have d:eK (c%4) e=k:=by rw[z];exact d
    by_cases C:c<=m
    ·have:c=u:=by omega
     subst this;omega
    ·have F:m=u:=by omega
     subst F;obtain⟨_,r,_⟩:=dJ x j g y;rw[p]at r;cases r;omega
def qB{a b:Nat}{K:Ts}(h:a*b<=1000000000):P1.ari .mul .i64 (Int.ofNat a) (Int.ofNat b) (@hid _ ⟨K⟩)=K (Int.ofNat (a*b)):=by
 have e:Int.ofNat a*Int.ofNat b=Int.ofNat (a*b):=rfl;rw[Lu (by rw[e];show(-9223372036854775808:Int)<=((a*b:Nat):Int);omega) (by rw[e];show((a*b:Nat):Int)<=9223372036854775807;omega),e]
def D1{b:Nat}{K:Ts}(h:b<=100000000):P1.ari .mul .i64 3 (Int.ofNat b) (@hid _ ⟨K⟩)=K (Int.ofNat (3*b)):=qB (a:=3) (by omega)
def RB{b:Nat}{K:Ts}(h:b<=100000000):P1.ari .mul .i64 4 (Int.ofNat b) (@hid _ ⟨K⟩)=K (Int.ofNat (4*b)):=qB (a:=4) (by omega)
def UC{b:Nat}{K:Ts}(h:b<=10000000):P1.ari .mul .i64 12 (Int.ofNat b) (@hid _ ⟨K⟩)=K (Int.ofNat (12*b)):=qB (a:=12) (by omega)
def tG{a b:Nat}{K:Ts}(h:a+b<=1000000000):P1.ari .add .i64 (Int.ofNat a) (Int.ofNat b) (@hid _ ⟨K⟩)=K (Int.ofNat (a+b)):=by
 have e:Int.ofNat a+Int.ofNat b=Int.ofNat (a+b):=rfl;rw[Cr (by rw[e];show(-9223372036854775808:Int)<=((a+b:Nat):Int);omega) (by rw[e];show((a+b:Nat):Int)<=9223372036854775807;omega),e]
def CE(k:Int):Tk:=[.int .u8 k]
def jH(k:Int):(CE k).length=1:=rfl
def VC(w v:Nat)(c:B3):Prop:=∃u e n:Nat,c.1=Int.ofNat u/\c.2.1=Int.ofNat e/\u<4*w*v/\e<3/\Aj w v u e=some n/\u<n/\0<=c.2.2/\c.2.2<=255
abbrev Bk(T:TA):HO:=.o (.cells (T.flatMap CE) 1 true)
def S3.n{w v:Nat}(h:S3 w v):4*w<=12/\4*w*v<=36/\12*w*v<=108/\w*v<=9:=by
 obtain⟨c,a,d,b⟩:=h;have:w*v<=3*3:=qd4 a b;rw[Na,Na];omega
def FN{α:Type}{j k:Nat}{a b:α}(h:j≠k):(if j+1<=k then a else b)=if j<=k then a else b:=by
 by_cases c:j+1<=k
 ·rw[mc c,mc (by omega)]
 ·rw[ra c,ra (by omega)]
def pF{w v:Nat}(F:S3 w v){l:Ty}{H:HL}{x:Value}(O:LsH H x 3 Ac l)(hv:∀c∈l,VC w v c)(hn:l.length<=1000) :
  aD cc ab 9 [.i (.ofNat w),.i (.ofNat v),.v x] (ka aa H) [.v (.slice (some ⟨H.length,0,qs 1⟩) (12*w*v) (12*w*v+1))] (ka aa (H++[Bk (Az w v l)])):=by
 have S:=F.sh;obtain⟨b1,b2,b3,b4⟩:=F.n;exact xK x9 (km (km (oo O.good ua))) (by
  unfold f9;simp only[xp];refine jn ?_;rw[UC (by omega)];refine pu ?_;rw[qB (by omega)];refine pu ?_;refine ae (eI (by omega)) ?_;refine jn ?_;rw[show(Int.ofNat (12*w*v)).toNat=12*w*v from rfl];have z0:HO.o (.cells (bk [.int .u8 0] (12*w*v)) 1 true)=Bk (Az w v (l.take 0)):=by
   rw[VW,MJ];unfold Bk;rw[←dd (enc:=CE) (z:=0) (n:=12*w*v)];rfl
  rw[z0];refine aO (σ:=Unit) l.length (λj _=>[.i (Int.ofNat j)]) (λj _=>H++[Bk (Az w v (l.take j))]) (λ_ _=>True) (j0:=0) (s0:=()) rfl rfl (AF _) trivial ?_;intro i _ hi _ L b;refine jn ?_;refine bz O ?_;by_cases C:i<l.length
  case neg=>
   obtain rfl:i=l.length:=by omega
   rw[ao (Ah _)];refine jn ?_;exact⟨by trivial,by rw[IJ]⟩
  rw[au C];refine jn ?_;obtain⟨c,N⟩:=aG C;have P:=O.pre (h':=H++[Bk (Az w v (l.take i))]) ⟨_,rfl⟩;refine aP P rfl N ?_;obtain⟨u,e,n,Z,q2,M,G,y,U,q3,q4⟩:=hv c (Ap N);have s:Az w v (l.take (i+1))=((Az w v (l.take i)).set (3*u+eK (u%4) e) c.2.2).set (3*n+eK (n%4) e) c.2.2:=by
   rw[Ec,N];have:=ML (l:=l.take i) (kd:=c.2.2) S M G y U;rw[←this];show Az w v (l.take i++[c])=_;rw[←Z,←q2]
  obtain⟨W,X,_,_,g5⟩:=dJ S M G y;unfold Ac;refine jn ?_;rw[Z,q2];have an:=fy (u%4) e;have ar:=fy (n%4) e;have B:=mt (q:=u%4) G;have R:=mt (q:=n%4) G;have Y:(Az w v (l.take i)).length=12*w*v:=gC;have b:L [.i (Int.ofNat i+1)] (H++[Bk (Az w v (l.take (i+1)))]):=b () C trivial;generalize Az w v (l.take i)=T at *;generalize Az w v (l.take (i+1))=T' at *;have ad:12*w*v=3*(4*w*v):=by rw[show 12*w*v=3*4*w*v by rfl,Na 3 4 w,Na 3 (4*w) v]
  have eu:Int.ofNat e<=255/\(0:Int)<=Int.ofNat e:=⟨by show(e:Int)<=255;omega,B8 _⟩;refine aO (σ:=Unit) 3 (λj _=>[.i (Int.ofNat j)]) (λj _=>H++[Bk (if j<=eK (u%4) e then T else T')]) (λ_ _=>True) (j0:=0) (s0:=()) rfl (by rw[mc (AF _)]) (AF _) trivial ?_;intro j _ hj _ E f;refine jn ?_;by_cases p:j<3
  case neg=>
   obtain rfl:j=3:=by omega
   rw[tx (show(3:Int)<=Int.ofNat 3 from Gn _)];refine jn ?_;rw[aI (by omega),ra (by omega)];exact b
  rw[us (show Int.ofNat j<3 by show(j:Int)<3;omega)];refine jn ?_;refine ah (uH F M p) ?_;have r:j≠eK (u%4) e->E [.i (Int.ofNat j+1)] (H++[Bk (if j<=eK (u%4) e then T else T')]):=by
   intro D;have:=f () p trivial;rw[FN D]at this;exact this
  cases J:Aj w v u (eK (u%4) j)with
  |none=>
   rw[show Dc w v u j = -1 by unfold Dc;rw[J]];refine jn ?_;rw[aI (by omega)];refine r λe=>?_;rw[e,B,y]at J;cases J
  |some m=>
   rw[show Dc w v u j=Int.ofNat m by unfold Dc;rw[J]];refine jn ?_;rw[tx (show(0:Int)<=Int.ofNat m from B8 m)];refine jn ?_;refine ah (JH F M p) ?_;refine jn ?_;by_cases I:j=eK (u%4) e
   case neg=>
    rw[AQ (λh=>I (by rw[←Du h,mt p]))];refine jn ?_;rw[aI (by omega)];exact r I
   rw[AJ (by rw[I,B])];refine jn ?_;have K:=J;rw[I,B,y]at K;cases K;rw[D1 (by omega)];refine pu ?_;rw[tG (by omega)];refine pu ?_;rw[mc (by omega)];have A:(H++[Bk T])[H.length]?=some (Bk T):=az;refine de (enc:=CE) (l:=T) (i:=3*u+j) (a:=c.2.2) jH A rfl (by omega) Y rfl ?_;unfold td;rw[ed];refine pu ?_;have Q:(T.set (3*u+j) c.2.2).length=12*w*v:=by rw[Bo,Y]
   rw[←I]at s;generalize ag:T.set (3*u+j) c.2.2=T1 at *;refine aO (σ:=Unit) 3 (λj _=>[.i (Int.ofNat j)]) (λj _=>H++[Bk (if j<=eK (n%4) e then T1 else T')]) (λ_ _=>True) (j0:=0) (s0:=()) rfl (by rw[mc (AF _)]) (AF _) trivial ?_;intro k _ ap _ V g;refine jn ?_;by_cases d:k<3
   case neg=>
    obtain rfl:k=3:=by omega
    rw[tx (show(3:Int)<=Int.ofNat 3 from Gn _)];refine jn ?_;rw[aI (by omega),ra (by omega)];have:=f () p trivial;rw[ra (by omega)]at this;exact this
   rw[us (show Int.ofNat k<3 by show(k:Int)<3;omega)];refine jn ?_;refine ah (uH F W d) ?_;by_cases t:k=eK (n%4) e
   ·rw[show Dc w v n k=Int.ofNat u by unfold Dc;rw[t,R,X]];refine jn ?_;rw[D1 (by omega)];refine pu ?_;rw[tG (by omega)];refine pu ?_;rw[mc (by omega)];have A:(H++[Bk T1])[H.length]?=some (Bk T1):=az;refine de (enc:=CE) (l:=T1) (i:=3*n+k) (a:=c.2.2) jH A rfl (by omega) Q rfl ?_;unfold td;rw[ed];refine pu ?_;rw[aI (by omega)];have:=g () d trivial;rw[ra (by omega),s,←t]at this;exact this
   ·have D:Dc w v n k≠Int.ofNat u:=by
     unfold Dc;cases hy:Aj w v n (eK (n%4) k)with
     |none=>exact λh=>by cases h
     |some z=>
      intro h;obtain rfl:=Du h;have:=Po S W (fy _ _) G hy X;exact t (by rw[←this,mt d])
    simp(disch:=omega)only[↓po]
    try rw[Ai D]
    refine pu ?_;rw[aI (by omega)];have:=g () d trivial;rw[FN t]at this;exact this)
def wG{k:Int}{a b r:Mv}(d:a.1<8)(e:b.1<8)(c:AK k r)(h:af a r=af b r):a=b:=by
 have f:(Cn r).1<8:=(Pw c).1;have this:af (af a r) (Cn r)=af (af b r) (Cn r):=by rw[h]
 rw[cv d c.1 f,cv e c.1 f,Ks c.1,ny d,ny e]at this;exact this
structure PS(w v:Nat)(l:Ty)(r:Mv)(O A:TI)(B:Tv)(q:Tx)(D:Nat->Nat->Prop):Prop where
 js:JS w v l A B q D
 la:A.length=4*w*v
 lb:B.length=4*w*v
 lo:O.length=4*w*v
 rel:∀(c:Nat) a,B[c]?=some true->A[c]?=some a->O[c]?=some (af a r)
def Fl(b:Bool)(q:Tx)(B:Tv)(j a:Nat):Prop:=(b=false->(∀c∈q,j<=c)/\Bi B=a)/\(b=true->a<Bi B)
abbrev o3(H:HL)(O:TI)(B:Tv)(T:TA):HL:=H++[.o (.cells (O.flatMap ub) 3 true),.o (.cells (B.flatMap Al) 1 true),Bk T]
def Le{H:HL}{O:TI}{B:Tv}{T:TA}:(o3 H O B T)[H.length]?=some (.o (.cells (O.flatMap ub) 3 true)):=by simp
def o3_1{H:HL}{O:TI}{B:Tv}{T:TA}:(o3 H O B T)[H.length+1]?=some (.o (.cells (B.flatMap Al) 1 true)):=by simp
def o3_2{H:HL}{O:TI}{B:Tv}{T:TA}:(o3 H O B T)[H.length+2]?=some (Bk T):=by simp
def o3_s0{H:HL}{O a:TI}{B:Tv}{T:TA}:td (o3 H O B T) H.length 3 ub a=o3 H a B T:=by simp[td]
def o3_s1{H:HL}{O:TI}{B B':Tv}{T:TA}:td (o3 H O B T) (H.length+1) 1 Al B'=o3 H O B' T:=by
 simp[td,qd0]
def PlR(w v:Nat)(l:Ty)(r:Mv)(H:HL)(a:TB)(h':HL):Prop:=
 (a=[.v jq,.i 0]/\¬ ∃G,nC w v l G/\G 0=AZ)∨∃G T,ConsO w v l G/\a=[.v (.slice (some ⟨H.length,0,qs 3⟩) (4*w*v) (4*w*v+1)),.i 1]/\∃B,h'=o3 H (Bt w v G r) B T
def PS.restart{w v:Nat}{l:Ty}{r:Mv}{O A:TI}{B:Tv}{q:Tx}{D:Nat->Nat->Prop}(h:PS w v l r O A B q D):∃q',PS w v l r O A B q' (λ_ _=>True):=by
 refine⟨(List.range (4*w*v)).filter λc=>B.getD c false,⟨h.js.a0,h.js.b0,λc a=>?_,λc e n _ a _ _ f g=>absurd ?_ g,h.js.bd,h.js.un⟩,h.la,h.lb,h.lo,h.rel⟩
 ·obtain⟨b,d⟩:=qaO.1 a;rw[qad]at b;have:c<B.length:=by rw[h.lb];exact b
  rw[List.getD_eq_getElem?_getD,Be this]at d;rw[Be this];exact congrArg some d
 ·rw[qaO,qad,List.getD_eq_getElem?_getD,f];exact⟨a,rfl⟩
def lF{w v:Nat}(U:S3 w v){l:Ty}{H:HL}{x:Value}(hl:LsH H x 3 Ac l)(hv:∀c∈l,VC w v c)(a7:∀c∈l,c.2.2≠0)(hn:l.length<=1000){r:Mv}(hr:AK 20000 r) :
  ∃rs h',aD cc ab 8 ([.i (.ofNat w),.i (.ofNat v),.v x]++AB r) (ka aa H) rs (ka aa h')/\PlR w v l r H rs h'/\Pre H h':=by
 have Q:=U.sh;obtain⟨b1,b2,b3,b4⟩:=U.n;have hN:=Bw Q;have bn:=x8 (ls:=[.i (.ofNat w),.i (.ofNat v),.v x,.i (Int.ofNat r.1),.i r.2.1,.i r.2.2]) (K:=λrs h'=>PlR w v l r H rs h'/\Pre H h') (H:=H) (km (km (oo hl.good (km (km (km ua)))))) (by
  unfold f8;simp only[xp];refine jn ?_;rw[RB (by omega)];refine pu ?_;rw[qB (by omega)];refine pu ?_;refine ae (eI (by omega)) ?_;refine jn ?_;rw[show(Int.ofNat (4*w*v)).toNat=4*w*v from rfl];have z0:HO.o (.cells (bk [.int .u8 0,.int .i64 0,.int .i64 0] (4*w*v)) 3 true)=HO.o (.cells ((List.replicate (4*w*v) AZ).flatMap ub) 3 true):=by
   rw[←dd (enc:=ub) (z:=AZ) (n:=4*w*v)];rfl
  have z1:HO.o (.cells (bk [.bool false] (4*w*v)) 1 true)=HO.o (.cells ((List.replicate (4*w*v) false).flatMap Al) 1 true):=by
   rw[←dd (enc:=Al) (z:=false) (n:=4*w*v)];rfl
  rw[z0];refine ae (eI (by omega)) ?_;refine jn ?_;rw[z1,tx (show(1:Int)<=Int.ofNat (4*w*v)by show(1:Int)<=((4*w*v:Nat):Int);omega)];refine jn ?_;have V:((List.replicate (4*w*v) AZ)).length=4*w*v:=by simp
  have ar:((List.replicate (4*w*v) false)).length=4*w*v:=by simp
  have e2:((H++[HO.o (.cells ((List.replicate (4*w*v) AZ).flatMap ub) 3 true)])++[HO.o (.cells ((List.replicate (4*w*v) false).flatMap Al) 1 true)])=H++[HO.o (.cells ((List.replicate (4*w*v) AZ).flatMap ub) 3 true),HO.o (.cells ((List.replicate (4*w*v) false).flatMap Al) 1 true)]:=by simp
  have m1:(H++[HO.o (.cells ((List.replicate (4*w*v) AZ).flatMap ub) 3 true)]).length=H.length+1:=by simp
  rw[e2,m1];generalize hA:List.replicate (4*w*v) AZ=A0 at *;generalize hB:List.replicate (4*w*v) false=B0 at *;refine de (enc:=ub) (l:=A0) (i:=0) (a:=r) bR (by simp) rfl (by omega) V rfl ?_;have p0:td (H++[HO.o (.cells (A0.flatMap ub) 3 true),HO.o (.cells (B0.flatMap Al) 1 true)]) H.length 3 ub (A0.set 0 r)=H++[HO.o (.cells ((A0.set 0 r).flatMap ub) 3 true),HO.o (.cells (B0.flatMap Al) 1 true)]:=by simp[td]
  rw[p0];refine pu ?_;refine de (enc:=Al) (l:=B0) (i:=0) (a:=true) eF (by simp) rfl (by omega) ar rfl ?_;have p1:td (H++[HO.o (.cells ((A0.set 0 r).flatMap ub) 3 true),HO.o (.cells (B0.flatMap Al) 1 true)]) (H.length+1) 1 Al (B0.set 0 true)=H++[HO.o (.cells ((A0.set 0 r).flatMap ub) 3 true),HO.o (.cells ((B0.set 0 true).flatMap Al) 1 true)]:=by simp[td,qd0]
  rw[p1];refine pu ?_;have hT:=pF U (hl.pre (h':=H++[HO.o (.cells ((A0.set 0 r).flatMap ub) 3 true),HO.o (.cells ((B0.set 0 true).flatMap Al) 1 true)]) ⟨_,rfl⟩) hv hn;have e3:(H++[HO.o (.cells ((A0.set 0 r).flatMap ub) 3 true),HO.o (.cells ((B0.set 0 true).flatMap Al) 1 true)])++[Bk (Az w v l)]=o3 H (A0.set 0 r) (B0.set 0 true) (Az w v l):=by simp
  have m2:(H++[HO.o (.cells ((A0.set 0 r).flatMap ub) 3 true),HO.o (.cells ((B0.set 0 true).flatMap Al) 1 true)]).length=H.length+2:=by simp
  rw[e3,m2]at hT;refine ai hT ?_;refine jn ?_;have bl:PS w v l r (A0.set 0 r) A0 (B0.set 0 true) [0] λ_ _=>True:=by
   have js:=JS.start (l:=l) Q;rw[hA,hB]at js;refine⟨js,V,by rw[Bo,ar],by rw[Bo,V],λc a M L=>?_⟩;have N:c=0:=by
    by_cases h0:c=0
    ·exact h0
    ·rw[B5 (B9 h0),←hB,IG]at M;split at M<;>cases M
   subst N;rw[C2 (by omega)];rw[js.a0]at L;cases L;rw[jP hr.1]
  generalize A0.set 0 r=O0 at *;generalize B0.set 0 true=B1 at *;clear p0 p1 e2 e3 m1 m2 hT z0 z1 hA hB V ar;refine eU (m:=4*w*v - Bi B1+1) (λm ls h=>∃f O A B q,ls=[.b f]/\h=o3 H O B (Az w v l)/\PS w v l r O A B q (λ_ _=>True)/\((f=true/\m=4*w*v - Bi B+1)∨(f=false/\q=[]))) ⟨true,O0,A0,B1,[0],rfl,rfl,bl,.inl ⟨rfl,rfl⟩⟩ ?_;rintro m ls h ⟨f,O,A,B,q,rfl,rfl,d,hm⟩ bP R;refine HH ?_;refine jn ?_;rcases hm with⟨rfl,rfl⟩|⟨rfl,rfl⟩
  case inr=>
   refine jn ?_;have hA:=d.js.good Q d.la d.lb;have a5:∀n,n<4*w*v->B[n]?=some true:=vX Q d.js.b0 λc e n N he hn M=>(d.js.dn c e n trivial N he hn M (by simp)).1;have hO:O=Bt w v (λc=>A.getD c AZ) r:=by
    refine Gm λi=>?_;by_cases hi:i<4*w*v
    ·rw[iD hi];obtain⟨a,L⟩:=aG (l:=A) (i:=i) (by rw[d.la];exact hi);rw[d.rel i a (a5 i hi) L,List.getD_eq_getElem?_getD,L];rfl
    ·rw[Bp (by rw[d.lo];omega),Bp (by simp[Bt];omega)]
   refine⟨.inr ⟨_,Az w v l,hA.consO Q,rfl,B,by rw[hO]⟩,⟨_,rfl⟩⟩
  refine jn ?_;generalize an:Bi B=cnt0 at *;have a2:∃A q,PS w v l r O A B q (λ_ _=>True)/\Fl false q B 0 cnt0:=⟨A,q,d,⟨λ_=>⟨λ_ _=>AF _,an⟩,λh=>by cases h⟩⟩;refine aO (σ:=List Mv×List Bool×Bool) (4*w*v) (λj s=>[.b s.2.2,.i (Int.ofNat j)]) (λj s=>o3 H s.1 s.2.1 (Az w v l)) (λj s=>∃A q,PS w v l r s.1 A s.2.1 q (λ_ _=>True)/\Fl s.2.2 q s.2.1 j cnt0) (j0:=0) (s0:=(O,B,false)) rfl rfl (AF _) a2 ?_;clear a2 d an;rintro j ⟨O,B,f⟩ hj ⟨A,q,d,y⟩ bx G;simp only at d y ⊢;refine jn ?_;by_cases g:j<4*w*v
  case neg=>
   obtain rfl:j=4*w*v:=by omega
   rw[ao (Ah _)];refine jn ?_;cases f with
   |false=>
    have hq:q=[]:=by
     rw[List.eq_nil_iff_forall_not_mem];intro c N;have h1:=(y.1 rfl).1 c N;have D:=al (d.js.q1 c N);rw[d.lb]at D;omega
    subst hq;exact R 0 _ _ (by omega) ⟨false,O,A,B,[],rfl,rfl,d,.inr ⟨rfl,rfl⟩⟩
   |true=>
    obtain⟨q',be⟩:=d.restart;have h1:=y.2 rfl;have D:=gW B;rw[d.lb]at D;exact R _ _ _ (by omega) ⟨true,O,A,B,q',rfl,rfl,be,.inl ⟨rfl,rfl⟩⟩
  rw[au g];refine jn ?_;obtain⟨t,I⟩:=aG (l:=B) (i:=j) (by rw[d.lb];exact g);have T:∀(O:TI) (B:Tv),B.length=4*w*v->LsH (o3 H O B (Az w v l)) (.slice (some ⟨H.length+1,0,qs 1⟩) (4*w*v) (4*w*v+1)) 1 Al B:=λO B M=>bW eF o3_1 M.symm;have ay:∀(O:TI) (B:Tv),O.length=4*w*v->LsH (o3 H O B (Az w v l)) (.slice (some ⟨H.length,0,qs 3⟩) (4*w*v) (4*w*v+1)) 3 ub O:=λO B M=>bW bR Le M.symm;have bs:∀(O:TI) (B:Tv),LsH (o3 H O B (Az w v l)) (.slice (some ⟨H.length+2,0,qs 1⟩) (12*w*v) (12*w*v+1)) 1 CE (Az w v l):=λO B=>bW jH o3_2 gC.symm;cases t with
  |false=>
   refine gG 2 ?_;refine jn ?_;refine aP (T O B d.lb) rfl I ?_;unfold Al;refine jn ?_;rw[aI (by omega)];refine G (O,B,f) g ⟨A,q,d,⟨λh=>⟨λc N=>?_,(y.1 h).2⟩,y.2⟩⟩;have h1:=(y.1 h).1 c N;have D:=d.js.q1 c N;have:c≠j:=λe=>by rw[e,I]at D;cases D
   omega
  |true=>
  have a3:∃A q,PS w v l r O A B q (λc e=>c=j->∃F,F<0/\eK (j%4) F=e)/\Fl f q B (j+1) cnt0/\B[j]?=some true:=by
   refine⟨A,q.filter λc=>!Nat.beq c j,⟨(d.js.begin (c0:=j)).monoP λe h=>?_,d.la,d.lb,d.lo,d.rel⟩,⟨λh=>⟨λc N=>?_,(y.1 h).2⟩,y.2⟩,I⟩
   ·obtain⟨F,h,_⟩:=h;omega
   ·obtain⟨h1,D⟩:=qaO.1 N;have U:=(y.1 h).1 c h1;have:c≠j:=λe=>by subst e;simp at D
    omega
  refine aO (σ:=List Mv×List Bool×Bool) 3 (λk s=>[.b s.2.2,.i (Int.ofNat k)]) (λk s=>o3 H s.1 s.2.1 (Az w v l)) (λk s=>∃A q,PS w v l r s.1 A s.2.1 q (λc e=>c=j->∃F,F<k/\eK (j%4) F=e)/\Fl s.2.2 q s.2.1 (j+1) cnt0/\s.2.1[j]?=some true) (j0:=0) (s0:=(O,B,f)) rfl rfl (AF _) a3 ?_;clear a3 I d y;rintro k ⟨O,B,f⟩ hk ⟨A,q,d,y,I⟩ bI u;simp only at d y I ⊢;refine jn ?_;by_cases J:k<3
  case neg=>
   obtain rfl:k=3:=by omega
   rw[tx (show(3:Int)<=Int.ofNat 3 from Gn _)];refine jn ?_;rw[aI (by omega)];exact G (O,B,f) g ⟨A,q,⟨d.js.doneP λe he=>by obtain⟨k,h1,D⟩:=JF (q:=j%4) e he;exact⟨k,h1,D⟩,d.la,d.lb,d.lo,d.rel⟩,y⟩
  rw[us (show Int.ofNat k<3 by show(k:Int)<3;omega)];refine jn ?_;refine aP (T O B d.lb) rfl I ?_;unfold Al;refine jn ?_;refine ah (uH U g J) ?_;have C:=fy (j%4) k;have E:∀(P:Nat->Prop),(∀e,P e↔(∃F,F<k/\eK (j%4) F=e)∨e=eK (j%4) k)->∀e,(∃F,F<k+1/\eK (j%4) F=e)->P e:=by
   rintro P d e ⟨F,h1,D⟩;refine(d e).2 ?_;by_cases C:F=k
   ·subst C;exact .inr D.symm
   ·exact .inl ⟨F,by omega,D⟩
  cases S:Aj w v j (eK (j%4) k)with
  |none=>
   rw[show Dc w v j k = -1 by unfold Dc;rw[S]];refine jn ?_;rw[aI (by omega)];exact u (O,B,f) J ⟨A,q,⟨(d.js.skipP S).monoP (E _ λ_=>Iff.rfl),d.la,d.lb,d.lo,d.rel⟩,y,I⟩
  |some n=>
  rw[show Dc w v j k=Int.ofNat n by unfold Dc;rw[S]];obtain⟨g1,g2,g3,g4,g5⟩:=dJ Q g C S;refine jn ?_;rw[tx (show(0:Int)<=Int.ofNat n from B8 n)];refine jn ?_;obtain⟨a,L⟩:=aG (l:=A) (i:=j) (by rw[d.la];exact g);have a4:=d.rel j a I L;have aE:AK 2000 a:=aN (d.js.bd j a I L) (by have:=gW B;rw[d.lb]at this;omega);refine aP (ay O B d.lo) rfl a4 ?_;unfold ub;refine jn ?_;rw[D1 (by omega)];refine pu ?_;rw[tG (by omega)];refine pu ?_;refine aP (bs O B) rfl (kJ g J) ?_;unfold CE;refine jn ?_;have a1:CV w v l j k=Co l (min j n) (eK (j%4) k):=by unfold CV;rw[S]
  have a9:AK 30000 (af a r):=aN (dp aE hr) (by omega);have a8:AK 3000 (B4 w l a j n (eK (j%4) k)):=aN (wM Q g C S aE (by omega)) (by omega);obtain⟨W,hW⟩ : ∃W,W=af (B4 w l a j n (eK (j%4) k)) r:=⟨_,rfl⟩;obtain⟨tn,p⟩:=aG (l:=B) (i:=n) (by rw[d.lb];exact g1);obtain⟨b,X⟩:=aG (l:=A) (i:=n) (by rw[d.la];exact g1);by_cases ad:CV w v l j k=0
  case' pos=>
   have ax:Bb l (min j n) (eK (j%4) k)=false:=by
    rw[←CO,←ma a7,←a1];exact λh=>h ad
   have e1:af a r=W:=by rw[hW];unfold B4;rw[ra (by rw[ax];simp)]
   rw[AJ ad,e1];simp(disch:=omega)only[↓po]
  case' neg=>
   have ax:Bb l (min j n) (eK (j%4) k)=true:=by
    rw[←ma a7,←a1];exact ad
   have e1:af (Bm (uc (sd w j) (eK (j%4) k))) (af a r)=W:=by
    rw[hW];unfold B4;rw[mc ax,(sA Q g C S).2,cv (uM _) aE.1 hr.1]
   have ap:=FZ Q g C;have c1:=iK U g;have c2:=iK U g1;have c3:=Pf U g J S;have c4:=yA (aN (xL (n:=10) ⟨ap.2.2.1,ap.2.2.2⟩) (by omega)) a9;rw[e1]at c4;simp only[AB,As,AO,AG]at c1 c2 c3 c4;rw[AQ ad];refine jn ?_;refine ah c1 ?_;refine jn ?_;refine ah c2 ?_;refine jn ?_;refine ah c3 ?_;refine jn ?_;refine aP (ay O B d.lo) rfl a4 ?_;unfold ub;refine jn ?_;refine ah c4 ?_;simp(disch:=omega)only[↓po]
  all_goals
   refine aP (T O B d.lb) rfl p ?_;unfold Al;cases tn with
   |true=>
    simp(disch:=omega)only[↓po,BS,CI];refine aP (ay O B d.lo) rfl (d.rel n b p X) ?_;unfold ub;simp(disch:=omega)only[↓po,BS,CI];rw[TR];have bt:AK 2000 b:=aN (d.js.bd n b p X) (by have:=gW B;rw[d.lb]at this;omega);by_cases Z:af b r=W
    ·have M:b=B4 w l a j n (eK (j%4) k):=wG bt.1 a8.1 hr (Z.trans hW);rw[BJ Z];simp(disch:=omega)only[↓po,BS,CI];refine aP (T O B d.lb) rfl p ?_;unfold Al;simp(disch:=omega)only[↓po,BS,CI];rw[aI (by omega)];exact u (O,B,f) J ⟨A,q,⟨(d.js.seenP S p L (by rw[←M];exact X)).monoP (E _ λ_=>Iff.rfl),d.la,d.lb,d.lo,d.rel⟩,y,I⟩
    ·rw[Ch Z];simp(disch:=omega)only[↓po,BS,CI];refine⟨.inl ⟨by trivial,?_⟩,⟨_,rfl⟩⟩;exact d.js.tear Q g C S I p L X λh=>Z (by rw[h,hW])
   |false=>
    simp(disch:=omega)only[↓po,BS,CI];refine aP (T O B d.lb) rfl p ?_;unfold Al;simp(disch:=omega)only[↓po,BS,CI];refine de (enc:=ub) (l:=O) (i:=n) (a:=W) bR Le rfl (by rw[d.lo];exact g1) d.lo rfl ?_;rw[o3_s0]
    try simp(disch:=omega)only[↓po,BS,CI]
    refine de (enc:=Al) (l:=B) (i:=n) (a:=true) eF o3_1 rfl (by rw[d.lb];exact g1) d.lb rfl ?_;rw[o3_s1]
    try simp(disch:=omega)only[↓po,BS,CI]
    rw[aI (by omega)];have bm:=gf p;refine u (O.set n W,B.set n true,true) J ⟨A.set n (B4 w l a j n (eK (j%4) k)),q++[n],⟨(d.js.freshP Q d.la d.lb g C S I p L).monoP (E _ λ_=>Iff.rfl),by rw[Bo,d.la],by rw[Bo,d.lb],by rw[Bo,d.lo],λc a' a6 Y=>?_⟩,⟨λh=>(by cases h),λ_=>?_⟩,?_⟩
    ·by_cases ag:n=c
     ·subst ag;rw[C2 (by rw[d.la];exact g1)]at Y;rw[C2 (by rw[d.lo];exact g1)];cases Y;rw[hW]
     ·rw[B5 ag]at a6 Y ⊢;exact d.rel c a' a6 Y
    ·show cnt0<Bi (B.set n true);rw[bm];cases f with
     |false=>have:=(y.1 rfl).2;omega
     |true=>have:=y.2 rfl;omega
    ·show(B.set n true)[j]?=some true;rw[B5 g5];exact I)
 obtain⟨rs,h',D,U,h4⟩:=bn;exact⟨rs,h',D,U,h4⟩
abbrev DJ:=Cl×Value
def AA(s:DJ):Tk:=bu s.1++[s.2]
def mX(s:DJ):(AA s).length=4:=rfl
def StL(h:HL)(x:Value)(L:List (Cl×List Nat)):Prop:=∃M:List DJ,LsH h x 4 AA M/\M.length=L.length/\∀(i:Nat) m,M[i]?=some m->∃l,L[i]?=some (m.1,l)/\LsH h m.2 1 kl l
def StL.pre{h h':HL}{x:Value}{L:List (Cl×List Nat)}(j:StL h x L)(a:Pre h h'):StL h' x L:=by
 obtain⟨M,b,c,d⟩:=j;refine⟨M,b.pre a,c,λi m g=>?_⟩;obtain⟨l,e,f⟩:=d i m g;exact⟨l,e,f.pre a⟩
def mz(w v:Nat):List (Cl×List Nat):=(List.range (4*w*v)).map λi=>(sd w i,[i])
def HA{w v i:Nat}(h:i<4*w*v):(mz w v)[i]?=some (sd w i,[i]):=by
 unfold mz;rw[AX,Ih h];rfl
def MI(w v c k:Nat):Bool:=match Aj w v c (eK (c%4) k)with
 |some n=>jA 60 [.i (.ofNat w),.i (.ofNat v),.i (.ofNat c),.i (.ofNat n)] [.i (.ofNat (eK (c%4) k))]
 |none=>true
def allE:∀w v:Nat,1<=w->w<=3->1<=v->v<=3->((List.range (4*w*v)).all λc=>(List.range 3).all λk=>MI w v c k)=true:=by
 have a:((List.range 3).all λw=>(List.range 3).all λv=>(List.range (4*(w+1)*(v+1))).all λc=>(List.range 3).all λk=>MI (w+1) (v+1) c k)=true:=by kernel_rfl
 intro w v e f g h;have d:=qac.1 a (w - 1) (qad.2 (by omega));have b:=qac.1 d (v - 1) (qad.2 (by omega));rw[show w - 1+1=w by omega,show v - 1+1=v by omega]at b;exact b
def JI{w v c k n:Nat}(h:S3 w v)(a:c<4*w*v)(b:k<3)(d:Aj w v c (eK (c%4) k)=some n):Cc 60 [.i (.ofNat w),.i (.ofNat v),.i (.ofNat c),.i (.ofNat n)] [.i (.ofNat (eK (c%4) k))]:=by
 have:=qac.1 (qac.1 (allE w v h.1 h.2.1 h.2.2.1 h.2.2.2) c (qad.2 a)) k (qad.2 b);unfold MI at this;rw[d]at this;exact ez this rfl (by kernel_rfl) rfl
def FH(a b:B3):Bool:=decide (b.1<a.1)||(decide (a.1=b.1)&&decide (b.2.1<a.2.1))
def CC(l:Ty):Prop:=l.Pairwise λa b=>FH a b=false
def ze{a b:B3}:FH a b=false↔a.1<b.1∨(a.1=b.1/\a.2.1<=b.2.1):=by
 unfold FH;rw[qb5,Bool.and_eq_false_iff];simp only[decide_eq_false_iff_not];omega
def gtC_t{a b:B3}:FH a b=true↔b.1<a.1∨(a.1=b.1/\b.2.1<a.2.1):=by
 unfold FH;rw[Cz,wa];simp only[BQ]
def Qb{A B:Ty}{x:B3}(h:CC (A++B))(h1:∀a∈A,FH a x=false)(e:∀b∈B,FH b x=true):CC (A++x :: B):=by
 unfold CC at *;rw[U8]at h ⊢;refine⟨h.1,qba.2 ⟨λb c=>?_,h.2.1⟩,λa d b c=>?_⟩
 ·have:=gtC_t.1 (e b c);exact ze.2 (by omega)
 ·rcases qas.1 c with rfl|c
  ·exact h1 a d
  ·exact h.2.2 a d b c
def eo{α:Type}{h:HL}{id e:Nat}{enc:α->Tk}{l l':List α}:td (td h id e enc l) id e enc l'=td h id e enc l':=by
 unfold td;rw[qd1]
def H6{H:HL}{id cx:Nat}{l:Ty}(hid:H[id]?=some (.o (.cells (l.flatMap Ac) 3 true)))(hn:l.length<=1000) :
  ∃l',aD cc ab 61 [.v (.slice (some ⟨id,0,qs 3⟩) l.length cx)] (ka aa H) [.v (.slice (some ⟨id,0,qs 3⟩) l.length cx)] (ka aa (td H id 3 Ac l'))/\l'.Perm l/\CC l':=by
 have w:=al hid;have s:∀c:B3,(Ac c).length=3:=λ_=>rfl;have N:∀L:List B3,L.length=l.length->LsH (td H id 3 Ac L) (.slice (some ⟨id,0,qs 3⟩) l.length cx) 3 Ac L:=λL h=>bW s (bL w) h.symm;have W:=x61 (ls:=[.v (.slice (some ⟨id,0,qs 3⟩) l.length cx)]) (K:=λrs Y=>rs=[.v (.slice (some ⟨id,0,qs 3⟩) l.length cx)]/\∃l',Y=td H id 3 Ac l'/\l'.Perm l/\CC l') (H:=H) (oo (bW s hid rfl).good ua) (by
  unfold Y1;simp only[xp];refine jn ?_;have U:td H id 3 Ac l=H:=bq hid;refine aO (σ:=List B3) (max 1 l.length) (λj _=>[.i (Int.ofNat j)]) (λ_ L=>td H id 3 Ac L) (λj L=>L.Perm l/\1<=j/\CC (L.take j)) (j0:=1) (s0:=l) rfl U.symm (by omega) ⟨M9 _,Ah _,?_⟩ ?_
  ·cases l with
   |nil=>exact .nil
   |cons a l=>exact qba.2 ⟨λ_ h=>(by cases h),.nil⟩
  intro i L hi ⟨p,hi1,k⟩ self hself;have D:L.length=l.length:=p.length_eq;refine jn ?_;refine bz (N L D) ?_;rw[D];by_cases T:i<l.length
  case neg=>
   rw[ao (by omega)];refine jn ?_;rw[CJ (by omega)]at k;exact⟨by trivial,L,rfl,p,k⟩
  rw[au T];refine jn ?_;obtain⟨X,G⟩:=aG (l:=L) (i:=i) (by omega);have n:L=L.take i++X :: []++L.drop (i+1):=by
   conv=>lhs;rw[←LW i L]
   rw[M8 (by omega)];have:L[i]'(by omega)=X:=by rw[Be (by omega)]at G;exact AR G
   rw[this];simp
  refine eU (m:=i) (λm ls h=>∃(A:Ty) (x:B3) (B R:Ty),ls=[.i (Int.ofNat A.length)]/\m=A.length/\h=td H id 3 Ac (A++x :: B++R)/\(A++x :: B++R).Perm l/\CC (A++B)/\(∀b∈B,FH b x=true)/\A.length+B.length=i)
   ⟨L.take i,X,[],L.drop (i+1),by rw[BX,CL (by omega)],by rw[BX,CL (by omega)],by rw[←n],by rw[←n];exact p,by simpa using k,λb M=>(by cases M),by rw[BX,CL (by omega)];rfl⟩ ?_
  clear n G k p D;rintro m ls h ⟨A,x,B,R,rfl,rfl,rfl,p,k,Z,P⟩ I t;refine HH ?_;refine jn ?_;have D:(A++x :: B++R).length=l.length:=p.length_eq;have q:(∀a∈A,FH a x=false)->self [.i (Int.ofNat i+1)] (td H id 3 Ac (A++x :: B++R)):=λh=>hself _ (by omega) ⟨p,by omega,by
   rw[qcH (by simp;omega),CJ (by simp;omega)];exact Qb k h Z⟩
  rcases List.eq_nil_or_concat A with rfl|⟨d,y,rfl⟩
  ·rw[Ag (show Int.ofNat ([]:Ty).length<=0 from Gn _)];refine jn ?_;rw[aI (by omega)];exact q λa E=>(by cases E)
  rw[List.concat_eq_append]at *;have hk:(d++[y]).length=d.length+1:=by simp
  rw[hk]at P t ⊢;have u:FH y x=false->∀a∈d++[y],FH a x=false:=by
   intro h a E;rcases qar.1 E with E|E
   ·have J:FH a y=false:=by
     unfold CC at k;rw[A6,U8]at k;exact k.2.2 a E y (by simp)
    have J:=ze.1 J;have h:=ze.1 h;exact ze.2 (by omega)
   ·rw[qav.1 E];exact h
  have C:(d++[y]++x :: B++R)[d.length]?=some y:=by simp
  have z:(d++[y]++x :: B++R)[d.length+1]?=some x:=by
   rw[A6,Cv (by simp)];simp
  have g:=N _ D;have hg:=bL (l:=d++[y]++x :: B++R) (e:=3) (enc:=Ac) w;rw[Au (show(0:Int)<Int.ofNat (d.length+1)by show(0:Int)<((d.length+1:Nat):Int);omega)];have f:d.length+1<=4294967296:=by omega
  refine jn ?_;rw[jp (by omega) f];refine pu ?_;refine bN (cs:=[.int .i64 y.1]) g rfl C rfl (by omega) ?_;refine jn ?_;refine bN (cs:=[.int .i64 x.1]) g rfl z rfl (by omega) ?_;refine jn ?_;have F:FH y x=true->I [.i (Int.ofNat d.length)] (td H id 3 Ac (d++x :: (y :: B)++R)):=λh=>t d.length _ _ (by omega) ⟨d,x,y :: B,R,rfl,rfl,rfl,by
   refine List.Perm.trans ?_ p;simp only[A6,AO,AG];exact qcq _ (List.Perm.swap _ _ _),by rw[A6]at k;exact k,λb M=>by
   rcases qas.1 M with rfl|M
   ·exact h
   ·exact Z b M,by simp;omega⟩
  have V:((d++[y]++x :: B++R).set d.length x).set (d.length+1) y=d++x :: (y :: B)++R:=by
   simp only[A6,AO,AG];rw[RY _ _ (Ah _),RY _ _ (by omega),Ic,show d.length+1 - d.length=1 by omega];rfl
  have S:((d++[y]++x :: B++R).set d.length x).length=l.length:=by rw[Bo,D]
  have ad:=al z;have Q:(td (td H id 3 Ac (d++[y]++x :: B++R)) id 3 Ac ((d++[y]++x :: B++R).set d.length x))[id]?=some (.o (.cells (((d++[y]++x :: B++R).set d.length x).flatMap Ac) 3 true)):=by
   rw[eo];exact bL w
  by_cases r:FH y x=true
  case neg=>
   have r:=qcx.2 r;rcases ze.1 r with J|⟨J,O⟩
   ·rw[Ag (by omega)];refine jn ?_;rw[jp (by omega) f];refine pu ?_;refine bN (cs:=[.int .i64 y.1]) g rfl C rfl (by omega) ?_;refine jn ?_;refine bN (cs:=[.int .i64 x.1]) g rfl z rfl (by omega) ?_;simp(disch:=omega)only[↓po]
    try rw[Ai (by omega)]
    refine pu ?_;rw[aI (by omega)];exact q (u r)
   ·rw[Ag (by omega)];refine jn ?_;rw[jp (by omega) f];refine pu ?_;refine bN (cs:=[.int .i64 y.1]) g rfl C rfl (by omega) ?_;refine jn ?_;refine bN (cs:=[.int .i64 x.1]) g rfl z rfl (by omega) ?_;simp(disch:=omega)only[↓po]
    try rw[Aq (by omega)]
    refine pu ?_;rw[jp (by omega) f];refine pu ?_;refine bN (cs:=[.int .u8 y.2.1]) g rfl C rfl (by omega) ?_;refine jn ?_;refine bN (cs:=[.int .u8 x.2.1]) g rfl z rfl (by omega) ?_;simp(disch:=omega)only[↓po]
    try rw[Ag (by omega)]
    refine pu ?_;rw[aI (by omega)];exact q (u r)
  rcases gtC_t.1 r with J|⟨J,O⟩
  case' inl=>
   rw[Au (by omega)];simp(disch:=omega)only[↓po]
  case' inr=>
   rw[Ag (by omega)];refine jn ?_;rw[jp (by omega) f];refine pu ?_;refine bN (cs:=[.int .i64 y.1]) g rfl C rfl (by omega) ?_;refine jn ?_;refine bN (cs:=[.int .i64 x.1]) g rfl z rfl (by omega) ?_;simp(disch:=omega)only[↓po]
   try rw[Aq (by omega)]
   refine pu ?_;rw[jp (by omega) f];refine pu ?_;refine bN (cs:=[.int .u8 y.2.1]) g rfl C rfl (by omega) ?_;refine jn ?_;refine bN (cs:=[.int .u8 x.2.1]) g rfl z rfl (by omega) ?_;simp(disch:=omega)only[↓po]
   try rw[Au (by omega)]
   try simp(disch:=omega)only[↓po]
  all_goals
   rw[jp (by omega) f];refine pu ?_;refine aP g rfl z ?_;rw[show Ac x=[.int .i64 x.1,.int .u8 x.2.1,.int .u8 x.2.2]from rfl];refine jn ?_;rw[jp (by omega) f];refine pu ?_;refine aP g rfl C ?_;rw[show Ac y=[.int .i64 y.1,.int .u8 y.2.1,.int .u8 y.2.2]from rfl];refine jn ?_;refine de (enc:=Ac) (i:=d.length) (a:=x) s hg rfl (by omega) D rfl ?_;refine pu ?_;refine de (enc:=Ac) (i:=d.length+1) (a:=y) s Q rfl (by omega) S rfl ?_;rw[eo,eo,V];refine pu ?_;rw[jp (by omega) f];rw[qc2];exact F r)
 obtain⟨rs,Y,O,rfl,l',rfl,h3,h4⟩:=W;exact⟨l',O,h3,h4⟩
abbrev Qx:=Int×Int×Int
def pP(p:Qx):Tk:=[.int .u8 p.1,.int .u8 p.2.1,.int .u8 p.2.2]
def tX(p:Qx):(pP p).length=3:=rfl
def EV(p:Qx):Prop:=0<=p.1/\p.1<=255/\0<=p.2.1/\p.2.1<=255/\0<=p.2.2/\p.2.2<=255
def qM{h:HL}{v:Value}{l:List Qx}{i o:Nat}{a:Qx}{n:Int}{cs:Tk}{K:Te}(s:LsH h v 3 pP l)(r:n=Int.ofNat i)(k:l[i]?=some a)(u:o<3)(b:cs=((pP a).drop o).take 1)(m:K cs) :
  P1.opt (Ax 3 v n) (@hid _ ⟨λx=>P1.opt (OT 3 1 x (Int.ofNat o)) (@hid _ ⟨λy=>P1.chk y (@hid _ ⟨P1.peek (.lg cc 1 y) h (@hid _ ⟨K⟩)⟩)⟩)⟩):=by
 subst r b;obtain⟨p,g,d⟩:=s.at k;obtain⟨q,j,f⟩:=d.fd o 1 (by rw[tX];omega);refine ae g (ae (x:=q) ?_ (ac f.good (fG (f.lg ?_) m)))
 ·obtain⟨id,w,z,e,t,rfl,_,_⟩:=d;have c:o=0∨o=1∨o=2:=by omega
  rcases c with rfl|rfl|rfl<;>· rw[←j];rfl
 ·rw[BX,M6,tX];omega
def VK(w v:Nat)(c:B3):Prop:=VC w v c/\1<=c.2.2/\c.2.2<=3
def qP{w v:Nat}(k:Sh w v){l:Ty}{G m:TC}(h:ConsO w v l G)(d:ConsO w v l m){c:Nat}(b:c<4*w*v):G c=m c:=by
 have r:=Bw k;have hA:GoodA w v l ((List.range (4*w*v)).map G):=by
  have j:∀c,c<4*w*v->((List.range (4*w*v)).map G)[c]?=some (G c):=λc b=>by rw[AX,Ih b];rfl
  refine⟨by simp,by rw[j 0 (by omega),h.z],λa f=>?_,λc e n a b o p f=>?_⟩
  ·obtain⟨i,q,rfl⟩:=qax.1 f;exact h.ok i (qad.1 q)
  ·rw[j c b]at f;cases f;rw[j n (dJ k b o p).1,h.g c e n b o p]
 have:=hA.eq k d.g d.z c b;rw[AX,Ih b]at this;exact AR this
def NT{w v:Nat}{l:Ty}(m:∀c∈l,VK w v c)(d:l.Pairwise λa b=>Do a b=true):CS (Int.ofNat w) (Int.ofNat v) l=0:=by
 have s:l.all HJ=true:=qac.2 λc h=>by
  have:=(m c h).2;unfold HJ;rw[wa];exact⟨BJ this.1,BJ this.2⟩
 have t:l.all (Nc (Int.ofNat w) (Int.ofNat v))=true:=qac.2 λc h=>by
  obtain⟨u,e,n,y,z,B,A,r,d,_⟩:=(m c h).1;unfold Nc CG;rw[y,z];have o:(0:Int)<=Int.ofNat u:=B8 u;have p:Int.ofNat u<4*Int.ofNat w*Int.ofNat v:=show(u:Int)<((4*w*v:Nat):Int)by omega
  have q:Int.ofNat e<=2:=by show(e:Int)<=2;omega
  rw[BJ o,BJ p,BJ q];show(match Aj w v u e with
   |some n=>Nat.blt u n
   |none=>false)=true
  rw[r];simpa[BW]using d
 have x:Ce l=true:=iJ.2 λi a b f g=>by
  rw[qbz]at d;have j:=al f;have k:=al g;rw[Be j]at f;rw[Be k]at g;cases f;cases g;exact d i (i+1) j k (by omega)
 unfold CS;rw[s,t,x];rfl
def Mg{w v:Nat}(h:S3 w v):DB (Int.ofNat w) (Int.ofNat v):=by
 obtain⟨a,b,c,d⟩:=h;refine⟨?_,?_,?_,?_⟩
 ·show(1:Int)<=(w:Int);omega
 ·show(w:Int)<=5;omega
 ·show(1:Int)<=(v:Int);omega
 ·show(v:Int)<=5;omega
end Go.Am
namespace Go.Am
namespace Sx
open Go.ChangeShapes Go.WideShapes Go.ChangeAt Go.WideMaps Go.WideElems Go.RowKit
def FitC:TE->Tk->Prop
 | [],[]=>True
 | .i k :: ks,v :: vs=>(∃n,v = .int k n/\(Lit.int k n).wf=true)/\FitC ks vs
 | .b :: ks,v :: vs=>(∃t,v = .bool t)/\FitC ks vs
 |_,_=>False
def FitL:TE->TB->Prop
 | [],[]=>True
 | .i k :: ks,.i n :: ls=>(Lit.int k n).wf=true/\FitL ks ls
 | .b :: ks,.b _ :: ls=>FitL ks ls
 |_,_=>False
def FitC.len:∀ {ks:TE} {vs:Tk},FitC ks vs->vs.length=ks.length
 | [],[],_=>rfl
 | .i k :: ks,v :: vs,h=>by simp[FitC.len h.2]
 | .b :: ks,v :: vs,h=>by simp[FitC.len h.2]
 | .v :: _,_,h=>by cases h
 | [],_ :: _,h=>by cases h
 | .i _ :: _,[],h=>by cases h
 | .b :: _,[],h=>by cases h
def FitC.app:∀ {ks a:TE} {vs c:Tk},FitC ks vs->FitC a c->FitC (ks++a) (vs++c)
 | [],_,[],_,_,h=>h
 | .i k :: ks,_,v :: vs,_,h,h'=>⟨h.1,FitC.app h.2 h'⟩
 | .b :: ks,_,v :: vs,_,h,h'=>⟨h.1,FitC.app h.2 h'⟩
 | .v :: _,_,_,_,h,_=>by cases h
 | [],_,_ :: _,_,h,_=>by cases h
 | .i _ :: _,_,[],_,h,_=>by cases h
 | .b :: _,_,[],_,h,_=>by cases h
def FitL.app:∀ {ks a:TE} {vs c:TB},FitL ks vs->FitL a c->FitL (ks++a) (vs++c)
 | [],_,[],_,_,h=>h
 | .i k :: ks,_,.i v :: vs,_,h,h'=>⟨h.1,FitL.app h.2 h'⟩
 | .b :: ks,_,.b v :: vs,_,h,h'=>FitL.app (ks:=ks) h h'
 | .v :: _,_,_,_,h,_=>by cases h
 | [],_,_ :: _,_,h,_=>by cases h
 | .i _ :: _,_,[],_,h,_=>by cases h
 | .b :: _,_,[],_,h,_=>by cases h
 | .i _ :: _,_,.b _ :: _,_,h,_=>by cases h
 | .i _ :: _,_,.v _ :: _,_,h,_=>by cases h
 | .b :: _,_,.i _ :: _,_,h,_=>by cases h
 | .b :: _,_,.v _ :: _,_,h,_=>by cases h
def FitC.sl:∀ {ks:TE} {vs:Tk},FitC ks vs->∃xs:List SL,xs.map SL.val=vs/\aZ xs ks=true/\(∀x∈xs,x.good)/\FitL ks (xs.map SL.lf)
 | [],[],_=>⟨[],rfl,rfl,λ_ h=>(by cases h),trivial⟩
 | .i k :: ks,v :: vs,h=>by
  obtain⟨⟨n,rfl,g⟩,f⟩:=h;obtain⟨xs,a,b,c,d⟩:=FitC.sl f;exact⟨.i k n :: xs,by simp[a,SL.val],by simp[aZ,b,SL.is,dU],λx e=>by
   rcases qas.1 e with rfl|e
   ·trivial
   ·exact c x e,g,d⟩
 | .b :: ks,v :: vs,h=>by
  obtain⟨⟨n,rfl⟩,f⟩:=h;obtain⟨xs,a,b,c,d⟩:=FitC.sl f;exact⟨.b n :: xs,by simp[a,SL.val],by simp[aZ,b,SL.is],λx e=>by
   rcases qas.1 e with rfl|e
   ·trivial
   ·exact c x e,d⟩
 | .v :: _,_,h=>by cases h
 | [],_ :: _,h=>by cases h
 | .i _ :: _,[],h=>by cases h
 | .b :: _,[],h=>by cases h
def DS(F:TJ->Option (TE)):List Field->Nat->Option (TE)
 | [],_=>some []
 |f :: a,off=>match Nat.beq f.offset off,F f.type with
  |true,some ks=>(DS F a (off+ks.length)).map (ks ++ ·)
  |_,_=>none
def vG(P:TD):Nat->TJ->Option (TE)
 |0,_=>none
 |d+1,t=>match P.underlying t with
  |some (.int k)=>some [.i k]
  |some .bool=>some [.b]
  |some (.struct a)=>match DS (vG P d) a.toList 0 with
   |some ks=>match Nat.beq ks.length (P.cellsOf t)with
    |true=>some ks
    |false=>none
   |none=>none
  |some (.array n e)=>match vG P d e with
   |some ks=>match Nat.beq (P.cellsOf e) ks.length&&Nat.beq (P.cellsOf t) (n*ks.length)with
    |true=>some (List.replicate n ks).flatten
    |false=>none
   |none=>none
  |_=>none
section
variable {H:Type} {enc:TypeId×Value->H} {P:TD}
def kL{α:Type}(l:List α)(c:Nat):l.take (l.take c).length=l.take c:=by
 rw[BX];rcases V0 c l.length with h|h
 ·rw[CL h]
 ·rw[R3 h,CJ h,CJ (Ah _)]
def xg{F:TJ->Option (TE)}{w:World}{b:Nat}{l:Tt}{c:Bool}{fuel:Nat}
  (j:∀t ks,F t=some ks->∀cs (x:DataW H×List MemPlace),DataW.trod enc P w b l c fuel t cs=some x->x.2=[]/\FitC ks cs/\∀w' d e h',DataW.trod enc P w' d e h' fuel t cs=some x) (cs:Tk) :
  ∀(g:List Field) (off:Nat) (ks:TE) (xs:List (DataW H×List MemPlace)),DS F g off=some ks->g.mapM (λf=>DataW.trod enc P w b l c fuel f.type ((cs.drop f.offset).take (P.cellsOf f.type)))=some xs->
   xs.flatMap (·.2)=[]/\FitC ks ((cs.drop off).take ks.length)/\∀w' d e h',g.mapM (λf=>DataW.trod enc P w' d e h' fuel f.type ((cs.drop f.offset).take (P.cellsOf f.type)))=some xs
 | [],off,ks,xs,h1,a=>by
  simp only[DS,B7]at h1;subst h1;simp only[qdP,qdy,B7]at a;subst a;refine⟨rfl,by simp[FitC],λ_ _ _ _=>by simp⟩
 |f :: g,off,ks,xs,h1,a=>by
  simp only[DS]at h1;split at h1
  next A i r=>
   obtain⟨y,s,rfl⟩:=qag.1 h1;have i:=AW i;rw[LU]at a;obtain⟨x,u,a⟩:=qaA.1 a;obtain⟨z,v,a⟩:=qaA.1 a;cases a;obtain⟨m,h,n⟩:=j _ _ r _ _ u;obtain⟨o,p,q⟩:=xg j cs g _ y z s v;refine⟨by simp[m,o],?_,λw' d e h'=>?_⟩
   ·rw[Bv,qdQ];refine FitC.app ?_ (by rw[LS];exact p);have k:=FitC.len h;rw[i]at h k;rw[←k,kL];exact h
   ·rw[LU,n w' d e h',q w' d e h'];rfl
  ·cases h1
def I4{w:World}{a:Nat}{k:Tt}{b:Bool}{fuel c:Nat}{e:TJ}{ks:TE}(t:c=ks.length)
  (j:∀cs (x:DataW H×List MemPlace),DataW.trod enc P w a k b fuel e cs=some x->x.2=[]/\FitC ks cs/\∀w' d f h',DataW.trod enc P w' d f h' fuel e cs=some x) (cs:Tk) :
  ∀(n:Nat) (xs:List (DataW H×List MemPlace)),(List.range n).mapM (λi=>DataW.trod enc P w a k b fuel e ((cs.drop (i*c)).take c))=some xs->
   xs.flatMap (·.2)=[]/\FitC (List.replicate n ks).flatten (cs.take (n*c))/\∀w' d f h',(List.range n).mapM (λi=>DataW.trod enc P w' d f h' fuel e ((cs.drop (i*c)).take c))=some xs
 |0,xs,h=>by
  simp only[qdZ,qdP,qdy,B7]at h;subst h;exact⟨rfl,by simp[FitC],λ_ _ _ _=>by simp⟩
 |n+1,xs,h=>by
  rw[Vd,List.mapM_append]at h;obtain⟨ys,h1,h⟩:=qaA.1 h;obtain⟨u,g,h⟩:=qaA.1 h;cases h;rw[LU]at g;obtain⟨z,s,g⟩:=qaA.1 g;cases g;obtain⟨l,m,o⟩:=I4 t j cs n ys h1;obtain⟨p,q,r⟩:=j _ _ s;refine⟨by simp[l,p],?_,λw' d f h'=>?_⟩
  ·rw[List.replicate_succ',List.flatten_append,Dg,Ik,qdQ];refine FitC.app m ?_;simpa using q
  ·rw[Vd,List.mapM_append,o w' d f h',LU,r w' d f h'];rfl
def jM:∀(d:Nat) (t:TJ) (ks:TE),vG P d t=some ks->∀(w:World) (b:Nat) (o:Tt) (c:Bool) (fuel:Nat) (cs:Tk) (x:DataW H×List MemPlace),DataW.trod enc P w b o c fuel t cs=some x->
  x.2=[]/\FitC ks cs/\∀w' f g h',DataW.trod enc P w' f g h' fuel t cs=some x
 |0,_,_,h=>by cases h
 |d+1,t,ks,h=>by
  intro w b o c fuel cs x a;simp only[vG]at h;split at h
  next k e=>
   cases h;obtain⟨n,rfl,rfl,y⟩:=DataW.trod_int e a;refine⟨rfl,⟨⟨n,rfl,y⟩,trivial⟩,λw' f g h'=>?_⟩;cases fuel with
   |zero=>simp[DataW.trod]at a
   |succ m=>simp[DataW.trod,e,y]
  next e=>
   cases h;obtain⟨n,rfl,rfl⟩:=DataW.trod_bool e a;refine⟨rfl,⟨⟨n,rfl⟩,trivial⟩,λw' f g h'=>?_⟩;cases fuel with
   |zero=>simp[DataW.trod]at a
   |succ m=>simp[DataW.trod,e]
  next B e=>
   split at h
   next z r=>
    split at h
    next i=>
     cases h;have i:=AW i;cases fuel with
     |zero=>simp[DataW.trod]at a
     |succ m=>
      simp only[DataW.trod,e]at a;split at a
      next l=>
       obtain⟨u,s,rfl⟩:=qag.1 a;obtain⟨p,j,q⟩:=xg (λt ks h cs x a=>jM d t ks h w b o c m cs x a) cs B.toList 0 ks u r s;rw[Gl,CJ (by omega)]at j;refine⟨p,j,λw' f g h'=>?_⟩;simp only[DataW.trod,e,l,if_true];rw[q w' f g h'];rfl
      ·cases a
    ·cases h
   ·cases h
  next n e v=>
   split at h
   next z r=>
    split at h
    next i=>
     cases h;rw[wa]at i;have e4:=AW i.1;have A:=AW i.2;cases fuel with
     |zero=>simp[DataW.trod]at a
     |succ m=>
      simp only[DataW.trod,v]at a;split at a
      next l=>
       obtain⟨u,s,rfl⟩:=qag.1 a;obtain⟨p,j,q⟩:=I4 e4 (λcs x a=>jM d e z r w b o c m cs x a) cs n u s;rw[CJ (by rw[l,A,e4];exact Ah _)]at j;refine⟨p,j,λw' f g h'=>?_⟩;simp only[DataW.trod,v,l,if_true];rw[q w' f g h'];rfl
      ·cases a
    ·cases h
   ·cases h
  ·cases h
end
section
variable [Val]
end
end Sx
end Go.Am
namespace Go.Am
namespace Sx
def FitL.i{k:TF}{ks:TE}{ls:TB}(h:FitL (.i k :: ks) ls):∃n r,ls = .i n :: r/\(Lit.int k n).wf=true/\FitL ks r:=by
 match ls,h with
 | .i n :: r,h=>exact⟨n,r,rfl,h.1,h.2⟩
def FitL.b{ks:TE}{ls:TB}(h:FitL (.b :: ks) ls):∃n r,ls = .b n :: r/\FitL ks r:=by
 match ls,h with
 | .b n :: r,h=>exact⟨n,r,rfl,h⟩
def FitL.nil{ls:TB}(h:FitL [] ls):ls=[]:=by
 match ls,h with
 | [],_=>rfl
def El{n:Int}(h:(Lit.int .u8 n).wf=true):0<=n/\n<=255:=by
 simp only[Lit.wf,wa,BQ]at h;exact h
def pH{H:Type}{enc:TypeId×Value->H}{P:TD}{w:World}{a:Nat}{f:Tt}{b:Bool}:∀ {c:List TypeId} {vs:Tk} {ds:List (DataW H)} {e:List MemPlace},DataW.TrodAll enc P w a f b c vs ds e->ds.length=c.length
 | [],[],[],_,_=>rfl
 |_ :: _,_ :: _,_ :: _,_,h=>by
  obtain⟨p,q,_,d,_⟩:=h;simp[pH d]
 | [],_ :: _,_,_,h=>by cases h
 | [],[],_ :: _,_,h=>by cases h
 |_ :: _,[],_,_,h=>by cases h
 |_ :: _,_ :: _,[],_,h=>by cases h
end Sx
namespace Sx
open Go.ChangeShapes Go.WideShapes Go.ChangeAt Go.WideMaps Go.WideElems Go.RowKit
inductive CK2 where
 |i (k:TF)
 |b
 |s (ks:TE)
def CK2.lk:CK2->LK
 | .i k=>.i k
 | .b=>.b
 | .s _=>.v
def Qw(w:World)(ks:TE)(v:Value):Prop:=
 v = .slice none 0 0∨∃(a:Addr) (len cap:Nat) (c:Tj) (t:TJ) (fr:Nat×Nat) (b:Tk),v = .slice (some a) len cap/\a.spot=none/\len<=cap/\cap<=maxLen/\
  w.heap[a.block]?=some (.cells c t fr)/\(cap=0∨a.off+cap*ks.length<=c.size)/\b.length=len*ks.length/\(∀(i:Nat) v,b[i]?=some v->c[a.off+i]?=some v)/\
  ∀i,i<len->FitC ks ((b.drop (i*ks.length)).take ks.length)
def Fb(w:World):CK2->Value->Prop
 | .i k,v=>∃n,v = .int k n/\(Lit.int k n).wf=true
 | .b,v=>∃t,v = .bool t
 | .s ks,v=>Qw w ks v
def dO(w:World):List CK2->Tk->Prop
 | [],[]=>True
 |k :: ks,v :: vs=>Fb w k v/\dO w ks vs
 |_,_=>False
def br(h:HL):List CK2->TB->Prop
 | [],[]=>True
 | .i k :: ks,.i n :: ls=>(Lit.int k n).wf=true/\br h ks ls
 | .b :: ks,.b _ :: ls=>br h ks ls
 | .s c :: ks,.v x :: ls=>(∃n a,SlC h x c.length n a/\n<=maxLen/\∀i,i<n->FitC c ((a.drop (i*c.length)).take c.length))/\br h ks ls
 |_,_=>False
def dO.len{w:World}:∀ {ks:List CK2} {vs:Tk},dO w ks vs->vs.length=ks.length
 | [],[],_=>rfl
 |_ :: _,_ :: _,h=>by simp[dO.len h.2]
 | [],_ :: _,h=>by cases h
 |_ :: _,[],h=>by cases h
def dO.app{w:World}:∀ {ks a:List CK2} {vs b:Tk},dO w ks vs->dO w a b->dO w (ks++a) (vs++b)
 | [],_,[],_,_,h=>h
 |_ :: _,_,_ :: _,_,h,h'=>⟨h.1,dO.app h.2 h'⟩
 | [],_,_ :: _,_,h,_=>by cases h
 |_ :: _,_,[],_,h,_=>by cases h
def br.app{h:HL}:∀ {ks a:List CK2} {vs c:TB},br h ks vs->br h a c->br h (ks++a) (vs++c)
 | [],_,[],_,_,h=>h
 | .i _ :: ks,_,.i _ :: _,_,h,h'=>⟨h.1,br.app (ks:=ks) h.2 h'⟩
 | .b :: ks,_,.b _ :: _,_,h,h'=>br.app (ks:=ks) h h'
 | .s _ :: ks,_,.v _ :: _,_,h,h'=>⟨h.1,br.app (ks:=ks) h.2 h'⟩
 | [],_,_ :: _,_,h,_=>by cases h
 | .i _ :: _,_,[],_,h,_=>by cases h
 | .b :: _,_,[],_,h,_=>by cases h
 | .s _ :: _,_,[],_,h,_=>by cases h
 | .i _ :: _,_,.b _ :: _,_,h,_=>by cases h
 | .i _ :: _,_,.v _ :: _,_,h,_=>by cases h
 | .b :: _,_,.i _ :: _,_,h,_=>by cases h
 | .b :: _,_,.v _ :: _,_,h,_=>by cases h
 | .s _ :: _,_,.i _ :: _,_,h,_=>by cases h
 | .s _ :: _,_,.b _ :: _,_,h,_=>by cases h
def XX(F:TJ->Option (List CK2)):List Field->Nat->Option (List CK2)
 | [],_=>some []
 |f :: a,off=>match Nat.beq f.offset off,F f.type with
  |true,some ks=>(XX F a (off+ks.length)).map (ks ++ ·)
  |_,_=>none
def kby:LK->Nat
 | .i .i64=>8
 |_=>0
def kbs:TE->Nat
 | []=>0
 |k :: ks=>kby k+kbs ks
def NU:TE->Option (List CK2)
 | []=>some []
 | .i k :: ks=>(NU ks).map (.i k :: ·)
 | .b :: ks=>(NU ks).map (.b :: ·)
 | .v :: _=>none
def vy{w:World}:∀ {ks:TE} {cs:Tk} {c2:List CK2},NU ks=some c2->FitC ks cs->dO w c2 cs
 | [],[],_,h,_=>by cases h;exact trivial
 | .i k :: ks,v :: vs,_,h,a=>by
  obtain⟨l,h1,rfl⟩:=qag.1 h;exact⟨a.1,vy h1 a.2⟩
 | .b :: ks,v :: vs,_,h,a=>by
  obtain⟨l,h1,rfl⟩:=qag.1 h;exact⟨a.1,vy h1 a.2⟩
 | .v :: _,_,_,h,_=>by cases h
 | [],_ :: _,_,_,a=>by cases a
 | .i _ :: _,[],_,_,a=>by cases a
 | .b :: _,[],_,_,a=>by cases a
def XY(P:TD):Nat->TJ->Option (List CK2)
 |0,_=>none
 |d+1,t=>match P.underlying t with
  |some (.int k)=>some [.i k]
  |some .bool=>some [.b]
  |some (.slice e)=>match vG P 20 e with
   |some ks=>match Nat.beq (P.cellsOf e) ks.length&&Nat.blt 0 ks.length&&Nat.ble (kbs ks) (P.bytesOf e)with
    |true=>some [.s ks]
    |false=>none
   |none=>none
  |some (.struct a)=>match XX (XY P d) a.toList 0 with
   |some ks=>match Nat.beq ks.length (P.cellsOf t)with
    |true=>some ks
    |false=>none
   |none=>none
  |some (.array _ _)=>match vG P 20 t with
   |some ks=>NU ks
   |none=>none
  |_=>none
section
variable {H:Type} {enc:TypeId×Value->H} {P:TD}
def GT(w:World)(v:Value):Prop:=∀a len cap,v = .slice (some a) len cap->a.spot=none/\∃c t fr,w.heap[a.block]?=some (.cells c t fr)
def jo{α β:Type}{f g:α->Option β}:∀ {l:List α},(∀x∈l,f x=g x)->l.mapM f=l.mapM g
 | [],_=>rfl
 |a :: l,h=>by
  rw[LU,LU,h a Cw,jo λx b=>h x (BF _ b)]
def bY{a:Addr}(h:a.spot=none)(i:Nat):a.add i=⟨a.block,a.off+i,none⟩:=by
 obtain⟨b,o,s⟩:=a;cases h;unfold Addr.add;simp
def Mf{w:World}{t e:TJ}{ks:TE}(ht:P.underlying t=some (.slice e))(he:vG P 20 e=some ks)(U:P.cellsOf e=ks.length)(h0:0<ks.length){A:Nat}(D:A=0){g:Bool}{fuel:Nat}{cs:Tk}{x:DataW H×List MemPlace}
  (hx:DataW.trod enc P w A (λ_=>true) g fuel t cs=some x) (hl:∀v∈cs,GT w v) :
  ∃v,cs=[v]/\Qw w ks v/\∀(w':World) (I:Tt),(∀b,b<w.heap.size->w'.heap[b]?=w.heap[b]?)->(∀b,b<w.heap.size->I b=true)->DataW.trod enc P w' A I g fuel t cs=some x:=by
 subst D;have C:=hx;rcases DataW.trod_slice ht hx with⟨rfl,rfl⟩|⟨a,d,f,k,p,n,rfl,rfl,rfl,hb,G,hm,M,L,Z,_⟩
 ·refine⟨_,rfl,.inl rfl,λw' I _ _=>?_⟩;cases fuel with
  |zero=>simp[DataW.trod]at hx
  |succ m=>simp[DataW.trod,ht]
 ·obtain⟨X,c,t',fr,u⟩:=hl _ Cw a d f rfl;obtain⟨an,hr⟩:=Z rfl;rw[U]at L hr;have N:a.block<w.heap.size:=by
   rcases Bu a.block w.heap.size with h|h
   ·exact h
   ·rw[RV h]at u;cases u
  have r:∀i,i<f->∃o y,w.cells? 0 (a.add (i*ks.length)) ks.length=some o/\DataW.trod enc P w 0 (λ_=>true) g n e o=some y/\(k++p)[i]?=some y:=by
   intro i B;by_cases s:i<d
   ·have q:=L i s;have z:k[i]?=some k[i]:=Be (by omega);rw[z]at q;obtain⟨o,S,T⟩:=qaA.1 q;exact⟨o,_,S,T,by rw[BZ (by omega)];exact z⟩
   ·have q:=hr (i - d) (by omega);rw[show d+(i - d)=i by omega]at q;have z:p[i - d]?=some (p[i - d]'(by omega)):=Be (by omega);rw[z]at q;obtain⟨o,S,T⟩:=qaA.1 q;exact⟨o,_,S,T,by rw[Cv (by omega),M];exact z⟩
  have rd:∀i,i<f->∀j,j<ks.length->∀o,w.cells? 0 (a.add (i*ks.length)) ks.length=some o->c[a.off+i*ks.length+j]?=o[j]?:=by
   intro i B j F o V;have s:=(World.cells?_some V).2.2 j F;rw[bY X,bY rfl]at s;rw[←s];unfold World.cell?;simp[u]
  have O:f=0∨a.off+f*ks.length<=c.size:=by
   by_cases K:f=0
   ·exact .inl K
   ·right;obtain⟨o,y,s,_,_⟩:=r (f - 1) (by omega);have q:=rd (f - 1) (by omega) (ks.length - 1) (by omega) o s;have W:=(World.cells?_some s).2.1;rw[Be (by omega)]at q;have z:=(qaQ.1 q).1;have S:f*ks.length=(f - 1)*ks.length+ks.length:=by
     rw[←Nat.succ_mul];congr 1;omega
    omega
  have Q:a.off+d*ks.length<=c.size∨d=0:=by
   rcases O with h|h
   ·right;omega
   ·left;have:=LY ks.length G;omega
  refine⟨_,rfl,.inr ⟨a,d,f,c,t',fr,(c.toList.drop a.off).take (d*ks.length),rfl,X,G,hm,u,O,?_,?_,?_⟩,?_⟩
  ·rw[BX,M6];have ad:c.toList.length=c.size:=qdt;rcases Q with h|h
   ·omega
   ·subst h;omega
  ·intro i v R;rw[Ij]at R;split at R
   ·rw[Ii]at R;simpa using R
   ·cases R
  ·intro i B;obtain⟨o,y,s,q,_⟩:=r i (by omega);obtain⟨_,z,_⟩:=jM 20 e ks he w 0 _ g n o y q;have W:=(World.cells?_some s).2.1;have:(((c.toList.drop a.off).take (d*ks.length)).drop (i*ks.length)).take ks.length=o:=by
    apply Gm;intro j;by_cases F:j<ks.length
    ·have ag:i*ks.length+ks.length<=d*ks.length:=by
      have:=LY ks.length (show i+1<=d by omega);rw[Dg,Ik]at this;exact this
     rw[Ij,mc F,Ii,Ij,mc (by omega),Ii,←rd i (by omega) j F o s];rw[qda,IH]
    ·rw[Bp (by rw[BX];omega),Bp (by omega)]
   rw[this];exact z
  ·intro w' I hw Y;have E:∀i,i<f->w'.cells? 0 (a.add (i*ks.length)) ks.length=w.cells? 0 (a.add (i*ks.length)) ks.length:=by
    intro i B;unfold World.cells?;have:∀j,w'.cell? ((a.add (i*ks.length)).add j)=w.cell? ((a.add (i*ks.length)).add j):=by
     intro j;rw[bY X,bY rfl];unfold World.cell?;rw[hw _ N]
    simp only[this]
   have el:∀i,i<f->(w'.cells? 0 (a.add (i*P.cellsOf e)) (P.cellsOf e)).bind (DataW.trod enc P w' 0 I g n e)=(k++p)[i]?:=by
    intro i B;rw[U,E i B];obtain⟨o,y,s,q,z⟩:=r i B;rw[s,z,A7];exact(jM 20 e ks he w 0 _ g n o y q).2.2 w' 0 I g
   have J:∀i,i<f->(w.cells? 0 (a.add (i*P.cellsOf e)) (P.cellsOf e)).bind (DataW.trod enc P w 0 (λ_=>true) g n e)=(k++p)[i]?:=by
    intro i B;rw[U];obtain⟨o,y,s,q,z⟩:=r i B;rw[s,z,A7];exact q
   unfold DataW.trod at C ⊢;simp only[ht]at C ⊢;rw[mc ⟨AF _,G,hm⟩]at C ⊢;rw[jo (λi B=>(el i (by have:=qad.1 B;omega)).trans (J i (by have:=qad.1 B;omega)).symm)];rw[jo (l:=List.range (f - d)) (λj F=>(el (d+j) (by have:=qad.1 F;omega)).trans (J (d+j) (by have:=qad.1 F;omega)).symm)];rw[Y _ N];exact C
def Jo{F:TJ->Option (List CK2)}{w:World}{a:Bool}{fuel:Nat}(cs:Tk)(g:∀v∈cs,GT w v)
  (k:∀t ks,F t=some ks->∀cs (x:DataW H×List MemPlace),(∀v∈cs,GT w v)->DataW.trod enc P w 0 (λ_=>true) a fuel t cs=some x->dO w ks cs/\∀(w':World) (d:Tt),(∀b,b<w.heap.size->w'.heap[b]?=w.heap[b]?)->(∀b,b<w.heap.size->d b=true)->DataW.trod enc P w' 0 d a fuel t cs=some x) :
  ∀(e:List Field) (off:Nat) (ks:List CK2) (xs:List (DataW H×List MemPlace)),XX F e off=some ks->e.mapM (λf=>DataW.trod enc P w 0 (λ_=>true) a fuel f.type ((cs.drop f.offset).take (P.cellsOf f.type)))=some xs->
   dO w ks ((cs.drop off).take ks.length)/\∀(w':World) (d:Tt),(∀b,b<w.heap.size->w'.heap[b]?=w.heap[b]?)->(∀b,b<w.heap.size->d b=true)->e.mapM (λf=>DataW.trod enc P w' 0 d a fuel f.type ((cs.drop f.offset).take (P.cellsOf f.type)))=some xs
 | [],off,ks,xs,h1,c=>by
  simp only[XX,B7]at h1;subst h1;simp only[qdP,qdy,B7]at c;subst c;refine⟨by simp[dO],λ_ _ _ _=>by simp⟩
 |f :: e,off,ks,xs,h1,c=>by
  simp only[XX]at h1;split at h1
  next A j p=>
   obtain⟨y,q,rfl⟩:=qag.1 h1;have j:=AW j;rw[LU]at c;obtain⟨x,r,c⟩:=qaA.1 c;obtain⟨z,s,c⟩:=qaA.1 c;cases c;obtain⟨i,m⟩:=k _ _ p _ _ (λv u=>g v (LX (IM u))) r;obtain⟨n,o⟩:=Jo cs g k e _ y z q s;refine⟨?_,λw' d l h=>?_⟩
   ·rw[Bv,qdQ];refine dO.app ?_ (by rw[LS];exact n);have g:=dO.len i;rw[j]at i g;rw[←g,kL];exact i
   ·rw[LU,m w' d l h,o w' d l h];rfl
  ·cases h1
def Jp:∀(d:Nat) (t:TJ) (ks:List CK2),XY P d t=some ks->∀(w:World) (a:Bool) (fuel:Nat) (cs:Tk) (x:DataW H×List MemPlace),(∀v∈cs,GT w v)->DataW.trod enc P w 0 (λ_=>true) a fuel t cs=some x->
  dO w ks cs/\∀(w':World) (f:Tt),(∀b,b<w.heap.size->w'.heap[b]?=w.heap[b]?)->(∀b,b<w.heap.size->f b=true)->DataW.trod enc P w' 0 f a fuel t cs=some x
 |0,_,_,h=>by cases h
 |d+1,t,ks,h=>by
  intro w a fuel cs x p c;simp only[XY]at h;split at h
  next k e=>
   cases h;obtain⟨n,rfl,rfl,q⟩:=DataW.trod_int e c;refine⟨⟨⟨n,rfl,q⟩,trivial⟩,λw' f _ _=>?_⟩;cases fuel with
   |zero=>simp[DataW.trod]at c
   |succ m=>simp[DataW.trod,e,q]
  next e=>
   cases h;obtain⟨n,rfl,rfl⟩:=DataW.trod_bool e c;refine⟨⟨⟨n,rfl⟩,trivial⟩,λw' f _ _=>?_⟩;cases fuel with
   |zero=>simp[DataW.trod]at c
   |succ m=>simp[DataW.trod,e]
  next e u=>
   split at h
   next A l=>
    split at h
    next i=>
     cases h;simp only[wa,BW]at i;obtain⟨v,rfl,g,j⟩:=Mf u l (AW i.1.1) i.1.2 rfl c p;exact⟨⟨g,trivial⟩,j⟩
    ·cases h
   ·cases h
  next y e=>
   split at h
   next A l=>
    split at h
    next i=>
     cases h;have i:=AW i;cases fuel with
     |zero=>simp[DataW.trod]at c
     |succ m=>
      simp only[DataW.trod,e]at c;split at c
      next o=>
       obtain⟨B,z,rfl⟩:=qag.1 c;obtain⟨g,j⟩:=Jo cs p (λt ks h cs x p c=>Jp d t ks h w a m cs x p c) y.toList 0 ks B l z;rw[Gl,CJ (by omega)]at g;refine⟨g,λw' f q r=>?_⟩;simp only[DataW.trod,e,o,if_true];rw[j w' f q r];rfl
      ·cases c
    ·cases h
   ·cases h
  ·split at h
   next s l=>
    obtain⟨_,g,j⟩:=jM 20 t s l w 0 _ a fuel cs x c;exact⟨vy h g,λw' f _ _=>j w' 0 f a⟩
   ·cases h
  ·cases h
abbrev Ca:=HObj×Option Pl
def tA(w:World)(b:Ca):Prop:=b.1 = .dead∨∃vs e p c t fr,b.1 = .cells vs e false/\b.2=some p/\p.esz=e/\vs.all flat=true/\vs.all bg=true/\vs.length<=p.room/\w.heap[p.b]?=some (.cells c t fr)/\c.size=p.o+p.room/\∀(i:Nat) v,vs[i]?=some v->c[p.o+i]?=some v
def od:∀ {ks:TE} {vs:Tk},FitC ks vs->vs.all flat=true/\vs.all bg=true
 | [],[],_=>⟨rfl,rfl⟩
 | .i k :: ks,v :: vs,h=>by
  obtain⟨⟨n,rfl,_⟩,c⟩:=h;obtain⟨a,b⟩:=od c;exact⟨by simp[a,flat,fL,scalar],by simp[b];rfl⟩
 | .b :: ks,v :: vs,h=>by
  obtain⟨⟨n,rfl⟩,c⟩:=h;obtain⟨a,b⟩:=od c;exact⟨by simp[a,flat,fL,scalar],by simp[b];rfl⟩
 | .v :: _,_,h=>by cases h
 | [],_ :: _,h=>by cases h
 | .i _ :: _,[],h=>by cases h
 | .b :: _,[],h=>by cases h
def vx{ks:TE}(l:0<ks.length){c:Tk}{n:Nat}(s:c.length=n*ks.length)(h:∀i,i<n->FitC ks ((c.drop (i*ks.length)).take ks.length)):c.all flat=true/\c.all bg=true:=by
 have f:∀j,j<c.length->∃v,c[j]?=some v/\flat v=true/\bg v=true:=by
  intro j e;have g:j / ks.length<n:=by
   rw[Nat.div_lt_iff_lt_mul l];omega
  obtain⟨a,b⟩:=od (h _ g);have q:=Il j l;have p:=Nat.div_add_mod j ks.length;have d:((c.drop (j / ks.length*ks.length)).take ks.length)[j%ks.length]?=some c[j]:=by
   rw[Ij,mc q,Ii];rw[show j / ks.length*ks.length+j%ks.length=j by rw[Nat.mul_comm];exact p];exact Be e
  exact⟨_,Be e,qac.1 a _ (Ap d),qac.1 b _ (Ap d)⟩
 constructor<;>
 ·rw[qac];intro v r;obtain⟨j,e⟩:=BK r;have k:j<c.length:=by
   rcases Bu j c.length with h|h
   ·exact h
   ·rw[Bp h]at e;cases e
  obtain⟨t,g,m,o⟩:=f j k;rw[e]at g;cases g
  first|exact m|exact o
section
variable [Val] [Glo]
def Jn{w:World}{p:CK2}{v:Value}(e:∀ks,p = .s ks->0<ks.length)(h:Fb w p v)(n0:Nat):∃(x:SL) (A:List Ca),(∀b∈A,tA w b)/\x.is p.lk=true/\x.good/\
  (∀mu:kx,(∀(i:Nat) b,A[i]?=some b->mu (n0+i)=b.2)->VR AN mu x.val v)/\∀e:HL,(∀(i:Nat) b,A[i]?=some b->e[n0+i]?=some (.o b.1))->br e [p] [x.lf]:=by
 cases p with
 |i k=>
  obtain⟨n,rfl,N⟩:=h;exact⟨.i k n,[],by simp,by simp[SL.is,CK2.lk,dU],trivial,λmu _=>.scalar rfl,λe _=>⟨N,trivial⟩⟩
 |b=>
  obtain⟨t,rfl⟩:=h;exact⟨.b t,[],by simp,rfl,trivial,λmu _=>.scalar rfl,λe _=>trivial⟩
 |s ks=>
  have J:=e ks rfl;rcases h with rfl|⟨a,len,cap,c,t,E,d,rfl,L,y,Q,f,z,m,u,j⟩
  ·refine⟨.v (.slice none 0 0),[],by simp,rfl,rfl,λmu _=>.scalar rfl,λe _=>⟨⟨0,[],⟨by simp,.inl ⟨rfl,rfl⟩⟩,AF _,λi O=>by omega⟩,trivial⟩⟩
  ·obtain⟨C,D⟩:=vx J m j;have F:aC (.slice (some ⟨n0,0,qs ks.length⟩) len 0)=true:=by simp[aC,noLoc,aR,bh,aX,aJ,aA,qs]
   have I:a=⟨a.block,a.off,none⟩:=by cases a;cases L;rfl
   have q:∀e:HL,e[n0]?=some (.o (.cells d ks.length false))->br e [.s ks] [.v (.slice (some ⟨n0,0,qs ks.length⟩) len 0)]:=λe l=>
    ⟨⟨len,d,⟨m,.inr ⟨n0,0,0,d,false,rfl,l,cut_all m⟩⟩,by omega,j⟩,trivial⟩
   by_cases g:cap=0
   ·subst g;obtain rfl:len=0:=by omega
    have B:d=[]:=List.eq_nil_of_length_eq_zero (by omega);subst B;refine⟨.v (.slice (some ⟨n0,0,qs ks.length⟩) 0 0),[(.cells [] ks.length false,some ⟨a.block,c.size,0,ks.length⟩)],λb r=>?_,rfl,F,λmu _=>.hslice0 (AF _),λe l=>q e (l 0 _ rfl)⟩;simp only[qav]at r;subst r;exact .inr ⟨[],ks.length,_,c,t,E,rfl,rfl,rfl,rfl,rfl,AF _,f,by simp,λi v M=>by simp at M⟩
   ·have z:a.off+cap*ks.length<=c.size:=z.resolve_left g;have K:=LY ks.length y;refine⟨.v (.slice (some ⟨n0,0,qs ks.length⟩) len 0),[(.cells d ks.length false,some ⟨a.block,a.off,c.size - a.off,ks.length⟩)],λb r=>?_,rfl,F,λmu l=>?_,λe l=>q e (l 0 _ rfl)⟩
    ·simp only[qav]at r;subst r;exact .inr ⟨d,ks.length,_,c,t,E,rfl,rfl,rfl,C,D,by show d.length<=c.size - a.off;omega,f,by show c.size=a.off+(c.size - a.off);omega,u⟩
    ·have G:=l 0 _ rfl;rw[I];have:=VR.hslice (la:=AN) (mu:=mu) (id:=n0) (off:=0) (len:=len) (cap:=cap) (cx:=0) G (by show 0+cap*ks.length<=c.size - a.off;omega) y (.inl rfl);exact this
def tM{w:World}:∀ {a:List CK2} {vs:Tk},(∀ks,CK2.s ks∈a->0<ks.length)->dO w a vs->∀n0,∃(xs:List SL) (c:List Ca),(∀b∈c,tA w b)/\aZ xs (a.map CK2.lk)=true/\(∀x∈xs,x.good)/\xs.length=vs.length/\
  (∀mu:kx,(∀(i:Nat) b,c[i]?=some b->mu (n0+i)=b.2)->VRs AN mu (xs.map SL.val) vs)/\∀d:HL,(∀(i:Nat) b,c[i]?=some b->d[n0+i]?=some (.o b.1))->br d a (xs.map SL.lf)
 | [],[],_,_,n0=>⟨[],[],by simp,rfl,by simp,rfl,λmu _=>⟨rfl,λi x y h=>by simp at h⟩,λd _=>trivial⟩
 |O :: a,v :: vs,d,h,n0=>by
  obtain⟨x,c,A,B,C,D,E⟩:=Jn (λks e=>d ks (by rw[e];exact Cw)) h.1 n0;obtain⟨xs,j,F,G,I,J,K,L⟩:=tM (λks e=>d ks (BF _ e)) h.2 (n0+c.length);have z:∀ {α:Type} {f:Nat->α} {g:Ca->α},(∀(i:Nat) b,(c++j)[i]?=some b->f (n0+i)=g b)->(∀(i:Nat) b,c[i]?=some b->f (n0+i)=g b)/\∀(i:Nat) b,j[i]?=some b->f (n0+c.length+i)=g b:=by
   intro α f g h;refine⟨λi b k=>h i b ?_,λi b k=>?_⟩
   ·rw[BZ (by
     rcases Bu i c.length with h|h
     ·exact h
     ·rw[Bp h]at k;cases k)];exact k
   ·rw[IH];refine h _ b ?_;rw[Cv (by omega),qc3];exact k
  refine⟨x :: xs,c++j,λb k=>?_,by simp[aZ,B,G],λy u=>?_,by simp[J],λmu t=>?_,λd N=>?_⟩
  ·rcases qar.1 k with h|h
   ·exact A b h
   ·exact F b h
  ·rcases qas.1 u with rfl|u
   ·exact C
   ·exact I y u
  ·obtain⟨l,m⟩:=z (f:=mu) (g:=λb=>b.2) t;have M:=D mu l;obtain⟨c2,c3⟩:=K mu m;refine⟨by simpa using c2,λi p q n r=>?_⟩;cases i with
   |zero=>
    simp only[A5,Va,B7]at n r;subst n r;exact M
   |succ i=>exact c3 i p q (by simpa using n) (by simpa using r)
  ·obtain⟨l,m⟩:=z (f:=λi=>d[i]?) (g:=λb=>some (HO.o b.1)) N;exact br.app (E d l) (L d m)
 | [],_ :: _,_,h,_=>by cases h
 |_ :: _,[],_,h,_=>by cases h
end
end
end Sx
namespace Sx
open Go.ChangeShapes Go.WideShapes Go.ChangeAt Go.WideMaps Go.WideElems Go.RowKit
section
variable {H:Type} {enc:TypeId×Value->H} {P:TD}
def oI{w:World}{r:Reach}{k:Nat}{u:TJ}{v:Value}(h:Cell.okWide P w r k u v):GT w v:=by
 rintro a p d rfl;have n:∃e,w.has P r k a e d:=by
  unfold Cell.okWide at h;split at h<;>first|(rename_i b g;cases g;done)|(rename_i b;cases b;done)|skip
  all_goals
   unfold Cell.ok at h;split at h<;>first|(cases h;done)|(rename_i b g;cases g;done)|skip
   all_goals first|(rename_i j;injection j with q s t;subst s t;cases q;exact⟨_,h.2.2⟩)|skip
 obtain⟨e,_,o,x,f,i,_⟩:=n;refine⟨o,?_⟩;unfold World.shape? at i;split at i
 next c l m b=>
  exact⟨c,l,m,b⟩
 ·cases i
def KF{w:World}{r:Reach}{j:Nat}{t:TJ}{v:Value}(h:Value.okWide P w r j t v):∀x∈v.cells.toList,GT w x:=by
 intro x g;unfold Value.okWide at h;split at h
 ·obtain⟨a,rfl,_,k,_,_,d⟩:=h;obtain⟨i,f⟩:=BK g;obtain⟨u,_,e⟩:=d i x (by simpa[Value.cells]using f);exact oI e
 ·obtain⟨a,rfl,_,k,_,_,d⟩:=h;obtain⟨i,f⟩:=BK g;obtain⟨u,_,e⟩:=d i x (by simpa[Value.cells]using f);exact oI e
 ·have:x=v∨∃a,v = .agg a:=by
   cases v<;>first|(right;exact⟨_,rfl⟩)|(left;simpa[Value.cells]using g)
  rcases this with rfl|⟨a,rfl⟩
  ·exact oI h
  ·exfalso;unfold Cell.okWide at h;split at h<;>first|(rename_i b c;cases c;done)|(rename_i b;cases b;done)|skip
   all_goals
    unfold Cell.ok at h;split at h<;>first|(cases h;done)|(rename_i b c;cases c;done)|skip
def skC(P:TD)(t:TJ)(a:List CK2):Option SK:=
 match P.underlying t,a with
 |some (.struct _),a=>some (.agg (a.map CK2.lk))
 |some (.array _ _),a=>some (.agg (a.map CK2.lk))
 |some (.int _),[k]=>some (.leaf k.lk)
 |some .bool,[k]=>some (.leaf k.lk)
 |some (.slice _),[k]=>some (.leaf k.lk)
 |_,_=>none
def U6(a:List CK2):Bool:=a.all λk=>match k with
 | .s b=>Nat.blt 0 b.length
 |_=>true
def PO{a:List CK2}(h:U6 a=true):∀ks,CK2.s ks∈a->0<ks.length:=by
 intro ks b;have:=qac.1 h _ b;simpa[BW]using this
section
variable [Val] [Glo]
structure Abs(W:World)(n0:Nat)(bl:List Ca):Prop where
 ok:∀b∈bl,tA W b
abbrev IZ(mu:kx)(n0:Nat)(a:List Ca):Prop:=∀(i:Nat) b,a[i]?=some b->mu (n0+i)=b.2
abbrev Nh(c:HL)(n0:Nat)(a:List Ca):Prop:=∀(i:Nat) b,a[i]?=some b->c[n0+i]?=some (.o b.1)
abbrev Ff(W a:World):Prop:=∀b,b<W.heap.size->a.heap[b]?=W.heap[b]?
def zw{W:World}{r:Reach}{a:Nat}{t:TJ}{n:Nat}{e:TJ}{v:Value}(c:P.underlying t=some (.array n e))(h:Value.okWide P W r a t v):∃cs,v = .agg cs:=by
 simp only[Value.okWide,c]at h;obtain⟨cs,b,_⟩:=h;exact⟨cs,b⟩
def H4{W:World}{r:Reach}{b0:Nat}{c:Bool}{t:TJ}{g:List CK2}{D:SK}{v:Value}{d:DataW H}{C:List MemPlace}(h:XY P 20 t=some g)(f:skC P t g=some D)(A:U6 g=true)(a:Value.okWide P W r b0 t v)(hd:DataW.Trod enc P W 0 (λ_=>true) c t v d C)(n0:Nat) :
  ∃(x:S0) (m:List Ca),(∀b∈m,tA W b)/\x.is D=true/\x.good/\(∀mu:kx,IZ mu n0 m->VR AN mu x.val v)/\(∀p:HL,Nh p n0 m->br p g (x.cells.map SL.lf))/\
   ∀(s:World) (u:Tt),Ff W s->(∀b,b<W.heap.size->u b=true)->DataW.Trod enc P s 0 u c t v d C:=by
 obtain⟨w,hf⟩:=hd;obtain⟨E,Z⟩:=Jp 20 t g h W c w _ _ (KF a) hf;obtain⟨S,m,F,G,I,T,B,J⟩:=tM (PO A) E n0;have j:∀(s:World) (u:Tt),Ff W s->(∀b,b<W.heap.size->u b=true)->DataW.Trod enc P s 0 u c t v d C:=λs u X h2=>⟨w,Z s u X h2⟩;have q:(∀V,P.underlying t≠some (.struct V))->(∀n e,P.underlying t≠some (.array n e))->∀k,g=[k]->D = .leaf k.lk->∃(x:S0) (m:List Ca),(∀b∈m,tA W b)/\x.is D=true/\x.good/\(∀mu:kx,IZ mu n0 m->VR AN mu x.val v)/\(∀p:HL,Nh p n0 m->br p g (x.cells.map SL.lf))/\
   ∀(s:World) (u:Tt),Ff W s->(∀b,b<W.heap.size->u b=true)->DataW.Trod enc P s 0 u c t v d C:=by
  rintro N O k rfl rfl;have hv:v.cells.toList=[v]:=by
   have X:=dO.len E;cases v with
   |agg U=>
    exfalso;unfold Value.okWide at a;split at a
    next e=>exact N _ e
    next e=>exact O _ _ e
    ·unfold Cell.okWide at a;split at a<;>first|(rename_i L M;cases M;done)|(rename_i L;cases L;done)|skip
     all_goals
      unfold Cell.ok at a;split at a<;>first|(cases a;done)|(rename_i L M;cases M;done)|skip
   |_=>simp[Value.cells]
  rw[hv]at E T B;obtain⟨x,rfl⟩ : ∃x,S=[x]:=List.length_eq_one_iff.1 T;refine⟨.leaf x,m,F,?_,λl Y=>?_,λmu o=>?_,λp z=>J p z,j⟩
  ·show x.is k.lk=true;simpa[aZ]using G
  ·simp only[S0.cells,qav]at Y;subst Y;exact I _ Cw
  ·exact(B mu o).2 0 _ _ rfl rfl
 unfold skC at f;split at f
 next V e=>
  cases f;obtain⟨U,rfl,_⟩:=okWide_struct e a;refine⟨.agg S,m,F,G,I,λmu o=>?_,λp z=>J p z,j⟩;obtain⟨K,c2⟩:=B mu o;refine .agg (by simpa[Value.cells]using K) λi x y Q R=>c2 i x y (by simpa using Q) (by simpa[Value.cells]using R)
 next n' e' e=>
  cases f;obtain⟨U,rfl⟩:=zw e a;refine⟨.agg S,m,F,G,I,λmu o=>?_,λp z=>J p z,j⟩;obtain⟨K,c2⟩:=B mu o;refine .agg (by simpa[Value.cells]using K) λi x y Q R=>c2 i x y (by simpa using Q) (by simpa[Value.cells]using R)
 next k e=>cases f;exact q (λ_ h=>by rw[e]at h;cases h) (λ_ _ h=>by rw[e]at h;cases h) _ rfl rfl
 next e=>cases f;exact q (λ_ h=>by rw[e]at h;cases h) (λ_ _ h=>by rw[e]at h;cases h) _ rfl rfl
 next e' e=>cases f;exact q (λ_ h=>by rw[e]at h;cases h) (λ_ _ h=>by rw[e]at h;cases h) _ rfl rfl
 ·cases f
def Su(P:TD):List TypeId->Option (List (List CK2)×List SK)
 | []=>some ([],[])
 |t :: c=>match XY P 20 t,Su P c with
  |some a,some (l,sks)=>match skC P t a,U6 a with
   |some b,true=>some (a :: l,b :: sks)
   |_,_=>none
  |_,_=>none
def I6{α:Type}{d a:List Ca}{f:Nat->α}{g:Ca->α}{n0:Nat}(h:∀(i:Nat) b,(d++a)[i]?=some b->f (n0+i)=g b):(∀(i:Nat) b,d[i]?=some b->f (n0+i)=g b)/\∀(i:Nat) b,a[i]?=some b->f (n0+d.length+i)=g b:=by
 refine⟨λi b c=>h i b ?_,λi b c=>?_⟩
 ·rw[BZ (by
   rcases Bu i d.length with h|h
   ·exact h
   ·rw[Bp h]at c;cases c)];exact c
 ·rw[IH];refine h _ b ?_;rw[Cv (by omega),qc3];exact c
def qD{W:World}{r:Reach}{N:Nat}{e:Bool}:∀(n:List TypeId) (l:List (List CK2)) (sks:TH) (vs:Tk) (ds:List (DataW H)) (z:List MemPlace) (n0:Nat),Su P n=some (l,sks)->
  (∀(j:Nat) t v,n[j]?=some t->vs[j]?=some v->Value.okWide P W r N t v)->DataW.TrodAll enc P W 0 (λ_=>true) e n vs ds z->
  ∃(xs:List S0) (m:List Ca),(∀b∈m,tA W b)/\cZ xs sks=true/\(∀x∈xs,x.good)/\(∀mu:kx,IZ mu n0 m->VRs AN mu (av xs) vs)/\(∀k:HL,Nh k n0 m->br k l.flatten (cR xs))/\
   ∀(s:World) (u:Tt),Ff W s->(∀b,b<W.heap.size->u b=true)->DataW.TrodAll enc P s 0 u e n vs ds z
 | [],l,sks,[],[],z,n0,h,_,a=>by
  cases h;exact⟨[],[],by simp,rfl,by simp,λmu _=>⟨rfl,λi x y h=>by simp[av]at h⟩,λk _=>trivial,λ_ _ _ _=>a⟩
 |t :: n,l,sks,v :: vs,d :: ds,z,n0,h,F,a=>by
  simp only[Su]at h;split at h
  next X l' w Y Z=>
   split at h
   next sk e3 e4=>
    cases h;obtain⟨p,q,h1,c,rfl⟩:=a;obtain⟨x,m,G,I,J,K,L,M⟩:=H4 Y e3 e4 (F 0 t v rfl rfl) h1 n0;obtain⟨xs,A,O,Q,R,S,T,U⟩:=qD n l' w vs ds q (n0+m.length) Z (λj t v h1 c=>F (j+1) t v h1 c) c;refine⟨x :: xs,m++A,λb hb=>?_,by simp[cZ,I,Q],λy E=>?_,λmu D=>?_,λk hh=>?_,λs u h1 c=>⟨p,q,M s u h1 c,U s u h1 c,rfl⟩⟩
    ·rcases qar.1 hb with h|h
     ·exact G b h
     ·exact O b h
    ·rcases qas.1 E with rfl|E
     ·exact J
     ·exact R y E
    ·obtain⟨h1,c⟩:=I6 (f:=mu) (g:=λb=>b.2) D;have V:=K mu h1;obtain⟨c2,c3⟩:=S mu c;refine⟨by simpa[av]using c2,λi p q B C=>?_⟩;cases i with
     |zero=>
      simp only[av,A5,Va,B7]at B C;subst B C;exact V
     |succ i=>exact c3 i p q (by simpa[av]using B) (by simpa using C)
    ·obtain⟨h1,c⟩:=I6 (f:=λi=>k[i]?) (g:=λb=>some (HO.o b.1)) hh;rw[VZ];exact br.app (L k h1) (T k c)
   ·cases h
  ·cases h
 | [],_,_,_ :: _,_,_,_,_,_,a=>by cases a
 | [],_,_,[],_ :: _,_,_,_,_,a=>by cases a
 |_ :: _,_,_,[],_,_,_,_,_,a=>by cases a
 |_ :: _,_,_,_ :: _,[],_,_,_,_,a=>by cases a
def vt{C:Cfg}{f:TK}{args:Tk}{r:Value}{H':Tp}{k:List Ca}{W:World}(F:∀b∈k,tA W b)(h:dP C f args (k.map (·.1)) r H'){args':Tj}(n:∀mu:kx,IZ mu 0 k->VRs AN mu args args'.toList)(hr:flat r=true)
  (hG:∀g vs,C.G g=some vs->BV g<W.heap.size/\vs.all bg=true/\∃c e fr,W.heap[BV g]?=some (.cells c e fr)/\cz (λ_=>none) vs c (CF g)) (hf:∀g vs,C.G g=some vs->vs.all MZ=true) :
  Calls C.P f args' W λe x=>e = .returned r/\x.os=W.os/\x.output=W.output/\x.tape=W.tape/\∀b,b<W.heap.size->x.heap[b]?=W.heap[b]?:=by
 let mu:kx:=λid=>(k[id]?).bind (·.2)
 have I:IZ mu 0 k:=λi b E=>by simp only[mu,BT,E,A7]
 have q:∀(id:Nat) o,(k.map (·.1))[id]?=some o->∃b,k[id]?=some b/\o=b.1/\tA W b:=by
  intro id o A;rw[AX]at A;obtain⟨b,a,rfl⟩:=qag.1 A;exact⟨b,a,rfl,F b (Ap a)⟩
 have s:∀(id:Nat) o,(k.map (·.1))[id]?=some o->o.owned=false:=by
  intro id o A;obtain⟨b,_,rfl,m⟩:=q id o A;rcases m with m|⟨vs,e,p,c,t,fr,m,_⟩<;>rw[m]<;>rfl
 have J:∀b,¬Own mu (k.map (·.1)) b:=by
  rintro b ⟨id,o,p,a,d,_⟩;rw[s id o a]at d;cases d
 have D:WR C W.heap.size mu (k.map (·.1)) W:=by
  refine⟨λid o a d=>?_,λi j oi oj pi pj a d m=>?_,λi o p a d=>?_,λi o p a d _ z=>?_,λid a=>?_,λg vs N=>?_⟩
  ·obtain⟨b,K,rfl,l⟩:=q id o a;rcases l with l|⟨vs,e,p,c,t,fr,l,L,Q,R,S,T,B,u,w⟩
   ·rw[l]at d;cases d
   ·refine⟨p,by simp only[mu,K,A7,L],?_⟩;rw[l];refine⟨Q,T,S,c,t,fr,B,u,λh=>by(cases h),λi v O=>⟨v,w i v O,.of_flat (qac.1 R v (Ap O))⟩⟩
  ·rw[s i oi a]at m;cases m
  ·rw[s i o a]at d;cases d
  ·obtain⟨b,K,rfl,l⟩:=q i o a;rcases l with l|⟨vs,e,p',c,t,fr,l,L,Q,R,S,T,B,u,w⟩
   ·rw[l]at d;cases d
   ·simp only[mu,K,A7,L,B7]at z;subst z;rcases Bu p'.b W.heap.size with h|h
    ·exact h
    ·rw[RV h]at B;cases B
  ·simp only[mu];rw[Bp (by simpa using a)];rfl
  ·obtain⟨a,d,c,e,fr,z,h5⟩:=hG g vs N;exact⟨a,d,c,e,fr,z,xh (hf g vs N) h5⟩
 intro Z;obtain⟨v,ad,w',U,a2,y,_,M⟩:=h _ W.heap.size mu W args' (Ah _) (n mu I) D Z;rw[rT hr U]at M;obtain⟨fr,V,X,Y⟩:=M;exact⟨.returned r,w',fr,⟨rfl,y.os,y.output,y.tape,λb E=>y.keep b E (J b)⟩,V,X,Y⟩
def PP{P:TD}{f:Func}{s:ChangeSpec}{c g d:Bool}{W e:World}{args:Tj}{v:Value}{ds k:List (DataW H)}{a n:List MemPlace}
  (q:DataW.Whole enc P f.params.toList s.vars c W args.toList ds k a)
  (l:∀(b:Nat) (m:Tt) (r:Bool),DataW.TrodAll enc P e b m r f.resultTypes.toList (v.resultList f.resultTypes.size) (s.fn H (ds++k)).results [])
  (i:DataW.TrodAll enc P e 0 (λb=>decide (b<W.heap.size)) true f.params.toList args.toList (s.fn H (ds++k)).args n)
  (j:∀m:Nat->Bool,DataW.TrodVars enc P e m s.vars (s.fn H (ds++k)).vars [])
  (h1:e.os=W.os) (o:e.output=W.output) (p:∀b,b<W.heap.size->e.heap[b]?=W.heap[b]?) :
  s.post enc P f c g d false W args v e:=
 ⟨ds,k,a,[],n,[],q,l _ _ _,i,j _,OX h1 o p _,λh=>by cases h⟩
end
end
section
variable [Val]
def fA{C:Cfg}{N:Tb}{Sg:Tc}(h:C.P.follows .mixedOrders=true){g:TK}{sg:Sig}(i:Sg g=some sg){ls b:TB}{H H':Tp}(f:let _:Kno:=KnoC C N;aD C Sg g ls H b H'){xs ys:List S0}(h1:cZ xs sg.ps=true)(c:cR xs=ls)(d:cZ ys sg.rs=true)(e:cR ys=b) :
  dP C g (av xs) H (gq (av ys)) H':=by
 let _:Kno:=KnoC C N
 obtain⟨j,m,n,a,c2,c3,c4⟩:=f;rw[i]at a;cases a;obtain⟨k,_⟩:=dz c2.1 h1 (c2.2.1.trans c.symm);obtain⟨l,_⟩:=dz c3.1 d (c3.2.1.trans e.symm);rw[k,l]at c4;exact vg h c4
end
end Sx
namespace Sx
def tN{α:Type}{ks:TE}{enc:α->Tk}{ok:α->Prop}(d:∀cs,FitC ks cs->∃a,enc a=cs/\ok a):∀(n:Nat) (c:Tk),c.length=n*ks.length->(∀i,i<n->FitC ks ((c.drop (i*ks.length)).take ks.length))->∃l:List α,l.length=n/\l.flatMap enc=c/\∀a∈l,ok a
 |0,c,e,_=>⟨[],rfl,by
   simp only[L0,qa6]at e;rw[e];rfl,λ_ h=>by cases h⟩
 |n+1,c,e,g=>by
  obtain⟨a,h1,j⟩:=d _ (by have:=g 0 (by omega);rw[L0,Gl]at this;exact this);obtain⟨l,k,m,o⟩:=tN d n (c.drop ks.length) (by rw[M6,e,Dg];omega) (λi p=>by
   have:=g (i+1) (by omega);rw[LS];rw[Dg,Ik,Nat.add_comm]at this;exact this)
  refine⟨a :: l,by simp[k],?_,λb f=>?_⟩
  ·rw[Df,h1,m,LW]
  ·rcases qas.1 f with rfl|f
   ·exact j
   ·exact o b f
def RA{α:Type}{ks:TE}{enc:α->Tk}{ok:α->Prop}(c:∀a,(enc a).length=ks.length)(d:∀cs,FitC ks cs->∃a,enc a=cs/\ok a){h:HL}{x:Value}{n:Nat}{b:Tk}(f:SlC h x ks.length n b)(k:∀i,i<n->FitC ks ((b.drop (i*ks.length)).take ks.length)) :
  ∃l:List α,LsH h x ks.length enc l/\l.length=n/\∀a∈l,ok a:=by
 obtain⟨l,e,g,j⟩:=tN d n b f.1 k;refine⟨l,⟨λa _=>c a,?_⟩,e,j⟩;rw[e,g];exact f
def br.i{h:HL}{k:TF}{ks:List CK2}{ls:TB}(a:br h (.i k :: ks) ls):∃n r,ls = .i n :: r/\(Lit.int k n).wf=true/\br h ks r:=by
 match ls,a with
 | .i n :: r,a=>exact⟨n,r,rfl,a.1,a.2⟩
def br.b{h:HL}{ks:List CK2}{ls:TB}(a:br h (.b :: ks) ls):∃n r,ls = .b n :: r/\br h ks r:=by
 match ls,a with
 | .b n :: r,a=>exact⟨n,r,rfl,a⟩
def br.s{h:HL}{b:TE}{ks:List CK2}{ls:TB}(g:br h (.s b :: ks) ls):∃x r n a,ls = .v x :: r/\SlC h x b.length n a/\n<=maxLen/\(∀i,i<n->FitC b ((a.drop (i*b.length)).take b.length))/\br h ks r:=by
 match ls,g with
 | .v x :: r,⟨⟨n,a,c,d,e⟩,f⟩=>exact⟨x,r,n,a,rfl,c,d,e,f⟩
def br.nil{h:HL}{ls:TB}(a:br h [] ls):ls=[]:=by
 match ls,a with
 | [],_=>rfl
def ZI(a:List Ca):Nh (a.map λb=>HO.o b.1) 0 a:=λi b c=>by
 rw[BT,AX,c];rfl
def Nj(T:Tq)(a:List Ca):ka T (a.map λb=>HO.o b.1)=a.map (·.1):=by
 induction a with
 |nil=>rfl
 |cons b l c=>show Cb T (.o b.1) :: ka T (l.map λb=>HO.o b.1)=_;rw[c];rfl
end Sx
end Go.Am
namespace Go.Am
open Sx Go.Proofs
def X5(cs:Tk)(h:FitC [.i .u8,.i .u8,.i .u8] cs):∃a:Qx,pP a=cs/\EV a:=by
 obtain⟨d,e,f,rfl⟩ : ∃d e f,cs=[d,e,f]:=by
  have o:=FitC.len h
  match cs,o with
  | [d,e,f],_=>exact⟨d,e,f,rfl⟩
 obtain⟨⟨a,rfl,l⟩,⟨b,rfl,m⟩,⟨c,rfl,n⟩,_⟩:=h;have g:=El l;have j:=El m;have k:=El n;exact⟨(a,b,c),rfl,g.1,g.2,j.1,j.2,k.1,k.2⟩
structure BothC(ls:TB)(H:HL)(lx ix:Value)(e:Int)(h1:HL):Prop where
 c:aD cc ab 63 ls (ka aa H) [.v lx,.v ix,.i e] (ka aa h1)
 p:Pre H h1
 g1:aC lx=true
 g2:aC ix=true
section
variable {w v t a b e:Int} {x lx ix:Value} {H h1:HL} (hx:aC x=true) (hb:BothC [.i w,.i v,.v x,.i t,.i a,.i b] H lx ix e h1)
include hx hb
theorem LH:aD cc ab 24 [.i w,.i v,.v x,.i t,.i a,.i b] (ka aa H) [.v lx,.i e] (ka aa h1):=by
 exact xK x24 (km (km (oo hx (km (km (km ua)))))) (by
  unfold f24;simp only[xp]
  repeat (first|simp(disch:=omega)only[↓po]|refine ai hb.c ?_)
  trivial)
theorem rZ:aD cc ab 25 [.i w,.i v,.v x,.i t,.i a,.i b] (ka aa H) [.v ix,.i e] (ka aa h1):=by
 exact xK x25 (km (km (oo hx (km (km (km ua)))))) (by
  unfold f25;simp only[xp]
  repeat (first|simp(disch:=omega)only[↓po]|refine ai hb.c ?_)
  trivial)
end
def EE(n:Int):Tk:=[.int .i64 n]
def zq{l:Ln}(c:1<=l.1/\l.1<=4)(b:-100000<=l.2/\l.2<=100000):Cc 57 [.i (.ofNat l.1),.i l.2] (AB (Bm l)):=by
 obtain⟨k,n⟩:=l;simp only at c b;refine q57 rfl ?_;unfold YZ;simp only[xp];have a:k=1∨k=2∨k=3∨k=4:=by omega
 rcases a with rfl|rfl|rfl|rfl
 all_goals
  simp only[of0,of1,of2,of3,of4,of5,of6,of7]
  repeat (first|simp(disch:=omega)only[↓po])
  try simp[Bm,AB]
def Me{l:Ln}{c:Cl}(u:1<=l.1/\l.1<=4)(v:-100000<=l.2/\l.2<=100000)(j:c.2.2<4)(r:-100000<=c.1/\c.1<=100000/\-100000<=c.2.1/\c.2.1<=100000):Cc 58 ([.i (.ofNat l.1),.i l.2]++As c) [.i (if dh l c then 1 else 0)]:=by
 obtain⟨k,n⟩:=l;simp only at u v;have s:=qp j r;have w:-1000000<=(AH c).1/\(AH c).1<=1000000/\-1000000<=(AH c).2/\(AH c).2<=1000000:=by
  obtain⟨x,y,q⟩:=c;simp only at j r;rcases BR j with rfl|rfl|rfl|rfl<;>simp only[AH,VN,VO]<;>omega
 have b:∀d:Int,(match k with|1=>(AH c).1|2=>(AH c).2|3=>(AH c).1+(AH c).2|_=>(AH c).2 - (AH c).1)=d->(dh (k,n) c=true↔¬d<6*n):=by
  intro d t;subst t;obtain⟨x,y,q⟩:=c;simp only at j;have m:k=1∨k=2∨k=3∨k=4:=by omega
  rcases m with rfl|rfl|rfl|rfl<;>rcases BR j with rfl|rfl|rfl|rfl
  all_goals
   simp[dh,AH,VN,VO];omega
 refine q58 rfl ?_;unfold Y0;simp only[xp];simp only[As,AO,AG]at s ⊢;generalize AH c=p at *
 let L:TA:=[0,p.1,p.2,p.1+p.2,p.2 - p.1]
 have f:LsH [HO.o (.cells [.int .i64 0,.int .i64 p.1,.int .i64 p.2,.int .i64 (p.1+p.2),.int .i64 (p.2 - p.1)] 1 true)] (.slice (some ⟨([]:HL).length,0,qs 1⟩) 5 6) 1 EE L:=bW (enc:=EE) (e:=1) (L:=L) (λ_=>rfl) rfl rfl;have m:k=1∨k=2∨k=3∨k=4:=by omega
 rcases m with rfl|rfl|rfl|rfl
 all_goals
  have b:=b _ rfl;simp only at b;simp only[of0,of1,of2,of3,of4,of5,of6,of7]
  repeat (first|simp(disch:=omega)only[↓po]|refine ah s ?_)
 case' inl=>refine aP (i:=1) (a:=p.1) f rfl rfl ?_
 case' inr.inl=>refine aP (i:=2) (a:=p.2) f rfl rfl ?_
 case' inr.inr.inl=>refine aP (i:=3) (a:=p.1+p.2) f rfl rfl ?_
 case' inr.inr.inr=>refine aP (i:=4) (a:=p.2 - p.1) f rfl rfl ?_
 all_goals
  unfold EE;refine jn ?_;cases g:dh _ c with
  |true=>
   have:=b.1 g
   try rw[tx (by omega)]
   try simp(disch:=omega)only[↓po]
   try rfl
  |false=>
   have:¬ ¬_:=λh=>by rw[b.2 h]at g;cases g
   try rw[us (by omega)]
   try simp(disch:=omega)only[↓po]
   try rfl
def KB{a b:Int}:Cc 86 [.i a,.i b] [.i (max a b)]:=by
 refine q86 rfl ?_;unfold Ze;simp only[xp];refine jn ?_;by_cases h:b<a
 ·rw[Au h];refine jn ?_;rw[show max a b=a by omega]
 ·rw[Ag (by omega)];refine jn ?_;rw[show max a b=b by omega]
def Uw{c:Cl}{e:Nat}(a:c.2.2<4)(f:e<3)(d:-100000<=c.1/\c.1<=100000/\-100000<=c.2.1/\c.2.1<=100000):Cc 34 (As c++As (AP c e)) (AB (Bm (uc c e))):=by
 obtain⟨x,y,q⟩:=c;simp only at a d;have b:e=0∨e=1∨e=2:=by omega
 refine q34 rfl ?_;unfold YV;simp only[xp];rcases BR a with rfl|rfl|rfl|rfl<;>rcases b with rfl|rfl|rfl
 all_goals
  simp only[AP,As,AO,AG,show [1,0,3,2].getD 0 0=1 from rfl,show [1,0,3,2].getD 1 0=0 from rfl,show [1,0,3,2].getD 2 0=3 from rfl,show [1,0,3,2].getD 3 0=2 from rfl,show [3,2,1,0].getD 0 0=3 from rfl,show [3,2,1,0].getD 1 0=2 from rfl,show [3,2,1,0].getD 2 0=1 from rfl,show [3,2,1,0].getD 3 0=0 from rfl,of0,of1,of2,of3]
  repeat (first|simp(disch:=omega)only[↓po]|refine ah KB ?_)
  try (simp[Bm,uc,AB];done)
  try (simp[Bm,uc,AB];omega)
def GY{c:Cl}{e:Nat}(a:c.2.2<4)(h:e<3)(d:-100000<=c.1/\c.1<=100000/\-100000<=c.2.1/\c.2.1<=100000):Cc 97 (As c++As (AP c e)) [.i (.ofNat (uc c e).1),.i (uc c e).2]:=by
 have b:=Uw a h d;refine q97 rfl ?_;unfold Zi;simp only[xp];simp only[As,AO,AG]at b ⊢;have f:((uc c e).1=1∨(uc c e).1=2∨(uc c e).1=3∨(uc c e).1=4)/\-300000<=(uc c e).2/\(uc c e).2<=300000:=by
  obtain⟨x,y,q⟩:=c;simp only at a d;have g:e=0∨e=1∨e=2:=by omega
  rcases BR a with rfl|rfl|rfl|rfl<;>rcases g with rfl|rfl|rfl<;>simp[uc]<;>omega
 generalize uc c e=l at *;obtain⟨k,n⟩:=l;simp only at f;obtain⟨rfl|rfl|rfl|rfl,j,m⟩:=f
 all_goals
  simp only[Bm,AB,of4,of5,of6,of7]at b
  repeat (first|simp(disch:=omega)only[↓po]|refine ah b ?_)
  try (show [Lf.i 1,Lf.i _]=[Lf.i 1,Lf.i _];rw[show 2*n / 2=n by omega])
  try (show [Lf.i 2,Lf.i _]=[Lf.i 2,Lf.i _];rw[show 2*n / 2=n by omega])
  try rfl
abbrev IE:=Nat×Nat×Ln
def JJ(p:IE):Tk:=[.int .i64 (Int.ofNat p.1),.int .i64 (Int.ofNat p.2.1),.int .u8 (Int.ofNat p.2.2.1),.int .i64 p.2.2.2]
def BO(w v:Nat)(l:Ty)(G:TC)(r:Mv)(a k:Nat):Option IE:=match Aj w v a (eK (a%4) k)with
 |some b=>if a<b/\CV w v l a k=0 then some (a,b,uc (am (af (G a) r) (sd w a)) (eT (af (G a) r).1 (eK (a%4) k)))else none
 |none=>none
def LA(w v:Nat)(l:Ty)(G:TC)(r:Mv)(a:Nat):List IE:=(List.range 3).filterMap (BO w v l G r a)
def A2(w v:Nat)(l:Ty)(G:TC)(r:Mv)(n:Nat):List IE:=(List.range n).flatMap (LA w v l G r)
def uO{w v:Nat}{l:Ty}{G:TC}{r:Mv}{n:Nat}:A2 w v l G r (n+1)=A2 w v l G r n++LA w v l G r n:=by
 unfold A2;rw[Vd,M4];simp
def xY{w v:Nat}{l:Ty}{G:TC}{r:Mv}{a k:Nat}:((List.range k).filterMap (BO w v l G r a)).length<=k:=Es (qch _ _) (by simp)
def kj{w v:Nat}{l:Ty}{G:TC}{r:Mv}:∀ {n:Nat},(A2 w v l G r n).length<=3*n
 |0=>by simp[A2]
 |n+1=>by
  rw[uO,Bv];have a:=kj (w:=w) (v:=v) (l:=l) (G:=G) (r:=r) (n:=n);have b:(LA w v l G r n).length<=3:=xY;omega
def jK{α:Type}{f:Nat->Option α}{k:Nat}:(List.range (k+1)).filterMap f=(List.range k).filterMap f++(f k).toList:=by
 rw[Vd,qde];cases h:f k<;>simp[h]
def xZ{w v:Nat}(L:S3 w v){l:Ty}{H:HL}{x xs:Value}(hl:LsH H x 3 Ac l)(ay:aC xs=true)(hv:∀c∈l,VC w v c)(W:∀c∈l,c.2.2≠0)(hn:l.length<=1000){r:Mv}(hr:AK 10000 r){G:TC}(V:ConsO w v l G) :
  ∃z h',aD cc ab 56 ([.i (.ofNat w),.i (.ofNat v),.v x]++AB r++[.v xs]) (ka aa H) [.v z] (ka aa h')/\Pre H h'/\aC z=true/\LsH h' z 4 JJ (A2 w v l G r (4*w*v)):=by
 have Y:=L.sh;obtain⟨b1,b2,b3,b4⟩:=L.n;have hN:=Bw Y;obtain⟨a8,h1,c1,a3,N⟩:=lF L hl hv W hn (r:=r) (aN hr (by omega));have a4:=x56 (ls:=[.i (.ofNat w),.i (.ofNat v),.v x,.i (Int.ofNat r.1),.i r.2.1,.i r.2.2,.v xs]) (K:=λrs h'=>∃z,rs=[.v z]/\Pre H h'/\aC z=true/\LsH h' z 4 JJ (A2 w v l G r (4*w*v))) (H:=H) (km (km (oo hl.good (km (km (km (oo ay ua))))))) (by
  unfold f56;simp only[xp];refine jn ?_;refine ai c1 ?_;rcases a3 with⟨rfl,M⟩|⟨G',T,ad,rfl,B,rfl⟩
  ·exact absurd ⟨G,V.g,V.z⟩ M
  refine jn ?_;have ag:Bt w v G' r=Bt w v G r:=by
   unfold Bt;refine Ea λc hc=>?_;rw[qP Y ad V (qad.1 hc)]
  have a0:LsH (o3 H (Bt w v G r) B T) (.slice (some ⟨H.length,0,qs 3⟩) (4*w*v) (4*w*v+1)) 3 ub (Bt w v G r):=bW bR Le (by simp[Bt]);rw[ag]at N ⊢;have c3:=pF L (hl.pre N) hv hn;refine ai c3 ?_;refine jn ?_;generalize o3 H (Bt w v G r) B T=J at *;have aE:LsH (J++[Bk (Az w v l)]) (.slice (some ⟨J.length,0,qs 1⟩) (12*w*v) (12*w*v+1)) 1 CE (Az w v l):=bW jH az gC.symm;have X:Pre J (J++[Bk (Az w v l)]):=⟨_,rfl⟩;have A:=a0.pre X;have a2:=N.trans X;generalize J++[Bk (Az w v l)]=I at *;refine aO (σ:=HL×Value) (4*w*v) (λj s=>[.v s.2,.i (Int.ofNat j)]) (λ_ s=>s.1) (λj s=>Pre I s.1/\aC s.2=true/\MkL I.length s.1 s.2 4 JJ (A2 w v l G r j)) (j0:=0) (s0:=(I,.slice none 0 0)) rfl rfl (AF _) ⟨.refl _,rfl,.nil _ _ _ _⟩ ?_;rintro a ⟨h,z⟩ ha ⟨f,p,C⟩ a6 O;simp only at f p C ⊢;refine jn ?_;refine bz (A.pre f) ?_;rw[show(Bt w v G r).length=4*w*v by simp[Bt]];by_cases o:a<4*w*v
  case neg=>
   obtain rfl:a=4*w*v:=by omega
   rw[ao (Ah _)];refine jn ?_;exact⟨z,rfl,a2.trans f,p,C.ls⟩
  rw[au o];refine jn ?_;refine aO (σ:=HL×Value) 3 (λk s=>[.v s.2,.i (Int.ofNat k)]) (λ_ s=>s.1) (λk s=>Pre I s.1/\aC s.2=true/\MkL I.length s.1 s.2 4 JJ (A2 w v l G r a++(List.range k).filterMap (BO w v l G r a))) (j0:=0) (s0:=(h,z)) rfl rfl (AF _) ⟨f,p,by simpa using C⟩ ?_;clear f p C;rintro k ⟨h,z⟩ hk ⟨f,p,C⟩ R t;simp only at f p C ⊢;refine jn ?_;by_cases D:k<3
  case neg=>
   obtain rfl:k=3:=by omega
   rw[tx (show(3:Int)<=Int.ofNat 3 from Gn _)];refine jn ?_;rw[aI (by omega)];exact O (h,z) o ⟨f,p,by rw[uO];exact C⟩
  rw[us (show Int.ofNat k<3 by show(k:Int)<3;omega)];refine jn ?_;refine ah (uH L o D) ?_;have q:BO w v l G r a k=none->R [.v z,.i (Int.ofNat k+1)] h:=λM=>t (h,z) D ⟨f,p,by rw[jK,M];simpa using C⟩;have E:=fy (a%4) k;cases F:Aj w v a (eK (a%4) k)with
  |none=>
   rw[show Dc w v a k = -1 by unfold Dc;rw[F]];refine jn ?_;rw[us (show(-1:Int)<Int.ofNat a by have:=B8 a;show(-1:Int)<(a:Int);omega)];refine jn ?_;rw[aI (by omega)];exact q (by unfold BO;rw[F])
  |some b=>
  rw[show Dc w v a k=Int.ofNat b by unfold Dc;rw[F]];obtain⟨U,g2,g3,g4,g5⟩:=dJ Y o E F;refine jn ?_;by_cases ar:b<a
  ·rw[au ar];refine jn ?_;rw[aI (by omega)];exact q (by unfold BO;rw[F];simp only;rw[ra (by omega)])
  rw[ao (by omega)];refine jn ?_;rw[D1 (by omega)];refine pu ?_;rw[tG (by omega)];refine pu ?_;refine aP (aE.pre f) rfl (kJ o D) ?_;rw[show CE (CV w v l a k)=[.int .u8 (CV w v l a k)]from rfl];refine jn ?_;by_cases u:CV w v l a k=0
  case neg=>
   rw[AQ u];refine jn ?_;rw[aI (by omega)];exact q (by unfold BO;rw[F];simp only;rw[ra (by omega)])
  rw[AJ u];refine jn ?_;have ax:Bb l (min a b) (eK (a%4) k)=false:=by
   rw[←CO,←ma W];intro h;refine h ?_;unfold CV at u;rw[F]at u;exact u
  have an:G b=G a:=by
   rw[V.g a _ b o E F];unfold B4;rw[ra (by rw[ax];simp)]
  have y:AK 20000 (af (G a) r):=aN (dp (V.ok a o) hr) (by omega);have S:=di Y o;have rb:=di Y U;have pa:=iD (G:=G) (r:=r) o;have pb:=iD (G:=G) (r:=r) U;rw[an]at pb;have P:BO w v l G r a k=some (a,b,uc (am (af (G a) r) (sd w a)) (eT (af (G a) r).1 (eK (a%4) k))):=by
   unfold BO;rw[F];simp only;rw[mc ⟨by omega,u⟩]
  generalize af (G a) r=m at *;have rm:=uG y (c:=sd w a) (k:=1000) ⟨S.1,S.2.1,S.2.2.1,S.2.2.2.1⟩;have Z:=jQ (m:=m) (c:=sd w a) y.1 (by obtain⟨_,U,g2,g3,g4,_⟩:=y;omega) S.2.2.2.2 (by omega);have Q:=jQ (m:=m) (c:=sd w b) y.1 (by obtain⟨_,U,g2,g3,g4,_⟩:=y;omega) rb.2.2.2.2 (by omega);rw[g4,gk y.1 S.2.2.2.2 E]at Q;have bt:=GY (c:=am m (sd w a)) (e:=eT m.1 (eK (a%4) k)) rm.2.2.2.2 (kR E) (by omega);have k1:=iK L o;have k2:=iK L U;rw[g4]at k2;generalize AP (am m (sd w a)) (eT m.1 (eK (a%4) k))=d at *;generalize uc (am m (sd w a)) (eT m.1 (eK (a%4) k))=ln at *;simp only[As,AB,AO,AG]at k1 k2 Z Q bt;refine aP (A.pre f) rfl pa ?_;rw[show ub m=[.int .u8 (Int.ofNat m.1),.int .i64 m.2.1,.int .i64 m.2.2]from rfl];refine jn ?_;refine ah k1 ?_;refine jn ?_;refine ah Z ?_;refine jn ?_;refine aP (A.pre f) rfl pb ?_;rw[show ub m=[.int .u8 (Int.ofNat m.1),.int .i64 m.2.1,.int .i64 m.2.2]from rfl];refine jn ?_;refine ah k2 ?_;refine jn ?_;refine ah Q ?_;refine jn ?_;refine ah bt ?_;refine jn ?_;have a7:=kj (w:=w) (v:=v) (l:=l) (G:=G) (r:=r) (n:=a);have a5:=xY (w:=w) (v:=v) (l:=l) (G:=G) (r:=r) (a:=a) (k:=k)
  refine xS (h0:=I) (a:=((a,b,ln):IE)) f C rfl rfl rfl rfl (by
   unfold bb;rw[Bv,Bg (by omega),Bg (by omega)];rfl) ?_
  intro z' h' a1 ap hg _ _;refine jn ?_;refine ac hg ?_;refine pu ?_;rw[aI (by omega)];exact t (h',z') D ⟨a1,hg,by rw[jK,P,←A6];exact ap⟩)
 obtain⟨rs,h',J,z,rfl,I,h5,h6⟩:=a4;exact⟨z,h',J,I,h5,h6⟩
def Di(l:Ln)(s:Bool)(g:Mv)(c:Cl):Mv:=if dh l (am g c)=s then af g (Bm l)else g
def J5{l:Ln}{s:Bool}{g:Mv}{c:Cl}(hg:g.1<8):(Di l s g c).1<8:=by
 unfold Di;split
 ·exact fk
 ·exact hg
def GC{c:Cl}{e:Nat}(a:c.2.2<4)(d:e<3):dh (uc c e) c≠dh (uc c e) (AP c e):=by
 obtain⟨x,y,q⟩:=c;simp only at a;have b:e=0∨e=1∨e=2:=by omega
 rcases BR a with rfl|rfl|rfl|rfl<;>rcases b with rfl|rfl|rfl
 all_goals
  intro h;simp[dh,AP,uc]at h
  try omega
def FY{c:Cl}{e:Nat}(a:c.2.2<4)(d:e<3):1<=(uc c e).1/\(uc c e).1<=4:=by
 obtain⟨x,y,q⟩:=c;simp only at a;have b:e=0∨e=1∨e=2:=by omega
 rcases BR a with rfl|rfl|rfl|rfl<;>rcases b with rfl|rfl|rfl<;>simp[uc]
def OV{m:Mv}(h:m.1<8):af (Cn m) m=AZ:=by
 obtain⟨t,x,y⟩:=m;have h:t<8:=h;unfold af Cn AZ;rcases t8 h with rfl|rfl|rfl|rfl|rfl|rfl|rfl|rfl<;>simp[A4,mA,mB,mC,mD,C9]<;>omega
def zr{a b:Mv}{c:Cl}(d:a.1<8)(e:b.1<8)(f:c.2.2<4):am (af a b) c=am b (am a c):=by
 obtain⟨s,h,i⟩:=a;obtain⟨t,j,g⟩:=b;obtain⟨x,y,q⟩:=c;simp only at d e f;rcases t8 d with rfl|rfl|rfl|rfl|rfl|rfl|rfl|rfl<;>rcases t8 e with rfl|rfl|rfl|rfl|rfl|rfl|rfl|rfl
 all_goals rcases BR f with rfl|rfl|rfl|rfl
 all_goals simp[am,qT,mA,mB,mC,mD,af,A4]
 all_goals first|done|omega|(constructor<;>omega)
def MY(w:Nat)(l:Ln)(s:Bool)(G:TC)(r:Mv)(c:Nat):Mv:=af (Di l s (af (G c) r) (sd w c)) (Cn (Di l s (af (G 0) r) (sd w 0)))
def J4{w:Nat}{l:Ln}{s:Bool}{G:TC}{r:Mv}(c:Nat):af (MY w l s G r c) (Di l s (af (G 0) r) (sd w 0))=Di l s (af (G c) r) (sd w c):=by
 have a:∀c,(Di l s (af (G c) r) (sd w c)).1<8:=λc=>J5 fk;have b:(Cn (Di l s (af (G 0) r) (sd w 0))).1<8:=by
  have:=a 0;generalize Di l s (af (G 0) r) (sd w 0)=m at *;unfold Cn;simp only;rcases t8 this with h|h|h|h|h|h|h|h<;>rw[h]<;>simp[C9]
 unfold MY;rw[cv (a c) b (a 0),OV (a 0),ny (a c)]
def HC{w v:Nat}(P:Sh w v){l l':Ty}{G:TC}(hG:nC w v l G)(S:∀c,c<4*w*v->(G c).1<8){r:Mv}(hr:r.1<8){ln:Ln}(K:1<=ln.1/\ln.1<=4){s:Bool}
  (I:∀u e n,u<4*w*v->e<3->Aj w v u e=some n->u<n->(Bb l' u e=true↔(Bb l u e=true∨(Bb l u e=false/\uc (am (af (G u) r) (sd w u)) (eT (af (G u) r).1 e)=ln)))) :
  nC w v l' (MY w ln s G r)/\MY w ln s G r 0=AZ:=by
 have Q:∀c,(Di ln s (af (G c) r) (sd w c)).1<8:=λc=>J5 fk;refine⟨λc e n F i Y=>?_,Ks (Q 0)⟩;obtain⟨C,N,J,z,ap⟩:=dJ P F i Y;have x:(sd w c).2.2<4:=(di P F).2.2.2.2;have an:(sd w n).2.2<4:=(di P C).2.2.2.2;have L:∀g,B4 w l g c n e=if Bb l (min c n) e=true then af (Bm (uc (sd w c) e)) g else g:=λg=>by
  unfold B4;rcases V0 c n with h|h
  ·rw[CL h]
  ·rw[R3 h,←J]
 have B:∀g,B4 w l' g c n e=if Bb l' (min c n) e=true then af (Bm (uc (sd w c) e)) g else g:=λg=>by
  unfold B4;rcases V0 c n with h|h
  ·rw[CL h]
  ·rw[R3 h,←J]
 have k:=hG c e n F i Y;rw[L]at k;rw[B];generalize O:Bm (uc (sd w c) e)=M at *;have j:M.1<8:=by rw[←O];exact uM _
 have T:af M M=AZ:=by rw[←O];exact H3 _
 have ad:(Bm ln).1<8:=uM _;have R:=S c F;have d:(af (G c) r).1<8:=fk;have hi:(Cn (Di ln s (af (G 0) r) (sd w 0))).1<8:=by
  have:=Q 0;generalize Di ln s (af (G 0) r) (sd w 0)=m at *;unfold Cn;simp only;rcases t8 this with h|h|h|h|h|h|h|h<;>rw[h]<;>simp[C9]
 have o:Bb l' (min c n) e=true↔(Bb l (min c n) e=true∨(Bb l (min c n) e=false/\uc (am (af (G (min c n)) r) (sd w (min c n))) (eT (af (G (min c n)) r).1 e)=ln)):=by
  rcases Bu c n with h|h
  ·rw[CL (by omega)];exact I c e n F i Y h
  ·rw[R3 h];exact I n e c C i N (by omega)
 have y:∀X:Mv,X.1<8->(Di ln s (af (G n) r) (sd w n)=af M (Di ln s (af (G c) r) (sd w c)))->MY w ln s G r n=af M (MY w ln s G r c):=λ_ _ h=>by
  unfold MY;rw[h,cv j (Q c) hi]
 by_cases q:Bb l (min c n) e=true
 ·rw[mc (o.2 (.inl q))];rw[mc q]at k;refine y M j ?_;have hp:af (G n) r=af M (af (G c) r):=by rw[k,cv j R hr]
  have V:am (af (G n) r) (sd w n)=am (af (G c) r) (sd w c):=by
   rw[hp,z,←O];exact gj d x i
  unfold Di;rw[V];split
  ·rw[hp,cv j d ad]
  ·exact hp
 ·rw[ra q]at k;have H:Bb l (min c n) e=false:=qcx.2 q;have W:G (min c n)=G c:=by
   rcases V0 c n with h|h
   ·rw[CL h]
   ·rw[R3 h,k]
  have E:uc (am (af (G (min c n)) r) (sd w (min c n))) (eT (af (G (min c n)) r).1 e)=uc (am (af (G c) r) (sd w c)) (eT (af (G c) r).1 e):=by
   rw[W];rcases V0 c n with h|h
   ·rw[CL h]
   ·rw[R3 h];have ag:=wl (FY (c:=am (af (G c) r) (sd w n)) gL (kR (t:=(af (G c) r).1) i)) (c:=am (af (G c) r) (sd w c)) gL (kR (t:=(af (G c) r).1) i) ?_
    ·exact ag
    ·have hb:sd w c=AP (sd w n) e:=(dJ P C i N).2.2.2.1;have h1:=GC (c:=am (af (G c) r) (sd w n)) (e:=eT (af (G c) r).1 e) gL (kR i);rw[←gk d x i,←z];rw[←gk d an i,←hb]at h1;exact B9 h1
  rw[E]at o;by_cases f:uc (am (af (G c) r) (sd w c)) (eT (af (G c) r).1 e)=ln
  ·rw[mc (o.2 (.inr ⟨H,f⟩))];refine y M j ?_;have p:=GC (c:=am (af (G c) r) (sd w c)) (e:=eT (af (G c) r).1 e) gL (kR i);rw[f,←gk d x i]at p;have D:=H9 d K x i p;rw[O]at D;rw[←z]at p;unfold Di;rw[k];generalize dh ln (am (af (G c) r) (sd w c))=a at *;generalize dh ln (am (af (G c) r) (sd w n))=b at *;have A:af M (af M (af (G c) r))=af (G c) r:=by rw[←cv j j d,T,jP d]
   by_cases U:a=s
   ·rw[mc U,ra (λh=>p (U.trans h.symm)),D,A]
   ·rw[ra U,mc (by cases a<;>cases b<;>cases s<;>simp_all),D]
  ·have Z:¬Bb l' (min c n) e=true:=λh=>by
    rcases o.1 h with h|h
    ·exact q h
    ·exact f h.2
   rw[ra Z];have p:dh ln (am (af (G c) r) (sd w c))=dh ln (am (af (G c) r) (sd w n)):=by
    by_cases h:dh ln (am (af (G c) r) (sd w c))=dh ln (am (af (G c) r) (sd w n))
    ·exact h
    ·rw[z,gk d x i]at h;exact absurd (wl K gL (kR i) h).symm f
   unfold MY
   congr 1
   unfold Di;rw[k,p]
def StL.at{h:HL}{x:Value}{w v:Nat}(k:StL h x (mz w v)):∃M:List DJ,LsH h x 4 AA M/\M.length=4*w*v/\∀i,i<4*w*v->∃y,M[i]?=some (sd w i,y)/\LsH h y 1 kl [i]:=by
 obtain⟨M,f,b,g⟩:=k;rw[show(mz w v).length=4*w*v by simp[mz]]at b;refine⟨M,f,b,λi j=>?_⟩;obtain⟨⟨c,y⟩,d⟩:=aG (l:=M) (i:=i) (by omega);obtain⟨l,a,e⟩:=g i _ d;rw[HA j]at a;cases a;exact⟨y,d,e⟩
def ofnn(n:Nat):(0:Int)<=Int.ofNat n:=B8 n
def UQ{a b:Nat}(h:a<b):Int.ofNat a<Int.ofNat b:=qbh.2 h
def Ho{a b:Cl}{K:Tm}:P1.eqs [(.i a.1,.i b.1),(.i a.2.1,.i b.2.1),(.i (Int.ofNat a.2.2),.i (Int.ofNat b.2.2))] (@hid _ ⟨K⟩)=K (decide (a=b)):=by
 show K (cp _)=_;have e:cp [(.i a.1,.i b.1),(.i a.2.1,.i b.2.1),(.i (Int.ofNat a.2.2),.i (Int.ofNat b.2.2))]=decide (a=b):=by
  rw[IK];simp[cp,gJ,qdF];intro _ _;omega
 rw[e]
def K2{c:Cl}(a:c.2.2<4):am AZ c=c:=by
 obtain⟨x,y,q⟩:=c;simp only at a;rcases BR a with rfl|rfl|rfl|rfl<;>simp[am,AZ,mA,mB,mC,mD,qT]
def zu{c:Cl}{e:Nat}(a:c.2.2<4)(d:e<3):(AP c e).2.2<4/\c.1 - 1<=(AP c e).1/\(AP c e).1<=c.1+1/\c.2.1 - 1<=(AP c e).2.1/\(AP c e).2.1<=c.2.1+1:=by
 obtain⟨x,y,q⟩:=c;simp only at a;have b:e=0∨e=1∨e=2:=by omega
 rcases BR a with rfl|rfl|rfl|rfl<;>rcases b with rfl|rfl|rfl<;>simp[AP]<;>omega
def dst(w c:Nat):Nat:=3*(c / 4%w+c / 4 / w)+[0,1,2,1].getD (c%4) 0 - (if c%4=3/\c / 4 / w=0/\c / 4%w≠0 then 2 else 0)
def IA(w v c:Nat):Bool:=Nat.ble (dst w c) 14&&(Nat.beq c 0||(List.range 3).any λe=>match Aj w v c e with
 |some n=>Nat.beq (dst w n+1) (dst w c)
 |none=>false)
def Nl:∀w v:Nat,1<=w->w<=3->1<=v->v<=3->((List.range (4*w*v)).all λc=>IA w v c)=true:=by
 have a:((List.range 3).all λw=>(List.range 3).all λv=>(List.range (4*(w+1)*(v+1))).all λc=>IA (w+1) (v+1) c)=true:=by decide +kernel
 intro w v e f g h;have d:=qac.1 a (w - 1) (qad.2 (by omega));have b:=qac.1 d (v - 1) (qad.2 (by omega));rw[show w - 1+1=w by omega,show v - 1+1=v by omega]at b;exact b
def vW(d:Int)(a b:Cl):Prop:=a.1 - d<=b.1/\b.1<=a.1+d/\a.2.1 - d<=b.2.1/\b.2.1<=a.2.1+d
def Ue{w v:Nat}(q:Sh w v){l:Ty}{G:TC}(o:ConsO w v l G){r:Mv}(y:r.1<8){c e n:Nat}(k:c<4*w*v)(i:e<3)(p:Aj w v c e=some n) :
  vW 1 (am (af (G c) r) (sd w c)) (am (af (G n) r) (sd w n)):=by
 obtain⟨t,u,m,d,x⟩:=dJ q k i p;have j:(sd w c).2.2<4:=(di q k).2.2.2.2;have b:(af (G c) r).1<8:=fk;have a:=o.g c e n k i p;unfold B4 at a;by_cases f:Bb l (min c n) e=true
 ·rw[mc f]at a;have s:uc (sd w (min c n)) e=uc (sd w c) e:=by
   rcases V0 c n with h|h
   ·rw[CL h]
   ·rw[R3 h,←m]
  rw[s]at a;have:am (af (G n) r) (sd w n)=am (af (G c) r) (sd w c):=by
   rw[a,d,cv (uM _) (o.ok c k).1 y];exact gj b j i
  rw[this];unfold vW;omega
 ·rw[ra f]at a;rw[a,d,gk b j i];have:=zu (c:=am (af (G c) r) (sd w c)) (e:=eT (af (G c) r).1 e) gL (kR i);unfold vW;omega
def Kp{w v:Nat}(b:S3 w v){l:Ty}{G:TC}(q:ConsO w v l G){r:Mv}(s:r.1<8):∀(d c:Nat),c<4*w*v->dst w c=d->vW (Int.ofNat d) (am (af (G 0) r) (sd w 0)) (am (af (G c) r) (sd w c)):=by
 have m:=b.sh;intro d
 induction d using Nat.strongRecOn with
 |_ d t=>
  intro c k z;have i:=qac.1 (Nl w v b.1 b.2.1 b.2.2.1 b.2.2.2) c (qad.2 k);unfold IA at i;rw[wa,Cz]at i;rcases i.2 with o|p
  ·obtain rfl:=AW o;unfold vW;have:(0:Int)<=Int.ofNat d:=B8 d;omega
  ·obtain⟨e,g,a⟩:=qcn.1 p;have g:=qad.1 g;cases j:Aj w v c e with
   |none=>rw[j]at a;cases a
   |some n=>
    rw[j]at a;have a:=AW a;obtain⟨f,h,_⟩:=dJ m k g j;have u:=t (dst w n) (by omega) n f rfl;have x:=Ue m q s f g h;have y:Int.ofNat d=Int.ofNat (dst w n)+1:=by
     show(d:Int)=(dst w n:Int)+1;omega
    unfold vW at *;omega
def sa{w v:Nat}(a:S3 w v){l:Ty}{G:TC}(e:ConsO w v l G){r:Mv}{k:Int}(b:AK k r){c:Nat}(f:c<4*w*v) :
  -(k+15)<=(am (af (G c) r) (sd w c)).1/\(am (af (G c) r) (sd w c)).1<=k+15/\-(k+15)<=(am (af (G c) r) (sd w c)).2.1/\(am (af (G c) r) (sd w c)).2.1<=k+15:=by
 have d:=qac.1 (Nl w v a.1 a.2.1 a.2.2.1 a.2.2.2) c (qad.2 f);unfold IA at d;rw[wa]at d;have j:=qdh d.1;have g:=Kp a e b.1 _ c f rfl;have i:-(k+1)<=(am (af (G 0) r) (sd w 0)).1/\(am (af (G 0) r) (sd w 0)).1<=k/\-(k+1)<=(am (af (G 0) r) (sd w 0)).2.1/\(am (af (G 0) r) (sd w 0)).2.1<=k:=by
  rw[e.z,jP b.1,show sd w 0=(0,0,0)by simp[sd]];obtain⟨t,x,y⟩:=r;unfold AK at b;simp only at b;simp only[am,Int.mul_zero,Int.zero_add]
  repeat' split
  all_goals omega
 have h:Int.ofNat (dst w c)<=14:=by show(dst w c:Int)<=14;omega
 unfold vW at g;omega
def KH{c:Cl}{e:Nat}{n:Int}(a:c.2.2<4)(f:e<3)(d:-n<=c.1/\c.1<=n/\-n<=c.2.1/\c.2.1<=n):AK (2*n+2) (Bm (uc c e))/\-(2*n+2)<=(uc c e).2/\(uc c e).2<=2*n+2:=by
 obtain⟨x,y,q⟩:=c;simp only at a d;have b:e=0∨e=1∨e=2:=by omega
 rcases BR a with rfl|rfl|rfl|rfl<;>rcases b with rfl|rfl|rfl
 all_goals
  simp[uc,Bm,AK];omega
def Gp{α:Type}{e kb:Nat}{enc:α->Tk}{h:HL}{x:Value}{new:List α}{m:Nat}{K:Ta}(hg:h[m]?=some (.o (.cells [] e true)))(i:LsH h x e enc new)(j:0<new.length)(f:new.length*kb<=140737488355328)(c:new.length<=140737488355328)
  (g:K [.slice (some ⟨h.length,0,qs e⟩) new.length 0] (h++[.o (.cells (new.flatMap enc) e true)])) :
  P1.heap (.ap cc e kb (.slice (some ⟨m,0,qs e⟩) 0 1) x) h (@hid _ ⟨K⟩):=by
 have d:bb (0+new.length) kb=true:=by
  rw[BT];unfold bb;rw[Bg c,Bg f];rfl
 have a:cut ([]:Tk) 0 (0*e)=some []:=Sx.cut_all (by simp);have b:Cd cc e kb (.slice (some ⟨m,0,qs e⟩) 0 1) x (zz aa h) h.length=some ([.push (.cells ([]++new.flatMap enc) e true)],[.slice (some ⟨h.length,0,qs e⟩) (0+new.length) 0]):=by
  unfold Cd;rw[qS i.2];simp only[ne_eq,not_true_eq_false,if_false];rw[bD hg];simp only[ne_eq,not_true_eq_false,if_false];rw[a];simp only;rw[ra (by omega),mc d]
 refine ce (show(Hp.ap cc e kb (.slice (some ⟨m,0,qs e⟩) 0 1) x).run _ _=_ from b) ?_;rw[BT];exact g
def Bc(a b:Cl):Bool:=decide (b.2.1<a.2.1∨(a.2.1=b.2.1/\(b.1<a.1∨(a.1=b.1/\b.2.2<a.2.2))))
def GU{a b:Cl}:Cc 98 (As a++As b) [.i (if Bc a b then 1 else 0)]:=by
 obtain⟨x,y,q⟩:=a;obtain⟨d,e,c⟩:=b;refine q98 rfl ?_;unfold Zj;simp only[xp];simp only[As,AO,AG];refine jn ?_;have m:(Int.ofNat c<Int.ofNat q)↔c<q:=qbh;by_cases k:e<y
 ·rw[Au k];refine jn ?_;rw[show Bc (x,y,q) (d,e,c)=true from BJ (.inl k)];rfl
 rw[Ag (by omega)];refine jn ?_;by_cases f:y=e
 case neg=>
  rw[Ai f];refine jn ?_;rw[show Bc (x,y,q) (d,e,c)=false from Ch (by simp only;omega)];rfl
 rw[Aq f];refine jn ?_;by_cases l:d<x
 ·rw[Au l];refine jn ?_;rw[show Bc (x,y,q) (d,e,c)=true from BJ (.inr ⟨f,.inl l⟩)];rfl
 rw[Ag (by omega)];refine jn ?_;by_cases g:x=d
 case neg=>
  rw[Ai g];refine jn ?_;rw[show Bc (x,y,q) (d,e,c)=false from Ch (by simp only;omega)];rfl
 rw[Aq g];refine jn ?_;by_cases j:c<q
 ·rw[Au (m.2 j)];refine jn ?_;rw[show Bc (x,y,q) (d,e,c)=true from BJ (.inr ⟨f,.inr ⟨g,j⟩⟩)];rfl
 ·rw[Ag (by have:=λh=>j (m.1 h);omega)];refine jn ?_;rw[show Bc (x,y,q) (d,e,c)=false from Ch (by simp only;omega)];rfl
end Go.Am
end

/-
  PART 5 OF THE PROOF (no conditions).
-/
import Derived.Test.YtiimabnndpeioaaGreatDoorSO4
import Derived.Calls
import Derived.LaidMore
import Derived.MakeChecks
import Derived.OpenShut
import Derived.ProofKit
import Derived.Stop.Joined
import Derived.Test.YtiimabnndpeioaaGreatDoorRows
import GoSem.ClaimJoined
set_option linter.unusedSectionVars false
set_option linter.unusedSimpArgs false
set_option linter.unusedVariables false
set_option linter.constructorNameAsVariable false
set_option linter.defProp false
noncomputable section
set_option maxRecDepth 100000
namespace Go.Am
def LK.plain:LK->Bool
 | .v=>false
 |_=>true
def SK.plain:SK->Bool
 | .leaf k=>k.plain
 | .agg ks=>ks.all LK.plain
def Sig.plain(s:Sig):Bool:=s.ps.all SK.plain&&s.rs.all SK.plain
namespace Sx
section
variable [Val] [Kno]
variable {w:TB}
def vP(k:TF)(c:Int)(K:Int->RT):DP k c K=K (k.wrap c):=by
 unfold DP;cases e:Hi k c with
 |true=>rw[tR e]
 |false=>exact jD _ _
def K0(c:Int)(K:Int->RT):Rc c K=K (IntKind.wrap .i64 c):=by
 refine Eq.trans ?_ (vP .i64 c K);cases c<;>rfl
def K1(c:Int)(K:Int->RT):Rd c K=K (IntKind.wrap .u8 c):=by
 refine Eq.trans ?_ (vP .u8 c K);cases c<;>rfl
def oA(k:TF)(c:Int)(K:Int->RT):C0 k c K=K (k.wrap c):=by
 cases k<;>first|exact vP _ _ _|exact K0 _ _|exact K1 _ _
def MY(a b:Int)(K:Int->RT):RQ a b K=K (a+b):=by
 unfold RQ;cases a with
 |ofNat m=>
  cases b with
  |ofNat n=>exact congrArg K rfl
  |negSucc n=>
   simp only[fJ];cases e:Nat.blt n m with
   |true=>rw[BH]at e;exact congrArg K (show Int.ofNat (m - (n+1))=Int.ofNat m+Int.negSucc n by simp only[D8,HW];omega)
   |false=>
    have e:¬n<m:=λh=>by rw[←BH,e]at h;cases h
    exact congrArg K (show Int.negSucc (n - m)=Int.ofNat m+Int.negSucc n by simp only[D8,HW];omega)
 |negSucc m=>
  cases b with
  |ofNat n=>
   simp only[fJ];cases e:Nat.blt m n with
   |true=>rw[BH]at e;exact congrArg K (show Int.ofNat (n - (m+1))=Int.negSucc m+Int.ofNat n by simp only[D8,HW];omega)
   |false=>
    have e:¬m<n:=λh=>by rw[←BH,e]at h;cases h
    exact congrArg K (show Int.negSucc (m - n)=Int.negSucc m+Int.ofNat n by simp only[D8,HW];omega)
  |negSucc n=>exact congrArg K (show Int.negSucc (m+n+1)=Int.negSucc m+Int.negSucc n by simp only[HW];omega)
def PV(a b:Int)(K:Int->RT):U1 a b K=K (a - b):=by
 unfold U1;cases a with
 |ofNat m=>
  cases b with
  |ofNat n=>
   simp only[fJ];cases e:Nat.ble n m with
   |true=>rw[De]at e;exact congrArg K (show Int.ofNat (m - n)=Int.ofNat m - Int.ofNat n by simp only[D8];omega)
   |false=>
    have e:¬n<=m:=λh=>by rw[←De,e]at h;cases h
    exact congrArg K (show Int.negSucc (n - (m+1))=Int.ofNat m - Int.ofNat n by simp only[D8,HW];omega)
  |negSucc n=>exact congrArg K (show Int.ofNat (m+n+1)=Int.ofNat m - Int.negSucc n by simp only[D8,HW];omega)
 |negSucc m=>
  cases b with
  |ofNat n=>exact congrArg K (show Int.negSucc (m+n)=Int.negSucc m - Int.ofNat n by simp only[D8,HW];omega)
  |negSucc n=>
   simp only[fJ];cases e:Nat.ble m n with
   |true=>rw[De]at e;exact congrArg K (show Int.ofNat (n - m)=Int.negSucc m - Int.negSucc n by simp only[D8,HW];omega)
   |false=>
    have e:¬m<=n:=λh=>by rw[←De,e]at h;cases h
    exact congrArg K (show Int.negSucc (m - (n+1))=Int.negSucc m - Int.negSucc n by simp only[HW];omega)
def OV(a b:Int)(K:Int->RT):T8 a b K=K (a*b):=by
 unfold T8;cases a with
 |ofNat m=>
  cases b with
  |ofNat n=>exact congrArg K rfl
  |negSucc n=>
   cases m with
   |zero=>exact congrArg K (show Int.ofNat 0=Int.ofNat 0*Int.negSucc n by simp)
   |succ m=>
    refine congrArg K (show Int.negSucc ((m+1)*n+m)=Int.ofNat (m+1)*Int.negSucc n from ?_);simp only[D8,HW,qdS,qdT];simp only[qdU,Int.mul_neg,Int.mul_add,Int.add_mul];omega
 |negSucc m=>
  cases b with
  |ofNat n=>
   cases n with
   |zero=>exact congrArg K (show Int.ofNat 0=Int.negSucc m*Int.ofNat 0 by simp)
   |succ n=>
    refine congrArg K (show Int.negSucc (m*(n+1)+n)=Int.negSucc m*Int.ofNat (n+1)from ?_);simp only[D8,HW,qdS,qdT];simp only[qdU,Int.neg_mul,Int.mul_add,Int.add_mul];omega
  |negSucc n=>
   refine congrArg K (show Int.ofNat ((m+1)*(n+1))=Int.negSucc m*Int.negSucc n from ?_);simp only[D8,HW,qdS,qdT];simp only[qdU,Int.neg_mul_neg]
def PB(a b:Int)(K:Int->RT):UR a b K=K (Int.tdiv a b):=by
 unfold UR;cases a with
 |ofNat m=>
  cases b with
  |ofNat n=>exact congrArg K rfl
  |negSucc n=>exact jD _ _
 |negSucc m=>exact jD _ _
def PD(a b:Int)(K:Int->RT):UU a b K=K (Int.tmod a b):=by
 unfold UU;cases a with
 |ofNat m=>
  cases b with
  |ofNat n=>exact congrArg K rfl
  |negSucc n=>exact jD _ _
 |negSucc m=>exact jD _ _
def ud{b:Int}(h:ZN b=false):b≠0:=by
 intro e;subst e;cases h
def Fm{k:TF}{c:Int}{K:Int->RT}(h:C0 k c K=some w):K (k.wrap c)=some w:=(oA k c K).symm.trans h
def M3{d:BinOp}{k:TF}{a b:Int}{K:Int->RT}(h:RX d k a b K=some w):∃n,qO d k a b n/\K n=some w:=by
 cases d<;>simp only[RX,reduceCtorEq]at h
 ·rw[MY,oA]at h;exact⟨_,λP t w=>by simp[binOp,Op.intArith],h⟩
 ·rw[PV,oA]at h;exact⟨_,λP t w=>by simp[binOp,Op.intArith],h⟩
 ·rw[OV,oA]at h;exact⟨_,λP t w=>by simp[binOp,Op.intArith],h⟩
 ·cases c:ZN b with
  |true=>rw[c]at h;cases h
  |false=>
   rw[c]at h;simp only[PB,oA]at h;have c:=ud c;exact⟨_,λP t w=>by simp[binOp,Op.intDiv,c],h⟩
 ·cases c:ZN b with
  |true=>rw[c]at h;cases h
  |false=>
   rw[c]at h;simp only[PD]at h;have c:=ud c;exact⟨_,λP t w=>by simp[binOp,Op.intDiv,c],h⟩
 ·split at h
  next c=>
   have c:=eqI_iff.1 c;subst c;rw[jD]at h;exact⟨_,oR rfl,h⟩
  ·split at h
   ·rw[jD]at h;exact⟨_,vY _ _,Fm h⟩
   ·cases h
 ·split at h
  ·rw[jD]at h;exact⟨_,zy _ _,Fm h⟩
  ·cases h
 ·split at h
  ·rw[jD]at h;exact⟨_,vZ _ _,Fm h⟩
  ·cases h
def Sz(x y:Int):eqI x y=(x==y):=by rw[Ir,eqI_iff,beq_iff_eq]
def vh(x y:Int):JA x y=(x==y):=by
 rw[←Sz];cases x<;>cases y<;>rfl
def TO(x y:Int):OD x y=decide (x<=y):=by rw[Ir,leZ_iff,decide_eq_true_iff]
def O3(b:Bool):KU b = !b:=by cases b<;>rfl
def NA{c:BinOp}{a b:Int}{K:Bool->RT}(h:Sn c a b K=some w):∃t,pP c a b=some t/\K t=some w:=by
 cases c<;>simp only[Sn,reduceCtorEq,vh,TO,O3]at h
 ·exact⟨_,rfl,h⟩
 ·exact⟨_,rfl,h⟩
 ·exact⟨_,rfl,by rw[show decide (a<b) = !decide (b<=a)by rw[Ir];simp];exact h⟩
 ·exact⟨_,rfl,h⟩
 ·exact⟨_,rfl,by rw[show decide (a > b) = !decide (a<=b)by rw[Ir];simp];exact h⟩
 ·exact⟨_,rfl,h⟩
def NT(a b:Lf):Es a b=gG a b:=by
 cases a<;>cases b<;>try rfl
 ·exact vh _ _
 next x y=>cases x<;>cases y<;>rfl
def N1(l:List (Lf×Lf)):SF l=cj l:=by
 unfold cj
 induction l with
 |nil=>rfl
 |cons p l a=>
  show(Bool.rec false (SF l) (Es p.1 p.2):Bool)=_;rw[NT,Py,a];cases gG p.1 p.2<;>rfl
def N0{l:List (Lf×Lf)}{K:Bool->RT}(h:Yd l K=some w):K (cj l)=some w:=by
 rw[←N1];exact h
structure CallBOk(C:Cfg)(Sg:Tc)(T:Tq)(call:gJ):Prop where
 f:∀g ls h K w,dP ls->call (.f g) ls h K=some w->∃rs h',aD C Sg g ls (ka T (Bg h)) rs (ka T (Bg h'))/\K rs h'=some w
def nW(T:Tq)(h:HL):wb T h=λi=>(ka T h)[i]?:=by
 funext i
 simp only[wb,ka,AU];cases h[i]?<;>rfl
def Om(T:Tq)(h:HTr):C9 T h=λi=>(ka T (Bg h))[i]?:=by
 funext i
 simp only[C9,ka,AU,pn,Option.map_map];cases h.at i<;>rfl
def mO(T:Tq)(h:HTr):C9 T h=wb T (Bg h):=(Om T h).trans (nW T (Bg h)).symm
def nV{T:Tq}{h:HTr}{i:Nat}{x:HOT}(e:h.at i=some x):wb T (Bg h) i=some (BR T x.ho):=by
 rw[←mO];unfold C9;rw[e]
def ml(T:Tq)(h:HL):(ka T h).length=h.length:=by simp[ka]
def IH(T:Tq)(h:HL)(i:Nat)(o:HO):ka T (h.set i o)=(ka T h).set i (BR T o):=by simp[ka,LC]
def ni(T:Tq)(h:HL)(o:HO):ka T (h++[o])=ka T h++[BR T o]:=by simp[ka]
def kF(T:Tq):∀(l:List Act1) (h:HL),ka T (bL h l)=gA (ka T h) l
 | [],h=>rfl
 |a :: l,h=>by
  have b:=kF T l (a.onH h);show ka T (bL (a.onH h) l)=gA (a.on (ka T h)) l;rw[b]
  congr 1
  cases a with
  |set i o=>exact IH T h i _
  |push o=>exact ni T h _
def qR:∀ {l:List Act1} {h:HTr} {k:HTr->RT},yv l h k=some w->∃h',Bg h'=bL (Bg h) l/\k h'=some w
 | [],h,k,a=>⟨h,rfl,a⟩
 | .set i o :: l,h,k,a=>by
  have a:(uf o λo=>DU h i o λh=>yv l h k)=some w:=a;obtain⟨x,b,c⟩:=jM (o:=o) (k:=λo=>DU h i o λh=>yv l h k);rw[c,sw]at a;obtain⟨h',e,a⟩:=qR a;exact⟨h',by rw[e,sS,b];rfl,a⟩
 | .push o :: l,h,k,a=>by
  have a:(uf o λo=>mi h o λh=>yv l h k)=some w:=a;obtain⟨x,b,c⟩:=jM (o:=o) (k:=λo=>mi h o λh=>yv l h k);rw[c,jW]at a;obtain⟨h',e,a⟩:=qR a;exact⟨h',by rw[e,kA,b];rfl,a⟩
def yg(s:To):L4 s=(s != some 0):=by
 cases s with
 |none=>rfl
 |some k=>cases k<;>rfl
def wT(v:Value):DF v=aB v:=by
 unfold DF;split
 next a=>
  rw[yg];simp[aB,noLoc,aP,bg,aW,aG,aw]
 next a _ _=>
  rw[yg];simp[aB,noLoc,aP,bg,aW,aG,aw]
 ·rfl
def vz{α:Type}(l:List α):OE l=l.length:=by
 induction l with
 |nil=>rfl
 |cons a l b=>exact congrArg Nat.succ b
def TM{T:Tq}{n:Nat}{p:Value}{h:HTr}{K:Tk->RT}(b:ldB n p h K=some w):∃cs,ZR n p (wb T (Bg h))=some cs/\K cs=some w:=by
 unfold ldB at b;split at b
 next a=>
  split at b
  next g=>
   split at b
   next m e i c f=>
    split at b
    next d=>
     rw[De]at d;refine⟨_,?_,b⟩;unfold ZR;simp only[g,gQ,nV f,HOT.ho,BR,AP,cut];rw[mc (by rw[bp];exact d),jZ c n a.off m d]
    ·cases b
   ·cases b
  ·cases b
 ·cases b
def TR{T:Tq}{C:Cfg}{n:Nat}{p:Value}{h:HTr}{K:Tk->RT}(b:lgB C n p h K=some w):∃cs,Vk C n p (wb T (Bg h))=some cs/\K cs=some w:=by
 unfold lgB at b;split at b
 next a=>
  split at b
  next g=>
   split at b
   next m e o c f=>
    split at b
    next d=>
     rw[De]at d;refine⟨_,?_,b⟩;unfold Vk;simp only[g,gQ,nV f,HOT.ho,BR,AP,cut];rw[mc (by rw[bp];exact d),jZ c n a.off m d]
    ·cases b
   ·cases b
  next k g=>
   split at b
   next j=>
    split at b
    next q l=>
     split at b
     next cs i=>
      refine⟨cs,?_,b⟩;unfold Vk;simp only[g,j,l,AP];rw[nu]at i;exact i
     ·cases b
    ·cases b
   ·cases b
 ·cases b
def UZ{T:Tq}{p:Value}{new:Tk}{h:HTr}{K:Tk->HTr->RT}{n0:Nat}(b:stB p new h K=some w) :
  ∃d cs h',ES p new (wb T (Bg h)) n0=some (d,cs)/\Bg h'=bL (Bg h) d/\K cs h'=some w:=by
 unfold stB at b;split at b
 next a=>
  split at b
  next i=>
   split at b
   next m e c g=>
    split at b
    next f=>
     rw[De,vz]at f;rw[ob,sw]at b;refine⟨[.set a.block (.cells (cJ (CG new a.off c) m) e true)],[],_,?_,?_,b⟩
     ·unfold ES;simp only[i,nV g,HOT.ho,BR,splice];rw[mc (by rw[bp];exact f),pN f];rfl
     ·rw[sS];rfl
    ·cases b
   ·cases b
  ·cases b
 ·cases b
def yi{s:To}{esz:Nat}:Mp s esz=true↔s=pu esz:=by
 unfold Mp pu;cases s with
 |none=>simp
 |some k=>simp only[Nat.beq_eq,BP];try rfl
def UV{C:Cfg}{T:Tq}{esz:Nat}{x:Value}{h:HTr}{K:Tk->Nat->RT}(b:slB C T esz x h K=some w) :
  ∃l n,Iy C esz (wb T (Bg h)) x=some (l,n)/\K l n=some w:=by
 have d:∀ {x:Value},(match Iy C esz (C9 T h) x with|some p=>K p.1 p.2|none=>none)=some w->∃l n,Iy C esz (wb T (Bg h)) x=some (l,n)/\K l n=some w:=by
  intro x b;split at b
  next p e=>
   rw[mO]at e;exact⟨p.1,p.2,e,b⟩
  ·cases b
 unfold slB at b;split at b
 next a k q=>
  split at b
  next f=>
   have f:=yi.1 f;split at b
   next m e o c j=>
    split at b
    next g i=>
     have g:=AE g;rw[De]at i;subst g;refine⟨_,_,?_,b⟩;unfold Iy;simp only[nV j,HOT.ho,BR];rw[po (by rw[f];simp[pu]),mc f]
     first|rw[mc rfl]|rw[mc trivial]
     rw[cut,mc (by rw[bp];exact i),jZ c _ a.off m i];rfl
    ·cases b
   ·cases b
  ·exact d b
 ·exact d b
def wU{c:Tr Value}{m off b esz:Nat}{new:Tk}{k:HOT->RT}(f:off+b<=m)(a:Fs c m off b esz new k=some w) :
  ∃x:HOT,x.ho = .o (.cells (((cJ c m).drop off).take b++new) esz true)/\k x=some w:=by
 unfold Fs at a;split at a
 next d e=>
  have d:=AE d;have e:=AE e;subst d e;rw[ob,fJ,vz]at a;refine⟨_,?_,a⟩;show HO.o (.cells (cJ (CG new b c) (b+new.length)) esz true)=_;rw[nn,F9,Cg (by rw[bp];exact zY _)]
 ·rw[jZ c b off m f]at a;obtain⟨x,g,h⟩:=jM (o:=.cells (((cJ c m).drop off).take b++new) esz true) (k:=k);rw[h]at a;exact⟨x,g,a⟩
def RU{C:Cfg}{T:Tq}{esz bytes:Nat}{s x:Value}{h:HTr}{K:Tk->HTr->RT}(b:apB T C esz bytes s x h K=some w) :
  ∃g cs h',BS C esz bytes s x (wb T (Bg h)) (Bg h).length=some (g,cs)/\Bg h'=bL (Bg h) g/\K cs h'=some w:=by
 obtain⟨f,n,v,b⟩:=UV b;unfold BS;rw[v,iE];simp only at b ⊢;split at b
 ·cases n with
  |zero=>exact⟨_,_,h,rfl,rfl,b⟩
  |succ n=>
   simp only at b;split at b
   next F=>
    obtain⟨y,l,E⟩:=jM (o:=.cells f esz true) (k:=λo=>mi h o λh'=>fN (n+1) λn=>K [.slice (some ⟨h.n,0,pu esz⟩) n 0] h');rw[E,jW,fJ]at b;refine⟨[.push (.cells f esz true)],_,_,?_,?_,b⟩
    ·show(if n+1=0 then some ([],[Value.slice none 0 0])else if bh (n+1) bytes then _ else none)=_;rw[po (by omega),mc F]
    ·rw[kA,l];rfl
   ·cases b
 next a d D _=>
  split at b
  ·cases b
  next z=>
   have z:=yi.1 z;split at b
   next m e G c t=>
    split at b
    next r B=>
     have r:=AE r;rw[De]at B;subst r;have u:a.off+d*e<=m:=B;have p:cut (cJ c m) a.off (d*e)=some (((cJ c m).drop a.off).take (d*e)):=by rw[cut,mc (by rw[bp];exact u)]
     simp only[z,ne_eq,not_true_eq_false,if_false,nV t,HOT.ho,BR,p];cases D with
     |zero=>
      simp only at b ⊢;cases n with
      |zero=>exact⟨[],_,h,by first|rw[mc rfl]|rw[mc trivial],rfl,b⟩
      |succ n=>
       simp only at b;split at b
       next A i=>
        obtain⟨y,l,b⟩:=wU u b;rw[sw,jW,fJ]at b;refine⟨[.set a.block .dead,.push (.cells (((cJ c m).drop a.off).take (d*e)++f) e true)],_,_,by rw[po (by omega),mc (by rw[i];rfl)],?_,b⟩;rw[kA,sS,l];rfl
       ·cases b
     |succ q=>
      simp only at b ⊢;split at b
      next j=>
       rw[De]at j;split at b
       next A i=>
        rw[De,vz]at i;have i:a.off+d*e+f.length<=m:=i;rw[ob,sw,fJ]at b;refine⟨[.set a.block (.cells ((cJ c m).take (a.off+d*e)++f++(cJ c m).drop (a.off+d*e+f.length)) e true)],_,_,by rw[mc j,mc rfl,splice,mc (by rw[bp];exact i)];rfl,?_,b⟩;rw[sS];show(Bg h).set a.block (.o (.cells (cJ (CG f (a.off+d*e) c) m) e true))=_;rw[pN i];rfl
       ·cases b
      next j=>
       have j:¬d+n<=q:=λh=>by rw[←De,j]at h;cases h
       split at b
       next A=>
        obtain⟨y,l,b⟩:=wU u b;rw[jW,fJ]at b;refine⟨[.push (.cells (((cJ c m).drop a.off).take (d*e)++f) e true)],_,_,by rw[po j,mc A],?_,b⟩;rw[kA,l];rfl
       ·cases b
    ·cases b
   ·cases b
 ·cases b
def J8{T:Tq}{f:Hp}{h:HTr}{K:Tk->HTr->RT}(a:Fv T f h K=some w) :
  ∃b cs h',f.run (wb T (Bg h)) (Bg h).length=some (b,cs)/\Bg h'=bL (Bg h) b/\K cs h'=some w:=by
 unfold Fv at a;cases f with
 |st p g=>exact UZ (n0:=(Bg h).length) a
 |ap C d bytes s x=>exact RU a
 |fn f=>
  simp only at a;rw[mO]at a;split at a
  next p e=>
   rw[oI]at a;obtain⟨h',c,a⟩:=qR a;exact⟨p.1,p.2,h',by rw[iE];exact e,c,a⟩
  ·cases a
def GD{k:LK}{v:Value}{l:SL}(h:Ik k v=some l):l.is k=true/\l.val=v/\l.good:=by
 cases k with
 |i k=>
  cases v<;>simp only[Ik]at h<;>first|cases h|skip
  split at h
  next e=>cases h;exact⟨e,rfl,trivial⟩
  ·cases h
 |b=>
  cases v<;>simp only[Ik]at h<;>cases h;exact⟨rfl,rfl,trivial⟩
 |v=>
  simp only[Ik]at h;split at h
  next e=>cases h;exact⟨rfl,rfl,e⟩
  ·cases h
def yn:∀ {ks:TE} {vs:Tk} {xs:List SL},GE ks vs=some xs->aZ xs ks=true/\xs.map SL.val=vs/\∀x∈xs,x.good
 | [],[],xs,h=>by cases h;exact⟨rfl,rfl,λ_ h=>by cases h⟩
 |k :: ks,v :: vs,xs,h=>by
  simp only[GE]at h;split at h
  next x e=>
   split at h
   next ys j=>
    cases h;obtain⟨b,c,d⟩:=GD e;obtain⟨f,g,i⟩:=yn j;refine⟨by simp[aZ,b,f],by simp[c,g],λy a=>?_⟩;rcases qar.1 a with rfl|a
    ·exact d
    ·exact i y a
   ·cases h
  ·cases h
 | [],_ :: _,_,h=>by cases h
 |_ :: _,[],_,h=>by cases h
def P2{d:SK}{v:Value}{x:S0}(h:U5 d v=some x):x.is d=true/\x.val=v/\x.good:=by
 cases d with
 |leaf k=>
  obtain⟨l,e,rfl⟩:=qag.1 h;obtain⟨a,b,c⟩:=GD e;refine⟨a,b,λy f=>?_⟩;simp only[S0.cells,qav]at f;subst f;exact c
 |agg g=>
  cases v<;>simp only[U5]at h<;>first|cases h|skip
  obtain⟨l,e,rfl⟩:=qag.1 h;obtain⟨a,b,c⟩:=yn e;exact⟨a,by simp[S0.val,b],c⟩
def ym:∀ {sks:TH} {vs:Tk} {xs:List S0},GC sks vs=some xs->cX xs sks=true/\au xs=vs/\∀x∈xs,x.good
 | [],[],xs,h=>by cases h;exact⟨rfl,rfl,λ_ h=>by cases h⟩
 |k :: ks,v :: vs,xs,h=>by
  simp only[GC]at h;split at h
  next x e=>
   split at h
   next ys j=>
    cases h;obtain⟨c,d,f⟩:=P2 e;obtain⟨g,b,i⟩:=ym j;refine⟨by simp[cX,c,g],by simp only[au,AL,d]at b ⊢;rw[b],λy a=>?_⟩;rcases qar.1 a with rfl|a
    ·exact f
    ·exact i y a
   ·cases h
  ·cases h
 | [],_ :: _,_,h=>by cases h
 |_ :: _,[],_,h=>by cases h
def Fc{a b:LK}(h:NS a b=true):a=b:=by
 cases a<;>cases b<;>simp only[NS]at h<;>first|rfl|cases h|skip
 rw[dE h]
def wN:∀ {a b:TE},Fe a b=true->a=b
 | [],[],_=>rfl
 |a :: l,b :: m,h=>by
  simp only[Fe,uc]at h;rw[Fc h.1,wN h.2]
 | [],_ :: _,h=>by cases h
 |_ :: _,[],h=>by cases h
def NW{a b:SK}(h:SB a b=true):a=b:=by
 cases a<;>cases b<;>simp only[SB]at h<;>first|cases h|skip
 ·rw[Fc h]
 ·rw[wN h]
def wO:∀ {a b:TH},Ff a b=true->a=b
 | [],[],_=>rfl
 |a :: l,b :: m,h=>by
  simp only[Ff,uc]at h;rw[NW h.1,wO h.2]
 | [],_ :: _,h=>by cases h
 |_ :: _,[],h=>by cases h
def fL:∀ {ls:TB},jI ls=true->dP ls
 | [],_=>λ_ h=>by cases h
 | .i n :: ls,h=>λl hl=>by
  rcases qar.1 hl with rfl|hl
  ·trivial
  ·exact fL (ls:=ls) h l hl
 | .b n :: ls,h=>λl hl=>by
  rcases qar.1 hl with rfl|hl
  ·trivial
  ·exact fL (ls:=ls) h l hl
 | .v n :: ls,h=>λl hl=>by
  have h:(match DF n with|true=>jI ls|false=>false)=true:=h;split at h
  next e=>
   rw[wT]at e;rcases qar.1 hl with rfl|hl
   ·exact e
   ·exact fL (ls:=ls) h l hl
  ·cases h
def wA{C:Cfg}{Sg:Tc}{T:Tq}{call:gJ}(c:CallBOk C Sg T call){g:TK}{ls:TB}{h:HTr}{K:TB->HTr->RT}(a:E3 call g ls h K=some w) :
  ∃b h',aD C Sg g ls (ka T (Bg h)) b (ka T (Bg h'))/\K b h'=some w:=by
 unfold E3 at a;split at a
 next e=>exact c.f g ls h K w (fL e) a
 ·cases a
def uY{C:Cfg}{Sg:Tc}{T:Tq}{call:gJ}(l:CallBOk C Sg T call){g:TK}{f:Option (TH)}{b:Tk}{h:HTr}{K:TB->HTr->RT}(a:rf Sg call g f b h K=some w) :
  ∃sg c ys h',Sg g=some sg/\(∀x,f=some x->sg.rs=x)/\Told sg.rs c ys/\pJ C g b (ka T (Bg h)) (gk (au ys)) (ka T (Bg h'))/\K c h'=some w:=by
 unfold rf at a;split at a
 ·cases a
 next sg e=>
  split at a
  ·cases a
  next k=>
   split at a
   ·cases a
   next r e3=>
    obtain⟨c,h',⟨n,p,ys,d,c2,c3,c4⟩,a⟩:=wA l a;rw[e]at d;cases d;obtain⟨i,j,q⟩:=ym e3;obtain⟨o,_⟩:=dy c2.1 i c2.2.1;rw[o,j]at c4;refine⟨sg,c,ys,h',e,λx m=>?_,c3,c4,a⟩;subst m;exact wO k
def GO{C:Cfg}{Sg:Tc}{T:Tq}{call:gJ}(e:CallBOk C Sg T call){v:Value}{args:Tk}{d:TH}{h:HTr}{K:TB->HTr->RT}(a:Ee Sg call v args d h K=some w) :
  ∃b h',sZ C v args d (ka T (Bg h)) b (ka T (Bg h'))/\K b h'=some w:=by
 unfold Ee at a;split at a
 next j first c=>
  split at a
  next g=>
   obtain⟨k,b,f,h',i,c2,c3,c4,c5⟩:=uY e a;rw[c2 _ rfl]at c3;exact⟨b,h',⟨f,c3,.inl ⟨g,first,c,rfl,c4⟩⟩,c5⟩
  ·cases a
 ·cases a
def Gl{e:BinOp}{k d:TF}{a b:Int}{K:Int->RT}(h:LS e k a d b K=some w):∃n,E0 e k a d b n/\K n=some w:=by
 unfold LS at h;split at h
 next c=>
  have c:¬b<0:=by have:=leZ_iff.1 c;omega
  split at h
  ·rw[jD]at h;exact⟨_,λP t w=>by simp[binOp,Op.shift,c],h⟩
  ·rw[jD]at h;exact⟨_,λP t w=>by simp[binOp,Op.shift,c],h⟩
  ·cases h
 ·cases h
def Vy{C:Cfg}{Sg:Tc}{T:Tq}{call:gJ}(u:CallBOk C Sg T call):AlgOk (BA Sg T call) C Sg T (λb=>b=some w) (λh=>ka T (Bg h)) where
 fail:=by intro h;cases h
 cond:=by
  intro b x y h;cases b
  ·exact .inr ⟨rfl,h⟩
  ·exact .inl ⟨rfl,h⟩
 ari:=λA k a b K h=>M3 h
 shf:=λA k a z b K h=>Gl h
 cmp:=λA a b K h=>NA h
 eqs:=λl K h=>N0 h
 conv:=λk a K h=>Fm h
 sel:=by intro t a b K h;cases t<;>exact h
 opt:=by
  intro α o K h;cases o with
  |none=>cases h
  |some x=>exact⟨x,rfl,h⟩
 chk:=by
  intro v K h;have h:Se v K=some w:=h;unfold Se at h;split at h
  next e=>rw[wT]at e;exact⟨e,h⟩
  ·cases h
 unI:=by
  intro d K h
  match d,h with
  | .i n :: r,h=>exact⟨n,r,rfl,h⟩
 unB:=by
  intro d K h
  match d,h with
  | .b n :: r,h=>exact⟨n,r,rfl,h⟩
 unV:=by
  intro d K h
  match d,h with
  | .v n :: r,h=>exact⟨n,r,rfl,h⟩
 un0:=by
  intro d K h
  match d,h with
  | [],h=>exact⟨rfl,h⟩
 ucI:=by
  intro k d K h
  match d,h with
  | .int z n :: r,h=>
   have h:(match dF k z with|true=>K n r|false=>none)=some w:=h;split at h
   next e=>rw[dE e];exact⟨n,r,rfl,h⟩
   ·cases h
 ucB:=by
  intro d K h
  match d,h with
  | .bool n :: r,h=>exact⟨n,r,rfl,h⟩
 ucV:=by
  intro d K h
  match d,h with
  |n :: r,h=>exact⟨n,r,rfl,h⟩
 uc0:=by
  intro d K h
  match d,h with
  | [],h=>exact⟨rfl,h⟩
 peek:=by
  intro f h K c;have c:Lh T f h K=some w:=c;unfold Lh at c;rw[←nW];cases f with
  |ld n p=>exact TM c
  |lg C n p=>exact TR c
  |fn f=>
   simp only at c;rw[mO]at c;split at c
   next x e=>exact⟨x,e,c⟩
   ·cases c
 heap:=by
  intro f h K c;have c:Fv T f h K=some w:=c;obtain⟨j,G,q,B,D,E⟩:=J8 c;exact⟨j,G,q,by rw[←nW,ml];exact B,by rw[D];exact kF T j (Bg h),E⟩
 new:=by
  intro o h K c;have c:Ue o h K=some w:=c;unfold Ue at c;obtain⟨x,H,I⟩:=jM (o:=o) (k:=λo=>mi h o λq=>K h.n q);rw[I,jW]at c;exact⟨h.push x,by rw[kA,H];exact ni T (Bg h) _,by rw[ml,iE];exact c⟩
 call:=λg d h K c=>wA u c
 callv:=λv s L h K c=>GO u c
 join:=λb m h=>h
 loop:=by
  intro F d h c;refine⟨λn=>Nat.rec (motive:=λ_=>TB->HTr->RT) (λ_ _=>none) (λ_ J d h=>F J d h) n,λd h=>(by simp),λn d h=>rfl,1000000,c⟩
inductive TabOk(C:Cfg)(Sg:Tc)(X:Ctxt)(dr:Dr)(A:Alg RT HTr)(f:TK)(ls:TB)(h:HTr)(K:TB->HTr->RT)(w:TB):Prop
 |run (fn:Fn1) (hi:FnIs X Sg f fn) (he:ak A X Sg dr fn ls h K=some w)
 |known (rs:TB) (hc:∀H,aD C Sg f ls H rs H) (hk:K rs h=some w)
 |alone (fn:Fn1) (rs:TB) (sg:Sig) (hi:FnIs X Sg f fn) (hs:Sg f=some sg) (hp:sg.plain=true) (he:ak A X Sg dr fn ls .empty (λrs _=>some rs)=some rs) (hk:K rs h=some w)
end
end Sx
namespace Sx
def MG(v:Value):Bool:=match v with
 | .pointer (some a)=>a.spot==some 1
 | .slice (some a) _ _=>a.spot==some 1
 |v=>scalar v
section
variable [Val]
def HI [Glo]{mu:kl}{p:Pl}{x y:Option Obj}{o:HObj}(b:∀a,x=some a->y=some a)(h:objR mu p x o):objR mu p y o:=by
 cases o with
 |cells t j rw=>
  obtain⟨d,f,l,c,e,k,m,n⟩:=h;exact⟨d,f,l,c,e,k,b _ m,n⟩
 |map q g=>
  obtain⟨i,d,f⟩:=h;exact⟨i,b _ d,f⟩
 |loop r=>
  obtain⟨L,d,f⟩:=h;exact⟨L,b _ d,f⟩
 |siter s pos=>exact b _ h
 |dead=>trivial
def Ol [Glo]{la:tf}{mu a:kl}{vs cs:Tk}(e:vs.all flat=true)(h:VRs la mu vs cs):VRs la a vs cs:=by
 refine⟨h.1,λi x y c f=>?_⟩;have d:=h.2 i x y c f;have b:flat x=true:=qab.1 e x (Af c);rw[rH b d];exact .of_flat b
def YU [Glo]{la d:tf}{mu e:kl}{v c:Value}(a:MG v=true)(h:VR la mu v c):VR d e v c:=by
 cases h with
 |poison c=>cases a
 |sym h=>cases a
 |scalar h=>exact .scalar h
 |agg _ _=>cases a
 |tuple _ _ _=>cases a
 |func _ _ _ _ _=>cases a
 |yield _=>cases a
 |lptr _=>cases a
 |hptr _=>cases a
 |gptr=>exact .gptr
 |hslice _ _ _ _=>simp[MG,pu]at a
 |hslice0 _=>simp[MG,pu]at a
 |gslice f b=>exact .gslice f b
 |gslice0 b=>exact .gslice0 b
 |map _=>cases a
def wS [Glo]{mu a:kl}{vs:Tk}{c:Tj}{o:Nat}(f:vs.all MG=true)(h:cw mu vs c o):cw a vs c o:=by
 intro i v b;obtain⟨g,d,e⟩:=h i v b;exact⟨g,d,YU (qab.1 f v (Af b)) e⟩
def KR{mu:kl}{b:Nat}:¬Own mu [] b:=by
 rintro⟨id,o,p,h,_⟩;simp at h
def J2{C:Cfg}(N:∀g vs,C.G g=some vs->vs.all MG=true){f:TK}{args:Tk}{r:Value}{H':Tp}(h:dO C f args [] r H')(O:args.all flat=true)(F:flat r=true)(H:Tp):dO C f args H r H:=by
 intro _ D P w k E m l M;have z:WR C w.heap.size (λ_=>none) [] w:=by
  refine⟨λid o h=>by simp at h,λi j S T U V h=>by simp at h,λi o p h=>by simp at h,λi o p h=>by simp at h,λ_ _=>rfl,λg vs u=>?_⟩;obtain⟨t,n,c,e,y,q,s⟩:=l.glob g vs u;exact⟨by omega,n,c,e,y,q,wS (N g vs u) s⟩
 obtain⟨v,Q,I,J,R,d,K,L⟩:=h _ w.heap.size (λ_=>none) w k (zY _) (Ol O m) z M;have a:∀(b:Nat) x,w.heap[b]?=some x->I.heap[b]?=some x:=by
  intro b x B;have A:b<w.heap.size:=by
   rcases Bi b w.heap.size with h|h
   ·exact h
   ·rw[Rr h]at B;cases B
  rw[d.keep b A KR];exact B
 refine⟨v,P,I,?_,?_,?_,K,L⟩
 ·rw[rH F J];exact .of_flat F
 ·refine⟨λid o t n=>?_,l.inj,l.own,l.ro,l.dom,λg vs u=>?_⟩
  ·obtain⟨p,q,s⟩:=l.obj id o t n;exact⟨p,q,HI (a p.b) s⟩
  ·obtain⟨t,n,c,e,y,q,s⟩:=l.glob g vs u;exact⟨t,n,c,e,y,a _ _ q,s⟩
 ·exact⟨zY _,λ_ _=>rfl,d.size,λb E _=>d.keep b E KR,λb h=>.inr h,d.os,d.tape,d.output,d.dr⟩
end
section
variable [Val] [Kno]
end
end Sx
namespace Sx
def jf(F:Tx)(H a:Tp):Prop:=∀r∈F,∀x,H[r]?=some x->x.alive=true->a[r]?=some x
structure HEff where
 set:Option (Nat×HObj)
 push:Option (HObj×(Nat->Value))
 v:Value
def HEff.put(e:HEff)(H:Tp):Tp:=match e.set with
 |some p=>H.set p.1 p.2
 |none=>H
def HEff.heap(e:HEff)(H:Tp):Tp:=match e.push with
 |some p=>e.put H++[p.1]
 |none=>e.put H
def HEff.val(e:HEff)(n:Nat):Value:=match e.push with
 |some p=>p.2 n
 |none=>e.v
def CB(b:Prop)(F W:Tx)(f:Tp->Option (List HObj×Value))(H:Tp):Prop:=
 ∀H' v,f H=some (H',v)->∃e:HEff,H'=e.heap H/\v=e.val H.length/\(∀p,e.set=some p->p.1∈W/\∃x,H[p.1]?=some x/\x.alive=true)/\(∀p,e.push=some p->b/\Fresh p.2/\p.1.alive=true)/\
  ∀a,jf F H a->f a=some (e.heap a,e.val a.length)
def RO(F:Tx)(f:Tp->Ti)(H:Tp):Prop:=∀v,f H=some v->∀a,jf F H a->f a=some v
def fS{F:Tx}{H a:Tp}(h:jf F H a){r:Nat}(c:r∈F){vs:Tk}{e:Nat}{b:Bool}(d:H[r]?=some (.cells vs e b)):a[r]?=some (.cells vs e b):=h r c _ d rfl
def gK{F:Tx}{H d:Tp}(h:jf F H d){r:Nat}(f:r∈F){b:Th}{c:Nat}(a:AQ H r=some (b,c)):H[r]?=some (.map b c)/\AQ d r=some (b,c):=by
 unfold AQ at a;split at a
 next e=>
  cases a;exact⟨e,by unfold AQ;rw[h r f _ e rfl]⟩
 ·cases a
def vb{C:Cfg}{H g:Tp}{esz:Nat}{x:Value}{p:List Value×Nat}(c:dR C H esz x=some p){F:Tx}(k:∀r∈adr x,r∈F)(h:jf F H g):dR C g esz x=some p:=by
 unfold dR at c ⊢;split at c
 ·exact c
 next a f j=>
  split at c
  next d=>simp only[d,if_true];exact c
  next d=>
   split at c
   next i=>
    simp only[d,if_false,i,if_true];split at c
    next m e b hid=>
     have l:a.block∈adr (.slice (some a) f j):=by
      simp[adr,i,pu]
     rw[fS h (k _ l) hid];exact c
    ·cases c
   ·cases c
 ·exact c
 ·cases c
def vA{c:Prop}{F W:Tx}{H:Tp}(a:c)(x:HObj)(mk:Nat->Value)(e:x.alive=true)(d:Fresh mk):CB c F W (λH=>some (H++[x],mk H.length)) H:=by
 intro f v h;cases h;exact⟨⟨none,some (x,mk),undef⟩,rfl,rfl,λp b=>(by cases b),λp b=>by cases b;exact⟨a,d,e⟩,λg _=>rfl⟩
def rU{d:Prop}{F W:Tx}{f:Tp->Option (List HObj×Value)}{H:Tp}{v:Value}(h:f H=some (H,v))(c:∀a,jf F H a->f a=some (a,v)) :
  ∃e:HEff,H=e.heap H/\v=e.val H.length/\(∀p,e.set=some p->p.1∈W/\∃x,H[p.1]?=some x/\x.alive=true)/\(∀p,e.push=some p->d/\Fresh p.2/\p.1.alive=true)/\∀a,jf F H a->f a=some (e.heap a,e.val a.length):=
 ⟨⟨none,none,v⟩,rfl,rfl,λp b=>(by cases b),λp b=>(by cases b),c⟩
def rT{d:Prop}{F W:Tx}{f:Tp->Option (List HObj×Value)}{H:Tp}{x:HObj}{mk:Nat->Value}(b:d)(i:x.alive=true)(h:Fresh mk)(g:∀a,jf F H a->f a=some (a++[x],mk a.length)) :
  ∃e:HEff,H++[x]=e.heap H/\mk H.length=e.val H.length/\(∀p,e.set=some p->p.1∈W/\∃x,H[p.1]?=some x/\x.alive=true)/\(∀p,e.push=some p->d/\Fresh p.2/\p.1.alive=true)/\∀a,jf F H a->f a=some (e.heap a,e.val a.length):=
 ⟨⟨none,some (x,mk),undef⟩,rfl,rfl,λp c=>(by cases c),λp c=>by cases c;exact⟨b,h,i⟩,g⟩
def rV{j:Prop}{F W:Tx}{f:Tp->Option (List HObj×Value)}{H:Tp}{i:Nat}{x y:HObj}{v:Value}(g:i∈W)(h:H[i]?=some y)(d:y.alive=true)(c:∀a,jf F H a->f a=some (a.set i x,v)) :
  ∃e:HEff,H.set i x=e.heap H/\v=e.val H.length/\(∀p,e.set=some p->p.1∈W/\∃x,H[p.1]?=some x/\x.alive=true)/\(∀p,e.push=some p->j/\Fresh p.2/\p.1.alive=true)/\∀a,jf F H a->f a=some (e.heap a,e.val a.length):=
 ⟨⟨some (i,x),none,v⟩,rfl,rfl,λp b=>by cases b;exact⟨g,y,h,d⟩,λp b=>(by cases b),c⟩
def yS{Q:Prop}{C:Cfg}{t:TJ}{s x:Value}{H:Tp}{F W:Tx}(B:Q)(M:∀r∈adr s,r∈F/\r∈W)(U:∀r∈adr x,r∈F):CB Q F W (fE C t s x) H:=by
 intro X v c;unfold fE at c;split at c
 case h_2=>cases c
 rename_i P T
 split at c
 ·cases c
 rename_i b R
 split at c
 ·cases c
 rename_i N
 split at c
 ·cases c
 rename_i V
 split at c
 ·cases c
 rename_i w n J
 have d:∀f,jf F H f->fE C t s x f=(match (motive:=Value->Option (List HObj×Value)) s with
   | .slice none 0 0=>
    if n=0 then some (f,.slice none 0 0)
    else if bh n b.bytes then some (f++[.cells w b.size true],.slice (some ⟨f.length,0,pu b.size⟩) n 0)else none
   | .slice (some a) g I=>
    if a.spot≠pu b.size then none else
    match f[a.block]? with
    |some (.cells G e rw)=>
     if e≠b.size then none else
     match cut G a.off (g*b.size)with
     |none=>none
     |some z=>
      match I with
      |0=>
       if n=0 then some (f,.slice (some a) g 0)
       else if rw&&bh (g+n) b.bytes then
        some (f.set a.block .dead++[.cells (z++w) b.size true],.slice (some ⟨f.length,0,pu b.size⟩) (g+n) 0)
       else none
      |cap+1=>
       if g+n<=cap then
        if rw then(splice G (a.off+g*b.size) w).map λE=>(f.set a.block (.cells E e true),.slice (some a) (g+n) (cap+1))
        else if n=0 then some (f,.slice (some a) g (cap+1))else none
       else if bh (g+n) b.bytes then
        some (f++[.cells (z++w) b.size true],.slice (some ⟨f.length,0,pu b.size⟩) (g+n) 0)
       else none
    |_=>none
   |_=>none):=by
  intro f j;unfold fE;simp only[T,R,N,if_false,V,vb J U j];rfl
 split at c
 ·split at c
  next o=>
   cases c;exact rU (by rw[d H λ_ _ _ h _=>h];simp only[o,if_true]) λf j=>by rw[d f j];simp only[o,if_true]
  next o=>
   split at c
   next u=>
    cases c;exact rT (mk:=λk=>.slice (some ⟨k,0,pu b.size⟩) n 0) B rfl (.slice _ _ _) λf j=>by rw[d f j];simp only[o,if_false,u,if_true]
   ·cases c
 next a g I=>
  split at c
  ·cases c
  rename_i l
  have K:a.block∈adr (.slice (some a) g I):=by
   simp only[ne_eq,Classical.not_not]at l;simp[adr,l,pu]
  split at c
  case h_2=>cases c
  rename_i G e O hid
  split at c
  ·cases c
  rename_i A
  split at c
  ·cases c
  rename_i z i
  have m:∀ {f},jf F H f->f[a.block]?=some (.cells G e O):=λj=>fS j (M _ K).1 hid;split at c
  ·split at c
   next o=>
    cases c;exact rU (by rw[d H λ_ _ _ h _=>h];simp only[l,hid,A,i,o,if_true,if_false]) λf j=>by rw[d f j];simp only[l,m j,A,i,o,if_true,if_false]
   next o=>
    split at c
    next u=>
     cases c;refine⟨⟨some (a.block,.dead),some (.cells (z++w) b.size true,λk=>.slice (some ⟨k,0,pu b.size⟩) (g+n) 0),undef⟩,rfl,rfl,λp L=>by cases L;exact⟨(M _ K).2,_,hid,rfl⟩,λp L=>by cases L;exact⟨B,.slice _ _ _,rfl⟩,λf j=>?_⟩;rw[d f j];simp only[l,m j,A,i,o,u,if_true,if_false];rfl
    ·cases c
  ·split at c
   next cap q=>
    split at c
    next y=>
     obtain⟨E,D,S⟩:=qag.1 c;cases S;exact rV (M _ K).2 hid rfl λf j=>by rw[d f j];simp only[l,m j,A,i,q,y,if_true,if_false,D,BB]
    next y=>
     split at c
     next o=>
      cases c;exact rU (by rw[d H λ_ _ _ h _=>h];simp only[l,hid,A,i,q,o,y,if_true,if_false];simp[o];omega) λf j=>by rw[d f j];simp only[l,m j,A,i,q,y,o,if_true,if_false];simp[o];omega
     ·cases c
   next cap q=>
    split at c
    next u=>
     cases c;exact rT (mk:=λk=>.slice (some ⟨k,0,pu b.size⟩) (g+n) 0) B rfl (.slice _ _ _) λf j=>by rw[d f j];simp only[l,m j,A,i,q,u,if_true,if_false]
    ·cases c
 ·cases c
def Ks{b:Prop}{C:Cfg}{t:TJ}{d x:Value}{H:Tp}{F W:Tx}(e:∀r∈adr d,r∈F/\r∈W)(f:∀r∈adr x,r∈F):CB b F W (DA C t d x) H:=by
 intro c v a;cases a
def HB{b:Prop}{C:Cfg}{t:TJ}{x:Value}{H:Tp}{F W:Tx}(d:∀r∈adr x,r∈F/\r∈W):CB b F W (tz C t x) H:=by
 intro c v a;cases a
def HD{g:Prop}{C:Cfg}{t:TJ}{id off:Nat}{x:Value}{H:Tp}{F W:Tx}(h1:id∈F)(b:id∈W):CB g F W (jl C t id off x) H:=by
 intro i v a;unfold jl at a;split at a
 next k e hid=>
  obtain⟨h,f,d⟩:=qag.1 a;cases d;refine rV b hid rfl λj c=>?_;unfold jl;simp only[fS c h1 hid,f,BB]
 ·cases a
def qh{s:Prop}{C:Cfg}{t:TJ}{m k x:Value}{H:Tp}{F W:Tx}(q:∀r∈adr m,r∈F/\r∈W):CB s F W (cF C t m k x) H:=by
 intro u v a;unfold cF at a;split at a
 case h_2=>cases a
 rename_i z y id l
 split at a
 ·cases a
 rename_i d
 split at a
 ·cases a
 rename_i w c g
 obtain⟨e,n⟩:=q id (by simp[adr]);have j:=(gK (λ_ _ _ h _=>h:jf F H H) e g).1;split at a
 ·cases a
 next b=>
  cases a;refine rV n j rfl λo f=>?_;unfold cF;simp only[l,d,(gK f e g).2,b];rfl
 next i b=>
  split at a
  next p=>
   cases a;refine rV n j rfl λo f=>?_;unfold cF;simp only[l,d,(gK f e g).2,b,p];rfl
  ·cases a
def HC{b:Prop}{C:Cfg}{t:TJ}{m k:Value}{H:Tp}{F W:Tx}(d:∀r∈adr m,r∈F/\r∈W):CB b F W (iq C t m k) H:=by
 intro c v a;cases a
def yU{b:Prop}{m s x:Value}{H:Tp}{F W:Tx}(d:∀r∈adr m,r∈F/\r∈W):CB b F W (eZ m s x) H:=by
 intro c v a;cases a
def yT{b:Prop}{C:Cfg}{t:TJ}{m k:Value}{H:Tp}{F W:Tx}(d:∀r∈adr m,r∈F/\r∈W):CB b F W (nC C t m k) H:=by
 intro c v a;cases a
def Kt{g:Prop}{C:Cfg}{t:TJ}{l c:Value}{H:Tp}{F W:Tx}(d:g):CB g F W (dw C t l c) H:=by
 intro r v a;unfold dw at a;split at a
 case h_2=>cases a
 rename_i q h e i j o
 split at a
 case h_2=>cases a
 rename_i b n
 split at a
 ·cases a
 rename_i f
 split at a
 case h_2=>cases a
 rename_i z p
 split at a
 next m=>
  cases a;refine rT (mk:=λk=>.slice (some ⟨k,0,pu b.size⟩) q.toNat (h.toNat+1)) d rfl (.slice _ _ _) λs _=>?_;unfold dw;simp only[i,j,o,n,f,p,m,and_self,if_true,if_false]
 ·cases a
def yV{C:Cfg}{t:TJ}{m k:Value}{ok:Bool}{H:Tp}{F:Tx}(g:∀r∈adr m,r∈F):RO F (dH C t m k ok) H:=by
 intro v a h e;unfold dH at a;unfold dH;split at a
 case h_2=>cases a
 rename_i o j l
 split at a
 ·cases a
 rename_i b
 simp only[b];split at a
 ·cases a
 rename_i z n
 split at a
 ·exact a
 next id=>
  have d:=g id (by simp[adr]);split at a
  ·cases a
  rename_i i c f
  simp only[(gK e d f).2];exact a
 ·cases a
def OJ{C:Cfg}{t:TJ}{a:Addr}{d c e:Ti}{H:Tp}{F:Tx}(f:∀r∈adr (.pointer (some a)),r∈F):RO F (ko C t a d c e) H:=by
 intro v b;cases b
end Sx
namespace Sx
def B3(pts:Tx)(ρ:Tf)(o:Oper):Tx:=(df pts o).1.flatMap λx=>adrK (df pts o).2 (ρ x)
def EX(pts:Tx)(ρ:Tf)(o:Oper):Tx:=(eJ pts o).flatMap λx=>adr (ρ x)
def D7(N:Tb)(pts:Tx)(o:Oper):Bool:=
 match av N pts o with
 |some .hw=>(match o.op with
  | .call c=>(match c.callee with
   | .builtin _=>true
   |_=>false)
  |_=>true)
 |some .hr=>(match o.op with
  | .call c=>(match c.callee with
   | .builtin _=>true
   |_=>false)
  |_=>true)
 |some _=>true
 |none=>false
def dx{C:Cfg}{ρ:Tf}{o:Oper}{e:Eff}(h:cH C ρ o=some e):∃v,e = .val v:=by
 unfold cH at h;split at h
 ·split at h
  ·split at h
   ·cases h;exact⟨_,rfl⟩
   ·cases h
  ·cases h
 ·cases h
def dJ{x:Ti}{e:Eff}(h:x.map Eff.val=some e):∃v,e = .val v:=by
 obtain⟨v,_,rfl⟩:=qag.1 h;exact⟨v,rfl⟩
def KT{a:Ti}{b:Option Eff}{e:Eff}(c:b=some e->∃v,e = .val v)(h:oz a b=some e):∃v,e = .val v:=by
 unfold oz at h;split at h
 ·cases h;exact⟨_,rfl⟩
 ·exact c h
def RN(Q a:Prop)(F W:Tx):Eff->Prop
 | .hop f=>∀H,CB a F W f H
 | .hget f=>∀H,RO F f H
 | .call _ _=>Q
 | .yield _ _=>Q
 |_=>True
def bY{Q a:Prop}{F W:Tx}{e:Eff}(h:∃v,e = .val v):RN Q a F W e:=by
 obtain⟨v,rfl⟩:=h;trivial
def jk{v:Value}{p:Nat×Nat}(h:ik v=some p):adr v=[p.1]:=by
 unfold ik at h;split at h
 next a=>
  split at h
  next c=>
   cases h;cases b:a.spot with
   |none=>simp[adr,b]
   |some k=>rw[b]at c;cases c
  ·cases h
 ·cases h
def xe{Q c:Prop}{C:Cfg}{pts:Tx}{d:Tn}{t:TJ}{v:Value}{e:Eff}{F W:Tx}(a:∀x,d=some x->pts.getD x 0≠x+2->c)(h:cG C pts d t v=some e):RN Q c F W e:=by
 unfold cG at h;split at h
 ·cases h
 ·split at h
  ·cases h
  ·split at h
   ·cases h
   ·split at h
    ·cases h;trivial
    next b=>
     cases h;exact λH=>vA (a _ rfl b) (.cells v.cells.toList (lu C.P t) true) (λn=>.pointer (some ⟨n,0,none⟩)) rfl .ptr
def G2{C:Cfg}{pts:Tx}{ρ:Tf}{o:Oper}{e:Eff}(g:ao C pts ρ o=some e):RN (∃c f,o.op = .call c/\c.callee = .value f) (dq pts o=true) (B3 pts ρ o) (EX pts ρ o) e:=by
 unfold ao at g;split at g
 ·cases g;trivial
 ·cases g;trivial
 ·split at g
  ·cases g;trivial
  ·cases g
 next t h=>
  obtain⟨z,_,g⟩:=qay.1 g;exact xe (λx D y=>by simp only[dq,h,D];cases J:Nat.beq (pts.getD x 0) (x+2)with
   |false=>rfl
   |true=>exact absurd (AE J) y) g
 next t x h=>
  exact xe (λx D y=>by simp only[dq,h,D];cases J:Nat.beq (pts.getD x 0) (x+2)with
   |false=>rfl
   |true=>exact absurd (AE J) y) g
 ·split at g
  ·exact bY (dJ g)
  ·cases g
 next t n U h=>
  split at g
  ·obtain⟨r,_,rfl⟩:=qag.1 g;exact λH=>vA (by simp only[dq,h]) (.cells r.2 r.1 true) (λk=>.slice (some ⟨k,0,pu r.1⟩) n (n+1)) rfl (.slice _ _ _)
  ·cases g
 next t a h=>
  unfold dU at g;split at g
  next E=>
   split at g
   next p y=>
    cases g;intro H v B L G;obtain⟨O,A,I⟩:=qay.1 B;have K:p.1∈B3 pts ρ o:=by simp[B3,df,adrK,h,E,jk y]
    refine qay.2 ⟨O,?_,I⟩;unfold ff at A ⊢;split at A
    next hid=>cases A;rw[fS G K hid]
    ·cases A
   ·obtain⟨p,_,rfl⟩:=qag.1 g;exact λH v B L _=>B
  ·obtain⟨p,_,g⟩:=qay.1 g;exact bY (dJ g)
  ·obtain⟨p,_,rfl⟩:=qag.1 g;trivial
 next t a x h=>
  unfold eI at g;split at g
  ·cases g
  ·split at g
   next E=>
    obtain⟨p,y,rfl⟩:=qag.1 g;exact λH=>HD (by simp[B3,df,adrK,h,E,jk y]) (by simp[EX,eJ,h,E,jk y])
   ·cases g
   ·obtain⟨p,_,rfl⟩:=qag.1 g;trivial
 ·split at g<;>cases g<;>trivial
 ·split at g
  ·split at g
   ·split at g
    ·cases g;trivial
    ·cases g
   ·exact bY (dx g)
  ·split at g
   ·split at g
    ·cases g;trivial
    ·cases g
   ·exact bY (dx g)
  ·exact bY (dx g)
 ·split at g
  ·cases g
  ·cases g;trivial
 next t r h=>
  split at g
  ·cases g;exact λH=>vA (by simp only[dq,h]) (.map [] 0) (λn=>.map (some n)) rfl .map
  ·cases g
 next t l c h=>
  cases g;exact λH=>Kt (by simp only[dq,h])
 next t x R P S h=>
  split at g
  next a D=>
   split at g
   ·exact bY (dJ g)
   ·cases g;exact λH=>OJ λr i=>by simp[B3,df,adrK,VE,h,D];exact i
  ·exact bY (KT dx g)
 ·exact bY (dJ g)
 ·exact bY (dJ g)
 ·exact bY (dJ g)
 ·exact bY (dJ g)
 next t m k T h=>
  split at g
  ·exact bY (dJ g)
  ·cases g;exact λH=>yV λr i=>by simp[B3,df,adrK,h];exact i
 next t m k v h=>
  cases g;exact λH=>qh λr i=>⟨by simp[B3,df,adrK,h];exact i,by simp[EX,eJ,h];exact i⟩
 next t m k v h=>
  cases g;exact λH=>qh λr i=>⟨by simp[B3,df,adrK,h];exact i,by simp[EX,eJ,h];exact i⟩
 next t m k h=>
  cases g;exact λH=>HC λr i=>⟨by simp[B3,df,adrK,h];exact i,by simp[EX,eJ,h];exact i⟩
 next t m s v h=>
  cases g;exact λH=>yU λr i=>⟨by simp[B3,df,adrK,h];exact i,by simp[EX,eJ,h];exact i⟩
 ·split at g
  ·split at g
   ·cases g
   ·exact bY (dJ g)
  ·cases g
 next c h=>
  unfold fV at g;simp only at g;cases q:c.callee with
  |invoke r m=>simp only[q]at g;cases g
  |builtin b=>
   simp only[q]at g;unfold bb at g;split at g
   next s x t j F=>
    split at g
    ·cases g
    ·cases g;have w:∃a b,c.args.toList=[a,b]/\ρ a=s/\ρ b=x:=by
      match c.args.toList,j with
      | [a,b],j=>simp at j;exact⟨a,b,rfl,j.1,j.2⟩
     obtain⟨a,b,u,rfl,rfl⟩:=w;exact λH=>yS (by simp only[dq,h,q]) (λr i=>⟨by simp[B3,df,adrK,h,q,u,i],by simp[EX,eJ,h,q,u,i]⟩) λr i=>by simp[B3,df,adrK,h,q,u,i]
   next x t j F=>
    split at g
    ·cases g;trivial
    next id Q=>
     cases g;have one:∃a,c.args.toList=[a]/\ρ a = .map (some id):=by
      cases M:c.args.toList with
      |nil=>rw[M]at j;cases j
      |cons a l=>
       rw[M]at j;cases l with
       |nil=>exact⟨a,rfl,by simpa using j⟩
       |cons b l=>simp at j
     obtain⟨a,u,N⟩:=one;intro H v B L G;obtain⟨p,A,I⟩:=qag.1 B;have K:id∈B3 pts ρ o:=by simp[B3,df,adrK,VD,h,q,u,N]
     exact qag.2 ⟨p,(gK G K A).2,I⟩
    ·cases g;trivial
    ·exact bY (dx g)
   ·split at g
    ·cases g;trivial
    ·cases g;trivial
    ·cases g;trivial
    ·cases g
   next d x t j F=>
    cases g;have w:∃a b,c.args.toList=[a,b]/\ρ a=d/\ρ b=x:=by
     match c.args.toList,j with
     | [a,b],j=>simp at j;exact⟨a,b,rfl,j.1,j.2⟩
    obtain⟨a,b,u,rfl,rfl⟩:=w;exact λH=>Ks (λr i=>⟨by simp[B3,df,adrK,h,q,u,i],by simp[EX,eJ,h,q,u,i]⟩) λr i=>by simp[B3,df,adrK,h,q,u,i]
   next m k t j F=>
    cases g;have w:∃a b,c.args.toList=[a,b]/\ρ a=m/\ρ b=k:=by
     match c.args.toList,j with
     | [a,b],j=>simp at j;exact⟨a,b,rfl,j.1,j.2⟩
    obtain⟨a,b,u,rfl,rfl⟩:=w;exact λH=>yT λr i=>⟨by simp[B3,df,adrK,h,q,u,i],by simp[EX,eJ,h,q,u,i]⟩
   next x t j F=>
    cases g;have one:∃a,c.args.toList=[a]/\ρ a=x:=by
     match c.args.toList,j with
     | [a],j=>simp at j;exact⟨a,rfl,j⟩
    obtain⟨a,u,rfl⟩:=one;exact λH=>HB λr i=>⟨by simp[B3,df,adrK,h,q,u,i],by simp[EX,eJ,h,q,u,i]⟩
   ·exact bY (dx g)
  |value f=>
   simp only[q]at g;split at g
   ·cases g
   ·split at g
    ·split at g
     ·cases g;exact⟨c,f,h,q⟩
     ·cases g
    ·split at g
     ·cases g;exact⟨c,f,h,q⟩
     ·cases g
    ·cases g
 ·exact bY (dx g)
 ·exact bY (dx g)
 ·cases g
section
variable [Val] {C:Cfg} {B:Below} {N:Tb} {pts:Tx} {ops:Tl}
def qP(N:Tb)(pts:Tx)(ops:Tl)(o:Oper)(σ τ:St):Prop:=
 (∀t∈bj ops o,τ.tmps[t]?=σ.tmps[t]?)/\(match av N pts o with
 |some (.row s _)=>τ.loc[s]?=σ.loc[s]?
 |_=>True)/\jf (B3 pts (ke σ.tmps) o) σ.heap τ.heap
def eW(dst:Tn)(e:HEff)(rw:Option (Nat×Option (Tk)))(k:To)(τ:St):St:=
 ({ tmps:=τ.tmps,loc:=(match rw with|some p=>τ.loc.set p.1 p.2|none=>τ.loc),heap:=(match k with
  |none=>e.heap τ.heap
  |some k=>match e.push with
   |some p=>(e.put τ.heap).set k p.1
   |none=>e.put τ.heap) }:St).put dst (match k with
  |none=>e.val τ.heap.length
  |some k=>e.val k)
def HE(S:Bq N B){i:Nat}{o:Oper}(F:ops[i]?=some o)(r:D7 N pts o=true){σ σ':St}(A:aj C B pts ops i σ σ') :
  ∃(e:HEff) (rw:Option (Nat×Option (Tk))),σ'=eW o.dst e rw none σ/\(∀p,rw=some p->av N pts o=some (.row p.1 true))/\(e.push≠none->av N pts o=some .hw)/\
   (∀p,e.set=some p->p.1∈EX pts (ke σ.tmps) o/\∃x,σ.heap[p.1]?=some x/\x.alive=true)/\(∀p,e.push=some p->dq pts o=true/\Fresh p.2/\p.1.alive=true)/\
   ∀τ,qP N pts ops o σ τ->∀t:Nat->Option Nat,
    (e.push=none->t i=none->dY C B pts ops t i τ (eW o.dst e rw none τ))/\
    (∀p k,e.push=some p->t i=some k->(e.put τ.heap)[k]?=some .dead->dY C B pts ops t i τ (eW o.dst e rw (some k) τ)):=by
 have G:av N pts o≠none:=by intro h;unfold D7 at r;rw[h]at r;cases r
 by_cases d:av N pts o=some .hr∨av N pts o=some .hw
 case neg=>
  obtain⟨e,M,E,O⟩:=iK S F G A;have U:e.hp=none:=by
   cases y:e.hp with
   |none=>rfl
   |some x=>exact absurd (.inr (E.2 (by rw[y];simp))) d
  have I:∀τ,e.on o.dst τ=eW o.dst ⟨none,none,e.v⟩ e.rw none τ:=λτ=>by
   unfold Ef.on eW;rw[U];rfl
  refine⟨⟨none,none,e.v⟩,e.rw,by rw[M,I],E.1,λh=>absurd rfl h,λp b=>(by cases b),λp b=>(by cases b),λτ hτ t=>⟨λ_ n=>?_,λp k b=>(by cases b)⟩⟩;unfold dY;rw[n];rw[←I];refine O τ ⟨hτ.1,?_⟩;have:=hτ.2.1;cases H:av N pts o with
  |none=>exact absurd H G
  |some m=>
   rw[H]at this d;cases m with
   |hr=>exact absurd (.inl rfl) d
   |hw=>exact absurd (.inr rfl) d
   |row s w=>exact this
   |_=>trivial
 case pos=>
  unfold aj at A;simp only[F]at A;have hwτ:∀τ,qP N pts ops o σ τ->cv ops τ.tmps o=cv ops σ.tmps o:=λτ hτ=>wu hτ.1;have val:∀v:Value,σ'=σ.put o.dst v->(∀τ,qP N pts ops o σ τ->aj C B pts ops i τ (τ.put o.dst v))->
    ∃(e:HEff) (rw:Option (Nat×Option (Tk))),σ'=eW o.dst e rw none σ/\(∀p,rw=some p->av N pts o=some (.row p.1 true))/\(e.push≠none->av N pts o=some .hw)/\
     (∀p,e.set=some p->p.1∈EX pts (ke σ.tmps) o/\∃x,σ.heap[p.1]?=some x/\x.alive=true)/\(∀p,e.push=some p->dq pts o=true/\Fresh p.2/\p.1.alive=true)/\
     ∀τ,qP N pts ops o σ τ->∀t:Nat->Option Nat,
      (e.push=none->t i=none->dY C B pts ops t i τ (eW o.dst e rw none τ))/\
      (∀p k,e.push=some p->t i=some k->(e.put τ.heap)[k]?=some .dead->dY C B pts ops t i τ (eW o.dst e rw (some k) τ)):=by
   intro v D h;refine⟨⟨none,none,v⟩,none,D,λp b=>(by cases b),λh=>absurd rfl h,λp b=>(by cases b),λp b=>(by cases b),λτ hτ t=>⟨λ_ n=>?_,λp k b=>(by cases b)⟩⟩;unfold dY;rw[n];exact h τ hτ
  split at A
  ·exact A.elim
  next hw=>
   refine val undef A λτ hτ=>?_;unfold aj;simp only[F,hwτ τ hτ,hw]
  next hw=>
   have step:∀ {τ τ':St},qP N pts ops o σ τ->((∃e,ao C pts (ke τ.tmps) o=some e/\lL B e o.dst τ τ')∨(∃v,ku C τ.tmps o v/\τ'=τ.put o.dst v))->aj C B pts ops i τ τ':=by
    intro τ τ' hτ h;unfold aj;simp only[F,hwτ τ hτ,hw];exact h
   rcases A with⟨e,y,hr⟩|⟨v,D,rfl⟩
   ·have yτ:∀τ,qP N pts ops o σ τ->ao C pts (ke τ.tmps) o=some e:=λτ hτ=>by
     rw[nI N pts G (xE hτ.1)];exact y
    have a:=ii (N:=N) (λ_=>rfl) G y;have j:=G2 y;cases e with
    |val v=>
     obtain⟨p,b,rfl⟩:=hr;cases b;exact val v rfl λτ hτ=>step hτ (.inl ⟨_,yτ τ hτ,_,rfl,rfl⟩)
    |lnew s Y=>
     have a:av N pts o=some (.row s true):=a;rw[a]at d;rcases d with h|h<;>cases h
    |lget s f=>
     have a:av N pts o=some (.row s false):=a;rw[a]at d;rcases d with h|h<;>cases h
    |lset s f=>
     have a:av N pts o=some (.row s true):=a;rw[a]at d;rcases d with h|h<;>cases h
    |hget f=>
     obtain⟨p,b,rfl⟩:=hr;simp only[aX]at b;obtain⟨v,D,rfl⟩:=qag.1 b;refine val v rfl λτ hτ=>step hτ (.inl ⟨_,yτ τ hτ,(τ,v),?_,rfl⟩);simp only[aX,j _ _ D _ hτ.2.2,BB]
    |hop f=>
     obtain⟨p,b,rfl⟩:=hr;simp only[aX]at b;obtain⟨q,D,rfl⟩:=qag.1 b;obtain⟨e,V,W,X,P,Q⟩:=j σ.heap q.1 q.2 D;refine⟨e,none,?_,λp b=>(by cases b),λ_=>a,X,P,λτ hτ t=>⟨λb n=>?_,λp k b n T=>?_⟩⟩
     ·unfold eW;rw[V,W]
     ·unfold dY;rw[n];exact step hτ (.inl ⟨_,yτ τ hτ,({ τ with heap:=e.heap τ.heap },e.val τ.heap.length),by simp only[aX,Q _ hτ.2.2,BB],rfl⟩)
     ·unfold dY;rw[n];refine⟨o,f,e.put τ.heap,p.1,p.2,F,by rw[hwτ τ hτ];exact hw,yτ τ hτ,?_,?_,T,(P p b).2.1,?_⟩
      ·rw[Q _ hτ.2.2];unfold HEff.heap HEff.val;rw[b]
      ·unfold HEff.put;split<;>simp
      ·unfold eW HEff.val;rw[b]
    |call f u=>
     exfalso;have a:(av N pts o=some (.neu f)/\N f=some (2*u.length))∨(av N pts o=some .hr/\N f=some (2*u.length+1))∨av N pts o=some .hw:=a;rcases a with⟨h,_⟩|⟨h,_⟩|h
     ·rw[h]at d;rcases d with h|h<;>cases h
     ·obtain⟨c,g,J,K⟩:=j;unfold D7 at r;simp only[h,J,K]at r;cases r
     ·obtain⟨c,g,J,K⟩:=j;unfold D7 at r;simp only[h,J,K]at r;cases r
    |yield l u=>
     exfalso;have a:av N pts o=some .hw:=a;obtain⟨c,g,J,K⟩:=j;unfold D7 at r;simp only[a,J,K]at r;cases r
   ·refine val v rfl λτ hτ=>step hτ (.inr ⟨v,?_,rfl⟩);obtain⟨M,E,O,R⟩:=D;have z:=xE hτ.1;refine⟨M,?_,O,λw=>?_⟩
    ·rw[qab]at E ⊢;intro x L;rw[z x L];exact E x L
    ·rw[execOp_congr N pts G (ρ':=λx=>Cf (ke σ.tmps x)) λx L=>by rw[z x L]];exact R w
end
end Sx
namespace Sx
section
variable [Val] {C:Cfg} {B:Below} {N:Tb} {pts:Tx} {ops:Tl}
def Cx(S:Nat->St->St->Prop):Tx->St->St->Prop
 | [],σ,σ'=>σ'=σ
 |i :: l,σ,σ'=>∃σ₁,S i σ σ₁/\Cx S l σ₁ σ'
def oq{S:Nat->St->St->Prop}{i:Nat}{post:Tx}:∀(pre:Tx),(∀k∈pre,∀σ σ₁ σ':St,S k σ σ₁->S i σ₁ σ'->∃τ,S i σ τ/\S k τ σ')->
  ∀σ σ':St,Cx S (pre++i :: post) σ σ'->Cx S (i :: (pre++post)) σ σ'
 | [],_,σ,σ',h=>h
 |k :: pre,a,σ,σ',⟨σ₁,h1,b⟩=>by
  obtain⟨σ₂,c,d⟩:=oq pre (λk g=>a k (by simp[g])) σ₁ σ' b;obtain⟨τ,e,f⟩:=a k (by simp) σ σ₁ σ₂ h1 c;exact⟨τ,e,σ₂,f,d⟩
def Et{S:Nat->St->St->Prop}(f:∀(i:Nat) o,ops[i]?=some o->∀e∈o.after.toList,Region.binds .any e=true->e.on<i)
  (l:∀i k:Nat,i<ops.size->k<i->Anc ops k i∨∀σ σ₁ σ':St,S k σ σ₁->S i σ₁ σ'->∃τ,S i σ τ/\S k τ σ'):∀(fuel t:Nat) (a:Array Bool),a.size=ops.size->(BX ops.size a).length=fuel->
  (∀(x:Nat) o,a.getD x true=true->ops[x]?=some o->∀e∈o.after.toList,Region.binds .any e=true->a.getD e.on false=true)->
  ∀σ σ':St,Cx S (BX ops.size a) σ σ'->Cx S (Region.linearise.go .any ops fuel t a []) σ σ'/\(Region.linearise.go .any ops fuel t a []).Nodup/\∀x∈Region.linearise.go .any ops fuel t a [],a.getD x true=false
 |0,t,a,_,P,_,σ,σ',h=>by
  have:BX ops.size a=[]:=qa5.1 P;rw[this]at h;simpa[Region.linearise.go]using h
 |fuel+1,t,a,ad,P,G,σ,σ',h=>by
  simp only[Region.linearise.go];generalize J:((List.range ops.size).filter λi=>!a.getD i true&&((ops[i]?).map (·.after.all λe=>!Region.binds .any e||a.getD e.on false)).getD false)=rs;have n:∀i∈rs,i<ops.size/\a.getD i true=false/\∀o,ops[i]?=some o->∀e∈o.after.toList,Region.binds .any e=true->a.getD e.on false=true:=by
   intro i O;rw[←J,qaN,qad]at O;obtain⟨T,U⟩:=O;simp only[uc,Ry]at U;refine⟨T,U.1,λo w e E D=>?_⟩;have M:=U.2;rw[w]at M;simp only[BB,HV]at M;rw[qcY]at M;have:=M e (by simpa using E);rw[D]at this;simpa using this
  have Z:rs≠[]:=by
   have hu:BX ops.size a≠[]:=by intro e;rw[e]at P;cases P
   obtain⟨K,tl,z⟩:=qdw hu;have W:K∈BX ops.size a:=by rw[z];simp
   have m:=W;rw[BX,qaN,qad]at m;have c:K∈rs:=by
    rw[←J,qaN,qad];refine⟨m.1,?_⟩;simp only[uc];refine⟨m.2,?_⟩;have w:ops[K]?=some ops[K]:=by simp[m.1]
    rw[w];simp only[BB,HV];rw[qcY];intro e E;cases D:Region.binds .any e with
    |false=>simp
    |true=>
     have af:=f K _ w e (by simpa using E) D;simp only[Bs,qdL];by_cases b:a.getD e.on true=true
     ·have Q:e.on<a.size:=by omega
      rw[CP]at b ⊢;rw[MN Q]at b ⊢;exact b
     ·exfalso;have v:e.on∈BX ops.size a:=by
       rw[BX,qaN,qad];exact⟨by omega,by simpa using b⟩
      rw[z]at v;rcases qar.1 v with v|v
      ·omega
      ·have Q:(BX ops.size a).Pairwise (· < ·):=qcP _ Rt;rw[z,qbb]at Q;have:=Q.1 _ v;omega
   intro e;rw[e]at c;cases c
  have g:0<rs.length:=qbe.2 Z;have H:rs[t%rs.length]?=some (rs[t%rs.length]'(H3 _ g)):=A4 (H3 _ g);rw[H];simp only;generalize O:rs[t%rs.length]'(H3 _ g)=i;have c:i∈rs:=by rw[←O];exact qdg _
  obtain⟨i1,i2,i3⟩:=n i c;rw[linearise_go_acc,List.reverse_singleton,List.singleton_append];have X:i∈(List.range ops.size).filter λj=>!a.getD j true:=by
   rw[qaN,qad];exact⟨i1,by simp[i2]⟩
  obtain⟨A,post,R,e2,e3⟩:=ic qcT X;have I:=lN R;have p:BX ops.size (a.setIfInBounds i true)=A++post:=by
   rw[←e2];unfold BX;refine qdJ λj hj=>?_;rw[CP,CP,Rv];by_cases u:i=j
   ·subst u;rw[mc rfl,mc (by omega)];simp
   ·rw[po u];have:(j != i)=true:=by simpa using λe=>u e.symm
    simp[this]
  have Y:=oq (S:=S) (i:=i) (post:=post) A (λk hk σ σ₁ σ' s1 s2=>by
   obtain⟨m1,m2⟩:=e3 k hk;rw[qaN,qad]at m1;rcases l i k i1 (I k hk)with F|V
   ·exfalso;have:=pL G F i3;have L:=m1.2;rw[CP]at this L;rw[MN (by omega)]at this L;simp only[HV]at this L;rw[this]at L;cases L
   ·exact V _ _ _ s1 s2) σ σ'
  obtain⟨σ₁,s1,s2⟩:=Y (by rw[←R];exact h);obtain⟨r1,r2,r3⟩:=Et f l fuel (t / rs.length) (a.setIfInBounds i true) (by simp[ad]) (by
    rw[p];have:(BX ops.size a).length=(A++post).length+1:=by
     show(List.filter _ _).length=_;rw[R];simp;omega
    omega) (by
    intro x o r w e E D;have s:∀y,a.getD y false=true->(a.setIfInBounds i true).getD y false=true:=by
     intro y hy;rw[CP]at hy ⊢;rw[Rv];split
     next T=>
      subst T;rw[mc (by omega)];rfl
     ·exact hy
    by_cases d:x=i
    ·subst d;exact s _ (i3 o w e E D)
    ·refine s _ (G x o ?_ w e E D);rw[CP,Rv,po (λe=>d e.symm)]at r;rw[CP];exact r) σ₁ σ' (by rw[p];exact s2)
  have q:∀x∈Region.linearise.go .any ops fuel (t / rs.length) (a.setIfInBounds i true) [],x≠i/\a.getD x true=false:=by
   intro x r;have:=r3 x r;rw[CP,Rv]at this;by_cases d:i=x
   ·subst d;rw[mc rfl,mc (by omega)]at this;cases this
   ·rw[po d]at this;exact⟨BO d,by rw[CP];exact this⟩
  refine⟨⟨σ₁,s1,r1⟩,qbU.2 ⟨λv=>(q i v).1 rfl,r2⟩,λx r=>?_⟩;rcases qar.1 r with rfl|r
  ·exact i2
  ·exact(q x r).2
end
end Sx
namespace Sx
def eH(a:List (Nat×HObj))(H:Tp):Tp:=a.foldl (λH p=>H.set p.1 p.2) H
def fo:∀(a:List (Nat×HObj)) (H:Tp),(eH a H).length=H.length
 | [],H=>rfl
 |p :: a,H=>by
  show(eH a (H.set p.1 p.2)).length=_;rw[fo a];simp
def kj{r:Nat}:∀ {a:List (Nat×HObj)} {H:Tp},(∀p∈a,p.1≠r)->(eH a H)[r]?=H[r]?
 | [],H,_=>rfl
 |p :: a,H,h=>by
  show(eH a (H.set p.1 p.2))[r]?=_;rw[kj λq b=>h q (Bo _ b),BL (h p (by simp))]
def uI{i:Nat}{x:HObj}:∀ {a:List (Nat×HObj)} {H:Tp},(∀p∈a,p.1≠i)->eH a (H.set i x)=(eH a H).set i x
 | [],H,_=>rfl
 |p :: a,H,h=>by
  show eH a ((H.set i x).set p.1 p.2)=(eH a (H.set p.1 p.2)).set i x;rw[List.set_comm _ _ (BO (h p (by simp))),uI λq b=>h q (Bo _ b)]
def iN:∀ {a b:List (Nat×HObj)} {H:Tp},(∀p∈a,∀q∈b,p.1≠q.1)->eH a (eH b H)=eH b (eH a H)
 | [],b,H,_=>rfl
 |p :: a,b,H,h=>by
  show eH a ((eH b H).set p.1 p.2)=eH b (eH a (H.set p.1 p.2));rw[←uI λq c=>BO (h p (by simp) q c)];exact iN λq c=>h q (Bo _ c)
section
variable [Val] {C:Cfg} {B:Below} {N:Tb} {pts:Tx} {ops:Tl}
structure Rec where
 σ:St
 e:HEff
 rw:Option (Nat×Option (Tk))
 k:Option Nat
def Rec.on(r:Rec)(o:Oper)(τ:St):St:=eW o.dst r.e r.rw r.k τ
def Rec.sees(N:Tb)(pts:Tx)(ops:Tl)(r:Rec)(o:Oper)(τ:St):Prop:=
 qP N pts ops o r.σ τ/\∀k,r.k=some k->(r.e.put τ.heap)[k]?=some .dead
def Rec.slot(r:Rec):List (Nat×HObj):=match r.k,r.e.push with
 |some k,some p=>[(k,p.1)]
 |_,_=>[]
def Rec.ws(r:Rec):List (Nat×HObj):=r.e.set.toList++r.slot
structure Rec.Ok(C:Cfg)(B:Below)(N:Tb)(pts:Tx)(ops:Tl)(i:Nat)(o:Oper)(r:Rec):Prop where
 row:∀p,r.rw=some p->av N pts o=some (.row p.1 true)
 wr:∀p,r.e.set=some p->p.1∈EX pts (ke r.σ.tmps) o
 kp:r.k=none↔r.e.push=none
 fr:∀p,r.e.push=some p->Fresh p.2/\av N pts o=some .hw/\dq pts o=true
 step:∀τ,r.sees N pts ops o τ->∀sl:Nat->Option Nat,sl i=r.k->dY C B pts ops sl i τ (r.on o τ)
def eF(e:HEff)(H:Tp):e.put H=eH e.set.toList H:=by
 unfold HEff.put;cases e.set<;>rfl
def gh{r:Rec}{o:Oper}{τ:St}(h:r.k=none↔r.e.push=none):(r.on o τ).heap=eH r.ws τ.heap:=by
 unfold Rec.on eW;rw[jX];unfold Rec.ws Rec.slot;cases a:r.k with
 |none=>
  simp only[HEff.heap,h.1 a,eF,Ci]
 |some k=>
  cases b:r.e.push with
  |none=>rw[h.2 b]at a;cases a
  |some p=>
   simp only[eF];show(eH r.e.set.toList τ.heap).set k p.1=_;unfold eH;rw[qcM];rfl
def ox{r:Rec}{o:Oper}{τ:St}:(r.on o τ).loc=(match r.rw with|some p=>τ.loc.set p.1 p.2|none=>τ.loc):=by
 unfold Rec.on eW;rw[sy]
 all_goals (cases r.rw<;>rfl)
def Rec.val(r:Rec):Value:=match r.k with
 |some k=>r.e.val k
 |none=>r.e.v
def mQ{r:Rec}{o:Oper}{τ:St}(h:r.k=none↔r.e.push=none):(r.on o τ).tmps=(match o.dst with|some d=>τ.tmps.set d r.val|none=>τ.tmps):=by
 unfold Rec.on eW;rw[sA];unfold Rec.val;cases a:r.k with
 |none=>simp only[HEff.val,h.1 a];all_goals (cases o.dst<;>rfl)
 |some k=>cases o.dst<;>rfl
def D0:MC->MC->Bool
 | .row s w,.row a w'=>!Nat.beq s a||(!w && !w')
 |_,_=>true
def L8(N:Tb)(pts:Tx)(ops:Tl)(a b:Oper):Bool:=
 match av N pts a,av N pts b with
 |some m,some n=>D0 m n&&bv a.dst (bj ops b)&&bv b.dst (bj ops a)&&bi a.dst b.dst
 |_,_=>false
def pS{d:Tn}{l:Tx}(a:bv d l=true):∀t∈l,∀x,d=some x->x≠t:=by
 intro t c x e b;subst e b;simp only[bv,Ry,qcQ,decide_eq_false_iff_not]at a;exact a c
def GF{a b:Oper}{m n:MC}{f rb:Rec}{J:Nat}(F:av N pts a=some m)(g:av N pts b=some n)(k:f.Ok C B N pts ops J a)(i:D0 m n=true∨D0 n m=true)(G:bv a.dst (bj ops b)=true)
  (E:∀p∈f.ws,p.1∉B3 pts (ke rb.σ.tmps) b) {τ:St}:qP N pts ops b rb.σ (f.on a τ)↔qP N pts ops b rb.σ τ:=by
 have o:∀t∈bj ops b,(f.on a τ).tmps[t]?=τ.tmps[t]?:=λt o=>by
  unfold Rec.on eW;exact sx λx j=>pS G t o x j
 have A:∀s w,av N pts b=some (.row s w)->(f.on a τ).loc[s]?=τ.loc[s]?:=λs w D=>by
  rw[ox];cases q:f.rw with
  |none=>rfl
  |some p=>
   have y:=k.row p q;rw[F]at y;rw[g]at D;cases y;cases D;have:p.1≠s:=by
    intro H;subst H;rcases i with h|h<;>simp[D0]at h
   show(τ.loc.set p.1 p.2)[s]?=_;rw[BL this]
 have z:∀r∈B3 pts (ke rb.σ.tmps) b,(f.on a τ).heap[r]?=τ.heap[r]?:=λr d=>by
  rw[gh k.kp];exact kj λp I e=>E p I (e▸d)
 constructor
 ·rintro⟨u,l,v⟩;refine⟨λt h=>by rw[←o t h];exact u t h,?_,λr d x j c=>by rw[←z r d];exact v r d x j c⟩;rw[g]at l ⊢;cases n<;>first|trivial|(rename_i s w;exact(A s w g).symm.trans l)
 ·rintro⟨u,l,v⟩;refine⟨λt h=>by rw[o t h];exact u t h,?_,λr d x j c=>by rw[z r d];exact v r d x j c⟩;rw[g]at l ⊢;cases n<;>first|trivial|(rename_i s w;exact(A s w g).trans l)
def swapR{a b:Oper}{c rb:Rec}{O P:Nat}(d:c.Ok C B N pts ops O a)(f:rb.Ok C B N pts ops P b)(i:L8 N pts ops a b=true)
  (L:∀p∈c.ws,p.1∉B3 pts (ke rb.σ.tmps) b) (M:∀p∈rb.ws,p.1∉B3 pts (ke c.σ.tmps) a) (r:∀p∈c.ws,∀q∈rb.ws,p.1≠q.1) {τ:St} (J:c.sees N pts ops a τ) (K:rb.sees N pts ops b (c.on a τ)) :
  rb.sees N pts ops b τ/\c.sees N pts ops a (rb.on b τ)/\rb.on b (c.on a τ)=c.on a (rb.on b τ):=by
 unfold L8 at i;split at i
 case h_2=>cases i
 rename_i m n z A
 simp only[uc]at i;obtain⟨⟨⟨t,c2⟩,c3⟩,c4⟩:=i;have R:=GF (rb:=rb) z A d (.inl t) c2 L (τ:=τ);have Q:=GF (rb:=c) A z f (.inr t) c3 M (τ:=τ);refine⟨⟨R.1 K.1,λk h=>?_⟩,⟨Q.2 J.1,λk h=>?_⟩,?_⟩
 ·have j:=K.2 k h;have w:∃p,rb.e.push=some p:=by
   cases l:rb.e.push with
   |none=>rw[f.kp.2 l]at h;cases h
   |some p=>exact⟨p,rfl⟩
  obtain⟨p,l⟩:=w;have g:(k,p.1)∈rb.ws:=by simp[Rec.ws,Rec.slot,h,l]
  rw[gh d.kp,eF,←iN (λq o s i e=>r q o s (DW _ i) e),kj (λq o e=>r q o _ g e)]at j;rw[eF];exact j
 ·have j:=J.2 k h;have v:∃p,c.e.push=some p:=by
   cases l:c.e.push with
   |none=>rw[d.kp.2 l]at h;cases h
   |some p=>exact⟨p,rfl⟩
  obtain⟨p,l⟩:=v;have g:(k,p.1)∈c.ws:=by simp[Rec.ws,Rec.slot,h,l]
  rw[gh f.kp,eF,iN (λq o s i e=>r q (DW _ o) s i e),kj (λq o e=>r _ g q o e.symm)];rw[eF]at j;exact j
 ·have j:(rb.on b (c.on a τ)).tmps=(c.on a (rb.on b τ)).tmps:=by
   rw[mQ f.kp,mQ d.kp,mQ d.kp,mQ f.kp];cases D:a.dst with
   |none=>rfl
   |some x=>
    cases E:b.dst with
    |none=>rfl
    |some y=>
     rw[D,E]at c4;have:x≠y:=by
      intro u;subst u;simp[bi]at c4
     exact set_comm _ _ _ this
  have H:(rb.on b (c.on a τ)).loc=(c.on a (rb.on b τ)).loc:=by
   rw[ox,ox,ox,ox];cases D:c.rw with
   |none=>rfl
   |some p=>
    cases E:rb.rw with
    |none=>rfl
    |some q=>
     have F:=d.row p D;have G:=f.row q E;rw[z]at F;rw[A]at G;cases F;cases G;have:p.1≠q.1:=by
      intro u;rw[u]at t;simp[D0]at t
     exact set_comm _ _ _ this
  have I:(rb.on b (c.on a τ)).heap=(c.on a (rb.on b τ)).heap:=by
   rw[gh f.kp,gh d.kp,gh d.kp,gh f.kp];exact(iN r).symm
  generalize rb.on b (c.on a τ)=x at *;generalize c.on a (rb.on b τ)=y at *;cases x;cases y;simp only at j H I;subst j;subst H;subst I;rfl
end
end Sx
namespace Sx
section
variable [Val] {C:Cfg} {B:Below} {N:Tb} {pts:Tx} {ops:Tl}
def St.padTo(σ:St)(m:Nat):St:=σ.pad (m - σ.heap.length)
def H4(N:Tb)(pts:Tx)(ops:Tl)(a:Nat->Rec)(i:Nat)(τ τ':St):Prop:=∃o,ops[i]?=some o/\(a i).sees N pts ops o τ/\τ'=(a i).on o τ
def ki{D:Tp}:∀ {a:List (Nat×HObj)} {H:Tp},(∀p∈a,p.1<H.length)->eH a (H++D)=eH a H++D
 | [],H,_=>rfl
 |p :: a,H,h=>by
  show eH a ((H++D).set p.1 p.2)=eH a (H.set p.1 p.2)++D;rw[qdn _ _ (h p (by simp)),ki λq b=>by
   have:=h q (Bo _ b);simpa using this]
structure RunOk(C:Cfg)(B:Below)(N:Tb)(pts:Tx)(ops:Tl)(l:Tx)(σ σ':St)(rc:Nat->Rec):Prop where
 len:σ.heap.length<=σ'.heap.length
 ok:∀i∈l,∀o,ops[i]?=some o->(rc i).Ok C B N pts ops i o
 slot:∀i∈l,∀k,(rc i).k=some k->σ.heap.length<=k/\k<σ'.heap.length
 inj:∀i∈l,∀j∈l,∀k,(rc i).k=some k->(rc j).k=some k->i=j
 keep:∀t,(∀j∈l,∀o,ops[j]?=some o->o.dst≠some t)->σ'.tmps[t]?=σ.tmps[t]?
 args:∀i∈l,∀t,(∀j∈l,i<=j->∀o,ops[j]?=some o->o.dst≠some t)->σ'.tmps[t]?=(rc i).σ.tmps[t]?
 res:∀i∈l,∀o d v,ops[i]?=some o->o.dst=some d->(∀j∈l,i<j->∀o,ops[j]?=some o->o.dst≠some d)->σ'.tmps[d]?=some v->v=(rc i).val
 run:∀m,σ'.heap.length<=m->Cx (H4 N pts ops rc) l (St.padTo σ m) (St.padTo σ' m)
def G3{dst:Tn}{e:HEff}{rw:Option (Nat×Option (Tk))}{σ:St}:(eW dst e rw none σ).heap.length=σ.heap.length+(match e.push with|some _=>1|none=>0):=by
 unfold eW;rw[jX];simp only[HEff.heap,HEff.put];cases e.push<;>cases e.set<;>simp
def kM{dst:Tn}{e:HEff}{rw:Option (Nat×Option (Tk))}{k:To}{σ:St}:(eW dst e rw k σ).tmps=(match dst with|some d=>σ.tmps.set d (match k with|none=>e.val σ.heap.length|some k=>e.val k)|none=>σ.tmps):=by
 unfold eW;rw[sA]
 all_goals (cases dst<;>rfl)
def PC(F:Bq N B){i:Nat}{o:Oper}(I:ops[i]?=some o)(G:D7 N pts o=true){σ σ₁:St}(K:aj C B pts ops i σ σ₁) :
  ∃r:Rec,r.σ=σ/\r.Ok C B N pts ops i o/\σ.heap.length<=σ₁.heap.length/\(∀k,r.k=some k->k=σ.heap.length/\k<σ₁.heap.length)/\
   (∀t,o.dst≠some t->σ₁.tmps[t]?=σ.tmps[t]?)/\(∀d v,o.dst=some d->σ₁.tmps[d]?=some v->v=r.val)/\
   ∀m,σ₁.heap.length<=m->r.sees N pts ops o (St.padTo σ m)/\St.padTo σ₁ m=r.on o (St.padTo σ m):=by
 obtain⟨e,rw,g,D,E,y,z,A⟩:=HE (N:=N) F I G K;have b:σ₁.heap.length=σ.heap.length+(match e.push with|some _=>1|none=>0):=by rw[g];exact G3
 refine⟨⟨σ,e,rw,match e.push with|some _=>some σ.heap.length|none=>none⟩,rfl,⟨D,λp a=>(y p a).1,?_,λp a=>⟨(z p a).2.1,E (by rw[show e.push=some p from a];simp),(z p a).1⟩,?_⟩,by omega,?_,?_,?_,?_⟩
 ·cases a:e.push<;>simp
 ·intro τ hτ sl hsl;unfold Rec.on;simp only at hsl ⊢;cases a:e.push with
  |none=>
   rw[a]at hsl;exact(A τ hτ.1 sl).1 a hsl
  |some p=>
   rw[a]at hsl;refine(A τ hτ.1 sl).2 p _ a hsl (hτ.2 _ ?_);simp only[a]
 ·intro k c;simp only at c;cases a:e.push with
  |none=>rw[a]at c;cases c
  |some p=>
   rw[a]at c b;cases c;exact⟨rfl,by simp only at b;omega⟩
 ·intro t L;rw[g];unfold eW;exact sx λx l e=>L (by rw[l,e])
 ·intro d v H j;rw[g,kM,H]at j;simp only[DX]at j;split at j
  ·split at j
   ·cases j;unfold Rec.val;simp only[HEff.val];cases a:e.push<;>rfl
   ·cases j
  next s=>exact absurd trivial s
 ·intro m P;have q:(St.padTo σ m).heap=σ.heap++List.replicate (m - σ.heap.length) .dead:=rfl;have f:∀p∈e.set.toList,p.1<σ.heap.length:=λp a=>by
   obtain⟨_,x,l,_⟩:=y p (by simpa using a);exact(qbh.1 l).1
  refine⟨⟨⟨λt _=>rfl,?_,λr _ x l _=>?_⟩,λk c=>?_⟩,?_⟩
  ·cases av N pts o with
   |none=>trivial
   |some M=>cases M<;>first|trivial|rfl
  ·rw[q,BE (qbh.1 l).1];exact l
  ·simp only at c;cases a:e.push with
   |none=>rw[a]at c;cases c
   |some p=>
    rw[a]at c b;cases c;simp only at b ⊢;rw[eF,q,ki f,Cd (by rw[fo];exact zY _),fo,F8,It,mc (by omega)]
  · -- the same state
   have u:(St.padTo σ₁ m).tmps=((⟨σ,e,rw,match e.push with|some _=>some σ.heap.length|none=>none⟩ : Rec).on o (St.padTo σ m)).tmps:=by
    show σ₁.tmps=_;unfold Rec.on;rw[g,kM,kM];show _=(match o.dst with|some d=>σ.tmps.set d _|none=>σ.tmps);cases o.dst with
    |none=>rfl
    |some d=>
     simp only[HEff.val];cases a:e.push<;>rfl
   have w:(St.padTo σ₁ m).loc=((⟨σ,e,rw,match e.push with|some _=>some σ.heap.length|none=>none⟩ : Rec).on o (St.padTo σ m)).loc:=by
    show σ₁.loc=_;unfold Rec.on;rw[g];unfold eW;rw[sy,sy];rfl
   have e3:(St.padTo σ₁ m).heap=((⟨σ,e,rw,match e.push with|some _=>some σ.heap.length|none=>none⟩ : Rec).on o (St.padTo σ m)).heap:=by
    show σ₁.heap++List.replicate (m - σ₁.heap.length) .dead=_;unfold Rec.on;have n:σ₁.heap=e.heap σ.heap:=by rw[g];unfold eW;rw[jX]
    unfold eW;rw[jX,q];cases a:e.push with
    |none=>
     rw[a]at b;simp only[a,HEff.heap,eF]at n ⊢;rw[ki f,n];simp only[fo]
    |some p=>
     rw[a]at b;simp only at b;simp only[a,HEff.heap,eF]at n ⊢;rw[ki f,n];have J:m - σ.heap.length=(m - σ.heap.length - 1)+1:=by omega
     rw[J,qcD];rw[Ru _ _ (by rw[fo];exact zY _),fo,F8,qc1];simp only[AN,A5,fo,CT,UP,Aw,Ap];rw[show m - (σ.heap.length+(0+1))=m - σ.heap.length - 1 by omega]
   generalize O:(⟨σ,e,rw,match e.push with|some _=>some σ.heap.length|none=>none⟩ : Rec).on o (St.padTo σ m)=X at *;generalize St.padTo σ₁ m=Y at *;cases X;cases Y;simp only at u w e3;subst u;subst w;subst e3;rfl
def qC{S a:Nat->St->St->Prop}:∀ {l:Tx},(∀i∈l,∀σ σ',S i σ σ'->a i σ σ')->∀ {σ σ':St},Cx S l σ σ'->Cx a l σ σ'
 | [],_,_,_,h=>h
 |i :: l,b,σ,σ',⟨σ₁,h1,c⟩=>⟨σ₁,b i (by simp) _ _ h1,qC (λj d=>b j (Bo _ d)) c⟩
def Gd(I:Bq N B):∀(l:Tx) (σ σ':St),l.Pairwise (· < ·)->(∀i∈l,∃o,ops[i]?=some o/\D7 N pts o=true)->bK C B pts ops l σ σ'->∃D:Nat->Rec,RunOk C B N pts ops l σ σ' D
 | [],σ,σ',_,_,h=>by
  have:σ'=σ:=h;subst this;exact⟨λ_=>⟨σ',⟨none,none,undef⟩,none,none⟩,zY _,λ_ h=>(by cases h),λ_ h=>(by cases h),λ_ h=>(by cases h),λ_ _=>rfl,λ_ h=>(by cases h),λ_ h=>(by cases h),λ_ _=>rfl⟩
 |i :: l,σ,σ',A,z,⟨σ₁,O,P⟩=>by
  obtain⟨o,u,Q⟩:=z i (by simp);obtain⟨r,rfl,T,U,F,M,V,W⟩:=PC I u Q O;rw[qbb]at A;obtain⟨D,R⟩:=Gd I l σ₁ σ' A.2 (λj a=>z j (Bo _ a)) P;have E:∀j∈l,j≠i:=λj a e=>by have:=A.1 j a;omega
  have c:∀j∈l,(if j=i then r else D j)=D j:=λj a=>po (E j a);refine⟨λj=>if j=i then r else D j,EL U R.len,?_,?_,?_,?_,?_,?_,?_⟩
  ·intro j a s g;rcases qar.1 a with rfl|a
   ·simp only[if_true];rw[u]at g;cases g;exact T
   ·simp only[c j a];exact R.ok j a s g
  ·intro j a k p;rcases qar.1 a with rfl|a
   ·simp only[if_true]at p;obtain⟨G,H⟩:=F k p;have:=R.len;omega
   ·simp only[c j a]at p;have:=R.slot j a k p;omega
  ·intro j a f b k p n;rcases qar.1 a with q1|q1<;>rcases qar.1 b with q|q
   ·rw[q1,q]
   ·simp only[q1,if_true]at p;simp only[c f q]at n;have G:=F k p;have H:=R.slot f q k n;omega
   ·simp only[q,if_true]at n;simp only[c j q1]at p;have G:=F k n;have H:=R.slot j q1 k p;omega
   ·simp only[c j q1]at p;simp only[c f q]at n;exact R.inj j q1 f q k p n
  ·intro t w;rw[R.keep t λj a=>w j (Bo _ a)];exact M t (w i (by simp) o u)
  ·intro j a t w;rcases qar.1 a with rfl|a
   ·simp only[if_true];have x:∀f∈l,∀s,ops[f]?=some s->s.dst≠some t:=λf b=>w f (Bo _ b) (Nat.le_of_lt (A.1 f b));rw[R.keep t x];exact M t (w j (by simp) (zY _) o u)
   ·simp only[c j a];exact R.args j a t λf b=>w f (Bo _ b)
  ·intro j a s d v g J y L;rcases qar.1 a with rfl|a
   ·simp only[if_true];rw[u]at g;cases g;refine V d v J ?_;rw[←R.keep d λf b=>y f (Bo _ b) (A.1 f b)];exact L
   ·simp only[c j a];exact R.res j a s d v g J (λf b=>y f (Bo _ b)) L
  ·intro m K;obtain⟨X,Y⟩:=W m (EL R.len K);refine⟨St.padTo σ₁ m,⟨o,u,?_,?_⟩,?_⟩
   ·simp only[if_true];exact X
   ·simp only[if_true];exact Y
   ·refine qC (λj a τ τ' h=>?_) (R.run m K);obtain⟨s,q1,q,S⟩:=h;exact⟨s,q1,by simp only[c j a];exact q,by simp only[c j a];exact S⟩
end
end Sx
namespace Sx
section
variable [Val] {C:Cfg} {B:Below} {N:Tb} {pts:Tx} {ops:Tl}
def H6(o:Oper)(σ:St):Ax N pts ops o σ σ:=by
 refine⟨λ_ _=>rfl,?_⟩;cases av N pts o with
 |none=>trivial
 |some m=>cases m<;>first|trivial|rfl
def H7{o:Oper}{σ τ:St}(h:Ax N pts ops o σ τ):Ax N pts ops o τ σ:=by
 refine⟨λt b=>(h.1 t b).symm,?_⟩;have h:=h.2;cases a:av N pts o with
 |none=>trivial
 |some m=>rw[a]at h;cases m<;>first|trivial|exact h.symm
def fQ{o:Oper}{σ τ ρ:St}(h:Ax N pts ops o σ τ)(h':Ax N pts ops o τ ρ):Ax N pts ops o σ ρ:=by
 refine⟨λt a=>(h'.1 t a).trans (h.1 t a),?_⟩;have h:=h.2;have h':=h'.2;cases b:av N pts o with
 |none=>trivial
 |some m=>rw[b]at h h';cases m<;>first|trivial|exact h'.trans h
structure Loc(C:Cfg)(B:Below)(N:Tb)(pts:Tx)(ops:Tl)(j:Nat)(b:Oper)(f:Ef)(τ τ':St):Prop where
 is:τ'=f.on b.dst τ
 tc:tb (av N pts b) f
 st:∀ρ,Ax N pts ops b τ ρ->aj C B pts ops j ρ (f.on b.dst ρ)
def tD(N:Tb)(pts:Tx)(ops:Tl)(a b:Oper):Bool:=
 match av N pts a,av N pts b with
 |some m,some n=>m.ok2 n&&bv a.dst (bj ops b)&&bv b.dst (bj ops a)&&bi a.dst b.dst
 |_,_=>false
def Mh{i j:Nat}{a b:Oper}{e f:Ef}(d:tD N pts ops a b=true){τ τ₁ τ':St}(h1:Loc C B N pts ops i a e τ τ₁)(c:Loc C B N pts ops j b f τ₁ τ') :
  Loc C B N pts ops j b f τ (f.on b.dst τ)/\Loc C B N pts ops i a e (f.on b.dst τ) τ'/\Ax N pts ops b τ₁ τ:=by
 unfold tD at d;split at d
 next m n k l=>
  simp only[uc]at d;obtain⟨⟨⟨g,c2⟩,c3⟩,c4⟩:=d;have o:Ax N pts ops b τ₁ τ:=by
   rw[h1.is];exact H7 (yq k l (.inl g) c2 h1.tc τ)
  have p:Ax N pts ops a τ (f.on b.dst τ):=yq l k (.inr g) c3 c.tc τ;refine⟨⟨rfl,c.tc,λρ hρ=>c.st ρ (fQ o hρ)⟩,⟨?_,h1.tc,λρ hρ=>h1.st ρ (fQ p hρ)⟩,o⟩;rw[c.is,h1.is];exact FY k l g c4 h1.tc c.tc τ
 ·cases d
def DZ(N:Tb)(pts:Tx)(ops:Tl)(a b:Oper):Bool:=
 (match av N pts a with
 |some .hr=>true
 |_=>false)&&((match av N pts b with
 |some .hw=>true
 |_=>false)&&(bv a.dst (bj ops b)&&(bv b.dst (bj ops a)&&(bv a.dst (bj ops a)&&bi a.dst b.dst))))
def kL{o:Oper}(b:av N pts o=some .hr){e:Ef}(a:tb (av N pts o) e):e.rw=none/\e.hp=none:=by
 rw[b]at a;constructor
 ·cases h:e.rw with
  |none=>rfl
  |some p=>have:=a.1 p h;cases this
 ·cases h:e.hp with
  |none=>rfl
  |some p=>have:=a.2 (by rw[h];simp);cases this
def iw{e:Ef}{d:Tn}{σ:St}{t:Nat}(h:∀x,d=some x->x≠t):(e.on d σ).tmps[t]?=σ.tmps[t]?:=by
 unfold Ef.on;exact sx h
def bO{d:Tn}{l:Tx}(h:bv d l=true){t:Nat}(a:t∈l):∀x,d=some x->x≠t:=by
 intro x b e;subst e;rw[b]at h;simp only[bv,Ry,qcQ,decide_eq_false_iff_not]at h;exact h a
def PY{k i:Nat}{a b:Oper}{e f:Ef}(j:DZ N pts ops a b=true){τ τ₁ τ':St}(h1:Loc C B N pts ops k a e τ τ₁)(g:Loc C B N pts ops i b f τ₁ τ')(v:∀ρ,Ax N pts ops a τ' ρ->aj C B pts ops k ρ (e.on a.dst ρ)) :
  Loc C B N pts ops i b f τ (f.on b.dst τ)/\Loc C B N pts ops k a e (f.on b.dst τ) τ'/\Ax N pts ops a τ' (f.on b.dst τ):=by
 unfold DZ at j;simp only[uc]at j;obtain⟨m,c2,c3,c4,c5,c6⟩:=j;have r:av N pts a=some .hr:=by
  split at m
  ·assumption
  ·cases m
 have z:av N pts b=some .hw:=by
  split at c2
  ·assumption
  ·cases c2
 obtain⟨u,n⟩:=kL r h1.tc;have c:∀σ:St,(e.on a.dst σ).heap=σ.heap:=λσ=>by rw[dV,n];rfl
 have D:Ax N pts ops b τ₁ τ:=by
  refine⟨λt l=>?_,?_⟩
  ·rw[h1.is];exact(iw (bO c3 l)).symm
  ·rw[z];show τ.heap=τ₁.heap;rw[h1.is,c]
 have d:τ'=e.on a.dst (f.on b.dst τ):=by
  rw[g.is,h1.is];have o:(f.on b.dst (e.on a.dst τ)).tmps=(e.on a.dst (f.on b.dst τ)).tmps:=by
   simp only[sf];cases d:a.dst with
   |none=>rfl
   |some x=>
    cases A:b.dst with
    |none=>rfl
    |some y=>
     rw[d,A]at c6;have:x≠y:=by intro w;subst w;simp[bi]at c6
     exact set_comm _ _ _ this
  have p:(f.on b.dst (e.on a.dst τ)).loc=(e.on a.dst (f.on b.dst τ)).loc:=by
   simp only[xB,u]
  have q:(f.on b.dst (e.on a.dst τ)).heap=(e.on a.dst (f.on b.dst τ)).heap:=by
   simp only[dV,n,qdk]
  generalize f.on b.dst (e.on a.dst τ)=x at *;generalize e.on a.dst (f.on b.dst τ)=y at *;cases x;cases y;simp only at o p q;subst o;subst p;subst q;rfl
 have s:Ax N pts ops a τ' (f.on b.dst τ):=by
  rw[d];refine⟨λt l=>(iw (bO c5 l)).symm,?_⟩;rw[r];exact(c _).symm
 exact⟨⟨rfl,g.tc,λρ hρ=>g.st ρ (fQ D hρ)⟩,⟨d,h1.tc,λρ hρ=>v ρ (fQ s hρ)⟩,s⟩
def PE(q:Nat->Nat->Oper->Oper->Bool)(j:Nat)(b:Oper)(m:Nat):Tu->Nat->Bool
 | [],_=>true
 |a :: l,n=>(Nat.testBit m n||q n j a b)&&PE q j b m l (n+1)
def DT(q:Nat->Nat->Oper->Oper->Bool)(ms:Tx):Tu->Tu->Nat->Bool
 |_,[],_=>true
 |pre,b :: l,i=>PE q i b (ms.getD i 0) pre 0&&DT q ms (pre++[b]) l (i+1)
def Gf{q:Nat->Nat->Oper->Oper->Bool}{i:Nat}{b:Oper}{m:Nat}:∀ {l:Tu} {k:Nat},PE q i b m l k=true->∀(j:Nat) a,l[j]?=some a->m.testBit (k+j)=true∨q (k+j) i a b=true
 | [],k,_,j,a,h=>by simp at h
 |a :: l,k,h,j,c,d=>by
  simp only[PE,uc,Ck]at h;cases j with
  |zero=>simp at d;subst d;exact h.1
  |succ j=>
   have:=Gf h.2 j c (by simpa using d)
   rwa [show k+1+j=k+(j+1)by omega]at this
def xH{q:Nat->Nat->Oper->Oper->Bool}{ms:Tx}:∀ {l pre:Tu} {i:Nat},pre.length=i->DT q ms pre l i=true->∀(j:Nat) b,l[j]?=some b->∀(k:Nat) a,k<i+j->(pre++l)[k]?=some a->(ms.getD (i+j) 0).testBit k=true∨q k (i+j) a b=true
 | [],pre,i,_,_,j,b,h,_,_,_,_=>by simp at h
 |b :: l,pre,i,f,h,j,c,e,k,a,g,d=>by
  simp only[DT,uc]at h;cases j with
  |zero=>
   simp at e;subst e;rw[BE (by omega)]at d;have:=Gf h.1 k a d;simpa using this
  |succ j=>
   have:=xH (pre:=pre++[b]) (i:=i+1) (by simp[f]) h.2 j c (by simpa using e) k a (by omega) (by simpa using d)
   rwa [show i+1+j=i+(j+1)by omega]at this
def Ex(i:Bq N B)(a:∀(j:Nat) b,ops[j]?=some b->av N pts b≠none){j:Nat}{b:Oper}(c:ops[j]?=some b){τ τ':St}(h:aj C B pts ops j τ τ'):∃f,Loc C B N pts ops j b f τ τ':=by
 obtain⟨f,d,e,g⟩:=iK i c (a j b c) h;exact⟨f,d,e,g⟩
def qt{S:Nat->St->St->Prop}(a:∀i σ σ',S i σ σ'->aj C B pts ops i σ σ'):∀ {l:Tx} {σ σ':St},Cx S l σ σ'->bK C B pts ops l σ σ'
 | [],_,_,h=>h
 |_ :: _,_,_,⟨σ₁,h1,b⟩=>⟨σ₁,a _ _ _ h1,qt a b⟩
end
end Sx
namespace Sx
section
variable [Val] {C:Cfg} {B:Below} {N:Tb} {pts:Tx} {ops:Tl}
def zh{a b:Tn}(k:bi a b=true){e f:Ef}(j:e.rw=none)(c:e.hp=none)(τ:St):f.on b (e.on a τ)=e.on a (f.on b τ):=by
 have i:∀σ:St,(e.on a σ).heap=σ.heap:=λσ=>by rw[dV,c];rfl
 have d:(f.on b (e.on a τ)).tmps=(e.on a (f.on b τ)).tmps:=by
  simp only[sf];cases a with
  |none=>rfl
  |some x=>
   cases b with
   |none=>rfl
   |some y=>
    have:x≠y:=by intro l;subst l;simp[bi]at k
    exact set_comm _ _ _ this
 have g:(f.on b (e.on a τ)).loc=(e.on a (f.on b τ)).loc:=by
  simp only[xB,j]
 have h:(f.on b (e.on a τ)).heap=(e.on a (f.on b τ)).heap:=by
  simp only[dV,c,qdk]
 generalize f.on b (e.on a τ)=x at *;generalize e.on a (f.on b τ)=y at *;cases x;cases y;simp only at d g h;subst d;subst g;subst h;rfl
def vV{a b:Oper}(c:DZ N pts ops a b=true):av N pts a=some .hr/\av N pts b=some .hw/\bv a.dst (bj ops b)=true/\bv b.dst (bj ops a)=true/\bv a.dst (bj ops a)=true/\bi a.dst b.dst=true:=by
 unfold DZ at c;simp only[uc]at c;obtain⟨d,c2,c3,c4,c5,c6⟩:=c;have e:av N pts a=some .hr:=by
  split at d
  ·assumption
  ·cases d
 have f:av N pts b=some .hw:=by
  split at c2
  ·assumption
  ·cases c2
 exact⟨e,f,c3,c4,c5,c6⟩
def PW{k i:Nat}{a b:Oper}{e f:Ef}(l:DZ N pts ops b a=true){τ τ₁ τ':St}(h1:Loc C B N pts ops k a e τ τ₁)(c:Loc C B N pts ops i b f τ₁ τ')(j:∀ρ,Ax N pts ops b τ ρ->aj C B pts ops i ρ (f.on b.dst ρ)) :
  Loc C B N pts ops i b f τ (f.on b.dst τ)/\Loc C B N pts ops k a e (f.on b.dst τ) τ':=by
 obtain⟨m,n,c3,c4,c5,c6⟩:=vV l;obtain⟨g,d⟩:=kL m c.tc;refine⟨⟨rfl,c.tc,j⟩,⟨?_,h1.tc,λρ hρ=>h1.st ρ (fQ ⟨λt o=>iw (bO c3 o),?_⟩ hρ)⟩⟩
 ·rw[c.is,h1.is];exact(zh c6 g d τ).symm
 ·rw[n];show(f.on b.dst τ).heap=τ.heap;rw[dV,d];rfl
def DM(k i:Nat):List (Nat×Nat)->Bool
 | []=>false
 |p :: l=>match Nat.beq p.1 k,Nat.beq p.2 i with
  |true,true=>true
  |_,_=>DM k i l
def rX{k i:Nat}:∀ {l:List (Nat×Nat)},DM k i l=true->(k,i)∈l
 | [],h=>by cases h
 |p :: l,h=>by
  unfold DM at h;split at h
  next h1 a=>
   rw[←AE h1,←AE a];exact Ch
  ·exact Bo _ (rX h)
def TX(N:Tb)(pts:Tx)(ops:Tl)(c:List (Nat×Nat))(n j:Nat)(a b:Oper):Bool:=
 tD N pts ops a b||((DZ N pts ops a b&&DM n j c)||(DZ N pts ops b a&&DM j n c))
def PU(ops:Tl):Tu->Bool
 | []=>true
 |b :: l=>bv b.dst (bj ops b)&&((l.all λa=>bv a.dst (bj ops b)&&bi a.dst b.dst)&&PU ops l)
def xg(N:Tb)(pts:Tx)(ops:Tl)(a:List (Nat×Nat)):Bool:=
 fG ops.toList 0&&(ops.toList.all (λo=>(av N pts o).isSome)&&(PU ops ops.toList&&DT (TX N pts ops a) (CC ops.toList []) [] ops.toList 0))
def wn:∀ {l:Tu},PU ops l=true->∀(j:Nat) b,l[j]?=some b->∀(n:Nat) a,l[n]?=some a->(j<=n->bv a.dst (bj ops b)=true)/\(j<n->bi a.dst b.dst=true)
 | [],_,j,b,h,_,_,_=>by simp at h
 |c :: l,h,j,b,e,n,a,d=>by
  simp only[PU,uc,qab]at h;obtain⟨h1,f,g⟩:=h;cases j with
  |zero=>
   simp at e;subst e;cases n with
   |zero=>simp at d;subst d;exact⟨λ_=>h1,λh=>absurd h (by omega)⟩
   |succ n=>
    have:=f a (Af (by simpa using d));exact⟨λ_=>this.1,λ_=>this.2⟩
  |succ j=>
   cases n with
   |zero=>exact⟨λh=>absurd h (by omega),λh=>absurd h (by omega)⟩
   |succ n=>
    have:=wn g j b (by simpa using e) n a (by simpa using d);exact⟨λh=>this.1 (by omega),λh=>this.2 (by omega)⟩
def RK{σ':St}:∀(m i:Nat) (τ:St) (b:List (Tp)),opsTr C B pts ops (List.range' i m) τ b σ'->
  ∃st:Nat->St,st i=τ/\st (i+m)=σ'/\(∀j,i<=j->j<i+m->aj C B pts ops j (st j) (st (j+1)))/\∀j,j<m->b[j]?=some (st (i+j+1)).heap
 |0,i,τ,b,h=>by
  obtain⟨_,rfl⟩:=h;exact⟨λ_=>σ',rfl,rfl,λj _ _=>absurd (show j<i+0 by assumption) (by omega),λj d=>absurd d (by omega)⟩
 |m+1,i,τ,b,h=>by
  rw[qdh]at h;obtain⟨σ₁,c,g,e,l⟩:=h;subst e;obtain⟨st,f,o,p,q⟩:=RK m (i+1) σ₁ c l;refine⟨λj=>if j=i then τ else st j,by simp,?_,λj k n=>?_,λj d=>?_⟩
  ·show(if i+(m+1)=i then τ else st (i+(m+1)))=σ';rw[po (by omega),show i+(m+1)=i+1+m by omega];exact o
  ·show aj C B pts ops j (if j=i then τ else st j) (if j+1=i then τ else st (j+1));rw[po (show ¬j+1=i by omega)];by_cases a:j=i
   ·subst a;rw[mc rfl,f];exact g
   ·rw[po a];exact p j (by omega) (by omega)
  ·show _=some (if i+j+1=i then τ else st (i+j+1)).heap;rw[po (by omega)];cases j with
   |zero=>rw[show i+0+1=i+1 by omega,f];rfl
   |succ j=>
    rw[Ip,q j (by omega)];rw[show i+1+j+1=i+(j+1)+1 by omega]
def EA(C:Cfg)(B:Below)(N:Tb)(pts:Tx)(ops:Tl)(e:Nat->Ef)(st:Nat->St)(σ':St)(j:Nat)(τ τ':St):Prop:=
 ∃b,ops[j]?=some b/\Loc C B N pts ops j b (e j) τ τ'/\(∀t∈bj ops b,τ.tmps[t]?=σ'.tmps[t]?)/\(av N pts b=some .hw->τ.heap=(st j).heap/\τ'.heap=(st (j+1)).heap)
def Fx{o:Oper}{e:Ef}(b:tb (av N pts o) e)(a:av N pts o≠some .hw):e.hp=none:=by
 cases h:e.hp with
 |none=>rfl
 |some p=>exact absurd (b.2 (by rw[h];simp)) a
def wE{a b:Oper}(c:tD N pts ops a b=true):av N pts a≠some .hw∨av N pts b≠some .hw:=by
 unfold tD at c;split at c
 next m n f g=>
  simp only[uc]at c;by_cases d:av N pts a=some .hw
  ·by_cases e:av N pts b=some .hw
   ·rw[d]at f;rw[e]at g;cases f;cases g;exact absurd c.1.1.1 (by decide)
   ·exact .inr e
  ·exact .inl d
 ·cases c
def yE{a b:Oper}(c:tD N pts ops a b=true):bv b.dst (bj ops a)=true:=by
 unfold tD at c;split at c
 ·simp only[uc]at c;exact c.1.2
 ·cases c
def Kz{P:List (Nat×Nat)}{e:Nat->Ef}{st:Nat->St}{σ':St}(M:∀k i,(k,i)∈P->i<ops.size->∀a,ops[k]?=some a->av N pts a=some .hr->∀ρ,Ax N pts ops a { σ' with heap:=(if k<=i then(st (i+1)).heap else(st i).heap) } ρ->aj C B pts ops k ρ ((e k).on a.dst ρ))
  (Q:DT (TX N pts ops P) (CC ops.toList []) [] ops.toList 0=true) (j n:Nat) (O:j<ops.size) (S:n<j) :
  Anc ops n j∨∀τ τ₁ τ':St,EA C B N pts ops e st σ' n τ τ₁->EA C B N pts ops e st σ' j τ₁ τ'->∃ρ,EA C B N pts ops e st σ' j τ ρ/\EA C B N pts ops e st σ' n ρ τ':=by
 have r:ops[j]?=some ops[j]:=by simp[O]
 have s:ops[n]?=some (ops[n]'(by omega)):=by simp[show n<ops.size by omega]
 generalize ops[j]=y at r;generalize ops[n]'(by omega)=x at s;have c:=xH (pre:=[]) (i:=0) rfl Q j y (by simpa using r) n x (by omega) (by simpa using s);rw[Br]at c;rcases c with c|c
 ·exact .inl (qV ops.toList [] rfl (λi k h=>by simp at h) j n c)
 right;rintro τ τ₁ τ' ⟨T,H,l,A,I⟩ ⟨U,J,u,D,K⟩;rw[s]at H;cases H;rw[r]at J;cases J;unfold TX at c;simp only[Ck,uc]at c;have v:τ₁.heap=(e n).hp.getD τ.heap:=by rw[l.is,dV]
 have p:τ'.heap=(e j).hp.getD τ₁.heap:=by rw[u.is,dV]
 have q:((e j).on y.dst τ).heap=(e j).hp.getD τ.heap:=dV;rcases c with c|⟨c,E⟩|⟨c,E⟩
 ·obtain⟨w,z,R⟩:=Mh c l u;refine⟨_,⟨y,r,w,λt b=>(R.1 t b).trans (D t b),λg=>?_⟩,x,s,z,λt b=>(iw (bO (yE c) b)).trans (A t b),λg=>?_⟩
  ·have F:av N pts x≠some .hw:=(wE c).resolve_right λh=>h g;rw[Fx l.tc F]at v;obtain⟨m,o⟩:=K g;rw[q,←show τ₁.heap=τ.heap from v,←p];exact⟨m,o⟩
  ·have G:av N pts y≠some .hw:=(wE c).resolve_left λh=>h g;rw[Fx u.tc G]at p q;obtain⟨m,o⟩:=I g;exact⟨(show _=τ.heap from q).trans m,(show _=τ₁.heap from p).trans o⟩
 ·obtain⟨d,c2,c3,c4,c5,c6⟩:=vV c;obtain⟨m,o⟩:=K c2;have F:(e n).hp=none:=(kL d l.tc).2;rw[F]at v;have v:τ₁.heap=τ.heap:=v;have f:∀ρ,Ax N pts ops x τ' ρ->Ax N pts ops x { σ' with heap:=(if n<=j then(st (j+1)).heap else(st j).heap) } ρ:=by
   intro ρ hρ;refine⟨λt b=>?_,?_⟩
   ·rw[hρ.1 t b,u.is,iw (bO c4 b),l.is,iw (bO c5 b)];exact A t b
   ·rw[d];show ρ.heap=if n<=j then(st (j+1)).heap else(st j).heap
    rw[mc (by omega),←o];have:=hρ.2;rw[d]at this;exact this
  obtain⟨w,z,_⟩:=PY c l u λρ hρ=>M n j (rX E) O x s d ρ (f ρ hρ);refine⟨_,⟨y,r,w,λt b=>?_,λ_=>?_⟩,x,s,z,λt b=>(iw (bO c4 b)).trans (A t b),λg=>?_⟩
  ·rw[←D t b,l.is];exact(iw (bO c3 b)).symm
  ·rw[q,←v,←p];exact⟨m,o⟩
  ·rw[d]at g;cases g
 ·obtain⟨d,c2,c3,c4,c5,c6⟩:=vV c;obtain⟨m,o⟩:=I c2;have G:(e j).hp=none:=(kL d u.tc).2;rw[G]at p q;have p:τ'.heap=τ₁.heap:=p;have q:((e j).on y.dst τ).heap=τ.heap:=q;have L:∀t∈bj ops y,τ.tmps[t]?=σ'.tmps[t]?:=λt b=>by
   rw[←D t b,l.is];exact(iw (bO c4 b)).symm
  have f:∀ρ,Ax N pts ops y τ ρ->Ax N pts ops y { σ' with heap:=(if j<=n then(st (n+1)).heap else(st n).heap) } ρ:=by
   intro ρ hρ;refine⟨λt b=>?_,?_⟩
   ·rw[hρ.1 t b];exact L t b
   ·rw[d];show ρ.heap=if j<=n then(st (n+1)).heap else(st n).heap
    rw[po (by omega),←m];have:=hρ.2;rw[d]at this;exact this
  obtain⟨w,z⟩:=PW c l u λρ hρ=>M j n (rX E) (by omega) y r d ρ (f ρ hρ);refine⟨_,⟨y,r,w,L,λg=>?_⟩,x,s,z,λt b=>(iw (bO c3 b)).trans (A t b),λ_=>?_⟩
  ·rw[d]at g;cases g
  ·rw[q,p];exact⟨m,o⟩
def Gs(e:Bq N B)(a:∀(j:Nat) b,ops[j]?=some b->av N pts b≠none){st:Nat->St}{t i:Nat}:∀(m:Nat),(∀j,i<=j->j<i+m->aj C B pts ops j (st j) (st (j+1))/\∀b,ops[j]?=some b->∀x,b.dst=some x->x≠t)->(st (i+m)).tmps[t]?=(st i).tmps[t]?
 |0,_=>rfl
 |m+1,h=>by
  obtain⟨h1,g⟩:=h (i+m) (by omega) (by omega);rw[←Gs e a m λj c k=>h j c (by omega),show i+(m+1)=i+m+1 by omega];cases d:ops[i+m]? with
  |none=>
   have:st (i+m+1)=st (i+m):=by simpa[aj,d]using h1
   rw[this]
  |some b=>
   obtain⟨f,c⟩:=Ex e a d h1;rw[c.is];exact iw (g b d)
def LN{S:Nat->St->St->Prop}{st:Nat->St}:∀(m i:Nat),(∀j,i<=j->j<i+m->S j (st j) (st (j+1)))->Cx S (List.range' i m) (st i) (st (i+m))
 |0,i,_=>rfl
 |m+1,i,h=>by
  rw[qdh];refine⟨st (i+1),h i (by omega) (by omega),?_⟩;have:=LN m (i+1) λj a b=>h j (by omega) (by omega)
  rwa [show i+1+m=i+(m+1)by omega]at this
def M0(Q:Bq N B){ps:List (Nat×Nat)}(p:xg N pts ops ps=true){σ σ':St}{E:List (Tp)}(h1:opsTr C B pts ops (List.range ops.size) σ E σ')(h2:AgainAt C B pts ops σ E σ' ps):ew C B pts ops σ σ':=by
 unfold xg at p;simp only[uc]at p;obtain⟨g1,g2,g3,g4⟩:=p;have l:∀(j:Nat) b,ops[j]?=some b->av N pts b≠none:=by
  intro j b c A;have Y:b∈ops.toList:=by have:=qda c;simpa using this
  have:=qab.1 g2 b Y;rw[A]at this;cases this
 have r:∀ {i:Nat} {o:Oper},ops[i]?=some o->i<ops.size:=λs=>(qaP.1 s).1;rw[UF]at h1;obtain⟨st,s1,s2,O,P⟩:=RK ops.size 0 σ E h1;rw[Br]at s2;have O:∀j,j<ops.size->aj C B pts ops j (st j) (st (j+1)):=λj c=>O j (by omega) (by omega);have P:∀j,j<ops.size->E[j]?=some (st (j+1)).heap:=λj c=>by have:=P j c;rwa [Br]at this
 have T:∀j,∃f,∀b,ops[j]?=some b->Loc C B N pts ops j b f (st j) (st (j+1)):=by
  intro j;cases c:ops[j]? with
  |none=>exact⟨⟨.nilFunc,none,none⟩,λb h=>by cases h⟩
  |some b=>
   obtain⟨f,U⟩:=Ex Q l c (O j (r c));exact⟨f,λb' h=>by cases h;exact U⟩
 obtain⟨e,A⟩:=Classical.axiomOfChoice T;have m:∀(j:Nat) (t:Nat),j<=ops.size->(∀n,j<=n->∀a,ops[n]?=some a->∀x,a.dst=some x->x≠t)->σ'.tmps[t]?=(st j).tmps[t]?:=by
  intro j t c h;have:=Gs (t:=t) (i:=j) Q l (ops.size - j) λn h3 h4=>⟨O n (by omega),h n h3⟩
  rwa [show j+(ops.size - j)=ops.size by omega,s2]at this
 have q:∀(j:Nat) b,ops[j]?=some b->∀t∈bj ops b,(st j).tmps[t]?=σ'.tmps[t]?:=by
  intro j b c t ht;refine(m j t (Nat.le_of_lt (r c)) λn K a u x L=>?_).symm;exact bO ((wn g3 j b (by simpa using c) n a (by simpa using u)).1 K) ht x L
 have R:∀k i,i<ops.size->atM σ.heap E (k,i)=if k<=i then(st (i+1)).heap else(st i).heap:=by
  intro k i s;unfold atM;show List.getD (σ.heap :: E) (match Nat.ble k i with|true=>i+1|false=>i) σ.heap=_;by_cases D:k<=i
  ·rw[Be D,mc D,List.getD_eq_getElem?_getD,Ip,P i s];rfl
  ·rw[show Nat.ble k i=false by rw[←Cz];exact λh=>D (qde h),po D,List.getD_eq_getElem?_getD];cases i with
   |zero=>rw[s1];rfl
   |succ i=>rw[Ip,P i (by omega)];rfl
 have U:∀k i,(k,i)∈ps->i<ops.size->∀a,ops[k]?=some a->av N pts a=some .hr->∀ρ,Ax N pts ops a { σ' with heap:=(if k<=i then(st (i+1)).heap else(st i).heap) } ρ->aj C B pts ops k ρ ((e k).on a.dst ρ):=by
  intro k i Y s a u hr;obtain⟨σ₂,M,o,d,x,I,J,q3,q4⟩:=h2 (k,i) Y;have I:ops[k]?=some o:=I;rw[u]at I;cases I;rw[R k i s]at M;obtain⟨g,V⟩:=Ex Q l u M;have hl:=A k a u;obtain⟨f1,f2⟩:=kL hr V.tc;obtain⟨f3,f4⟩:=kL hr hl.tc;have W:g=e k:=by
   have D:σ'.tmps[d]?=(st (k+1)).tmps[d]?:=m (k+1) d (r u) λn K b v y hy=>by
    have:=(wn g3 k a (by simpa using u) n b (by simpa using v)).2 (by omega);intro h;subst h;rw[hy,J]at this;simp[bi]at this
   have F:(g.on a.dst { σ' with heap:=(if k<=i then(st (i+1)).heap else(st i).heap) }).tmps[d]?=some x:=by rw[←V.is];exact q4
   have G:((e k).on a.dst (st k)).tmps[d]?=some x:=by rw[←hl.is,←D];exact q3
   rw[sf,J]at F G;simp only[DX]at F G;rw[mc trivial]at F G;split at F
   ·split at G
    ·generalize e k=z at *;cases g;cases z;simp only at *;cases F;cases G
     simp_all
    ·cases G
   ·cases F
  subst W;exact V.st
 have H:Cx (EA C B N pts ops e st σ') (List.range ops.size) σ σ':=by
  rw[UF];have:=LN (S:=EA C B N pts ops e st σ') (st:=st) ops.size 0 λj _ c=>by
   rw[Br]at c;have v:ops[j]?=some ops[j]:=by simp[c]
   exact⟨_,v,A j _ v,q j _ v,λ_=>⟨rfl,rfl⟩⟩
  rwa [Br,s1,s2]at this
 have w:∀(i:Nat) o,ops[i]?=some o->∀e∈o.after.toList,Region.binds .any e=true->e.on<i:=by
  intro i o Z e A v;have:=fy g1 i o (by simpa using Z) e A v;omega
 have hz:BX ops.size (Array.replicate ops.size false)=List.range ops.size:=by
  unfold BX;rw[qdr];intro i s;rw[qad]at s;rw[CP,Vn,mc s];rfl
 refine .inl λt=>?_;obtain⟨M,_,_⟩:=Et (S:=EA C B N pts ops e st σ') w (λj n c K=>Kz U g4 j n c K) ops.size t (Array.replicate ops.size false) (by simp) (by rw[hz];simp) (λx o L Z=>by
  have X:x<ops.size:=r Z;rw[CP,Vn,mc X]at L;cases L) σ σ' (by rw[hz];exact H)
 refine qt (λj τ τ' hS=>?_) M;obtain⟨b',I,J,_,_⟩:=hS;rw[J.is];exact J.st τ (H6 b' τ)
end
end Sx
namespace Sx
section
variable [Val] {C:Cfg} {B:Below} {N:Tb} {pts:Tx} {ops:Tl}
def xY(q:Oper->Oper->Bool)(b:Oper)(m:Nat):Tu->Nat->Bool
 | [],_=>true
 |a :: l,k=>(Nat.testBit m k||q a b)&&xY q b m l (k+1)
def sj(q:Oper->Oper->Bool)(ms:Tx):Tu->Tu->Nat->Bool
 |_,[],_=>true
 |pre,b :: l,i=>xY q b (ms.getD i 0) pre 0&&sj q ms (pre++[b]) l (i+1)
def uF{q:Oper->Oper->Bool}{b:Oper}{m:Nat}:∀ {l:Tu} {k:Nat},xY q b m l k=true->∀(j:Nat) a,l[j]?=some a->m.testBit (k+j)=true∨q a b=true
 | [],k,_,j,a,h=>by simp at h
 |a :: l,k,h,j,c,d=>by
  simp only[xY,uc,Ck]at h;cases j with
  |zero=>simp at d;subst d;exact h.1
  |succ j=>
   have:=uF h.2 j c (by simpa using d)
   rwa [show k+1+j=k+(j+1)by omega]at this
def qu{q:Oper->Oper->Bool}{ms:Tx}:∀ {l pre:Tu} {i:Nat},pre.length=i->sj q ms pre l i=true->∀(j:Nat) b,l[j]?=some b->∀(k:Nat) a,k<i+j->(pre++l)[k]?=some a->(ms.getD (i+j) 0).testBit k=true∨q a b=true
 | [],pre,i,_,_,j,b,h,_,_,_,_=>by simp at h
 |b :: l,pre,i,f,h,j,c,e,k,a,g,d=>by
  simp only[sj,uc]at h;cases j with
  |zero=>
   simp at e;subst e;rw[BE (by omega)]at d;have:=uF h.1 k a d;simpa using this
  |succ j=>
   have:=qu (pre:=pre++[b]) (i:=i+1) (by simp[f]) h.2 j c (by simpa using e) k a (by omega) (by simpa using d)
   rwa [show i+1+j=i+(j+1)by omega]at this
def tH{b:Oper}{m i:Nat}:∀ {l:Tu} {k:Nat} (j:Nat) a,l[j]?=some a->m.testBit (k+j)=false->Ji pts a b=true->(k+j,i)∈tG pts b m i l k
 | [],k,j,a,h,_,_=>by simp at h
 |a :: l,k,j,c,d,e,f=>by
  unfold tG;cases j with
  |zero=>
   simp at d;subst d;simp only[UM]at e ⊢;rw[e,f];simp
  |succ j=>
   have:=tH (i:=i) (k:=k+1) j c (by simpa using d) (by rwa [show k+1+j=k+(j+1)by omega]) f;rw[show k+1+j=k+(j+1)by omega]at this;split
   ·exact this
   ·exact Bo _ this
def tF{ms:Tx}:∀ {l pre:Tu} {i:Nat},pre.length=i->∀(j:Nat) b,l[j]?=some b->∀(k:Nat) a,k<i+j->(pre++l)[k]?=some a->(ms.getD (i+j) 0).testBit k=false->Ji pts a b=true->(k,i+j)∈wI pts ms pre l i
 | [],pre,i,_,j,b,h,_,_,_,_,_,_=>by simp at h
 |b :: l,pre,i,g,j,c,e,k,a,n,d,m,f=>by
  unfold wI;rw[qas];cases j with
  |zero=>
   simp at e;subst e;rw[BE (by omega)]at d;have:=tH (pts:=pts) (i:=i) (k:=0) k a d (by simpa using m) f;left;simpa using this
  |succ j=>
   right;have:=tF (pre:=pre++[b]) (i:=i+1) (by simp[g]) j c (by simpa using e) k a (by omega) (by simpa using d) (by rwa [show i+1+j=i+(j+1)by omega]) f
   rwa [show i+1+j=i+(j+1)by omega]at this
def opT(pts:Tx)(o:Oper):Tx:=((df pts o).1++eJ pts o).filterMap λx=>match x with
 | .tmp t=>some t
 |_=>none
def PT(pts:Tx):Tu->Tu->Bool
 |_,[]=>true
 |pre,b :: l=>bv b.dst (opT pts b)&&(pre.all λa=>bv b.dst (opT pts a)&&bi a.dst b.dst)&&PT pts (pre++[b]) l
def wm:∀ {l pre:Tu},PT pts pre l=true->∀(j:Nat) b,l[j]?=some b->∀(k:Nat) a,(pre++l)[k]?=some a->(k<=pre.length+j->bv b.dst (opT pts a)=true)/\(k<pre.length+j->bi a.dst b.dst=true)
 | [],pre,_,j,b,h,_,_,_=>by simp at h
 |b :: l,pre,h,j,c,e,k,a,d=>by
  simp only[PT,uc,qab]at h;obtain⟨⟨h1,i⟩,m⟩:=h;cases j with
  |zero=>
   simp at e;subst e;refine⟨λf=>?_,λf=>?_⟩
   ·rcases Bi k pre.length with g|n
    ·rw[BE g]at d;exact(i a (Af d)).1
    ·obtain rfl:k=pre.length:=by omega
     rw[Cd (zY _),F8]at d;simp at d;subst d;exact h1
   ·rw[BE (by omega)]at d;exact(i a (Af d)).2
  |succ j=>
   have:=wm m j c (by simpa using e) k a (by simpa using d);simp only[A5,CT,UP]at this;exact⟨λf=>this.1 (by omega),λf=>this.2 (by omega)⟩
def EP(N:Tb)(pts:Tx)(ops:Tl):Bool:=
 fG ops.toList 0&&(ops.toList.all (D7 N pts)&&(ops.toList.any (dq pts)&&(ops.toList.all (λo=>!dq pts o||o.dst.isSome)&&(PT pts [] ops.toList&&sj (λa b=>L8 N pts ops a b && !gY a b) (CC ops.toList []) [] ops.toList 0))))
def xh(N:Tb)(pts:Tx)(ops:Tl)(j:Nat)(b:Oper)(m:Nat):Tu->Nat->List (Nat×Nat)
 | [],_=>[]
 |a :: l,n=>match Nat.testBit m n||tD N pts ops a b,DZ N pts ops a b with
  |true,_=>xh N pts ops j b m l (n+1)
  |false,true=>(n,j) :: xh N pts ops j b m l (n+1)
  |false,false=>(j,n) :: xh N pts ops j b m l (n+1)
def Ez(N:Tb)(pts:Tx)(ops:Tl)(ms:Tx):Tu->Tu->Nat->List (Nat×Nat)
 |_,[],_=>[]
 |pre,b :: l,i=>xh N pts ops i b (ms.getD i 0) pre 0++Ez N pts ops ms (pre++[b]) l (i+1)
def TW(N:Tb)(pts:Tx)(ops:Tl):Option (List (Nat×Nat)):=
 match xg N pts ops (Ez N pts ops (CC ops.toList []) [] ops.toList 0)with
 |true=>some ((5000,0) :: Ez N pts ops (CC ops.toList []) [] ops.toList 0)
 |false=>none
def Ss(N:Tb):Dr:=λpts ops=>match wJ pts ops with
 | []=>match uD N pts ops with
  |true=>some []
  |false=>TW N pts ops
 |p :: a=>match manyOf (p :: a),splOf (p :: a),EP N pts ops with
  |none,none,true=>some (p :: a)
  |_,_,_=>none
def J7{o:Oper}(h:Bl pts o=0):(df pts o).1=[]/\eJ pts o=[]/\dq pts o=false:=by
 obtain⟨dst,k,i,pos,d,guard⟩:=o;cases k<;>simp only[Bl]at h<;>first|(exact⟨rfl,rfl,rfl⟩)|(exact absurd h (by decide))|skip
 case alloc t=>cases g:dq pts ⟨dst,.alloc t,i,pos,d,guard⟩with
  |true=>rw[g]at h;cases h
  |false=>exact⟨rfl,rfl,rfl⟩
 case box t x=>cases g:dq pts ⟨dst,.box t x,i,pos,d,guard⟩with
  |true=>rw[g]at h;cases h
  |false=>exact⟨rfl,rfl,rfl⟩
 case load t a=>
  split at h
  ·cases h
  next j=>
   refine⟨?_,rfl,rfl⟩;simp only[df]
 case store t a x=>
  split at h
  ·cases h
  next j=>
   refine⟨?_,?_,rfl⟩
   ·simp only[df]
   ·simp only[eJ]
 case call c=>
  cases e:c.callee with
  |builtin b=>
   rw[e]at h;simp only[df,eJ,dq,e];cases b<;>first|(exact⟨rfl,rfl,rfl⟩)|(exact absurd h (by simp))
  |value f=>simp only[df,eJ,dq,e];exact⟨trivial,trivial,trivial⟩
  |invoke r m=>simp only[df,eJ,dq,e];exact⟨trivial,trivial,trivial⟩
def QZ{o:Oper}(h:Bl pts o=1):eJ pts o=[]/\dq pts o=false:=by
 obtain⟨dst,j,i,pos,d,guard⟩:=o;cases j<;>simp only[Bl]at h<;>first|(exact⟨rfl,rfl⟩)|(exact absurd h (by decide))|skip
 case alloc t=>cases g:dq pts ⟨dst,.alloc t,i,pos,d,guard⟩with
  |true=>rw[g]at h;cases h
  |false=>exact⟨rfl,rfl⟩
 case box t x=>cases g:dq pts ⟨dst,.box t x,i,pos,d,guard⟩with
  |true=>rw[g]at h;cases h
  |false=>exact⟨rfl,rfl⟩
 case store t a x=>split at h<;>cases h
 case call c=>
  cases e:c.callee with
  |builtin b=>
   rw[e]at h;simp only[eJ,dq,e];cases b<;>first|(exact⟨rfl,rfl⟩)|(exact absurd h (by simp))
  |value f=>simp only[eJ,dq,e];exact⟨trivial,trivial⟩
  |invoke r m=>simp only[eJ,dq,e];exact⟨trivial,trivial⟩
def rK(o:Oper):Bl pts o=0∨Bl pts o=1∨Bl pts o=2:=by
 obtain⟨dst,d,e,pos,b,guard⟩:=o;cases d<;>simp only[Bl]<;>first|(exact .inl trivial)|(exact .inr (.inl trivial))|(exact .inr (.inr trivial))|skip
 case alloc t=>split<;>simp
 case box t x=>split<;>simp
 case load t a=>split<;>simp
 case store t a x=>split<;>simp
 case call c=>split<;>first|(split<;>simp)|simp
end
end Sx
namespace Sx
section
variable [Val] {C:Cfg} {B:Below} {N:Tb} {pts:Tx} {ops:Tl}
def Hr{mk:Nat->Value}(h:Fresh mk)(k:Nat):adr (mk k)=[k]:=by
 cases h<;>simp[adr,pu]
def ye{S:Nat->St->St->Prop}{c:Nat->To}(b:∀i σ σ',S i σ σ'->dY C B pts ops c i σ σ'):∀ {l:Tx},l.Nodup->∀ {σ σ':St},Cx S l σ σ'->iP C B pts ops c l σ σ'
 | [],_,_,_,h=>h
 |i :: l,a,σ,σ',⟨σ₁,h1,d⟩=>by
  rw[qbU]at a;exact⟨a.1,σ₁,b i _ _ h1,ye b a.2 d⟩
def O7{o:Oper}{t:Nat}(h:Operand.tmp t∈(df pts o).1++eJ pts o):t∈opT pts o:=by
 unfold opT;exact qaG.2 ⟨.tmp t,h,rfl⟩
def M1 [Kno](hN:Bq N B)(F:EP N pts ops=true){σ σ':St}(h:bK C B pts ops (List.range ops.size) σ σ')(ag:EZ pts ops σ'.tmps (wJ pts ops)):ew C B pts ops σ σ':=by
 simp only[EP,uc]at F;obtain⟨g1,g2,g3,g4,g5,g6⟩:=F;have ay:∀i∈List.range ops.size,∃o,ops[i]?=some o/\D7 N pts o=true:=by
  intro i c;rw[qad]at c;exact⟨ops[i],by simp[c],qab.1 g2 _ (by simp)⟩
 obtain⟨f,R⟩:=Gd hN (List.range ops.size) σ σ' Rt ay h;have M:∀ {i:Nat} {o:Oper},ops[i]?=some o->i<ops.size:=λc=>(qaP.1 c).1;have u:∀ {i:Nat} {o:Oper},ops[i]?=some o->i∈List.range ops.size:=λc=>qad.2 (M c);have hl:∀ {i:Nat} {o:Oper},ops[i]?=some o->ops.toList[i]?=some o:=λc=>by simpa using c
 have af:∀ {i:Nat} {o:Oper},ops[i]?=some o->∀x∈(df pts o).1++eJ pts o,ke σ'.tmps x=ke (f i).σ.tmps x:=by
  intro i o c x A;refine kY λt ht=>?_;subst ht;refine R.args i (u c) t λj hj I o' J Q=>?_;have:=(wm g5 j o' (hl J) i o (by simpa using c)).1 (by simpa using I);exact pS this t (O7 A) t Q rfl
 have hF:∀ {i:Nat} {o:Oper},ops[i]?=some o->∀r∈B3 pts (ke (f i).σ.tmps) o,r∈Vh pts σ'.tmps o:=by
  intro i o c r T;unfold B3 at T;unfold Vh;obtain⟨x,A,T⟩:=qa1.1 T;exact qa1.2 ⟨x,A,by rw[af c x (DW _ A)];exact T⟩
 have hW:∀ {i:Nat} {o:Oper},ops[i]?=some o->DC pts σ'.tmps o->∀p∈(f i).ws,p.1∈MT pts σ'.tmps o:=by
  intro i o c ar p hp;have K:=R.ok i (u c) o c;unfold Rec.ws at hp;unfold MT;rw[qa1];rcases qas.1 hp with hp|hp
  ·have:=K.wr p (by simpa using hp);unfold EX at this;obtain⟨x,A,T⟩:=qa1.1 this;exact⟨x,DW _ A,by rw[af c x (Lz _ A)];exact T⟩
  ·unfold Rec.slot at hp;split at hp
   next k q y z=>
    have hp:p=(k,q.1):=by simpa using hp
    subst hp;obtain⟨f1,f2,f3⟩:=K.fr q z;have Y:Bl pts o=2:=by
     rcases rK (pts:=pts) o with w|w|w
     ·rw[(J7 w).2.2]at f3;cases f3
     ·rw[(QZ w).2]at f3;cases f3
     ·exact w
    have ax:o.dst.isSome=true:=by
     have:=qab.1 g4 o (Af (hl c));rw[f3]at this;simpa using this
    obtain⟨d,Q⟩:=qbr.1 ax;obtain⟨v,hv⟩:=ar d Q Y;have an:=R.res i (u c) o d v c Q (λj hj I o' J ap=>by
     have:=(wm g5 j o' (hl J) i o (by simpa using c)).2 (by simpa using I);rw[Q,ap]at this;simp[bi]at this) hv
    refine⟨.tmp d,sV Q Y,?_⟩;have ho:ke σ'.tmps (.tmp d)=v:=by simp[ke,List.getD_eq_getElem?_getD,hv]
    rw[ho,an];unfold Rec.val HEff.val;rw[y];simp only[z];rw[Hr f1];exact qav.2 rfl
   ·cases hp
 have g:∀ {i:Nat} {o:Oper},ops[i]?=some o->Bl pts o≠2->(f i).ws=[]:=by
  intro i o c hc;have K:=R.ok i (u c) o c;have hw:eJ pts o=[]/\dq pts o=false:=by
   rcases rK (pts:=pts) o with w|w|w
   ·exact(J7 w).2
   ·exact QZ w
   ·exact absurd w hc
  have W:(f i).e.set=none:=by
   cases hs:(f i).e.set with
   |none=>rfl
   |some p=>
    have:=K.wr p hs;unfold EX at this;rw[hw.1]at this;cases this
  have X:(f i).e.push=none:=by
   cases hs:(f i).e.push with
   |none=>rfl
   |some p=>have:=(K.fr p hs).2.2;rw[hw.2]at this;cases this
  unfold Rec.ws Rec.slot;rw[W,X];cases (f i).k<;>rfl
 have E:∀ {i:Nat} {o:Oper},Bl pts o=0->B3 pts (ke (f i).σ.tmps) o=[]:=by
  intro i o hc;unfold B3;rw[(J7 hc).1];rfl
 refine .inr ⟨λi=>if i<ops.size then(f i).k else none,σ'.heap.length - σ.heap.length,g3,?_,?_,λt=>?_⟩
 ·intro i k y;simp only at y;split at y
  next c=>
   have:=R.slot i (qad.2 c) k y;omega
  ·cases y
 ·intro i j k y D;simp only at y D;split at y
  next c=>
   split at D
   next hj=>
    exact R.inj i (qad.2 c) j (qad.2 hj) k y D
   ·cases D
  ·cases y
 have H:∀(i:Nat) o,ops[i]?=some o->∀e∈o.after.toList,Region.binds .any e=true->e.on<i:=by
  intro i o ho e he m;have:=fy g1 i o (by simpa using ho) e he m;omega
 have L:∀i k:Nat,i<ops.size->k<i->Anc ops k i∨∀τ τ₁ τ':St,H4 N pts ops f k τ τ₁->H4 N pts ops f i τ₁ τ'->∃ρ,H4 N pts ops f i τ ρ/\H4 N pts ops f k ρ τ':=by
  intro i k c aE;have m:ops[i]?=some ops[i]:=by simp[c]
  have n:ops[k]?=some (ops[k]'(by omega)):=by simp[show k<ops.size by omega]
  generalize ops[i]=b at m;generalize ops[k]'(by omega)=a at n;have z:=qu (pre:=[]) (i:=0) rfl g6 i b (by simpa using m) k a (by omega) (by simpa using n);rw[Br]at z;cases O:(List.getD (CC ops.toList []) i 0).testBit k with
  |true=>exact .inl (qV ops.toList [] rfl (λi k h=>by simp at h) i k O)
  |false=>
   right;rw[O]at z;have z:=z.resolve_left (by simp);simp only[uc]at z;obtain⟨q1,q2⟩:=z;have d:(∀p∈(f k).ws,p.1∉B3 pts (ke (f i).σ.tmps) b)/\(∀p∈(f i).ws,p.1∉B3 pts (ke (f k).σ.tmps) a)/\(∀p∈(f k).ws,∀q∈(f i).ws,p.1≠q.1):=by
    cases s:Ji pts a b with
    |true=>
     have hm:=tF (pts:=pts) (ms:=CC ops.toList []) (l:=ops.toList) (pre:=[]) (i:=0) rfl i b (by simpa using m) k a (by omega) (by simpa using n) (by rw[Br];exact O) s;rw[Br]at hm;obtain⟨a',b',U,V,s1,s2,s3,s4,s5⟩:=ag (k,i) hm;have U:ops[k]?=some a':=U;have V:ops[i]?=some b':=V;rw[n]at U;rw[m]at V;cases U;cases V;exact⟨λp hp hf=>s1 _ (hW n s4 p hp) (hF m _ hf),λp hp hf=>s3 _ (hW m s5 p hp) (hF n _ hf),λp hp q z e=>s2 _ (hW n s4 p hp) (e▸hW m s5 q z)⟩
    |false=>
     have s:Nat.ble 3 (Bl pts a+Bl pts b)=false:=by
      unfold Ji at s;cases he:gY a b with
      |true=>rw[he]at q2;cases q2
      |false=>rw[he]at s;simpa using s
     have ad:¬3<=Bl pts a+Bl pts b:=λh=>by rw[Be h]at s;cases s
     rcases rK (pts:=pts) a with W|W|W<;>rcases rK (pts:=pts) b with X|X|X
     ·rw[g n (by omega),g m (by omega)];exact⟨λ_ h=>(by cases h),λ_ h=>(by cases h),λ_ h=>(by cases h)⟩
     ·rw[g n (by omega),g m (by omega)];exact⟨λ_ h=>(by cases h),λ_ h=>(by cases h),λ_ h=>(by cases h)⟩
     ·rw[g n (by omega),E W];exact⟨λ_ h=>(by cases h),λ_ _ h=>(by cases h),λ_ h=>(by cases h)⟩
     ·rw[g n (by omega),g m (by omega)];exact⟨λ_ h=>(by cases h),λ_ h=>(by cases h),λ_ h=>(by cases h)⟩
     ·rw[g n (by omega),g m (by omega)];exact⟨λ_ h=>(by cases h),λ_ h=>(by cases h),λ_ h=>(by cases h)⟩
     ·omega
     ·rw[g m (by omega),E X];exact⟨λ_ _ h=>(by cases h),λ_ h=>(by cases h),λ_ _ _ h=>(by cases h)⟩
     ·omega
     ·omega
   rintro τ τ₁ τ' ⟨a1,P,h2,rfl⟩ ⟨b1,h3,h4,rfl⟩;rw[n]at P;rw[m]at h3;cases P;cases h3;obtain⟨w1,w2,w3⟩:=swapR (R.ok k (u n) a n) (R.ok i (u m) b m) q1 d.1 d.2.1 d.2.2 h2 h4;exact⟨_,⟨b,m,w1,rfl⟩,⟨a,n,w2,w3⟩⟩
 have hz:BX ops.size (Array.replicate ops.size false)=List.range ops.size:=by
  unfold BX;rw[qdr];intro i c;rw[qad]at c;rw[CP,Vn,mc c];rfl
 have G:=R.run σ'.heap.length (zY _);have Z:St.padTo σ' σ'.heap.length=σ':=by
  unfold St.padTo St.pad;rw[F8];simp
 rw[Z]at G;obtain⟨U,V,_⟩:=Et (S:=H4 N pts ops f) H L ops.size t (Array.replicate ops.size false) (by simp) (by rw[hz];simp) (λx o A ho=>by
  have ad:x<ops.size:=M ho;rw[CP,Vn,mc ad]at A;cases A) _ _ (by rw[hz];exact G)
 refine ye (λi τ τ' hS=>?_) V U;obtain⟨o,P,h2,rfl⟩:=hS;exact(R.ok i (u P) o P).step τ h2 _ (by simp only[M P,if_true])
def OM{a:List (Nat×Nat)}(h:TW N pts ops=some a):∃l,manyOf a=some l/\xg N pts ops l=true:=by
 unfold TW at h;split at h
 next b=>
  cases h;exact⟨_,rfl,b⟩
 ·cases h
def NK [Kno]{C:Cfg}(b:∀f n,N f=some n->EE N C f n=true)(c:∀f args H r H',Kno.kh f args H r H'->N f=none∨(N f=some (2*args.length+1)/\H'=H)):DrOk C (Ss N):=by
 intro pts ops q h;unfold Ss at h;split at h
 ·split at h
  next a=>
   cases h;exact λn σ σ' g d=>XA b c pts ops a n σ σ' g
  ·obtain⟨l,e,a⟩:=OM h;rw[e];exact λn σ σ' d i j=>M0 (xu b c n).1.1 a i j
 next p s k=>
  split at h
  next m o a=>
   cases h;rw[m];simp only;rw[o];exact λn σ σ' g d=>M1 (xu b c n).1.1 a g (by rw[k];exact d)
  ·cases h
end
end Sx
end Go.Am
namespace Go.Am
open Sx Go.Proofs
def neuT:List (Nat×Nat):=[(32,6),(60,6),(35,4),(39,4),(33,4),(34,4),(38,4),(51,4),(57,2),(36,6),(84,4),(85,4),(86,4),(87,2),(88,2),(62,2),(94,2),(97,4),(121,2),(18,2),(64,4),(101,4),(65,4),(67,6),(126,2),(53,2),(102,4),(103,4),(132,6),(133,2),(134,2),(135,4),(104,4),(105,4),(136,2),(137,4),(173,2),(47,4),(76,4),(92,2),(119,2),(82,3),(78,3),(80,3),(23,2),(37,5),(40,5)]
def FK(l:List (Nat×Nat))(f:Nat):To:=match l with
 | []=>none
 |p :: l=>match Nat.beq p.1 f with
  |true=>some p.2
  |false=>FK l f
def CZ(f:TK):To:=FK neuT f
def ui{f n:Nat}:∀ {l:List (Nat×Nat)},FK l f=some n->(f,n)∈l
 |p :: l,h=>by
  unfold FK at h;split at h
  next e=>
   cases h;have:=AE e;subst this;exact Ch
  ·exact Bo _ (ui h)
def OZ:(neuT.all λp=>EE CZ cc p.1 p.2)=true:=by kernel_rfl
def OY(f n:Nat)(h:CZ f=some n):EE CZ cc f n=true:=qab.1 OZ (f,n) (ui h)
def NJ:Dr:=Ss CZ
def nF(k:Nat)(a:List An):Fn1:=fn1 cc.P k ((ab k).getD ⟨[],[]⟩) a
def iF {k:Nat} {g:Func} {a:List An} (h0:(xc k).C.P.funcs[k]?=some g) (h:(g.body,((g.name == "runtime.NumGoroutine")||(xc k).C.opq k),g.ntmps,g.results.toList,ab k)=(some (er (xc k) (nF k a).code),false,(nF k a).nt,(nF k a).rvs,some (nF k a).sg)):FnIs (xc k) ab k (nF k a):=by
 simp only[Pz]at h;exact⟨⟨g,h0,h.1,h.2.1,h.2.2.1,h.2.2.2.1⟩,rfl,h.2.2.2.2⟩
abbrev us(k:Nat)(a:List An):(R b:Type)->Alg R b->TB->b->(TB->b->R)->R:=λR b A ls h K=>ak A (xc k) ab NJ (nF k a) ls h K
abbrev wa(k:Nat)(a:List An):Prop:=FnIs (xc k) ab k (nF k a)
def i3:wa 3 an3:=iF Tryz.func3 (by kernel_rfl)
def i6:wa 6 an6:=iF Tryz.func6 (by kernel_rfl)
def i7:wa 7 an7:=iF Tryz.func7 (by kernel_rfl)
def i8:wa 8 an8:=iF Tryz.func8 (by kernel_rfl)
def i9:wa 9 an9:=iF Tryz.func9 (by kernel_rfl)
def Q0:wa 10 VH:=iF Tryz.func10 (by kernel_rfl)
def i11:wa 11 VI:=iF Tryz.func11 (by kernel_rfl)
def i12:wa 12 VJ:=iF Tryz.func12 (by kernel_rfl)
def i13:wa 13 VL:=iF Tryz.func13 (by kernel_rfl)
def i15:wa 15 VM:=iF Tryz.func15 (by kernel_rfl)
def i16:wa 16 VN:=iF Tryz.func16 (by kernel_rfl)
def i17:wa 17 VO:=iF Tryz.func17 (by kernel_rfl)
def i18:wa 18 VP:=iF Tryz.func18 (by kernel_rfl)
def i20:wa 20 VQ:=iF Tryz.func20 (by kernel_rfl)
def i21:wa 21 VS:=iF Tryz.func21 (by kernel_rfl)
def i22:wa 22 VT:=iF Tryz.func22 (by kernel_rfl)
def i23:wa 23 VU:=iF Tryz.func23 (by kernel_rfl)
def i24:wa 24 VV:=iF Tryz.func24 (by kernel_rfl)
def i25:wa 25 VW:=iF Tryz.func25 (by kernel_rfl)
def i26:wa 26 VX:=iF Tryz.func26 (by kernel_rfl)
def i27:wa 27 VY:=iF Tryz.func27 (by kernel_rfl)
def i28:wa 28 VZ:=iF Tryz.func28 (by kernel_rfl)
def i29:wa 29 V0:=iF Tryz.func29 (by kernel_rfl)
def i30:wa 30 V1:=iF Tryz.func30 (by kernel_rfl)
def i31:wa 31 V2:=iF Tryz.func31 (by kernel_rfl)
def i32:wa 32 V3:=iF Tryz.func32 (by kernel_rfl)
def i33:wa 33 V4:=iF Tryz.func33 (by kernel_rfl)
def i34:wa 34 V5:=iF Tryz.func34 (by kernel_rfl)
def i35:wa 35 V6:=iF Tryz.func35 (by kernel_rfl)
def i36:wa 36 V7:=iF Tryz.func36 (by kernel_rfl)
def i37:wa 37 V8:=iF Tryz.func37 (by kernel_rfl)
def i38:wa 38 V9:=iF Tryz.func38 (by kernel_rfl)
def i39:wa 39 Wa:=iF Tryz.func39 (by kernel_rfl)
def i40:wa 40 Wb:=iF Tryz.func40 (by kernel_rfl)
def i43:wa 43 Wc:=iF Tryz.func43 (by kernel_rfl)
def i44:wa 44 Wd:=iF Tryz.func44 (by kernel_rfl)
def i45:wa 45 We:=iF Tryz.func45 (by kernel_rfl)
def i46:wa 46 Wf:=iF Tryz.func46 (by kernel_rfl)
def i47:wa 47 Wh:=iF Tryz.func47 (by kernel_rfl)
def i48:wa 48 Wi:=iF Tryz.func48 (by kernel_rfl)
def i49:wa 49 Wj:=iF Tryz.func49 (by kernel_rfl)
def i50:wa 50 Wk:=iF Tryz.func50 (by kernel_rfl)
def i51:wa 51 Wl:=iF Tryz.func51 (by kernel_rfl)
def i52:wa 52 Wm:=iF Tryz.func52 (by kernel_rfl)
def i53:wa 53 Wn:=iF Tryz.func53 (by kernel_rfl)
def i56:wa 56 Wo:=iF Tryz.func56 (by kernel_rfl)
def i57:wa 57 Wp:=iF Tryz.func57 (by kernel_rfl)
def i58:wa 58 Wq:=iF Tryz.func58 (by kernel_rfl)
def i59:wa 59 Wr:=iF Tryz.func59 (by kernel_rfl)
def i60:wa 60 Ws:=iF Tryz.func60 (by kernel_rfl)
def i61:wa 61 Wt:=iF Tryz.func61 (by kernel_rfl)
def i62:wa 62 Wu:=iF Tryz.func62 (by kernel_rfl)
def i63:wa 63 Wv:=iF Tryz.func63 (by kernel_rfl)
def i64:wa 64 Ww:=iF Tryz.func64 (by kernel_rfl)
def i65:wa 65 Wx:=iF Tryz.func65 (by kernel_rfl)
def i66:wa 66 Wy:=iF Tryz.func66 (by kernel_rfl)
def i67:wa 67 Wz:=iF Tryz.func67 (by kernel_rfl)
def i68:wa 68 WA:=iF Tryz.func68 (by kernel_rfl)
def i69:wa 69 WB:=iF Tryz.func69 (by kernel_rfl)
def i70:wa 70 WC:=iF Tryz.func70 (by kernel_rfl)
def i71:wa 71 WD:=iF Tryz.func71 (by kernel_rfl)
def i72:wa 72 WE:=iF Tryz.func72 (by kernel_rfl)
def i73:wa 73 WF:=iF Tryz.func73 (by kernel_rfl)
def i74:wa 74 WG:=iF Tryz.func74 (by kernel_rfl)
def i75:wa 75 WH:=iF Tryz.func75 (by kernel_rfl)
def i76:wa 76 WI:=iF Tryz.func76 (by kernel_rfl)
def i77:wa 77 WJ:=iF Tryz.func77 (by kernel_rfl)
def i78:wa 78 WK:=iF Tryz.func78 (by kernel_rfl)
def i79:wa 79 WL:=iF Tryz.func79 (by kernel_rfl)
def i80:wa 80 WM:=iF Tryz.func80 (by kernel_rfl)
def i81:wa 81 WN:=iF Tryz.func81 (by kernel_rfl)
def i82:wa 82 WO:=iF Tryz.func82 (by kernel_rfl)
def i83:wa 83 WP:=iF Tryz.func83 (by kernel_rfl)
def i84:wa 84 WS:=iF Tryz.func84 (by kernel_rfl)
def i85:wa 85 WT:=iF Tryz.func85 (by kernel_rfl)
def i86:wa 86 WU:=iF Tryz.func86 (by kernel_rfl)
def i87:wa 87 WV:=iF Tryz.func87 (by kernel_rfl)
def i88:wa 88 WW:=iF Tryz.func88 (by kernel_rfl)
def i89:wa 89 WX:=iF Tryz.func89 (by kernel_rfl)
def i90:wa 90 WY:=iF Tryz.func90 (by kernel_rfl)
def i91:wa 91 WZ:=iF Tryz.func91 (by kernel_rfl)
def i92:wa 92 W0:=iF Tryz.func92 (by kernel_rfl)
def i93:wa 93 W1:=iF Tryz.func93 (by kernel_rfl)
def i94:wa 94 W2:=iF Tryz.func94 (by kernel_rfl)
def i95:wa 95 W3:=iF Tryz.func95 (by kernel_rfl)
def i97:wa 97 W4:=iF Tryz.func97 (by kernel_rfl)
def i98:wa 98 W5:=iF Tryz.func98 (by kernel_rfl)
def i99:wa 99 W6:=iF Tryz.func99 (by kernel_rfl)
def Zf:wa 100 P8:=iF Tryz.func100 (by kernel_rfl)
def Zg:wa 101 P9:=iF Tryz.func101 (by kernel_rfl)
def Zh:wa 102 Qa:=iF Tryz.func102 (by kernel_rfl)
def i103:wa 103 Qb:=iF Tryz.func103 (by kernel_rfl)
def Zi:wa 104 Qc:=iF Tryz.func104 (by kernel_rfl)
def i105:wa 105 Qd:=iF Tryz.func105 (by kernel_rfl)
def Zj:wa 106 Qe:=iF Tryz.func106 (by kernel_rfl)
def Zk:wa 107 Qf:=iF Tryz.func107 (by kernel_rfl)
def i116:wa 116 Qg:=iF Tryz.func116 (by kernel_rfl)
def Zl:wa 117 Qh:=iF Tryz.func117 (by kernel_rfl)
def Zm:wa 118 Qi:=iF Tryz.func118 (by kernel_rfl)
def Zn:wa 119 Qk:=iF Tryz.func119 (by kernel_rfl)
def Zo:wa 120 Ql:=iF Tryz.func120 (by kernel_rfl)
def Zp:wa 121 Qm:=iF Tryz.func121 (by kernel_rfl)
def Zq:wa 122 Qn:=iF Tryz.func122 (by kernel_rfl)
def Zr:wa 123 Qo:=iF Tryz.func123 (by kernel_rfl)
def Zs:wa 124 Qp:=iF Tryz.func124 (by kernel_rfl)
def Zt:wa 125 Qq:=iF Tryz.func125 (by kernel_rfl)
def Zu:wa 126 Qr:=iF Tryz.func126 (by kernel_rfl)
def Zv:wa 127 Qs:=iF Tryz.func127 (by kernel_rfl)
def Zw:wa 128 Qt:=iF Tryz.func128 (by kernel_rfl)
def Zx:wa 129 Qu:=iF Tryz.func129 (by kernel_rfl)
def i130:wa 130 Qv:=iF Tryz.func130 (by kernel_rfl)
def Zy:wa 131 Qw:=iF Tryz.func131 (by kernel_rfl)
def Zz:wa 132 Qx:=iF Tryz.func132 (by kernel_rfl)
def ZA:wa 133 Qy:=iF Tryz.func133 (by kernel_rfl)
def i134:wa 134 Qz:=iF Tryz.func134 (by kernel_rfl)
def i135:wa 135 QA:=iF Tryz.func135 (by kernel_rfl)
def ZB:wa 136 QB:=iF Tryz.func136 (by kernel_rfl)
def ZC:wa 137 QC:=iF Tryz.func137 (by kernel_rfl)
def ZD:wa 138 QD:=iF Tryz.func138 (by kernel_rfl)
def ZE:wa 144 QE:=iF Tryz.func144 (by kernel_rfl)
def ZF:wa 152 QF:=iF Tryz.func152 (by kernel_rfl)
def ZG:wa 160 QH:=iF Tryz.func160 (by kernel_rfl)
def i166:wa 166 QI:=iF Tryz.func166 (by kernel_rfl)
def ZH:wa 169 QJ:=iF Tryz.func169 (by kernel_rfl)
def i170:wa 170 QK:=iF Tryz.func170 (by kernel_rfl)
def i171:wa 171 QL:=iF Tryz.func171 (by kernel_rfl)
def ZI:wa 172 QM:=iF Tryz.func172 (by kernel_rfl)
def ZJ:wa 173 QN:=iF Tryz.func173 (by kernel_rfl)
def ZK:wa 174 QO:=iF Tryz.func174 (by kernel_rfl)
def ZL:wa 175 QP:=iF Tryz.func175 (by kernel_rfl)
def e8:@f8=us 8 an8:=by kernel_rfl
def e18:@Vd=us 18 VP:=by kernel_rfl
def e27:@f27=us 27 VY:=by kernel_rfl
def e28:@Yp=us 28 VZ:=by kernel_rfl
def e32:@f32=us 32 V3:=by kernel_rfl
def e47:@Yu=us 47 Wh:=by kernel_rfl
def e60:@f60=us 60 Ws:=by kernel_rfl
def e69:@f69=us 69 WB:=by kernel_rfl
def e70:@f70=us 70 WC:=by kernel_rfl
def e75:@f75=us 75 WH:=by kernel_rfl
def e76:@YB=us 76 WI:=by kernel_rfl
def e78:@YC=us 78 WK:=by kernel_rfl
def e79:@YD=us 79 WL:=by kernel_rfl
def e90:@f90=us 90 WY:=by kernel_rfl
def XD:@JB=us 102 Qa:=by kernel_rfl
def XN:@N9=us 122 Qn:=by kernel_rfl
def XP:@JG=us 124 Qp:=by kernel_rfl
def X0:@JL=us 137 QC:=by kernel_rfl
def e13:@f13=us 13 VL:=by kernel_rfl
def e15:@f15=us 15 VM:=by kernel_rfl
def e22:@f22=us 22 VT:=by kernel_rfl
def e24:@f24=us 24 VV:=by kernel_rfl
def e30:@Yq=us 30 V1:=by kernel_rfl
def e33:@Yr=us 33 V4:=by kernel_rfl
def e34:@Ys=us 34 V5:=by kernel_rfl
def e37:@f37=us 37 V8:=by kernel_rfl
def e46:@f46=us 46 Wf:=by kernel_rfl
def e51:@Ve=us 51 Wl:=by kernel_rfl
def e53:@Vf=us 53 Wn:=by kernel_rfl
def e59:@f59=us 59 Wr:=by kernel_rfl
def e63:@f63=us 63 Wv:=by kernel_rfl
def e66:@f66=us 66 Wy:=by kernel_rfl
def e72:@f72=us 72 WE:=by kernel_rfl
def e88:@YM=us 88 WW:=by kernel_rfl
def e93:@f93=us 93 W1:=by kernel_rfl
def e95:@f95=us 95 W3:=by kernel_rfl
def XH:@N5=us 107 Qf:=by kernel_rfl
def e116:@Yg=us 116 Qg:=by kernel_rfl
def XO:@JF=us 123 Qo:=by kernel_rfl
def e134:@Yj=us 134 Qz:=by kernel_rfl
def XZ:@JK=us 136 QB:=by kernel_rfl
def X2:@Od=us 144 QE:=by kernel_rfl
def X5:@Og=us 169 QJ:=by kernel_rfl
def e3:@f3=us 3 an3:=by kernel_rfl
def e7:@f7=us 7 an7:=by kernel_rfl
def e25:@f25=us 25 VW:=by kernel_rfl
def e26:@f26=us 26 VX:=by kernel_rfl
def e35:@f35=us 35 V6:=by kernel_rfl
def e36:@f36=us 36 V7:=by kernel_rfl
def e38:@Yt=us 38 V9:=by kernel_rfl
def e39:@f39=us 39 Wa:=by kernel_rfl
def e43:@f43=us 43 Wc:=by kernel_rfl
def e44:@f44=us 44 Wd:=by kernel_rfl
def e52:@f52=us 52 Wm:=by kernel_rfl
def e56:@f56=us 56 Wo:=by kernel_rfl
def e67:@Vg=us 67 Wz:=by kernel_rfl
def e74:@f74=us 74 WG:=by kernel_rfl
def e81:@YF=us 81 WN:=by kernel_rfl
def e94:@SH=us 94 W2:=by kernel_rfl
def e97:@YO=us 97 W4:=by kernel_rfl
def e98:@YP=us 98 W5:=by kernel_rfl
def XC:@Ha=us 101 P9:=by kernel_rfl
def XR:@JH=us 126 Qr:=by kernel_rfl
def XT:@DD=us 127 Qs:=by kernel_rfl
def XV:@Ob=us 129 Qu:=by kernel_rfl
def XW:@JI=us 131 Qw:=by kernel_rfl
def e171:@Yo=us 171 QL:=by kernel_rfl
def Ya:@JO=us 175 QP:=by kernel_rfl
def e9:@f9=us 9 an9:=by kernel_rfl
def e11:@f11=us 11 VI:=by kernel_rfl
def e17:@f17=us 17 VO:=by kernel_rfl
def e40:@f40=us 40 Wb:=by kernel_rfl
def e45:@f45=us 45 We:=by kernel_rfl
def e50:@f50=us 50 Wk:=by kernel_rfl
def e57:@Yv=us 57 Wp:=by kernel_rfl
def e73:@f73=us 73 WF:=by kernel_rfl
def e80:@YE=us 80 WM:=by kernel_rfl
def e85:@YJ=us 85 WT:=by kernel_rfl
def e87:@YL=us 87 WV:=by kernel_rfl
def e92:@YN=us 92 W0:=by kernel_rfl
def XE:@JC=us 104 Qc:=by kernel_rfl
def XU:@Oa=us 128 Qt:=by kernel_rfl
def e130:@Yi=us 130 Qv:=by kernel_rfl
def XX:@JJ=us 132 Qx:=by kernel_rfl
def e135:@Yk=us 135 QA:=by kernel_rfl
def X4:@Of=us 160 QH:=by kernel_rfl
def e170:@Yn=us 170 QK:=by kernel_rfl
def X9:@Oh=us 174 QO:=by kernel_rfl
def e12:@Yh=us 12 VJ:=by kernel_rfl
def e29:@f29=us 29 V0:=by kernel_rfl
def e31:@f31=us 31 V2:=by kernel_rfl
def e48:@f48=us 48 Wi:=by kernel_rfl
def e64:@Yz=us 64 Ww:=by kernel_rfl
def e65:@YA=us 65 Wx:=by kernel_rfl
def e68:@f68=us 68 WA:=by kernel_rfl
def e77:@f77=us 77 WJ:=by kernel_rfl
def e82:@YG=us 82 WO:=by kernel_rfl
def XB:@N3=us 100 P8:=by kernel_rfl
def XF:@N4=us 106 Qe:=by kernel_rfl
def XJ:@N7=us 118 Qi:=by kernel_rfl
def XK:@JD=us 119 Qk:=by kernel_rfl
def XM:@JE=us 121 Qm:=by kernel_rfl
def X1:@Oc=us 138 QD:=by kernel_rfl
def e166:@Ym=us 166 QI:=by kernel_rfl
def X7:@JM=us 172 QM:=by kernel_rfl
def e6:@f6=us 6 an6:=by kernel_rfl
def e10:@f10=us 10 VH:=by kernel_rfl
def e16:@Yl=us 16 VN:=by kernel_rfl
def e20:@f20=us 20 VQ:=by kernel_rfl
def e21:@f21=us 21 VS:=by kernel_rfl
def e23:@f23=us 23 VU:=by kernel_rfl
def e49:@f49=us 49 Wj:=by kernel_rfl
def e58:@Yw=us 58 Wq:=by kernel_rfl
def e61:@Yx=us 61 Wt:=by kernel_rfl
def e62:@Yy=us 62 Wu:=by kernel_rfl
def e71:@f71=us 71 WD:=by kernel_rfl
def e83:@YH=us 83 WP:=by kernel_rfl
def e84:@YI=us 84 WS:=by kernel_rfl
def e86:@YK=us 86 WU:=by kernel_rfl
def e89:@f89=us 89 WX:=by kernel_rfl
def e91:@f91=us 91 WZ:=by kernel_rfl
def e99:@f99=us 99 W6:=by kernel_rfl
def e103:@Ye=us 103 Qb:=by kernel_rfl
def e105:@Yf=us 105 Qd:=by kernel_rfl
def XI:@N6=us 117 Qh:=by kernel_rfl
def XL:@N8=us 120 Ql:=by kernel_rfl
def XQ:@Hb=us 125 Qq:=by kernel_rfl
def XY:@Hc=us 133 Qy:=by kernel_rfl
def X3:@Oe=us 152 QF:=by kernel_rfl
def X8:@JN=us 173 QN:=by kernel_rfl
end Go.Am
namespace Go.Am
namespace Sx
def Iz(P:TD)(a:TJ->DataW Unit->Option (Tk)):List (Nat×TypeId)->List (DataW Unit)->Nat->Option (Tk)
 | [],[],_=>some []
 |(o,t) :: l,d :: ds,off=>match Nat.beq o off,a t d with
  |true,some v=>match Nat.beq v.length (P.cellsOf t),Iz P a l ds (off+v.length)with
   |true,some vs=>some (v++vs)
   |_,_=>none
  |_,_=>none
 |_,_,_=>none
def Vx(P:TD):Nat->TJ->DataW Unit->Option (Tk)
 |0,_,_=>none
 |a+1,t,d=>match P.underlying t,d with
  |some .bool,.lit (.bool b)=>some [.bool b]
  |some (.int k),.lit (.int _ n)=>some [.int k n]
  |some (.struct c),.agg ds=>match Iz P (Vx P a) (c.toList.map λf=>(f.offset,f.type)) ds 0 with
   |some vs=>if vs.length=P.cellsOf t then some vs else none
   |none=>none
  |some (.array n e),.agg ds=>match Iz P (Vx P a) ((List.range n).map λi=>(i*P.cellsOf e,e)) ds 0 with
   |some vs=>if vs.length=P.cellsOf t then some vs else none
   |none=>none
  |_,_=>none
section
variable {P:TD} {w:World} {base:Nat} {spare:Tt} {held:Bool} {enc:TypeId×Value->Unit}
def EN{g:TJ->DataW Unit->Option (Tk)}{fuel:Nat}(c:∀t d vs,g t d=some vs->∀cs p,DataW.trod enc P w base spare held fuel t cs=some (d,p)->cs=vs){α:Type}(o:α->Nat)(ty:α->TJ)(cs:Tk) :
  ∀(l:List α) (xs:List (DataW Unit×List MemPlace)) (off:Nat) (vs:Tk),l.mapM (λa=>DataW.trod enc P w base spare held fuel (ty a) ((cs.drop (o a)).take (P.cellsOf (ty a))))=some xs->
   Iz P g (l.map λa=>(o a,ty a)) (xs.map (·.1)) off=some vs->(cs.drop off).take vs.length=vs
 | [],xs,off,vs,h1,b=>by
  simp only[qdN,qdu,BP]at h1;subst h1;simp only[C7,Iz,BP]at b;subst b;simp
 |a :: l,xs,off,vs,h1,b=>by
  rw[Lx]at h1;obtain⟨x,j,h1⟩:=qay.1 h1;obtain⟨n,k,h1⟩:=qay.1 h1;cases h1;simp only[AL,Iz]at b;split at b
  next v e h=>
   split at b
   next q e3 i=>
    cases b;have e:=AE e;have e3:=AE e3;have f:=c _ _ _ h _ _ j;have m:=EN c o ty cs l n _ _ k i;rw[e,←e3]at f;rw[A5,qdO,f,Lw];rw[m]
   ·cases b
  ·cases b
def Mx:∀(l:Nat) (t:TJ) (d:DataW Unit) (vs:Tk),Vx P l t d=some vs->∀(fuel:Nat) (cs:Tk) (p:List MemPlace),DataW.trod enc P w base spare held fuel t cs=some (d,p)->cs=vs
 |0,_,_,_,h=>by cases h
 |l+1,t,d,vs,h=>by
  intro fuel cs p a;cases fuel with
  |zero=>simp[DataW.trod]at a
  |succ fuel=>
   have j:∀t d vs,Vx P l t d=some vs->∀cs p,DataW.trod enc P w base spare held fuel t cs=some (d,p)->cs=vs:=λt d vs h cs p=>Mx l t d vs h fuel cs p;simp only[Vx]at h;split at h
   next b e=>
    cases h;simp only[DataW.trod,e]at a;split at a<;>simp_all
   next k y n e=>
    cases h;simp only[DataW.trod,e]at a;split at a<;>first|cases a|skip
    all_goals first
     |(split at a<;>first|(rename_i u;simp at a;obtain⟨⟨rfl,rfl⟩,_⟩:=a;rw[u.1];done)|(cases a;done))
     |simp_all
   next x r e=>
    split at h
    next v c=>
     split at h
     next e3=>
      cases h;simp only[DataW.trod,e]at a;split at a
      next s=>
       obtain⟨o,m,g⟩:=qag.1 a;simp only[Pz,DataW.agg.injEq]at g;rw[←g.1]at c;have:=EN j (λf:Field=>f.offset) (λf:Field=>f.type) cs _ o 0 _ m c;rw[F9,Cg (by omega)]at this;exact this
      ·cases a
     ·cases h
    ·cases h
   next n q r e=>
    split at h
    next v c=>
     split at h
     next e3=>
      cases h;simp only[DataW.trod,e]at a;split at a
      next s=>
       obtain⟨o,m,g⟩:=qag.1 a;simp only[Pz,DataW.agg.injEq]at g;rw[←g.1]at c;have:=EN j (λi=>i*P.cellsOf q) (λ_=>q) cs _ o 0 _ m c;rw[F9,Cg (by omega)]at this;exact this
      ·cases a
     ·cases h
    ·cases h
   ·cases h
end
section
variable [Val]
def tT [Glo]{W:World}{g:Nat}{vs:Tk}(h0:Nat.blt g gB=true)(h1:vs.all bf=true)(f:vs.all flat=true)(h:∃c e fr,W.heap[g]?=some (.cells c e fr)/\c.toList=vs) :
  BG g<W.heap.size/\vs.all bf=true/\∃c e fr,W.heap[BG g]?=some (.cells c e fr)/\cw (λ_=>none) vs c (Cq g):=by
 obtain⟨c,e,fr,a,j⟩:=h;rw[Fo h0,Fp h0];refine⟨(qaP.1 a).1,h1,c,e,fr,a,.of_list ?_⟩;rw[j];exact⟨rfl,λi x y b d=>by rw[b]at d;cases d;exact .of_flat (qab.1 f x (Af b))⟩
end
end Sx
namespace Sx
open Go.ChangeShapes Go.WideShapes Go.ChangeAt Go.WideMaps Go.WideElems Go.RowKit
def Oz{W c:World}(h1:c.os=W.os)(e:c.output=W.output)(f:∀b,b<W.heap.size->c.heap[b]?=W.heap[b]?)(a:MemPlace->Prop):W.keptBut c a:=by
 refine⟨h1,e,λi d=>?_⟩;rw[f i d];exact(World.keptBut_refl W a).2.2 i d
def qf{P:TD}{w:World}{a:List (String×DataW Unit)}{s:List MemPlace}(h:DataW.LaidVars P w a s):∀n d,(n,d)∈a->∀g t f vs,P.globalNamed n=some g->(P.globals[g]?).map (·.type)=some t->Vx P f t d=some vs->
  ∃c e fr,w.heap[g]?=some (.cells c e fr)/\c.toList=vs:=by
 induction a generalizing s with
 |nil=>intro n d h;cases h
 |cons x l A=>
  obtain⟨F,D⟩:=x;obtain⟨E,G,C,r,p,q,m,u,b,v,y,B⟩:=h;intro n d k g t f vs i j o;rcases qar.1 k with e|k
  ·cases e;rw[m]at i;cases i;rw[u]at j;cases j;have z:=Mx f _ _ vs o _ _ _ v;unfold World.var? at b;rw[m]at b;simp only[AP]at b;split at b
   next c H fr e=>
    cases b;exact⟨_,_,_,e,z⟩
   ·cases b
  ·exact A y n d k g t f vs i j o
section
variable [Val] [Kno]
end
end Sx
namespace Sx
section
variable [Val] [Kno]
def QS(b:Bool)(x y:Prop):Prop:=(b=true->x)/\(b=false->y)
abbrev _root_.Ts:=Int->Prop
def M4(op:BinOp)(k:TF)(a b:Int)(K:Ts):Prop:=
 match op with
 | .add=>K (k.wrap (a+b))
 | .sub=>K (k.wrap (a - b))
 | .mul=>K (k.wrap (a*b))
 | .quo=>b≠0/\K (k.wrap (a.tdiv b))
 | .rem=>b≠0/\K (a.tmod b)
 | .and=>(b=1/\K (a%2))∨(b≠1/\∃n,qO .and k a b n/\K n)
 |op=>∃n,qO op k a b n/\K n
abbrev _root_.Tm:=Bool->Prop
def NB(c:BinOp)(a b:Int)(K:Tm):Prop:=
 match c with
 | .eql=>K (a==b)
 | .neq=>K (a != b)
 | .lss=>K (decide (a<b))
 | .leq=>K (decide (a<=b))
 | .gtr=>K (decide (a > b))
 | .geq=>K (decide (a ≥ b))
 |_=>False
def optP{α:Type}(o:Option α)(K:α->Prop):Prop:=∃x,o=some x/\K x
def unIP(ls:TB)(K:Int->TB->Prop):Prop:=match ls with | .i n :: r=>K n r|_=>False
def unBP(ls:TB)(K:Bool->TB->Prop):Prop:=match ls with | .b n :: r=>K n r|_=>False
def unVP(ls:TB)(K:Value->TB->Prop):Prop:=match ls with | .v n :: r=>K n r|_=>False
def un0P(ls:TB)(K:Prop):Prop:=match ls with | []=>K|_=>False
def ucIP(k:TF)(ls:Tk)(K:Int->Tk->Prop):Prop:=match ls with | .int k' n :: r=>k=k'/\K n r|_=>False
def ucBP(ls:Tk)(K:Bool->Tk->Prop):Prop:=match ls with | .bool n :: r=>K n r|_=>False
def ucVP(ls:Tk)(K:Value->Tk->Prop):Prop:=match ls with|n :: r=>K n r|_=>False
def uc0P(ls:Tk)(K:Prop):Prop:=match ls with | []=>K|_=>False
def YT(h:Tp):cL:=λi=>h[i]?
abbrev _root_.Te:=List Value->Prop
def peekP(f:Pk)(h:Tp)(K:Te):Prop:=∃cs,f.run (YT h)=some cs/\K cs
def Zd(f:Hp)(h:Tp)(K:Tk->Tp->Prop):Prop:=∃a cs,f.run (YT h) h.length=some (a,cs)/\K cs (gA h a)
def Xo(C:Cfg)(Sg:Tc)(g:TK)(ls:TB)(h:Tp)(K:TB->Tp->Prop):Prop:=∃a h',aD C Sg g ls h a h'/\K a h'
def Sb(C:Cfg)(v:Value)(args:Tk)(b:TH)(h:Tp)(K:TB->Tp->Prop):Prop:=∃a h',sZ C v args b h a h'/\K a h'
def itP(F:(TB->Tp->Prop)->TB->Tp->Prop)(n:Nat):TB->Tp->Prop:=
 match n with
 |0=>λ_ _=>False
 |n+1=>F (itP F n)
def ZU(F:(TB->Tp->Prop)->TB->Tp->Prop)(ls:TB)(h:Tp):Prop:=∃n,itP F n ls h
def PA(C:Cfg)(Sg:Tc)(T:Tq):Alg Prop (Tp) where
 fail:=False
 cond:=QS
 ari:=M4
 shf:=λd k a c b K=>∃n,E0 d k a c b n/\K n
 cmp:=NB
 eqs:=λl K=>K (cj l)
 conv:=λk a K=>K (k.wrap a)
 sel:=λt a b K=>K (if t then a else b)
 opt:=optP
 chk:=λv K=>aB v=true/\K
 unI:=unIP
 unB:=unBP
 unV:=unVP
 un0:=un0P
 ucI:=ucIP
 ucB:=ucBP
 ucV:=ucVP
 uc0:=uc0P
 peek:=peekP
 heap:=Zd
 new:=λo h K=>K h.length (h++[o])
 call:=Xo C Sg
 callv:=Sb C
 join:=λb m=>m b
 loop:=ZU
def gF(C:Cfg)(Sg:Tc)(T:Tq):AlgOk (PA C Sg T) C Sg T id id where
 fail:=λh=>h
 cond:=by
  intro b x y h;cases b
  ·exact .inr ⟨rfl,h.2 rfl⟩
  ·exact .inl ⟨rfl,h.1 rfl⟩
 ari:=by
  intro e k a b K h;have h:M4 e k a b K:=h;cases e<;>simp only[M4]at h
  ·exact⟨_,λP t w=>by simp[binOp,Op.intArith],h⟩
  ·exact⟨_,λP t w=>by simp[binOp,Op.intArith],h⟩
  ·exact⟨_,λP t w=>by simp[binOp,Op.intArith],h⟩
  ·obtain⟨s,h⟩:=h;exact⟨_,λP t w=>by simp[binOp,Op.intDiv,s],h⟩
  ·obtain⟨s,h⟩:=h;exact⟨_,λP t w=>by simp[binOp,Op.intDiv,s],h⟩
  ·rcases h with⟨rfl,B⟩|⟨_,n,p,q⟩
   ·exact⟨_,oR rfl,B⟩
   ·exact⟨n,p,q⟩
  all_goals exact h
 shf:=λe k a z b K h=>h
 cmp:=by
  intro e a b K h;have h:NB e a b K:=h;cases e<;>simp only[NB]at h<;>exact⟨_,rfl,h⟩
 eqs:=λl K h=>h
 conv:=λk a K h=>h
 sel:=λt a b K h=>h
 opt:=λo K h=>h
 chk:=λv K h=>h
 unI:=by
  intro c K h
  match c,h with
  | .i n :: r,h=>exact⟨n,r,rfl,h⟩
 unB:=by
  intro c K h
  match c,h with
  | .b n :: r,h=>exact⟨n,r,rfl,h⟩
 unV:=by
  intro c K h
  match c,h with
  | .v n :: r,h=>exact⟨n,r,rfl,h⟩
 un0:=by
  intro c K h
  match c,h with
  | [],h=>exact⟨rfl,h⟩
 ucI:=by
  intro k c K h
  match c,h with
  | .int z n :: r,h=>
   obtain⟨rfl,h⟩ : k=z/\K n r:=h;exact⟨n,r,rfl,h⟩
 ucB:=by
  intro c K h
  match c,h with
  | .bool n :: r,h=>exact⟨n,r,rfl,h⟩
 ucV:=by
  intro c K h
  match c,h with
  |n :: r,h=>exact⟨n,r,rfl,h⟩
 uc0:=by
  intro c K h
  match c,h with
  | [],h=>exact⟨rfl,h⟩
 peek:=λf h K d=>d
 heap:=by
  intro f h K d;obtain⟨j,A,p,q⟩:=d;exact⟨j,A,_,p,rfl,q⟩
 new:=λo h K d=>⟨_,rfl,d⟩
 call:=λg c h K d=>d
 callv:=λv u D h K d=>d
 join:=λb m h=>h
 loop:=by
  intro F c h d;obtain⟨n,d⟩:=d;exact⟨itP F,λc h=>(id:False->False),λn c h=>rfl,n,d⟩
def SL.plain_scalar{l:SL}{k:LK}(h:l.is k=true)(a:k.plain=true):scalar l.val=true:=by
 cases l<;>cases k<;>first|(cases a;done)|(cases h;done)|rfl
def lJ:∀ {cs:List SL} {ks:TE},aZ cs ks=true->ks.all LK.plain=true->(cs.map SL.val).all scalar=true
 | [],[],_,_=>rfl
 |c :: cs,k :: ks,h,a=>by
  simp only[aZ,uc]at h;simp only[Py,uc]at a;simp only[AL,Py,uc];exact⟨SL.plain_scalar h.1 a.1,lJ h.2 a.2⟩
 | [],_ :: _,h,_=>by cases h
 |_ :: _,[],h,_=>by cases h
def S0.plain_flat1{x:S0}{k:SK}(h:x.is k=true)(a:k.plain=true):fF x.val=true:=by
 cases x with
 |leaf l=>
  cases k with
  |leaf k=>
   have:=SL.plain_scalar h a;show fF l.val=true;cases b:l.val<;>rw[b]at this<;>first|exact this|cases this
  |agg _=>cases h
 |agg c=>
  cases k with
  |leaf k=>cases h
  |agg d=>exact lJ h a
def jH{v:Value}(h:fF v=true):flat v=true:=by
 cases v<;>first|exact h|cases h
def jg:∀ {xs:List S0} {sks:TH},cX xs sks=true->sks.all SK.plain=true->(au xs).all fF=true
 | [],[],_,_=>rfl
 |x :: xs,k :: ks,h,a=>by
  simp only[cX,uc]at h;simp only[Py,uc]at a;simp only[au,AL,Py,uc];exact⟨S0.plain_flat1 h.1 a.1,jg h.2 a.2⟩
 | [],_ :: _,h,_=>by cases h
 |_ :: _,[],h,_=>by cases h
def yx{xs:List S0}{sks:TH}(h:cX xs sks=true)(a:sks.all SK.plain=true):(au xs).all flat=true:=by
 have:=jg h a;rw[qab]at this ⊢;exact λv b=>jH (this v b)
def zj{vs:Tk}(h:vs.all fF=true):flat (gk vs)=true:=by
 match vs,h with
 | [],_=>rfl
 | [v],h=>
  simp only[Py,List.all_nil,qd5]at h;exact jH h
 |a :: b :: l,h=>
  show flat (.tuple (a :: b :: l).toArray)=true;simp only[flat,uc];exact⟨by simp,h⟩
end
@[reducible] def KnoC (C:Cfg) (N:Tb) [Val]:Kno:=⟨λf args r=>∀H,dO C f args H r H,λf args H r H'=>(N f=none∨(N f=some (2*args.length+1)/\H'=H))/\dO C f args H r H'⟩
section
variable [Val]
def Ct(C:Cfg)(N:Tb)(Sg:Tc)(g:TK)(ls a:TB):Prop:=let _:Kno:=KnoC C N;∀H,aD C Sg g ls H a H
def uQ{C:Cfg}{N:Tb}(a:C.P.follows .mixedOrders=true){f:TK}{args:Tk}{H:Tp}{r:Value}{H':Tp}(h:let _:Kno:=KnoC C N;pJ C f args H r H'):dO C f args H r H':=
 @Mu _ _ (KnoC C N) a (λ_ _ _ h=>h) (λ_ _ _ _ _ h=>h.2) _ _ _ _ _ h
def QT{C:Cfg}{N:Tb}{Sg:Tc}(i:C.P.follows .mixedOrders=true)(e:∀g vs,C.G g=some vs->vs.all MG=true){g:TK}{sg:Sig}(c:Sg g=some sg)(a:sg.plain=true){ls d:TB}{H':Tp}
  (h:let _:Kno:=KnoC C N;aD C Sg g ls [] d H'):Ct C N Sg g ls d:=by
 let _:Kno:=KnoC C N
 obtain⟨k,l,m,b,c2,c3,c4⟩:=h;rw[c]at b;cases b;simp only[Sig.plain,uc]at a;have f:=yx c2.1 a.1;have j:=zj (jg c3.1 a.2);intro H;exact⟨sg,l,m,c,c2,c3,⟨0,.inl ⟨λH=>J2 e (uQ i c4) f j H,rfl⟩⟩⟩
end
section
variable [Val] [Kno]
def db{n:Int}(h1:-9223372036854775808<=n)(a:n<=9223372036854775807):IntKind.wrap .i64 n=n:=by
 simp only[IntKind.wrap,IntKind.bits,IntKind.signed,qdo,ge_iff_le,BF];split<;>omega
def sW{n:Int}(h1:0<=n)(a:n<=255):IntKind.wrap .u8 n=n:=by
 simp only[IntKind.wrap,IntKind.bits,IntKind.signed,qd2,Bf,if_false];omega
end
end Sx
namespace Sx
section
variable [Val]
end
end Sx
end Go.Am
namespace Go.Am
open Sx
abbrev FB:=List Lf->HTr->(TB->HTr->RT)->RT
def nf:FB:=λ_ _ _=>none
def Dl(a:TB)(_:HTr):RT:=sq a λa=>some a
def OO(g:FB):FB:=λa h K=>sq a λa=>@Option.rec _ (λ_=>RT) none (λb=>K b h) (g a .empty Dl)
def fB{R:Type}(b:Bool)(k:Bool->R):R:=Bool.rec (k false) (k true) b
def YQ(v:Value):Bool:=match v with
 | .int _ _=>true
 | .bool _=>true
 |_=>false
def allR(c:Tr Value)(n:Nat):Bool:=@Nat.rec (λ_=>Bool) true (λi a=>@Bool.rec (λ_=>Bool) false a (YQ ((bQ i).get Cu c))) n
def ext(h:HTr)(d:RT)(ls:TB):HTr->(TB->HTr->RT)->RT:=
 @List.rec Lf (λ_=>HTr->(TB->HTr->RT)->RT) (λf k=>k [] f) (λx _ m f k=>match x with
  | .i n=>fI n λn=>m f λl g=>k (.i n :: l) g
  | .b t=>fB t λt=>m f λl g=>k (.b t :: l) g
  | .v v=>match v with
   | .slice (some a) j p=>match h.at a.block with
    |some (.t n e _ c)=>match Mp a.spot e,allR c n with
     |true,true=>mi f (.t n e false c) λg=>fN a.off λo=>fN j λj=>fN p λp=>m g λl q=>k (.v (.slice (some ⟨f.n,o,pu e⟩) j p) :: l) q
     |_,_=>d
    |_=>d
   |v=>match flat v with
    |true=>m f λl g=>k (.v v :: l) g
    |false=>d) ls
def fx{K b:TB->HTr->RT}(h:∀a h,K a h=b a h):K=b:=funext λa=>funext λx=>h a x
abbrev cB(x y:RT)(b:Bool):RT:=@Bool.rec (λ_=>RT) x y b
def c2{A B Z:Sort _}{f g:A->B->Z}(h:f=g)(a:A)(b:B):f a b=g a b:=by rw[h]
def c3{A B C Z:Sort _}{f g:A->B->C->Z}(h:f=g)(a:A)(b:B)(c:C):f a b c=g a b c:=by rw[h]
def c4{A B C D Z:Sort _}{f g:A->B->C->D->Z}(h:f=g)(a:A)(b:B)(c:C)(x3:D):f a b c x3=g a b c x3:=by rw[h]
def c5{A B C D E Z:Sort _}{f g:A->B->C->D->E->Z}(h:f=g)(a:A)(b:B)(c:C)(x3:D)(d:E):f a b c x3 d=g a b c x3 d:=by rw[h]
def c6{A B C D E F Z:Sort _}{f g:A->B->C->D->E->F->Z}(h:f=g)(a:A)(b:B)(c:C)(x3:D)(d:E)(e:F):f a b c x3 d e=g a b c x3 d e:=by rw[h]
def c7{A B C D E F G Z:Sort _}{f g:A->B->C->D->E->F->G->Z}(h:f=g)(a:A)(b:B)(c:C)(x3:D)(d:E)(e:F)(x6:G):f a b c x3 d e x6=g a b c x3 d e x6:=by rw[h]
def c8{A B C D E F G H Z:Sort _}{f g:A->B->C->D->E->F->G->H->Z}(h:f=g)(a:A)(b:B)(c:C)(x3:D)(d:E)(e:F)(x6:G)(x7:H):f a b c x3 d e x6 x7=g a b c x3 d e x6 x7:=by rw[h]
def c9{A B C D E F G H I Z:Sort _}{f g:A->B->C->D->E->F->G->H->I->Z}(h:f=g)(a:A)(b:B)(c:C)(x3:D)(d:E)(e:F)(x6:G)(x7:H)(x8:I):f a b c x3 d e x6 x7 x8=g a b c x3 d e x6 x7 x8:=by rw[h]
def c11{A B C D E F G H I J K Z:Sort _}{f g:A->B->C->D->E->F->G->H->I->J->K->Z}(h:f=g)(a:A)(b:B)(c:C)(x3:D)(d:E)(e:F)(x6:G)(x7:H)(x8:I)(x9:J)(x10:K):f a b c x3 d e x6 x7 x8 x9 x10=g a b c x3 d e x6 x7 x8 x9 x10:=by rw[h]
def c16{A B C D E F G H I J K L M N O P Z:Sort _}{f g:A->B->C->D->E->F->G->H->I->J->K->L->M->N->O->P->Z}(h:f=g)(e:A)(i:B)(j:C)(x3:D)(k:E)(l:F)(x6:G)(x7:H)(x8:I)(x9:J)(x10:K)(x11:L)(a:M)(b:N)(c:O)(d:P):f e i j x3 k l x6 x7 x8 x9 x10 x11 a b c d=g e i j x3 k l x6 x7 x8 x9 x10 x11 a b c d:=by rw[h]
abbrev r0(X:RT)(ls:TB):RT:=@List.rec Lf (λ_=>RT) X (λ_ _ _=>none) ls
section
variable {Sg:Tc} {T:Tq} {call:gJ}
end
section
variable [Val] [Kno]
def NU(a:TB):TB->Bool:=@List.rec _ (λ_=>TB->Bool) (λb=>@List.rec _ (λ_=>Bool) true (λ_ _ _=>false) b) (λx _ c b=>@List.rec _ (λ_=>Bool) false (λy m _=>@Bool.rec (λ_=>Bool) false (c m) (Es x y)) b) a
def yI{x y:Lf}(h:Es x y=true):x=y:=by
 cases x<;>cases y<;>first|(cases h;done)|skip
 ·have h:JA _ _=true:=h;rw[vh,beq_iff_eq]at h;rw[h]
 next a b=>cases a<;>cases b<;>first|rfl|cases h
def pT:∀ {a b:TB},NU a b=true->a=b
 | [],[],_=>rfl
 |x :: a,y :: b,h=>by
  have h:@Bool.rec (λ_=>Bool) false (NU a b) (Es x y)=true:=h;cases e:Es x y with
  |true=>rw[e]at h;rw[yI e,pT h]
  |false=>rw[e]at h;cases h
 | [],_ :: _,h=>by cases h
 |_ :: _,[],h=>by cases h
abbrev KN1:=Nat×List Lf×List Lf
def IC(C:Cfg)(Sg:Tc)(T:Tq)(k:Nat)(g:FB):Prop:=∀ls h K w,dP ls->g ls h K=some w->∃a h',aD C Sg k ls (ka T (Bg h)) a (ka T (Bg h'))/\K a h'=some w
def AllK(C:Cfg)(Sg:Tc)(l:List KN1):Prop:=∀p∈l,∀H,aD C Sg p.1 p.2.1 H p.2.2 H
def AllK.nil{C:Cfg}{Sg:Tc}:AllK C Sg []:=λ_ h=>by cases h
def AllK.cons{C:Cfg}{Sg:Tc}{f:Nat}{ls a:TB}{l:List KN1}(h:∀H,aD C Sg f ls H a H)(b:AllK C Sg l):AllK C Sg ((f,ls,a) :: l):=by
 intro p hp;rcases qar.1 hp with rfl|hp
 ·exact h
 ·exact b p hp
def AllK.app{C:Cfg}{Sg:Tc}{l m:List KN1}(h:AllK C Sg l)(a:AllK C Sg m):AllK C Sg (l++m):=by
 intro p hp;rcases qas.1 hp with hp|hp
 ·exact h p hp
 ·exact a p hp
def GA:Dl=λa _=>some a:=by
 funext a h
 exact eR a _
def OP{C:Cfg}{Sg:Tc}{T:Tq}(d:∀f sg ls a H',Sg f=some sg->sg.plain=true->aD C Sg f ls [] a H'->∀H,aD C Sg f ls H a H)
  {k:Nat} {g:FB} {sg:Sig} (hg:IC C Sg T k g) (m:Sg k=some sg) (l:sg.plain=true):IC C Sg T k (OO g):=by
 intro ls h K w c b;unfold OO at b;rw[eR,GA]at b;cases e:g ls .empty (λa _=>some a)with
 |none=>rw[e]at b;cases b
 |some a=>
  rw[e]at b;obtain⟨n,o,i,j⟩:=hg ls .empty _ a c e;cases j;exact⟨a,h,d k sg ls a _ m l i _,b⟩
end
end Go.Am
namespace Go.Am
open Sx Go.Proofs
instance val0 : Val := ⟨λ_ => 0⟩
instance kno0:Kno:=KnoC cc CZ
def C6:cc.P.follows .mixedOrders=true:=by kernel_rfl
def rJ(g:Nat)(vs:Tk)(h:cc.G g=some vs):vs.all MG=true:=by
 unfold cc at h;simp only at h;split at h<;>first|(cases h;done)|(obtain rfl:=AD h;kernel_rfl)
def Em:DrOk cc NJ:=NK OY (λ_ _ _ _ _ (h:_/\_)=>h.1)
abbrev RM(k:Nat)(g:FB):Prop:=IC cc ab aa k g
abbrev RL(c:gJ):Prop:=CallBOk cc ab aa c
def xS(f:TK)(sg:Sig)(ls a:TB)(H':Tp)(d:ab f=some sg)(c:sg.plain=true)(b:aD cc ab f ls [] a H'):∀H,aD cc ab f ls H a H:=QT C6 rJ d c b
def NO{k:Nat}{g:FB}{sg:Sig}(h:RM k g)(a:ab k=some sg)(b:sg.plain=true):RM k (OO g):=OP xS h a b
def nA:Alg RT HTr->FB:=λ_=>nf
def AA(F:Alg RT HTr->FB):Alg RT HTr->FB:=λA=>OO (F A)
inductive TrA where
 |leaf
 |node (v:Alg RT HTr->FB) (l r:TrA)
def C8(p:Pth):TrA->Alg RT HTr->FB:=
 Pth.rec (motive:=λ_=>TrA->Alg RT HTr->FB) (λt=>TrA.casesOn t nA λv _ _=>v) (λ_ a t=>TrA.casesOn t nA λ_ l _=>a l) (λ_ a t=>TrA.casesOn t nA λ_ _ r=>a r) p
def Dk:TrA:=(.node nA (.node nA (.node f3 (.node f7 (.node f15 (.node f31 (.node f63 (.node (AA DD) .leaf .leaf) .leaf) (.node f95 .leaf .leaf)) (.node (AA Yu) (.node YD .leaf .leaf) (.node nA (.node (AA JO) .leaf .leaf) .leaf))) (.node (AA f23) (.node (AA f39) (.node f71 (.node (AA Yk) .leaf .leaf) .leaf) (.node (AA Ye) .leaf .leaf)) (.node nA (.node (AA YL) .leaf .leaf) (.node (AA JD) .leaf .leaf)))) (.node f11 (.node nA (.node (AA f35) (.node (AA Vg) (.node (AA JI) .leaf .leaf) .leaf) (.node f99 .leaf .leaf)) (.node (AA Ve) (.node YH .leaf .leaf) .leaf)) (.node f27 (.node f43 (.node f75 .leaf .leaf) (.node N5 (.node (AA Yo) .leaf .leaf) .leaf)) (.node f59 (.node f91 .leaf .leaf) (.node (AA JF) .leaf .leaf))))) (.node nA (.node f9 (.node f17 (.node (AA Yr) (.node (AA YA) (.node Ob .leaf .leaf) .leaf) (.node (AA YO) .leaf .leaf)) (.node f49 (.node YF .leaf .leaf) .leaf)) (.node f25 (.node nA (.node f73 (.node (AA JL) .leaf .leaf) .leaf) (.node (AA Yf) (.node Og .leaf .leaf) .leaf)) (.node (AA Yv) (.node f89 .leaf .leaf) (.node (AA JE) .leaf .leaf)))) (.node (AA f13) (.node f21 (.node f37 (.node f69 (.node (AA Hc) .leaf .leaf) .leaf) (.node (AA Ha) .leaf .leaf)) (.node (AA Vf) (.node (AA YJ) .leaf .leaf) (.node N6 .leaf .leaf))) (.node f29 (.node f45 (.node f77 .leaf .leaf) (.node nA (.node (AA JN) .leaf .leaf) .leaf)) (.node Yx (.node f93 .leaf .leaf) (.node (AA Hb) .leaf .leaf)))))) (.node nA (.node nA (.node f8 (.node Yl (.node (AA f32) (.node (AA Yz) (.node Oa .leaf .leaf) .leaf) (.node nA (.node Of .leaf .leaf) .leaf)) (.node f48 (.node YE (.node Od .leaf .leaf) .leaf) .leaf)) (.node f24 (.node f40 (.node f72 (.node (AA JK) .leaf .leaf) .leaf) (.node (AA JC) .leaf .leaf)) (.node f56 (.node (AA YM) (.node Oe .leaf .leaf) .leaf) (.node N8 .leaf .leaf)))) (.node (AA Yh) (.node f20 (.node (AA f36) (.node f68 (.node (AA JJ) .leaf .leaf) .leaf) (.node N3 .leaf .leaf)) (.node (AA f52) (.node (AA YI) .leaf .leaf) (.node (AA Yg) .leaf .leaf))) (.node (AA Yp) (.node f44 (.node (AA YB) .leaf .leaf) (.node nA (.node (AA JM) .leaf .leaf) .leaf)) (.node (AA f60) (.node (AA YN) .leaf .leaf) (.node (AA JG) .leaf .leaf))))) (.node f6 (.node f10 (.node (AA Vd) (.node (AA Ys) (.node f66 (.node (AA Yi) .leaf .leaf) .leaf) (.node (AA YP) .leaf .leaf)) (.node f50 (.node YG .leaf .leaf) .leaf)) (.node f26 (.node nA (.node f74 (.node Oc .leaf .leaf) .leaf) (.node N4 (.node (AA Yn) .leaf .leaf) .leaf)) (.node (AA Yw) (.node f90 .leaf .leaf) (.node N9 .leaf .leaf)))) (.node nA (.node f22 (.node (AA Yt) (.node (AA f70) (.node (AA Yj) .leaf .leaf) .leaf) (.node (AA JB) (.node (AA Ym) .leaf .leaf) .leaf)) (.node nA (.node (AA YK) .leaf .leaf) (.node N7 .leaf .leaf))) (.node (AA Yq) (.node (AA f46) (.node YC .leaf .leaf) (.node nA (.node Oh .leaf .leaf) .leaf)) (.node (AA Yy) (.node (AA SH) .leaf .leaf) (.node (AA JH) .leaf .leaf)))))))
def RF(c:gJ):gJ:=λa=>match a with
 | .f f=>match Nat.blt f 176 with
  |true=>C8 (bQ f) Dk (BA ab aa c)
  |false=>nf
 | .y .. => nf
def D1(n:Nat):gJ:=Nat.rec (motive:=λ_=>gJ) (λ_ _ _ _=>none) (λ_ c=>RF c) n
section
variable {k:Nat} {F:(R HT:Type)->Alg R HT->TB->HT->(TB->HT->R)->R} {fn:Fn1} {c:gJ}
def tn(h1:C8 (bQ k) Dk=nA:=by kernel_rfl):RM k (C8 (bQ k) Dk (BA ab aa c)):=by
 intro d h K w b a;rw[h1]at a;cases a
def oy(g:F=λR HT A ls h K=>ak A (xc k) ab NJ fn ls h K)(i:FnIs (xc k) ab k fn)(j:RL c):RM k (F RT HTr (BA ab aa c)):=by
 intro ls h K w a b;rw[g]at b;obtain⟨l,f,d,_,e⟩:=rA (Vy (w:=w) j) Em i a b;exact⟨l,f,d,e⟩
def tw(a:F=λR HT A ls h K=>ak A (xc k) ab NJ fn ls h K)(b:FnIs (xc k) ab k fn)(d:RL c)(h1:C8 (bQ k) Dk=F RT HTr:=by kernel_rfl):RM k (C8 (bQ k) Dk (BA ab aa c)):=by
 rw[h1];exact oy a b d
def tm(a:F=λR HT A ls h K=>ak A (xc k) ab NJ fn ls h K)(b:FnIs (xc k) ab k fn)(f:RL c){sg:Sig}(d:ab k=some sg:=by rfl)(e:sg.plain=true:=by kernel_rfl)(h1:C8 (bQ k) Dk=AA (F RT HTr):=by kernel_rfl):RM k (C8 (bQ k) Dk (BA ab aa c)):=by
 rw[h1];exact NO (oy a b f) d e
end
def PZ{c:gJ}(a:RL c):∀f,Nat.blt f 176=true->RM f (C8 (bQ f) Dk (BA ab aa c))
 |0,_=>tn
 |1,_=>tn
 |2,_=>tn
 |3,_=>tw e3 i3 a
 |4,_=>tn
 |5,_=>tn
 |6,_=>tw e6 i6 a
 |7,_=>tw e7 i7 a
 |8,_=>tw e8 i8 a
 |9,_=>tw e9 i9 a
 |10,_=>tw e10 Q0 a
 |11,_=>tw e11 i11 a
 |12,_=>tm e12 i12 a
 |13,_=>tm e13 i13 a
 |14,_=>tn
 |15,_=>tw e15 i15 a
 |16,_=>tw e16 i16 a
 |17,_=>tw e17 i17 a
 |18,_=>tm e18 i18 a
 |19,_=>tn
 |20,_=>tw e20 i20 a
 |21,_=>tw e21 i21 a
 |22,_=>tw e22 i22 a
 |23,_=>tm e23 i23 a
 |24,_=>tw e24 i24 a
 |25,_=>tw e25 i25 a
 |26,_=>tw e26 i26 a
 |27,_=>tw e27 i27 a
 |28,_=>tm e28 i28 a
 |29,_=>tw e29 i29 a
 |30,_=>tm e30 i30 a
 |31,_=>tw e31 i31 a
 |32,_=>tm e32 i32 a
 |33,_=>tm e33 i33 a
 |34,_=>tm e34 i34 a
 |35,_=>tm e35 i35 a
 |36,_=>tm e36 i36 a
 |37,_=>tw e37 i37 a
 |38,_=>tm e38 i38 a
 |39,_=>tm e39 i39 a
 |40,_=>tw e40 i40 a
 |41,_=>tn
 |42,_=>tn
 |43,_=>tw e43 i43 a
 |44,_=>tw e44 i44 a
 |45,_=>tw e45 i45 a
 |46,_=>tm e46 i46 a
 |47,_=>tm e47 i47 a
 |48,_=>tw e48 i48 a
 |49,_=>tw e49 i49 a
 |50,_=>tw e50 i50 a
 |51,_=>tm e51 i51 a
 |52,_=>tm e52 i52 a
 |53,_=>tm e53 i53 a
 |54,_=>tn
 |55,_=>tn
 |56,_=>tw e56 i56 a
 |57,_=>tm e57 i57 a
 |58,_=>tm e58 i58 a
 |59,_=>tw e59 i59 a
 |60,_=>tm e60 i60 a
 |61,_=>tw e61 i61 a
 |62,_=>tm e62 i62 a
 |63,_=>tw e63 i63 a
 |64,_=>tm e64 i64 a
 |65,_=>tm e65 i65 a
 |66,_=>tw e66 i66 a
 |67,_=>tm e67 i67 a
 |68,_=>tw e68 i68 a
 |69,_=>tw e69 i69 a
 |70,_=>tm e70 i70 a
 |71,_=>tw e71 i71 a
 |72,_=>tw e72 i72 a
 |73,_=>tw e73 i73 a
 |74,_=>tw e74 i74 a
 |75,_=>tw e75 i75 a
 |76,_=>tm e76 i76 a
 |77,_=>tw e77 i77 a
 |78,_=>tw e78 i78 a
 |79,_=>tw e79 i79 a
 |80,_=>tw e80 i80 a
 |81,_=>tw e81 i81 a
 |82,_=>tw e82 i82 a
 |83,_=>tw e83 i83 a
 |84,_=>tm e84 i84 a
 |85,_=>tm e85 i85 a
 |86,_=>tm e86 i86 a
 |87,_=>tm e87 i87 a
 |88,_=>tm e88 i88 a
 |89,_=>tw e89 i89 a
 |90,_=>tw e90 i90 a
 |91,_=>tw e91 i91 a
 |92,_=>tm e92 i92 a
 |93,_=>tw e93 i93 a
 |94,_=>tm e94 i94 a
 |95,_=>tw e95 i95 a
 |96,_=>tn
 |97,_=>tm e97 i97 a
 |98,_=>tm e98 i98 a
 |99,_=>tw e99 i99 a
 |100,_=>tw XB Zf a
 |101,_=>tm XC Zg a
 |102,_=>tm XD Zh a
 |103,_=>tm e103 i103 a
 |104,_=>tm XE Zi a
 |105,_=>tm e105 i105 a
 |106,_=>tw XF Zj a
 |107,_=>tw XH Zk a
 |108,_=>tn
 |109,_=>tn
 |110,_=>tn
 |111,_=>tn
 |112,_=>tn
 |113,_=>tn
 |114,_=>tn
 |115,_=>tn
 |116,_=>tm e116 i116 a
 |117,_=>tw XI Zl a
 |118,_=>tw XJ Zm a
 |119,_=>tm XK Zn a
 |120,_=>tw XL Zo a
 |121,_=>tm XM Zp a
 |122,_=>tw XN Zq a
 |123,_=>tm XO Zr a
 |124,_=>tm XP Zs a
 |125,_=>tm XQ Zt a
 |126,_=>tm XR Zu a
 |127,_=>tm XT Zv a
 |128,_=>tw XU Zw a
 |129,_=>tw XV Zx a
 |130,_=>tm e130 i130 a
 |131,_=>tm XW Zy a
 |132,_=>tm XX Zz a
 |133,_=>tm XY ZA a
 |134,_=>tm e134 i134 a
 |135,_=>tm e135 i135 a
 |136,_=>tm XZ ZB a
 |137,_=>tm X0 ZC a
 |138,_=>tw X1 ZD a
 |139,_=>tn
 |140,_=>tn
 |141,_=>tn
 |142,_=>tn
 |143,_=>tn
 |144,_=>tw X2 ZE a
 |145,_=>tn
 |146,_=>tn
 |147,_=>tn
 |148,_=>tn
 |149,_=>tn
 |150,_=>tn
 |151,_=>tn
 |152,_=>tw X3 ZF a
 |153,_=>tn
 |154,_=>tn
 |155,_=>tn
 |156,_=>tn
 |157,_=>tn
 |158,_=>tn
 |159,_=>tn
 |160,_=>tw X4 ZG a
 |161,_=>tn
 |162,_=>tn
 |163,_=>tn
 |164,_=>tn
 |165,_=>tn
 |166,_=>tm e166 i166 a
 |167,_=>tn
 |168,_=>tn
 |169,_=>tw X5 ZH a
 |170,_=>tm e170 i170 a
 |171,_=>tm e171 i171 a
 |172,_=>tm X7 ZI a
 |173,_=>tm X8 ZJ a
 |174,_=>tw X9 ZK a
 |175,_=>tm Ya ZL a
 |n+176,h=>by rw[BH]at h;omega
def L9{c:gJ}(g:RL c):RL (RF c):=by
 refine⟨λf d h K w b a=>?_⟩;have a:(match Nat.blt f 176 with|true=>C8 (bQ f) Dk (BA ab aa c)|false=>nf) d h K=some w:=a;cases e:Nat.blt f 176 with
 |true=>rw[e]at a;exact PZ g f e d h K w b a
 |false=>rw[e]at a;cases a
def vX:∀n,RL (D1 n)
 |0=>⟨λ_ _ _ _ _ _ h=>by(cases h)⟩
 |n+1=>L9 (vX n)
end Go.Am
namespace Go.Am
namespace Sx
section
variable [Val] [Kno]
def peekH(T:Tq)(f:Pk)(h:HL)(K:Te):Prop:=∃cs,f.run (wb T h)=some cs/\K cs
abbrev _root_.Ta:=List Value->HL->Prop
def Zc(T:Tq)(f:Hp)(h:HL)(K:Ta):Prop:=∃a cs,f.run (wb T h) h.length=some (a,cs)/\K cs (bL h a)
abbrev _root_.Td:=List Lf->HL->Prop
def Xn(C:Cfg)(Sg:Tc)(T:Tq)(g:TK)(ls:TB)(h:HL)(K:Td):Prop:=∃a h',aD C Sg g ls (ka T h) a (ka T h')/\K a h'
def Sa(C:Cfg)(T:Tq)(v:Value)(args:Tk)(b:TH)(h:HL)(K:Td):Prop:=∃a h',sZ C v args b (ka T h) a (ka T h')/\K a h'
def MH(F:(TB->HL->Prop)->TB->HL->Prop)(n:Nat):TB->HL->Prop:=
 match n with
 |0=>λ_ _=>False
 |n+1=>F (MH F n)
def Q6(F:(TB->HL->Prop)->TB->HL->Prop)(ls:TB)(h:HL):Prop:=∃n,MH F n ls h
def PH(C:Cfg)(Sg:Tc)(T:Tq):Alg Prop HL where
 fail:=False
 cond:=QS
 ari:=M4
 shf:=λd k a c b K=>∃n,E0 d k a c b n/\K n
 cmp:=NB
 eqs:=λl K=>K (cj l)
 conv:=λk a K=>K (k.wrap a)
 sel:=λt a b K=>K (if t then a else b)
 opt:=optP
 chk:=λv K=>aB v=true/\K
 unI:=unIP
 unB:=unBP
 unV:=unVP
 un0:=un0P
 ucI:=ucIP
 ucB:=ucBP
 ucV:=ucVP
 uc0:=uc0P
 peek:=peekH T
 heap:=Zc T
 new:=λo h K=>K h.length (h++[.o o])
 call:=Xn C Sg T
 callv:=Sa C T
 join:=λb m=>m b
 loop:=Q6
def P4(C:Cfg)(Sg:Tc)(T:Tq):AlgOk (PH C Sg T) C Sg T id (ka T) where
 fail:=(gF C Sg T).fail
 cond:=(gF C Sg T).cond
 ari:=(gF C Sg T).ari
 shf:=(gF C Sg T).shf
 cmp:=(gF C Sg T).cmp
 eqs:=(gF C Sg T).eqs
 conv:=(gF C Sg T).conv
 sel:=(gF C Sg T).sel
 opt:=(gF C Sg T).opt
 chk:=(gF C Sg T).chk
 unI:=(gF C Sg T).unI
 unB:=(gF C Sg T).unB
 unV:=(gF C Sg T).unV
 un0:=(gF C Sg T).un0
 ucI:=(gF C Sg T).ucI
 ucB:=(gF C Sg T).ucB
 ucV:=(gF C Sg T).ucV
 uc0:=(gF C Sg T).uc0
 peek:=by
  intro f h K a;obtain⟨d,e,i⟩:=a;exact⟨d,by rw[←nW];exact e,i⟩
 heap:=by
  intro f h K a;obtain⟨c,d,e,i⟩:=a;exact⟨c,d,_,by rw[←nW,ml];exact e,kF T c h,i⟩
 new:=λo h K a=>⟨_,ni T h _,by rw[ml];exact a⟩
 call:=λg j h K a=>a
 callv:=λv k l h K a=>a
 join:=λb m h=>h
 loop:=by
  intro F j h a;obtain⟨n,a⟩:=a;exact⟨MH F,λj h=>(id:False->False),λn j h=>rfl,n,a⟩
section
variable {C:Cfg} {Sg:Tc} {T:Tq} {call:gJ} (hc:CallBOk C Sg T call)
include hc
theorem s_shf{e:BinOp}{k d:TF}{a b:Int}{K:Int->RT}{c:Ts}(i:∀n,K n=yes->c n)(h:(BA Sg T call).shf e k a d b K=yes):(PH C Sg T).shf e k a d b c:=by
 obtain⟨n,f,g⟩:=Gl (w:=[]) h;exact⟨n,f,i _ g⟩
end
def wZ{F:(TB->HL->Prop)->TB->HL->Prop}(Inv:Nat->TB->HL->Prop)
  (step:∀m ls h,Inv m ls h->∀a:TB->HL->Prop,(∀b ls h,b<m->Inv b ls h->a ls h)->F a ls h):∀n m ls h,m<n->Inv m ls h->MH F n ls h
 |0,_,_,_,d,_=>absurd d (qd1 _)
 |n+1,m,ls,h,d,e=>step m ls h e (MH F n) λb ls h h' c=>wZ Inv step n b ls h (by omega) c
def eQ{F:(TB->HL->Prop)->TB->HL->Prop}(Inv:Nat->TB->HL->Prop){m:Nat}{ls:TB}{h:HL}(c:Inv m ls h)
  (step:∀m ls h,Inv m ls h->∀a:TB->HL->Prop,(∀b ls h,b<m->Inv b ls h->a ls h)->F a ls h):Q6 F ls h:=
 ⟨m+1,wZ Inv step (m+1) m ls h (Nat.lt_succ_self m) c⟩
end
end Sx
namespace Sx
class Bx (α:Sort _) where
 v:α
def hid{α:Sort _} [b:Bx α]:α:=b.v
section
variable [Val] [Kno] {C:Cfg} {Sg:Tc} {T:Tq}
def Xk{n:Int}{r:TB}{K:Int->TB->Prop}:(PH C Sg T).unI (.i n :: r) K=K n r:=rfl
def Xj{n:Bool}{r:TB}{K:Bool->TB->Prop}:(PH C Sg T).unB (.b n :: r) K=K n r:=rfl
def Xl{n:Value}{r:TB}{K:Value->TB->Prop}:(PH C Sg T).unV (.v n :: r) K=K n r:=rfl
def Xi{K:Prop}:(PH C Sg T).un0 [] K=K:=rfl
def Xg{k:TF}{n:Int}{r:Tk}{K:Int->Tk->Prop}:(PH C Sg T).ucI k (.int k n :: r) K=K n r:=by
 show(k=k/\K n r)=K n r;simp
def Xf{n:Bool}{r:Tk}{K:Bool->Tk->Prop}:(PH C Sg T).ucB (.bool n :: r) K=K n r:=rfl
def Xh{n:Value}{r:Tk}{K:Value->Tk->Prop}:(PH C Sg T).ucV (n :: r) K=K n r:=rfl
def Xe{K:Prop}:(PH C Sg T).uc0 [] K=K:=rfl
def IV{X Y:Prop}:(PH C Sg T).cond true X Y=X:=by
 show((true=true->X)/\(true=false->Y))=X;simp
def IU{X Y:Prop}:(PH C Sg T).cond false X Y=Y:=by
 show((false=true->X)/\(false=false->Y))=Y;simp
def Nk{a b:Int}{K:Tm}(h:a<b):(PH C Sg T).cmp .lss a b K=K true:=by
 show K (decide (a<b))=_;rw[Bp h]
def Nj{a b:Int}{K:Tm}(h:b<=a):(PH C Sg T).cmp .lss a b K=K false:=by
 show K (decide (a<b))=_;rw[BV (by omega)]
def Ni{a b:Int}{K:Tm}(h:a<=b):(PH C Sg T).cmp .leq a b K=K true:=by
 show K (decide (a<=b))=_;rw[Bp h]
def Nh{a b:Int}{K:Tm}(h:b<a):(PH C Sg T).cmp .leq a b K=K false:=by
 show K (decide (a<=b))=_;rw[BV (by omega)]
def Ng{a b:Int}{K:Tm}(h:b<a):(PH C Sg T).cmp .gtr a b K=K true:=by
 show K (decide (a > b))=_;rw[Bp h]
def Nf{a b:Int}{K:Tm}(h:a<=b):(PH C Sg T).cmp .gtr a b K=K false:=by
 show K (decide (a > b))=_;rw[BV (by omega)]
def Nd{a b:Int}{K:Tm}(h:b<=a):(PH C Sg T).cmp .geq a b K=K true:=by
 show K (decide (a ≥ b))=_;rw[Bp h]
def Nc{a b:Int}{K:Tm}(h:a<b):(PH C Sg T).cmp .geq a b K=K false:=by
 show K (decide (a ≥ b))=_;rw[BV (by omega)]
def M9{a b:Int}{K:Tm}(h:a=b):(PH C Sg T).cmp .eql a b K=K true:=by
 show K (a==b)=_;rw[beq_iff_eq.2 h]
def M8{a b:Int}{K:Tm}(h:a≠b):(PH C Sg T).cmp .eql a b K=K false:=by
 show K (a==b)=_;rw[beq_false_of_ne h]
def Nq{a b:Int}{K:Tm}(h:a≠b):(PH C Sg T).cmp .neq a b K=K true:=by
 show K (a != b)=_;rw[bne_iff_ne.2 h]
def Np{a b:Int}{K:Tm}(h:a=b):(PH C Sg T).cmp .neq a b K=K false:=by
 show K (a != b)=_;subst h;simp
def Xa{a b:Int}{K:Ts}(h1:-9223372036854775808<=a+b)(c:a+b<=9223372036854775807):(PH C Sg T).ari .add .i64 a b K=K (a+b):=by
 show K (IntKind.wrap .i64 (a+b))=_;rw[db h1 c]
def Xd{a b:Int}{K:Ts}(h1:-9223372036854775808<=a - b)(c:a - b<=9223372036854775807):(PH C Sg T).ari .sub .i64 a b K=K (a - b):=by
 show K (IntKind.wrap .i64 (a - b))=_;rw[db h1 c]
def Xc{a b:Int}{K:Ts}(h1:-9223372036854775808<=a*b)(c:a*b<=9223372036854775807):(PH C Sg T).ari .mul .i64 a b K=K (a*b):=by
 show K (IntKind.wrap .i64 (a*b))=_;rw[db h1 c]
def R0{a b:Int}{K:Ts}(h1:0<=a+b)(c:a+b<=255):(PH C Sg T).ari .add .u8 a b K=K (a+b):=by
 show K (IntKind.wrap .u8 (a+b))=_;rw[sW h1 c]
def R6{a b:Int}{K:Ts}(h1:0<=a - b)(c:a - b<=255):(PH C Sg T).ari .sub .u8 a b K=K (a - b):=by
 show K (IntKind.wrap .u8 (a - b))=_;rw[sW h1 c]
def R5{a b:Int}{K:Ts}(h1:0<=a*b)(c:a*b<=255):(PH C Sg T).ari .mul .u8 a b K=K (a*b):=by
 show K (IntKind.wrap .u8 (a*b))=_;rw[sW h1 c]
def P0{a b:Int}(h:0<=a):a.tdiv b=a / b:=Int.tdiv_eq_ediv_of_nonneg h
def I1{a b:Int}{K:Ts}(h:0<=a)(f:0<b)(c:a<=9223372036854775807):(PH C Sg T).ari .quo .i64 a b K=K (a / b):=by
 show(b≠0/\K (IntKind.wrap .i64 (a.tdiv b)))=_;have d:a / b<=a:=Int.ediv_le_self b h;have e:0<=a / b:=Int.ediv_nonneg h (by omega);rw[P0 h,db (by omega) (by omega)];simp;intro _ h;omega
def I0{a b:Int}{K:Ts}(h:a%b=0)(f:0<b)(h1:-9223372036854775808<=a)(e:a<=9223372036854775807):(PH C Sg T).ari .quo .i64 a b K=K (a / b):=by
 show(b≠0/\K (IntKind.wrap .i64 (a.tdiv b)))=_;obtain⟨q,rfl⟩:=Int.dvd_of_emod_eq_zero h;rw[Int.mul_tdiv_cancel_left q (by omega),Int.mul_ediv_cancel_left q (by omega)];have c:-9223372036854775808<=q/\q<=9223372036854775807:=by
  rcases Int.le_total 0 q with d|d
  ·have:=qcA (show(1:Int)<=b by omega) d;omega
  ·have:=qcA (show(1:Int)<=b by omega) (show 0<=-q by omega);rw[Int.mul_neg b q]at this;omega
 rw[db c.1 c.2];simp;intro _ h;omega
def I2{k:TF}{a b:Int}{K:Ts}(h:0<=a)(c:0<b):(PH C Sg T).ari .rem k a b K=K (a%b):=by
 show(b≠0/\K (a.tmod b))=_;rw[qdv h];simp;intro _ h;omega
def I3{k:TF}{a b:Int}{K:Ts}(h:a<=0)(d:0<b):(PH C Sg T).ari .rem k a b K=K (-((-a)%b)):=by
 show(b≠0/\K (a.tmod b))=_;have:a.tmod b = -((-a)%b):=by
  have c:=Int.neg_tmod a b;rw[qdv (a:=-a) (by omega)]at c;omega
 rw[this];simp;intro _ h;omega
def R1{a:Int}{K:Ts}:(PH C Sg T).ari .and .i64 a 1 K=K (a%2):=by
 show(((1:Int)=1/\K (a%2))∨((1:Int)≠1/\∃n,qO .and .i64 a 1 n/\K n))=K (a%2);simp
def R2{a:Int}{K:Ts}(h1:-9223372036854775808<=a)(b:a<=9223372036854775807):(PH C Sg T).conv .i64 a K=K a:=by
 show K (IntKind.wrap .i64 a)=_;rw[db h1 b]
def M7{a:Int}{K:Ts}(h1:0<=a)(b:a<=255):(PH C Sg T).conv .u8 a K=K a:=by
 show K (IntKind.wrap .u8 a)=_;rw[sW h1 b]
def Nt{a b:Int}{K:Ts}:(PH C Sg T).sel true a b K=K a:=rfl
def Ns{a b:Int}{K:Ts}:(PH C Sg T).sel false a b K=K b:=rfl
def QQ{α:Type}{x:α}{K:α->Prop}:(PH C Sg T).opt (some x) K=K x:=by
 show(∃y,some x=some y/\K y)=K x;simp
def Xb{n:Nat}{i:Int}{K:Unit->Prop}(h1:0<=i)(a:i<(n:Int)):(PH C Sg T).opt (BM n i) K=K ():=by
 rw[show BM n i=some ()from(Kb n i).trans (mc ⟨h1,a⟩),QQ]
def R4{b:Td}{m:(TB->HL->Prop)->Prop}:(PH C Sg T).join b m=m b:=rfl
def R3{K:Tm}:(PH C Sg T).eqs [] K=K true:=rfl
def Nb{a b:Int}{l:List (Lf×Lf)}{K:Tm}(h:a=b):(PH C Sg T).eqs ((.i a,.i b) :: l) K=(PH C Sg T).eqs l K:=by
 show K (cj _)=K (cj l);subst h;simp[cj,gG]
def Na{a b:Int}{l:List (Lf×Lf)}{K:Tm}(h:a≠b):(PH C Sg T).eqs ((.i a,.i b) :: l) K=K false:=by
 show K (cj _)=K false;have:(a==b)=false:=beq_false_of_ne h;simp[cj,gG,this]
def gD{F:(TB->HL->Prop)->TB->HL->Prop}{ls:TB}{h:HL}(n:Nat)(a:MH F n ls h):(PH C Sg T).loop F ls h:=⟨n,a⟩
def b_it{F:(TB->HL->Prop)->TB->HL->Prop}{n:Nat}{ls:TB}{h:HL}:MH F (n+1) ls h=F (MH F n) ls h:=rfl
def ai{g:TK}{ls a:TB}{h:HL}{K:Td}(b:∀H,aD C Sg g ls H a H)(c:K a h):(PH C Sg T).call g ls h (@hid _ ⟨K⟩):=⟨a,h,b _,c⟩
def IW{a b:Bool}{l:List (Lf×Lf)}{K:Tm}(h:a=b):(PH C Sg T).eqs ((.b a,.b b) :: l) K=(PH C Sg T).eqs l K:=by
 show K (cj _)=K (cj l);subst h;simp[cj,gG]
def GK{l:List (Lf×Lf)}{K:Tm}:(PH C Sg T).eqs ((.b true,.b false) :: l) K=K false:=rfl
def GJ{l:List (Lf×Lf)}{K:Tm}:(PH C Sg T).eqs ((.b false,.b true) :: l) K=K false:=rfl
def Nm{b:Int}{K:Ts}(h1:-9223372036854775808<=b)(a:b<=9223372036854775807):(PH C Sg T).ari .mul .i64 1 b K=K b:=by
 show K (IntKind.wrap .i64 (1*b))=_;rw[Int.one_mul,db h1 a]
def Nl{b:Int}{K:Ts}:(PH C Sg T).ari .mul .i64 0 b K=K 0:=by
 show K (IntKind.wrap .i64 (0*b))=_;rw[Int.zero_mul];rfl
def Nn{b:Int}{K:Ts}(h1:-9223372036854775808<=-b)(a:-b<=9223372036854775807):(PH C Sg T).ari .mul .i64 (-1) b K=K (-b):=by
 show K (IntKind.wrap .i64 (-1*b))=_;have:(-1*b:Int) = -b:=by omega
 rw[this,db h1 a]
def IY{b:Int}{K:Ts}(h1:-9223372036854775808<=b)(a:b<=9223372036854775807):(PH C Sg T).ari .mul .i64 b 1 K=K b:=by
 show K (IntKind.wrap .i64 (b*1))=_;rw[Int.mul_one,db h1 a]
def IX{b:Int}{K:Ts}:(PH C Sg T).ari .mul .i64 b 0 K=K 0:=by
 show K (IntKind.wrap .i64 (b*0))=_;rw[Int.mul_zero];rfl
def IZ{b:Int}{K:Ts}(h1:-9223372036854775808<=-b)(a:-b<=9223372036854775807):(PH C Sg T).ari .mul .i64 b (-1) K=K (-b):=by
 show K (IntKind.wrap .i64 (b * -1))=_;have:(b * -1:Int) = -b:=by omega
 rw[this,db h1 a]
def M6{b:Int}{K:Ts}(h1:-9223372036854775808<=b)(a:b<=9223372036854775807):(PH C Sg T).ari .add .i64 0 b K=K b:=by
 show K (IntKind.wrap .i64 (0+b))=_;rw[Int.zero_add,db h1 a]
def IR{b:Int}{K:Ts}(h1:-9223372036854775808<=b)(a:b<=9223372036854775807):(PH C Sg T).ari .add .i64 b 0 K=K b:=by
 show K (IntKind.wrap .i64 (b+0))=_;rw[Int.add_zero,db h1 a]
def IQ{K:Ts}:(PH C Sg T).ari .add .i64 1 1 K=K 2:=by
 show K (IntKind.wrap .i64 (1+1))=_;rfl
def Nr{a:Int}{K:Ts}(h1:-9223372036854775808<=a)(b:a<=9223372036854775807):(PH C Sg T).ari .quo .i64 a 1 K=K a:=by
 show((1:Int)≠0/\K (IntKind.wrap .i64 (a.tdiv 1)))=_;rw[Int.tdiv_one,db h1 b];simp
def ah{α:Type}{o:Option α}{x:α}{K:α->Prop}(h:o=some x)(a:K x):(PH C Sg T).opt o (@hid _ ⟨K⟩):=⟨x,h,a⟩
theorem Ro{n:Int}{r:TB}{K:Int->TB->Prop}:(PH C Sg T).unI (.i n :: r) (@hid _ ⟨K⟩)=K n r:=Xk
theorem Rn{n:Bool}{r:TB}{K:Bool->TB->Prop}:(PH C Sg T).unB (.b n :: r) (@hid _ ⟨K⟩)=K n r:=Xj
theorem Rq{n:Value}{r:TB}{K:Value->TB->Prop}:(PH C Sg T).unV (.v n :: r) (@hid _ ⟨K⟩)=K n r:=Xl
theorem Rm{K:Prop}:(PH C Sg T).un0 [] (@hid _ ⟨K⟩)=K:=Xi
theorem Rk{k:TF}{n:Int}{r:Tk}{K:Int->Tk->Prop}:(PH C Sg T).ucI k (.int k n :: r) (@hid _ ⟨K⟩)=K n r:=Xg
theorem Rj{n:Bool}{r:Tk}{K:Bool->Tk->Prop}:(PH C Sg T).ucB (.bool n :: r) (@hid _ ⟨K⟩)=K n r:=Xf
theorem Rl{n:Value}{r:Tk}{K:Value->Tk->Prop}:(PH C Sg T).ucV (n :: r) (@hid _ ⟨K⟩)=K n r:=Xh
theorem Ri{K:Prop}:(PH C Sg T).uc0 [] (@hid _ ⟨K⟩)=K:=Xe
theorem DR{X Y:Prop}:(PH C Sg T).cond true (@hid _ ⟨X⟩) Y=X:=IV
theorem DQ{X Y:Prop}:(PH C Sg T).cond false X (@hid _ ⟨Y⟩)=Y:=IU
theorem zV{a b:Int}{K:Tm}(h:a<b):(PH C Sg T).cmp .lss a b (@hid _ ⟨K⟩)=K true:=Nk h
theorem zQ{a b:Int}{K:Tm}(h:b<=a):(PH C Sg T).cmp .lss a b (@hid _ ⟨K⟩)=K false:=Nj h
theorem Pf{a b:Int}{K:Tm}(h:a<=b):(PH C Sg T).cmp .leq a b (@hid _ ⟨K⟩)=K true:=Ni h
theorem Pe{a b:Int}{K:Tm}(h:b<a):(PH C Sg T).cmp .leq a b (@hid _ ⟨K⟩)=K false:=Nh h
theorem Ad{a b:Int}{K:Tm}(h:b<a):(PH C Sg T).cmp .gtr a b (@hid _ ⟨K⟩)=K true:=Ng h
theorem zU{a b:Int}{K:Tm}(h:a<=b):(PH C Sg T).cmp .gtr a b (@hid _ ⟨K⟩)=K false:=Nf h
theorem Ca{a b:Int}{K:Tm}(h:b<=a):(PH C Sg T).cmp .geq a b (@hid _ ⟨K⟩)=K true:=Nd h
theorem AY{a b:Int}{K:Tm}(h:a<b):(PH C Sg T).cmp .geq a b (@hid _ ⟨K⟩)=K false:=Nc h
theorem zT{a b:Int}{K:Tm}(h:a=b):(PH C Sg T).cmp .eql a b (@hid _ ⟨K⟩)=K true:=M9 h
theorem zO{a b:Int}{K:Tm}(h:a≠b):(PH C Sg T).cmp .eql a b (@hid _ ⟨K⟩)=K false:=M8 h
theorem AR{a b:Int}{K:Tm}(h:a≠b):(PH C Sg T).cmp .neq a b (@hid _ ⟨K⟩)=K true:=Nq h
theorem Aj{a b:Int}{K:Tm}(h:a=b):(PH C Sg T).cmp .neq a b (@hid _ ⟨K⟩)=K false:=Np h
theorem B9{a b:Int}{K:Ts}(h1:-9223372036854775808<=a+b)(c:a+b<=9223372036854775807):(PH C Sg T).ari .add .i64 a b (@hid _ ⟨K⟩)=K (a+b):=Xa h1 c
theorem F4{a b:Int}{K:Ts}(h1:-9223372036854775808<=a - b)(c:a - b<=9223372036854775807):(PH C Sg T).ari .sub .i64 a b (@hid _ ⟨K⟩)=K (a - b):=Xd h1 c
theorem Rf{a b:Int}{K:Ts}(h1:-9223372036854775808<=a*b)(c:a*b<=9223372036854775807):(PH C Sg T).ari .mul .i64 a b (@hid _ ⟨K⟩)=K (a*b):=Xc h1 c
theorem Dc{a b:Int}{K:Ts}(h1:0<=a+b)(c:a+b<=255):(PH C Sg T).ari .add .u8 a b (@hid _ ⟨K⟩)=K (a+b):=R0 h1 c
theorem Uw{a b:Int}{K:Ts}(h1:0<=a - b)(c:a - b<=255):(PH C Sg T).ari .sub .u8 a b (@hid _ ⟨K⟩)=K (a - b):=R6 h1 c
theorem Uv{a b:Int}{K:Ts}(h1:0<=a*b)(c:a*b<=255):(PH C Sg T).ari .mul .u8 a b (@hid _ ⟨K⟩)=K (a*b):=R5 h1 c
theorem CM{a b:Int}{K:Ts}(h:0<=a)(d:0<b)(c:a<=9223372036854775807):(PH C Sg T).ari .quo .i64 a b (@hid _ ⟨K⟩)=K (a / b):=I1 h d c
theorem Le{a b:Int}{K:Ts}(h:a%b=0)(d:0<b)(h1:-9223372036854775808<=a)(c:a<=9223372036854775807):(PH C Sg T).ari .quo .i64 a b (@hid _ ⟨K⟩)=K (a / b):=I0 h d h1 c
theorem A2{k:TF}{a b:Int}{K:Ts}(h:0<=a)(c:0<b):(PH C Sg T).ari .rem k a b (@hid _ ⟨K⟩)=K (a%b):=I2 h c
theorem CN{k:TF}{a b:Int}{K:Ts}(h:a<=0)(c:0<b):(PH C Sg T).ari .rem k a b (@hid _ ⟨K⟩)=K (-((-a)%b)):=I3 h c
theorem Ur{a:Int}{K:Ts}:(PH C Sg T).ari .and .i64 a 1 (@hid _ ⟨K⟩)=K (a%2):=R1
theorem K8{a:Int}{K:Ts}(h1:-9223372036854775808<=a)(b:a<=9223372036854775807):(PH C Sg T).conv .i64 a (@hid _ ⟨K⟩)=K a:=R2 h1 b
theorem F1{a:Int}{K:Ts}(h1:0<=a)(b:a<=255):(PH C Sg T).conv .u8 a (@hid _ ⟨K⟩)=K a:=M7 h1 b
theorem F3{a b:Int}{K:Ts}:(PH C Sg T).sel true a b (@hid _ ⟨K⟩)=K a:=Nt
theorem F2{a b:Int}{K:Ts}:(PH C Sg T).sel false a b (@hid _ ⟨K⟩)=K b:=Ns
theorem Rh{α:Type}{x:α}{K:α->Prop}:(PH C Sg T).opt (some x) (@hid _ ⟨K⟩)=K x:=QQ
theorem Re{n:Nat}{i:Int}{K:Unit->Prop}(h1:0<=i)(a:i<(n:Int)):(PH C Sg T).opt (BM n i) (@hid _ ⟨K⟩)=K ():=Xb h1 a
theorem Uu{b:Td}{m:(TB->HL->Prop)->Prop}:(PH C Sg T).join (@hid _ ⟨b⟩) (@hid _ ⟨m⟩)=m (@hid _ ⟨b⟩):=R4
theorem Us{K:Tm}:(PH C Sg T).eqs [] (@hid _ ⟨K⟩)=K true:=R3
theorem Pd{a b:Int}{l:List (Lf×Lf)}{K:Tm}(h:a=b):(PH C Sg T).eqs ((.i a,.i b) :: l) (@hid _ ⟨K⟩)=(PH C Sg T).eqs l (@hid _ ⟨K⟩):=Nb h
theorem Pc{a b:Int}{l:List (Lf×Lf)}{K:Tm}(h:a≠b):(PH C Sg T).eqs ((.i a,.i b) :: l) (@hid _ ⟨K⟩)=K false:=Na h
theorem p_it{F:(TB->HL->Prop)->TB->HL->Prop}{n:Nat}{ls:TB}{h:HL}:MH (@hid _ ⟨F⟩) (n+1) ls h=F (MH (@hid _ ⟨F⟩) n) ls h:=b_it
theorem DS{a b:Bool}{l:List (Lf×Lf)}{K:Tm}(h:a=b):(PH C Sg T).eqs ((.b a,.b b) :: l) (@hid _ ⟨K⟩)=(PH C Sg T).eqs l (@hid _ ⟨K⟩):=IW h
theorem HQ{l:List (Lf×Lf)}{K:Tm}:(PH C Sg T).eqs ((.b true,.b false) :: l) (@hid _ ⟨K⟩)=K false:=GK
theorem HP{l:List (Lf×Lf)}{K:Tm}:(PH C Sg T).eqs ((.b false,.b true) :: l) (@hid _ ⟨K⟩)=K false:=GJ
theorem Ph{b:Int}{K:Ts}(h1:-9223372036854775808<=b)(a:b<=9223372036854775807):(PH C Sg T).ari .mul .i64 1 b (@hid _ ⟨K⟩)=K b:=Nm h1 a
theorem Pg{b:Int}{K:Ts}:(PH C Sg T).ari .mul .i64 0 b (@hid _ ⟨K⟩)=K 0:=Nl
theorem Pi{b:Int}{K:Ts}(h1:-9223372036854775808<=-b)(a:-b<=9223372036854775807):(PH C Sg T).ari .mul .i64 (-1) b (@hid _ ⟨K⟩)=K (-b):=Nn h1 a
theorem Lc{b:Int}{K:Ts}(h1:-9223372036854775808<=b)(a:b<=9223372036854775807):(PH C Sg T).ari .mul .i64 b 1 (@hid _ ⟨K⟩)=K b:=IY h1 a
theorem Lb{b:Int}{K:Ts}:(PH C Sg T).ari .mul .i64 b 0 (@hid _ ⟨K⟩)=K 0:=IX
theorem Ld{b:Int}{K:Ts}(h1:-9223372036854775808<=-b)(a:-b<=9223372036854775807):(PH C Sg T).ari .mul .i64 b (-1) (@hid _ ⟨K⟩)=K (-b):=IZ h1 a
theorem Pb{b:Int}{K:Ts}(h1:-9223372036854775808<=b)(a:b<=9223372036854775807):(PH C Sg T).ari .add .i64 0 b (@hid _ ⟨K⟩)=K b:=M6 h1 a
theorem K5{b:Int}{K:Ts}(h1:-9223372036854775808<=b)(a:b<=9223372036854775807):(PH C Sg T).ari .add .i64 b 0 (@hid _ ⟨K⟩)=K b:=IR h1 a
theorem K4{K:Ts}:(PH C Sg T).ari .add .i64 1 1 (@hid _ ⟨K⟩)=K 2:=IQ
theorem Pj{a:Int}{K:Ts}(h1:-9223372036854775808<=a)(b:a<=9223372036854775807):(PH C Sg T).ari .quo .i64 a 1 (@hid _ ⟨K⟩)=K a:=Nr h1 b
theorem La{f:Td}{a:TB}{b:HL}:@hid _ ⟨f⟩ a b=f a b:=rfl
theorem CL{a b c d:Int}{K:Tm}(h:¬(a=c/\b=d)):(PH C Sg T).eqs [(.i a,.i c),(.i b,.i d)] (@hid _ ⟨K⟩)=K false:=by
 show K (cj _)=K false;have:cj [(.i a,.i c),(.i b,.i d)]=false:=by
  rw[qcw];simpa[cj,gG]using h
 rw[this]
theorem K9{a b c d e f:Int}{K:Tm}(h:¬(a=d/\b=e/\c=f)):(PH C Sg T).eqs [(.i a,.i d),(.i b,.i e),(.i c,.i f)] (@hid _ ⟨K⟩)=K false:=by
 show K (cj _)=K false;have:cj [(.i a,.i d),(.i b,.i e),(.i c,.i f)]=false:=by
  rw[qcw];simpa[cj,gG]using h
 rw[this]
def al{g:TK}{ls a:TB}{h h':HL}{K:Td}(b:aD C Sg g ls (ka T h) a (ka T h'))(c:K a h'):(PH C Sg T).call g ls h (@hid _ ⟨K⟩):=⟨a,h',b,c⟩
def rg{g:TK}{sg:Sig}{ls b:TB}{H H':Tp}(d:aD C Sg g ls H b H')(e:Sg g=some sg)(xs:List S0)(h1:cX xs sg.ps=true)(c:cP xs=ls) :
  sZ C (.func (.func g) #[] #[]) (au xs) sg.rs H b H':=by
 obtain⟨f,i,j,a,c2,c3,c4⟩:=d;rw[e]at a;cases a;obtain⟨h,_⟩:=dy c2.1 h1 (c2.2.1.trans c.symm);rw[h]at c4;exact⟨j,c3,.inl ⟨g,#[],#[],rfl,by simpa using c4⟩⟩
def oE{v:Value}{args:Tk}{b:TH}{a:TB}{h h':HL}{K:Td}(c:sZ C v args b (ka T h) a (ka T h'))(d:K a h'):(PH C Sg T).callv v args b h (@hid _ ⟨K⟩):=⟨a,h',c,d⟩
theorem Rg{o:HObj}{h:HL}{K:Nat->HL->Prop}:(PH C Sg T).new o h (@hid _ ⟨K⟩)=K h.length (h++[.o o]):=rfl
def ac{v:Value}{K:Prop}(h:aB v=true)(a:K):(PH C Sg T).chk v (@hid _ ⟨K⟩):=⟨h,a⟩
def bZ{f:Hp}{h:HL}{K:Ta}{a:List Act1}{cs:Tk}(e:f.run (wb T h) h.length=some (a,cs))(b:K cs (bL h a)):(PH C Sg T).heap f h (@hid _ ⟨K⟩):=⟨a,cs,e,b⟩
def gj{f:Pk}{h:HL}{K:Te}{cs:Tk}(e:f.run (wb T h)=some cs)(a:K cs):(PH C Sg T).peek f h (@hid _ ⟨K⟩):=⟨cs,e,a⟩
def pxs(C:Cfg)(Sg:Tc)(T:Tq):=And.intro @La (And.intro (@Rg _ _ C Sg T) (And.intro (@Ro _ _ C Sg T) (And.intro (@Rn _ _ C Sg T) (And.intro (@Rq _ _ C Sg T) (And.intro (@Rm _ _ C Sg T) (And.intro (@Rk _ _ C Sg T) (And.intro (@Rj _ _ C Sg T) (And.intro (@Rl _ _ C Sg T) (And.intro (@Ri _ _ C Sg T) (And.intro (@DR _ _ C Sg T) (And.intro (@DQ _ _ C Sg T) (And.intro (@Rh _ _ C Sg T) (And.intro (@Re _ _ C Sg T) (And.intro (@Uu _ _ C Sg T) (And.intro (@F3 _ _ C Sg T) (And.intro (@F2 _ _ C Sg T) ((@p_it))))))))))))))))))
def pxc(C:Cfg)(Sg:Tc)(T:Tq):=And.intro (@zV _ _ C Sg T) (And.intro (@zQ _ _ C Sg T) (And.intro (@Pf _ _ C Sg T) (And.intro (@Pe _ _ C Sg T) (And.intro (@Ad _ _ C Sg T) (And.intro (@zU _ _ C Sg T) (And.intro (@Ca _ _ C Sg T) (And.intro (@AY _ _ C Sg T) (And.intro (@zT _ _ C Sg T) (And.intro (@zO _ _ C Sg T) (And.intro (@AR _ _ C Sg T) (And.intro (@Aj _ _ C Sg T) (And.intro (@Us _ _ C Sg T) (And.intro (@Pd _ _ C Sg T) (And.intro (@Pc _ _ C Sg T) (And.intro (@CL _ _ C Sg T) (And.intro (@K9 _ _ C Sg T) (And.intro (@DS _ _ C Sg T) (And.intro (@HQ _ _ C Sg T) ((@HP _ _ C Sg T))))))))))))))))))))
def pxa(C:Cfg)(Sg:Tc)(T:Tq):=And.intro (@Ph _ _ C Sg T) (And.intro (@Pg _ _ C Sg T) (And.intro (@Pi _ _ C Sg T) (And.intro (@Lc _ _ C Sg T) (And.intro (@Lb _ _ C Sg T) (And.intro (@Ld _ _ C Sg T) (And.intro (@Pb _ _ C Sg T) (And.intro (@K5 _ _ C Sg T) (And.intro (@K4 _ _ C Sg T) (And.intro (@Pj _ _ C Sg T) (And.intro (@B9 _ _ C Sg T) (And.intro (@F4 _ _ C Sg T) (And.intro (@Rf _ _ C Sg T) (And.intro (@Dc _ _ C Sg T) (And.intro (@Uw _ _ C Sg T) (And.intro (@Uv _ _ C Sg T) (And.intro (@CM _ _ C Sg T) (And.intro (@Le _ _ C Sg T) (And.intro (@A2 _ _ C Sg T) (And.intro (@CN _ _ C Sg T) (And.intro (@Ur _ _ C Sg T) (And.intro (@K8 _ _ C Sg T) ((@F1 _ _ C Sg T)))))))))))))))))))))))
end
end Sx
namespace Sx
section
variable [Val] [Kno]
variable {C:Cfg} {Sg:Tc} {T:Tq}
def th{h:HL}{l:Nat}{o:HO}:ka T (h.set l o)=(ka T h).set l (BR T o):=by
 unfold ka;rw[LC]
end
end Sx
namespace Sx
open Go.Proofs
def hA(A:Alg Prop HL):Alg Prop HL where
 fail:=A.fail
 cond b x y:=A.cond b (@hid _ ⟨x⟩) (@hid _ ⟨y⟩)
 ari o k a b K:=A.ari o k a b (@hid _ ⟨K⟩)
 shf o k a l b K:=A.shf o k a l b (@hid _ ⟨K⟩)
 cmp o a b K:=A.cmp o a b (@hid _ ⟨K⟩)
 eqs l K:=A.eqs l (@hid _ ⟨K⟩)
 conv k a K:=A.conv k a (@hid _ ⟨K⟩)
 sel t a b K:=A.sel t a b (@hid _ ⟨K⟩)
 opt o K:=A.opt o (@hid _ ⟨K⟩)
 chk v x:=A.chk v (@hid _ ⟨x⟩)
 unI l K:=A.unI l (@hid _ ⟨K⟩)
 unB l K:=A.unB l (@hid _ ⟨K⟩)
 unV l K:=A.unV l (@hid _ ⟨K⟩)
 un0 l x:=A.un0 l (@hid _ ⟨x⟩)
 ucI k l K:=A.ucI k l (@hid _ ⟨K⟩)
 ucB l K:=A.ucB l (@hid _ ⟨K⟩)
 ucV l K:=A.ucV l (@hid _ ⟨K⟩)
 uc0 l x:=A.uc0 l (@hid _ ⟨x⟩)
 peek f h K:=A.peek f h (@hid _ ⟨K⟩)
 heap f h K:=A.heap f h (@hid _ ⟨K⟩)
 new o h K:=A.new o h (@hid _ ⟨K⟩)
 call g l h K:=A.call g l h (@hid _ ⟨K⟩)
 callv v a s h K:=A.callv v a s h (@hid _ ⟨K⟩)
 join b m:=A.join (@hid _ ⟨b⟩) (@hid _ ⟨m⟩)
 loop F l h:=A.loop (@hid _ ⟨F⟩) l h
def QY(A:Alg Prop HL):hA A=A:=rfl
section
variable {A:Alg Prop HL}
theorem SS{b:Bool}{x y:Prop}:(hA A).cond b x y=A.cond b (@hid _ ⟨x⟩) (@hid _ ⟨y⟩):=rfl
theorem YV{o:BinOp}{k:TF}{a b:Int}{K:Ts}:(hA A).ari o k a b K=A.ari o k a b (@hid _ ⟨K⟩):=rfl
theorem Y2{o:BinOp}{k l:TF}{a b:Int}{K:Ts}:(hA A).shf o k a l b K=A.shf o k a l b (@hid _ ⟨K⟩):=rfl
theorem YX{o:BinOp}{a b:Int}{K:Tm}:(hA A).cmp o a b K=A.cmp o a b (@hid _ ⟨K⟩):=rfl
theorem YY{l:List (Lf×Lf)}{K:Tm}:(hA A).eqs l K=A.eqs l (@hid _ ⟨K⟩):=rfl
theorem SU{k:TF}{a:Int}{K:Ts}:(hA A).conv k a K=A.conv k a (@hid _ ⟨K⟩):=rfl
theorem Y1{t:Bool}{a b:Int}{K:Ts}:(hA A).sel t a b K=A.sel t a b (@hid _ ⟨K⟩):=rfl
theorem Y0{α:Type}{o:Option α}{K:α->Prop}:(hA A).opt o K=A.opt o (@hid _ ⟨K⟩):=rfl
theorem YW{v:Value}{x:Prop}:(hA A).chk v x=A.chk v (@hid _ ⟨x⟩):=rfl
theorem Y9{l:TB}{K:Int->TB->Prop}:(hA A).unI l K=A.unI l (@hid _ ⟨K⟩):=rfl
theorem Y8{l:TB}{K:Bool->TB->Prop}:(hA A).unB l K=A.unB l (@hid _ ⟨K⟩):=rfl
theorem Za{l:TB}{K:Value->TB->Prop}:(hA A).unV l K=A.unV l (@hid _ ⟨K⟩):=rfl
theorem Y7{l:TB}{x:Prop}:(hA A).un0 l x=A.un0 l (@hid _ ⟨x⟩):=rfl
theorem Y5{k:TF}{l:Tk}{K:Int->Tk->Prop}:(hA A).ucI k l K=A.ucI k l (@hid _ ⟨K⟩):=rfl
theorem Y4{l:Tk}{K:Bool->Tk->Prop}:(hA A).ucB l K=A.ucB l (@hid _ ⟨K⟩):=rfl
theorem Y6{l:Tk}{K:Value->Tk->Prop}:(hA A).ucV l K=A.ucV l (@hid _ ⟨K⟩):=rfl
theorem Y3{l:Tk}{x:Prop}:(hA A).uc0 l x=A.uc0 l (@hid _ ⟨x⟩):=rfl
theorem S1{f:Pk}{h:HL}{K:Te}:(hA A).peek f h K=A.peek f h (@hid _ ⟨K⟩):=rfl
theorem SX{f:Hp}{h:HL}{K:Ta}:(hA A).heap f h K=A.heap f h (@hid _ ⟨K⟩):=rfl
theorem YZ{o:HObj}{h:HL}{K:Nat->HL->Prop}:(hA A).new o h K=A.new o h (@hid _ ⟨K⟩):=rfl
theorem SQ{g:TK}{l:TB}{h:HL}{K:Td}:(hA A).call g l h K=A.call g l h (@hid _ ⟨K⟩):=rfl
theorem Ot{v:Value}{a:Tk}{s:TH}{h:HL}{K:Td}:(hA A).callv v a s h K=A.callv v a s h (@hid _ ⟨K⟩):=rfl
theorem SY{b:Td}{m:(TB->HL->Prop)->Prop}:(hA A).join b m=A.join (@hid _ ⟨b⟩) (@hid _ ⟨m⟩):=rfl
theorem SZ{F:(TB->HL->Prop)->TB->HL->Prop}{l:TB}{h:HL}:(hA A).loop F l h=A.loop (@hid _ ⟨F⟩) l h:=rfl
end
def pxh(A:Alg Prop HL):=And.intro (@SS A) (And.intro (@YV A) (And.intro (@Y2 A) (And.intro (@YX A) (And.intro (@YY A) (And.intro (@SU A) (And.intro (@Y1 A) (And.intro (@Y0 A) (And.intro (@YW A) (And.intro (@Y9 A) (And.intro (@Y8 A) (And.intro (@Za A) (And.intro (@Y7 A) (And.intro (@Y5 A) (And.intro (@Y4 A) (And.intro (@Y6 A) (And.intro (@Y3 A) (And.intro (@S1 A) (And.intro (@SX A) (And.intro (@YZ A) (And.intro (@SQ A) (And.intro (@Ot A) (And.intro (@SY A) (@SZ A)))))))))))))))))))))))
end Sx
end Go.Am
namespace Go.Am
open Sx Go.Proofs
def On(g:Nat)(vs:Tk)(h:cc.G g=some vs):vs.all bf=true:=by
 unfold cc at h;simp only at h;split at h<;>first|(cases h;done)|(obtain rfl:=AD h;kernel_rfl)
abbrev P1:Alg Prop HL:=PH cc ab aa
abbrev Cc(g:TK)(ls a:TB):Prop:=∀H,aD cc ab g ls H a H
def YR{f:TK}{c:Fn1}(i:FnIs (xc f) ab f c){ls:TB}{H:HL}{K:Td}(b:jI ls=true)
  (h:ak P1 (xc f) ab NJ c ls H K):∃a H',aD cc ab f ls (ka aa H) a (ka aa H')/\K a H':=by
 obtain⟨a,g,d,_,e⟩:=rA (X:=xc f) (holds:=id) (abs:=ka aa) (P4 cc ab aa) Em i (fL b) h;exact⟨a,g,d,e⟩
def SM{f:TK}{c:Fn1}(i:FnIs (xc f) ab f c){ls:TB}{H:HL}{K:Td}(b:dP ls)
  (h:ak P1 (xc f) ab NJ c ls H K):∃a H',aD cc ab f ls (ka aa H) a (ka aa H')/\K a H':=by
 obtain⟨a,g,d,_,e⟩:=rA (X:=xc f) (holds:=id) (abs:=ka aa) (P4 cc ab aa) Em i b h;exact⟨a,g,d,e⟩
def ub:dP []:=λ_ h=>by cases h
def kx{n:Int}{ls:TB}(h:dP ls):dP (.i n :: ls):=λl hl=>by
 rcases qar.1 hl with rfl|hl
 ·trivial
 ·exact h l hl
def glsB{n:Bool}{ls:TB}(h:dP ls):dP (.b n :: ls):=λl hl=>by
 rcases qar.1 hl with rfl|hl
 ·trivial
 ·exact h l hl
def rv{x:Value}{ls:TB}(a:aB x=true)(h:dP ls):dP (.v x :: ls):=λl hl=>by
 rcases qar.1 hl with rfl|hl
 ·exact a
 ·exact h l hl
abbrev FP:=List Lf->HL->(TB->HL->Prop)->Prop
abbrev UG(k:TK)(p:FP):Prop:=∀ {ls:TB} {H:HL} {K:Td},jI ls=true->p ls H K->∃a H',aD cc ab k ls (ka aa H) a (ka aa H')/\K a H'
abbrev XG(k:TK)(p:FP):Prop:=∀ {ls:TB} {H:HL} {K:Td},dP ls->p ls H K->∃a H',aD cc ab k ls (ka aa H) a (ka aa H')/\K a H'
abbrev QG(k:TK)(p:FP):Prop:=∀ {ls b:TB},jI ls=true->p ls [] (λa _=>a=b)->Cc k ls b
def uu{k:TK}{c:Fn1}{f:{R a:Type}->Alg R a->TB->a->(TB->a->R)->R}(d:FnIs (xc k) ab k c)(e:@f=λR a A ls h K=>ak A (xc k) ab NJ c ls h K):UG k (f (hA P1)):=by
 intro ls H K b h;rw[QY,e]at h;exact YR d b h
def xx{k:TK}{c:Fn1}{f:{R a:Type}->Alg R a->TB->a->(TB->a->R)->R}(d:FnIs (xc k) ab k c)(e:@f=λR a A ls h K=>ak A (xc k) ab NJ c ls h K):XG k (f (hA P1)):=by
 intro ls H K b h;rw[QY,e]at h;exact SM d b h
def qq{k:TK}{sg:Sig}{p:FP}(e:UG k p)(d:ab k=some sg)(c:sg.plain=true):QG k p:=λa h=>by
 obtain⟨_,_,b,rfl⟩:=e a h;exact QT C6 rJ d c b
def qxs:=pxs cc ab aa
def xp:=And.intro (qeq (hA P1)) (pxh P1)
def RB:=pxc cc ab aa
def RA:=pxa cc ab aa
def my:=And.intro qxs (And.intro RB RA)
def jw{P Q:Prop}(k:Q)(h:P=Q:=by simp(disch:=omega)only[↓my];exact rfl):P:=Eq.mpr h k
def qs{P Q:Prop}(k:Q)(h:P=Q:=by first|(simp(disch:=omega)only[↓my];exact rfl)|exact rfl):P:=Eq.mpr h k
def xK{k:TK}{p:FP}(c:XG k p){ls R:TB}{H H':HL}(hg:dP ls)(h:p ls H λa h'=>a=R/\h'=H'):aD cc ab k ls (ka aa H) R (ka aa H'):=by
 obtain⟨a,h',b,rfl,rfl⟩:=c hg h;exact b
end Go.Am
namespace Go.Am
namespace Sx
def mF{vs:Tk}{off n:Nat}{cs:Tk}:cut vs off n=some cs↔off+n<=vs.length/\(vs.drop off).take n=cs:=by
 unfold cut;split
 next h=>simp[h]
 next h=>simp[h]
def E8{vs:Tk}{off n:Nat}{cs:Tk}(h:cut vs off n=some cs):cs.length=n:=by
 obtain⟨a,rfl⟩:=mF.1 h;rw[BN,MM];omega
def nz{vs:Tk}{off n:Nat}{cs:Tk}(h:cut vs off n=some cs){o k:Nat}(b:o+k<=n):cut vs (off+o) k=some ((cs.drop o).take k):=by
 obtain⟨a,rfl⟩:=mF.1 h;refine mF.2 ⟨by omega,?_⟩;rw[List.drop_take,Lw,List.take_take,C1 (by omega)]
def cut_all{vs:Tk}{n:Nat}(h:vs.length=n):cut vs 0 n=some vs:=mF.2 ⟨by omega,by rw[F9,Cg (by omega)]⟩
def Pre(h0 h:HL):Prop:=∃G,h=h0++G
theorem Pre.refl(h:HL):Pre h h:=⟨[],by simp⟩
def Pre.trans{a b c:HL}(h:Pre a b)(k:Pre b c):Pre a c:=by
 obtain⟨G,rfl⟩:=h;obtain⟨d,rfl⟩:=k;exact⟨G++d,by simp⟩
def Pre.app{a b:HL}(h:Pre a b)(G:HL):Pre a (b++G):=h.trans ⟨G,rfl⟩
def Pre.len{a b:HL}(h:Pre a b):a.length<=b.length:=by obtain⟨G,rfl⟩:=h;simp
def Pre.get{a b:HL}(h:Pre a b){i:Nat}{o:HO}(c:a[i]?=some o):b[i]?=some o:=by
 obtain⟨G,rfl⟩:=h;have:i<a.length:=by
  rcases Bi i a.length with h|h
  ·exact h
  ·rw[Bd h]at c;cases c
 rw[BE this];exact c
def Pre.set{a b:HL}(h:Pre a b){i:Nat}(c:a.length<=i)(o:HO):Pre a (b.set i o):=by
 obtain⟨G,rfl⟩:=h;rw[Ru _ _ c];exact⟨_,rfl⟩
def Ptr(h:HL)(p:Value)(cs:Tk):Prop:=∃id o vs e rw,p = .pointer (some ⟨id,o,none⟩)/\h[id]?=some (.o (.cells vs e rw))/\cut vs o cs.length=some cs
def SlC(h:HL)(v:Value)(e n:Nat)(cs:Tk):Prop:=
 cs.length=n*e/\((v = .slice none 0 0/\n=0)∨∃id off cx vs rw,v = .slice (some ⟨id,off,pu e⟩) n cx/\h[id]?=some (.o (.cells vs e rw))/\cut vs off (n*e)=some cs)
def LsH{α:Type}(h:HL)(v:Value)(e:Nat)(enc:α->Tk)(l:List α):Prop:=(∀a∈l,(enc a).length=e)/\SlC h v e l.length (l.flatMap enc)
def Mk(n0:Nat)(h:HL)(v:Value)(e n:Nat)(cs:Tk):Prop:=
 cs.length=n*e/\((v = .slice none 0 0/\n=0)∨∃id,n0<=id/\v = .slice (some ⟨id,0,pu e⟩) n 0/\h[id]?=some (.o (.cells cs e true)))
def MkL{α:Type}(n0:Nat)(h:HL)(v:Value)(e:Nat)(enc:α->Tk)(l:List α):Prop:=(∀a∈l,(enc a).length=e)/\Mk n0 h v e l.length (l.flatMap enc)
def blk:Value->Option Nat
 | .slice (some a) _ _=>some a.block
 |_=>none
def Ptr.keep{h h':HL}{p:Value}{cs:Tk}(g:Ptr h p cs)(f:∀(j:Nat) o,h[j]?=some o->h'[j]?=some o):Ptr h' p cs:=by
 obtain⟨id,o,i,e,a,b,c,d⟩:=g;exact⟨id,o,i,e,a,b,f _ _ c,d⟩
def SlC.keep{h h':HL}{v:Value}{e n:Nat}{cs:Tk}(l:SlC h v e n cs)(k:∀(j:Nat) o,h[j]?=some o->blk v=some j->h'[j]?=some o):SlC h' v e n cs:=by
 obtain⟨c,f|⟨id,a,d,m,b,rfl,g,i⟩⟩:=l
 ·exact⟨c,.inl f⟩
 ·exact⟨c,.inr ⟨id,a,d,m,b,rfl,k _ _ g rfl,i⟩⟩
def SlC.pre{h h':HL}{v:Value}{e n:Nat}{cs:Tk}(b:SlC h v e n cs)(a:Pre h h'):SlC h' v e n cs:=b.keep λ_ _ h _=>a.get h
def LsH.keep{α:Type}{h h':HL}{v:Value}{e:Nat}{enc:α->Tk}{l:List α}(a:LsH h v e enc l)(b:∀(j:Nat) o,h[j]?=some o->blk v=some j->h'[j]?=some o):LsH h' v e enc l:=⟨a.1,a.2.keep b⟩
def LsH.pre{α:Type}{h h':HL}{v:Value}{e:Nat}{enc:α->Tk}{l:List α}(a:LsH h v e enc l)(b:Pre h h'):LsH h' v e enc l:=⟨a.1,a.2.pre b⟩
def SlC.len{h:HL}{v:Value}{e n:Nat}{cs:Tk}(a:SlC h v e n cs):DJ v=some (.ofNat n):=by
 obtain⟨_,⟨rfl,rfl⟩|⟨id,b,d,f,c,rfl,_⟩⟩:=a<;>rfl
def LsH.len{α:Type}{h:HL}{v:Value}{e:Nat}{enc:α->Tk}{l:List α}(a:LsH h v e enc l):DJ v=some (.ofNat l.length):=a.2.len
def Mk.sl{n0:Nat}{h:HL}{v:Value}{e n:Nat}{cs:Tk}(d:Mk n0 h v e n cs):SlC h v e n cs:=by
 obtain⟨a,b|⟨id,_,rfl,c⟩⟩:=d
 ·exact⟨a,.inl b⟩
 ·exact⟨a,.inr ⟨id,0,0,cs,true,rfl,c,cut_all a⟩⟩
def MkL.ls{α:Type}{n0:Nat}{h:HL}{v:Value}{e:Nat}{enc:α->Tk}{l:List α}(a:MkL n0 h v e enc l):LsH h v e enc l:=⟨a.1,a.2.sl⟩
def Mk.nil(n0:Nat)(h:HL)(e:Nat):Mk n0 h (.slice none 0 0) e 0 []:=⟨by simp,.inl ⟨rfl,rfl⟩⟩
def MkL.nil{α:Type}(n0:Nat)(h:HL)(e:Nat)(enc:α->Tk):MkL n0 h (.slice none 0 0) e enc []:=⟨by simp,Mk.nil n0 h e⟩
def LsH.nil{α:Type}(h:HL)(e:Nat)(enc:α->Tk):LsH h (.slice none 0 0) e enc []:=(MkL.nil 0 h e enc).ls
def Mk.keep{n0:Nat}{h h':HL}{v:Value}{e n:Nat}{cs:Tk}(f:Mk n0 h v e n cs)(d:∀(j:Nat) o,h[j]?=some o->blk v=some j->h'[j]?=some o):Mk n0 h' v e n cs:=by
 obtain⟨b,a|⟨id,a,rfl,c⟩⟩:=f
 ·exact⟨b,.inl a⟩
 ·exact⟨b,.inr ⟨id,a,rfl,d _ _ c rfl⟩⟩
def Mk.pre{n0:Nat}{h h':HL}{v:Value}{e n:Nat}{cs:Tk}(b:Mk n0 h v e n cs)(a:Pre h h'):Mk n0 h' v e n cs:=b.keep λ_ _ h _=>a.get h
def MkL.keep{α:Type}{n0:Nat}{h h':HL}{v:Value}{e:Nat}{enc:α->Tk}{l:List α}(a:MkL n0 h v e enc l)(b:∀(j:Nat) o,h[j]?=some o->blk v=some j->h'[j]?=some o):MkL n0 h' v e enc l:=⟨a.1,a.2.keep b⟩
def MkL.pre{α:Type}{n0:Nat}{h h':HL}{v:Value}{e:Nat}{enc:α->Tk}{l:List α}(a:MkL n0 h v e enc l)(b:Pre h h'):MkL n0 h' v e enc l:=⟨a.1,a.2.pre b⟩
def ba{α:Type}{e:Nat}{enc:α->Tk}:∀ {l:List α},(∀a∈l,(enc a).length=e)->(l.flatMap enc).length=l.length*e
 | [],_=>by simp
 |a :: l,h=>by
  rw[C2,A5,h a Ch,ba λb c=>h b (Bo _ c),CT,C3,H0,Nat.add_comm]
def kP{α:Type}{e:Nat}{enc:α->Tk}:∀ {l:List α},(∀a∈l,(enc a).length=e)->∀ {i:Nat} {a:α},l[i]?=some a->((l.flatMap enc).drop (i*e)).take e=enc a
 |b :: l,h,0,a,c=>by
  simp only[UH,BP]at c;subst c;have:=h b Ch;rw[LD,F9,C2,qcH (by omega),Cg (by omega)]
 |b :: l,h,i+1,a,c=>by
  simp only[Ip]at c;have d:=h b Ch;have:=kP (λb d=>h b (Bo _ d)) c;rw[C2,C3,H0,←this];have f:i*e+e=(enc b).length+i*e:=by omega
  rw[f,Vo,Rs (by omega),Ap,qcF]
 | [],_,_,_,c=>by simp at c
def SlC.at{h:HL}{v:Value}{e n:Nat}{cs:Tk}(l:SlC h v e n cs){i:Nat}(r:i<n):∃p,Ah e v (.ofNat i)=some p/\Ptr h p ((cs.drop (i*e)).take e):=by
 obtain⟨q,⟨rfl,rfl⟩|⟨id,a,o,m,c,rfl,f,g⟩⟩:=l
 ·omega
 ·have b:i*e+e<=n*e:=by
   have:=LB e (show i+1<=n by omega);rw[C3,H0]at this;exact this
  refine⟨.pointer (some ⟨id,a+i*e,none⟩),?_,id,a+i*e,m,e,c,rfl,f,?_⟩
  ·rw[tX];have j:0<=Int.ofNat i/\Int.ofNat i<(n:Int):=⟨Cb i,by show(i:Int)<n;omega⟩;simp only[mc j];have:¬(pu e=some 1):=by simp[pu]
   simp only[po this];rfl
  ·have d:=nz g b;have k:=E8 d;rw[k];exact d
def LsH.at{α:Type}{h:HL}{v:Value}{e:Nat}{enc:α->Tk}{l:List α}(f:LsH h v e enc l){i:Nat}{a:α}(b:l[i]?=some a):∃p,Ah e v (.ofNat i)=some p/\Ptr h p (enc a):=by
 have c:i<l.length:=by
  rcases Bi i l.length with h|h
  ·exact h
  ·rw[Bd h]at b;cases b
 obtain⟨p,g,d⟩:=f.2.at c;rw[kP f.1 b]at d;exact⟨p,g,d⟩
def Ptr.fd{h:HL}{p:Value}{cs:Tk}(i:Ptr h p cs)(o k:Nat)(g:o+k<=cs.length):∃c,Ag o p=some c/\Ptr h c ((cs.drop o).take k):=by
 obtain⟨id,j,l,e,a,rfl,d,f⟩:=i;refine⟨_,rfl,id,j+o,l,e,a,rfl,d,?_⟩;have b:=nz f g;rw[E8 b];exact b
section
variable [Val] [Kno]
def bF{T:Tq}{h:HL}{i:Nat}{o:HObj}(a:h[i]?=some (.o o)):wb T h i=some o:=by
 unfold wb;rw[a];rfl
def Ptr.ld{T:Tq}{h:HL}{p:Value}{cs:Tk}(f:Ptr h p cs){n:Nat}(d:cs.length=n):(Pk.ld n p).run (wb T h)=some cs:=by
 obtain⟨id,o,a,e,g,rfl,b,c⟩:=f;subst d;show(match (none:To)with|none=>(gQ (wb T h) id).bind λa=>cut a o cs.length|some _=>none)=_;unfold gQ;rw[bF b];exact c
def Ptr.lg{C:Cfg}{T:Tq}{h:HL}{p:Value}{cs:Tk}(f:Ptr h p cs){n:Nat}(d:cs.length=n):(Pk.lg C n p).run (wb T h)=some cs:=by
 obtain⟨id,o,a,e,g,rfl,b,c⟩:=f;subst d;show(gQ (wb T h) id).bind (λa=>cut a o cs.length)=_;unfold gQ;rw[bF b];exact c
def qG{C:Cfg}{T:Tq}{h:HL}{v:Value}{e n:Nat}{cs:Tk}(d:SlC h v e n cs):Iy C e (wb T h) v=some (cs,n):=by
 obtain⟨a,⟨rfl,rfl⟩|⟨id,f,i,j,g,rfl,b,c⟩⟩:=d
 ·simp only[LD,qa5]at a;subst a;rfl
 ·unfold Iy;have:¬(pu e=some 1):=by simp[pu]
  simp only[po this,if_true];rw[bF b];simp only[if_true];rw[c];rfl
variable {C:Cfg} {Sg:Tc} {T:Tq}
def W7{n0:Nat}{h0 h:HL}{v x:Value}{e n k bytes:Nat}{cs new:Tk}(g:Pre h0 h)(u:h0.length=n0)(q:Mk n0 h v e n cs)(t:SlC h x e k new)(s:bh (n+k) bytes=true) :
  ∃b v',(Hp.ap C e bytes v x).run (wb T h) h.length=some (b,[v'])/\Pre h0 (bL h b)/\Mk n0 (bL h b) v' e (n+k) (cs++new)/\
   (∀(j:Nat) o,h[j]?=some o->blk v≠some j->(bL h b)[j]?=some o)/\(blk v'=blk v∨blk v'=none∨∃j,blk v'=some j/\h.length<=j):=by
 obtain⟨i,q⟩:=q;have f:=t.1;have c3:(cs++new).length=(n+k)*e:=by rw[A5,i,f,C3]
 have c:=qG (C:=C) (T:=T) t;rcases q with⟨rfl,rfl⟩|⟨id,hid,rfl,l⟩
 ·simp only[LD,qa5]at i;subst i;by_cases m:k=0
  ·subst m;simp only[LD,qa5]at f;subst f;refine⟨[],.slice none 0 0,?_,g,Mk.nil _ _ _,λj o d _=>d,.inl rfl⟩;show BS C e bytes (.slice none 0 0) x (wb T h) h.length=_;unfold BS;rw[c];rfl
  ·refine⟨[.push (.cells new e true)],.slice (some ⟨h.length,0,pu e⟩) k 0,?_,g.app _,?_,λj o d _=>?_,.inr (.inr ⟨h.length,rfl,zY _⟩)⟩
   ·show BS C e bytes (.slice none 0 0) x (wb T h) h.length=_;unfold BS;rw[c];simp only[po m];rw[Br]at s;rw[mc s]
   ·rw[Br,Ap];refine⟨by simpa using f,.inr ⟨h.length,by have:=g.len;omega,rfl,?_⟩⟩;simp[bL,Act1.onH]
   ·exact Pre.get ⟨_,rfl⟩ d
 ·by_cases m:k=0
  ·subst m;simp only[LD,qa5]at f;subst f;refine⟨[],.slice (some ⟨id,0,pu e⟩) n 0,?_,g,⟨c3,.inr ⟨id,hid,rfl,by simpa[bL]using l⟩⟩,λj o d _=>d,.inl rfl⟩;show BS C e bytes (.slice (some ⟨id,0,pu e⟩) n 0) x (wb T h) h.length=_;unfold BS;rw[c];simp only[ne_eq,not_true_eq_false,if_false];rw[bF l];simp only[ne_eq,not_true_eq_false,if_false];rw[cut_all i];rfl
  ·have z:id<h.length:=by
    rcases Bi id h.length with p|p
    ·exact p
    ·rw[Bd p]at l;cases l
   refine⟨[.set id .dead,.push (.cells (cs++new) e true)],.slice (some ⟨h.length,0,pu e⟩) (n+k) 0,?_,?_,?_,λj o d w=>?_,.inr (.inr ⟨h.length,rfl,zY _⟩)⟩
   ·show BS C e bytes (.slice (some ⟨id,0,pu e⟩) n 0) x (wb T h) h.length=_;unfold BS;rw[c];simp only[ne_eq,not_true_eq_false,if_false];rw[bF l];simp only[ne_eq,not_true_eq_false,if_false];rw[cut_all i];simp only[po m,qdo];rw[mc s]
   ·exact(g.set (by omega) _).app _
   ·refine⟨c3,.inr ⟨h.length,by have:=g.len;omega,rfl,?_⟩⟩;simp[bL,Act1.onH]
   ·have r:id≠j:=λy=>w (by subst y;rfl);refine Pre.get (a:=h.set id (.o .dead)) ⟨_,rfl⟩ ?_;rw[BL r];exact d
def K7{α:Type}{h0 h:HL}{v:Value}{e bytes:Nat}{enc:α->Tk}{l:List α}{a:α}{K:Ta}{new:Tk}{m:Nat}{q:To}(B:Pre h0 h)(p:MkL h0.length h v e enc l)(A:new=enc a)(z:(enc a).length=e)(i:m=h.length)(k:q=some (e+10))
  (D:bh (l.length+1) bytes=true)
  (y:∀v' h',Pre h0 h'->MkL h0.length h' v' e enc (l++[a])->aB v'=true->(∀(j:Nat) o,h[j]?=some o->blk v≠some j->h'[j]?=some o)->(blk v'=blk v∨∃j,blk v'=some j/\h.length<=j)->K [v'] h') :
  (PH C Sg T).heap (.ap C e bytes v (.slice (some ⟨m,0,q⟩) 1 2)) (h++[.o (.cells new e true)]) (@hid _ ⟨K⟩):=by
 subst A i k;have E:SlC (h++[HO.o (.cells (enc a) e true)]) (.slice (some ⟨h.length,0,pu e⟩) 1 2) e 1 (enc a):=by
  refine⟨by omega,.inr ⟨h.length,0,2,enc a,true,rfl,by simp,cut_all (by omega)⟩⟩
 have g:Mk h0.length (h++[HO.o (.cells (enc a) e true)]) v e l.length (l.flatMap enc):=p.2.pre ⟨_,rfl⟩;obtain⟨n,v',r,s,f,t,u⟩:=W7 (C:=C) (T:=T) (B.app [HO.o (.cells (enc a) e true)]) rfl g E D;refine bZ r (y v' _ s ⟨?_,?_⟩ ?_ ?_ ?_)
 ·intro b c;rcases qas.1 c with c|c
  ·exact p.1 b c
  ·simp only[qav]at c;subst c;exact z
 ·rw[MK,A5];simpa using f
 ·obtain⟨_,⟨rfl,_⟩|⟨id,_,rfl,_⟩⟩:=f
  ·rfl
  ·simp[aB,noLoc,aP,bg,aW,aG,aw,pu]
 ·intro j o x c;exact t j o (Pre.get ⟨_,rfl⟩ x) c
 ·rcases u with d|d|⟨j,d,w⟩
  ·exact .inl d
  ·obtain⟨F,⟨_,G⟩|⟨id,_,rfl,_⟩⟩:=f
   ·omega
   ·cases d
  ·exact .inr ⟨j,d,by simp at w;omega⟩
end
end Sx
namespace Sx
def Ptr.good{h:HL}{p:Value}{cs:Tk}(a:Ptr h p cs):aB p=true:=by
 obtain⟨id,o,c,e,b,rfl,_⟩:=a;simp[aB,noLoc,aP,bg,aW,aG,aw]
def SlC.good{h:HL}{v:Value}{e n:Nat}{cs:Tk}(a:SlC h v e n cs):aB v=true:=by
 obtain⟨_,⟨rfl,_⟩|⟨id,b,d,f,c,rfl,_⟩⟩:=a
 ·rfl
 ·simp[aB,noLoc,aP,bg,aW,aG,aw,pu]
def LsH.good{α:Type}{h:HL}{v:Value}{e:Nat}{enc:α->Tk}{l:List α}(a:LsH h v e enc l):aB v=true:=a.2.good
section
variable [Val] [Kno] {C:Cfg} {Sg:Tc} {T:Tq}
def Hs{F:(TB->HL->Prop)->TB->HL->Prop}{s:Td}{l:TB}{h:HL}(a:F s l h):@hid _ ⟨F⟩ s l h:=a
def aR{σ:Type}{F:(TB->HL->Prop)->TB->HL->Prop}(n:Nat)(S:Nat->σ->TB)(d:Nat->σ->HL)(Inv:Nat->σ->Prop){j0:Nat}{s0:σ}{ls:TB}{h:HL}(i:ls=S j0 s0)(k:h=d j0 s0)(g:j0<=n)(e:Inv j0 s0)
  (step:∀j s,j<=n->Inv j s->∀a:TB->HL->Prop,(∀c,j<n->Inv (j+1) c->a (S (j+1) c) (d (j+1) c))->F a (S j s) (d j s)):(PH C Sg T).loop (@hid _ ⟨F⟩) ls h:=by
 subst i k;refine eQ (m:=n - j0) (λm ls h=>∃j s,ls=S j s/\h=d j s/\j<=n/\m=n - j/\Inv j s) ⟨j0,s0,rfl,rfl,g,rfl,e⟩ ?_;rintro m ls h ⟨j,s,rfl,rfl,g,rfl,e⟩ a b;exact Hs (step j s g e a λc l f=>b (n - (j+1)) _ _ (by omega) ⟨j+1,c,rfl,rfl,by omega,rfl,f⟩)
def eo{F:(TB->HL->Prop)->TB->HL->Prop}(n:Nat)(Inv:Nat->Prop){j0:Nat}{h:HL}{ls:TB}(f:ls=[.i (Int.ofNat j0)])(e:j0<=n)(d:Inv j0)
  (step:∀j,j<=n->Inv j->∀c:TB->HL->Prop,(j<n->Inv (j+1)->c [.i (Int.ofNat j+1)] h)->F c [.i (Int.ofNat j)] h):(PH C Sg T).loop (@hid _ ⟨F⟩) ls h:=
 aR (σ:=Unit) n (λj _=>[.i (Int.ofNat j)]) (λ_ _=>h) (λj _=>Inv j) (s0:=()) f rfl e d λj _ e d c g=>step j e d c (λa b=>g () a b)
def br{α:Type}{h:HL}{v:Value}{e:Nat}{enc:α->Tk}{l:List α}{K:Ts}(b:LsH h v e enc l)(a:K (Int.ofNat l.length)):(PH C Sg T).opt (DJ v) (@hid _ ⟨K⟩):=ah b.len a
def aQ{α:Type}{h:HL}{v:Value}{e:Nat}{enc:α->Tk}{l:List α}{i:Nat}{a:α}{n:Int}{K:Te}(c:LsH h v e enc l)(j:n=Int.ofNat i)(b:l[i]?=some a)(g:K (enc a)) :
  (PH C Sg T).opt (Ah e v n) (@hid _ ⟨λx=>(PH C Sg T).peek (.lg C e x) h (@hid _ ⟨K⟩)⟩):=by
 subst j;obtain⟨p,d,f⟩:=c.at b;exact ah d (gj (f.lg (c.1 a (Af b))) g)
def bB{α:Type}{h:HL}{v:Value}{e:Nat}{enc:α->Tk}{l:List α}{i:Nat}{a:α}{n:Int}{o k:Nat}{cs:Tk}{K:Te}(j:LsH h v e enc l)(u:n=Int.ofNat i)(g:l[i]?=some a)(d:cs=((enc a).drop o).take k)(c:o+k<=e)(t:K cs) :
  (PH C Sg T).opt (Ah e v n) (@hid _ ⟨λx=>(PH C Sg T).opt (Ag o x) (@hid _ ⟨λy=>(PH C Sg T).chk y (@hid _ ⟨(PH C Sg T).peek (.lg C k y) h (@hid _ ⟨K⟩)⟩)⟩)⟩):=by
 subst u d;obtain⟨p,m,r⟩:=j.at g;have w:=j.1 a (Af g);have c:o+k<=(enc a).length:=by omega
 have b:(((enc a).drop o).take k).length=k:=by rw[BN,MM];omega
 obtain⟨q,s,f⟩:=r.fd o k c;refine ah m (ah s ?_);show aB q=true/\_;exact⟨f.good,gj (f.lg b) t⟩
def cO{b:Td}{m:(TB->HL->Prop)->Prop}(a:m b):(PH C Sg T).join (@hid _ ⟨b⟩) (@hid _ ⟨m⟩):=a
end
end Sx
namespace Sx
section
variable [Val] [Kno] {C:Cfg} {Sg:Tc} {T:Tq}
def aS{j:Nat}{K:Ts}(h:j<=4294967296):(PH C Sg T).ari .add .i64 (Int.ofNat j) 1 (@hid _ ⟨K⟩)=K (Int.ofNat j+1):=
 B9 (by show -9223372036854775808<=(j:Int)+1;omega) (by show(j:Int)+1<=9223372036854775807;omega)
def gf{j:Nat}{K:Ts}(h1:1<=j)(h:j<=4294967296):(PH C Sg T).ari .sub .i64 (Int.ofNat j) 1 (@hid _ ⟨K⟩)=K (Int.ofNat (j - 1)):=by
 rw[F4 (by show -9223372036854775808<=(j:Int) - 1;omega) (by show(j:Int) - 1<=9223372036854775807;omega)]
 congr 1
 show(j:Int) - 1=((j - 1:Nat):Int);omega
def aJ{j n:Nat}{K:Tm}(h:j<n):(PH C Sg T).cmp .lss (Int.ofNat j) (Int.ofNat n) (@hid _ ⟨K⟩)=K true:=zV (by show(j:Int)<n;omega)
def aM{j n:Nat}{K:Tm}(h:n<=j):(PH C Sg T).cmp .lss (Int.ofNat j) (Int.ofNat n) (@hid _ ⟨K⟩)=K false:=zQ (by show(n:Int)<=j;omega)
end
def aq{α:Type}{l:List α}{i:Nat}{a:α}(h:l[i]?=some a):i<l.length:=by
 rcases Bi i l.length with b|b
 ·exact b
 ·rw[Bd b]at h;cases h
def aL{α:Type}{l:List α}{i:Nat}(h:i<l.length):∃a,l[i]?=some a:=⟨_,A4 h⟩
end Sx
namespace Sx
section
variable [Val] [Kno]
variable {C:Cfg} {Sg:Tc} {T:Tq} {α:Type}
def td(h:HL)(id e:Nat)(enc:α->Tk)(l:List α):HL:=h.set id (.o (.cells (l.flatMap enc) e true))
def bM{h:HL}{id e:Nat}{enc:α->Tk}{l:List α}(a:id<h.length):(td h id e enc l)[id]?=some (.o (.cells (l.flatMap enc) e true)):=by
 unfold td;rw[CQ a]
def Ls{h:HL}{id e:Nat}{enc:α->Tk}{l l':List α}:(td h id e enc l).set id (.o (.cells (l'.flatMap enc) e true))=td h id e enc l':=by
 unfold td;rw[qd0]
def Pt{h:HL}{id e cx:Nat}{enc:α->Tk}(b:∀a,(enc a).length=e){l:List α}(c:id<h.length):LsH (td h id e enc l) (.slice (some ⟨id,0,pu e⟩) l.length cx) e enc l:=by
 have d:=ba (e:=e) (enc:=enc) (l:=l) λa _=>b a;exact⟨λa _=>b a,d,.inr ⟨id,0,cx,_,true,rfl,bM c,cut_all d⟩⟩
def fY{e:Nat}{enc:α->Tk}(c:∀a,(enc a).length=e):∀ {l:List α} {i:Nat} (a:α),i<l.length->(l.flatMap enc).take (i*e)++enc a++(l.flatMap enc).drop (i*e+e)=(l.set i a).flatMap enc
 | [],_,_,h=>by simp at h
 |b :: l,0,a,_=>by
  have d:=c b;simp only[LD,Vq,Ap,Br,qc1,C2];rw[Vo,Rs (by omega),Ap,show e - (enc b).length=0 by omega,F9]
 |b :: l,i+1,a,h=>by
  have d:=c b;have f:=fY c (l:=l) (i:=i) a (by simpa using h);simp only[qcJ,C2];rw[←f,C3,H0,qdi,Vo];rw[Cg (by omega),Rs (by omega),Ap];rw[show i*e+e - (enc b).length=i*e by omega,show i*e+e+e - (enc b).length=i*e+e by omega];simp[AN]
def r_set{h:HL}{id e cx len:Nat}{enc:α->Tk}(b:∀a,(enc a).length=e){l:List α}{i:Nat}{a:α}{n:Int}{new:Tk}{K:Ta}(j:id<h.length)(q:n=Int.ofNat i)(m:i<l.length)(c:l.length=len)(d:new=enc a)
  (o:K [] (td h id e enc (l.set i a))):(PH C Sg T).opt (Ah e (.slice (some ⟨id,0,pu e⟩) len cx) n) (@hid _ ⟨λx=>(PH C Sg T).heap (.st x new) (td h id e enc l) (@hid _ ⟨K⟩)⟩):=by
 subst q c d;have r:Ah e (.slice (some ⟨id,0,pu e⟩) l.length cx) (Int.ofNat i)=some (.pointer (some ⟨id,i*e,none⟩)):=by
  rw[tX];have k:0<=Int.ofNat i/\Int.ofNat i<(l.length:Int):=⟨Cb i,by show(i:Int)<l.length;omega⟩;simp only[mc k];have:¬(pu e=some 1):=by simp[pu]
  simp only[po this,Br];rfl
 refine ah r ?_;have p:=ba (e:=e) (enc:=enc) (l:=l) λa _=>b a;have g:i*e+e<=l.length*e:=by
  have:=LB e (show i+1<=l.length by omega);rw[C3,H0]at this;exact this
 have f:(Hp.st (.pointer (some ⟨id,i*e,none⟩)) (enc a)).run (wb T (td h id e enc l)) (td h id e enc l).length=some ([.set id (.cells ((l.set i a).flatMap enc) e true)],[]):=by
  show ES (.pointer (some ⟨id,i*e,none⟩)) (enc a) (wb T (td h id e enc l)) (td h id e enc l).length=_;unfold ES;simp only;rw[bF (bM j)];simp only;unfold splice;rw[b a,p,mc g,fY b a m];rfl
 refine bZ f ?_;show K [] (bL _ _);have:bL (td h id e enc l) [.set id (.cells ((l.set i a).flatMap enc) e true)]=td h id e enc (l.set i a):=Ls;rw[this];exact o
end
end Sx
namespace Sx
section
variable [Val] [Kno]
variable {C:Cfg} {Sg:Tc} {T:Tq} {α:Type}
def dc{enc:α->Tk}{z:α}{n:Nat}:bk (enc z) n=(List.replicate n z).flatMap enc:=by
 unfold bk;rw[qdP,List.map_replicate]
def Uf(h:HL)(e:Nat)(enc:α->Tk)(l:List α):HL:=h++[.o (.cells (l.flatMap enc) e true)]
def KQ{h:HL}{e:Nat}{enc:α->Tk}{l:List α}:td (h++[.o .dead]) h.length e enc l=Uf h e enc l:=by
 unfold td Uf;rw[Ru _ _ (zY _),F8];rfl
def vK{h:HL}{e cx:Nat}{enc:α->Tk}(b:∀a,(enc a).length=e){l:List α}{n:Nat}(c:n=l.length):LsH (Uf h e enc l) (.slice (some ⟨h.length,0,pu e⟩) n cx) e enc l:=by
 subst c;rw[←KQ];exact Pt b (by simp)
def eE{n:Nat}(h:n<=1048576):B7 (Int.ofNat n) (Int.ofNat n)=some ():=by
 unfold B7;rw[mc];exact⟨Cb n,HZ _,by show(n:Int)<=1048576;omega⟩
def I7{id n:Nat}{o:Nat}{a:To}:I6 (.slice (some ⟨id,o,a⟩) n (n+1))=some (Int.ofNat n):=rfl
end
end Sx
namespace Sx
section
variable [Val] [Kno]
variable {C:Cfg} {Sg:Tc} {T:Tq} {α:Type}
def bC{l:List α}{i:Nat}{a:α}(h:l[i]?=some a):l.set i a=l:=by
 apply Ga;intro k;by_cases b:i=k
 ·subst b;rw[CQ (aq h),h]
 ·rw[BL b]
end
end Sx
namespace Sx
section
variable [Val] [Kno] {C:Cfg} {T:Tq}
abbrev Ku:=Int×Int
def Hw(k:Ku):Value:=.agg ⟨[.int .i64 k.1,.int .u8 k.2]⟩
def EntS(a:Th)(ks:List Ku):Prop:=a.map (·.key)=ks.map Hw/\∀e∈a,e.val = .bool true
abbrev MI:TE:=[.i .i64,.i .u8]
def rx(a b:Int):NY a b=decide (a=b):=by
 have c:∀m n:Nat,Nat.beq m n=decide (m=n):=λm n=>by
  by_cases h:m=n
  ·subst h;simp
  ·rw[BV h];cases d:Nat.beq m n with
   |true=>exact absurd (AE d) h
   |false=>rfl
 cases a<;>cases b<;>simp[NY,c];omega
def NF(a b:Ku):zW MI [.int .i64 a.1,.int .u8 a.2] [.int .i64 b.1,.int .u8 b.2]=some (decide (a=b)):=by
 have i:dF .i64 .i64=true:=rfl;have j:dF .u8 .u8=true:=rfl;obtain⟨e,f⟩:=a;obtain⟨g,h⟩:=b;simp only[zW,i,j,rx,Pz];by_cases c:e=g
 ·by_cases d:f=h
  ·simp[c,d]
  ·simp[c,d]
 ·simp[c]
def rF(k:Ku):∀ {a:Th} {ks:List Ku} (i:Nat),EntS a ks->(k∉ks->iT MI [.int .i64 k.1,.int .u8 k.2] a i=some none)/\(k∈ks->∃j e,iT MI [.int .i64 k.1,.int .u8 k.2] a i=some (some (i+j))/\a[j]?=some e/\e.val = .bool true)
 | [],[],i,_=>⟨λ_=>rfl,λh=>by cases h⟩
 | [],_ :: _,i,h=>by have:=h.1;simp at this
 |_ :: _,[],i,h=>by have:=h.1;simp at this
 |e :: a,q :: ks,i,h=>by
  obtain⟨d,m⟩:=h;simp only[AL,Df]at d;obtain⟨g,l⟩:=rF k (i+1) (⟨d.2,λx t=>m x (Bo _ t)⟩ : EntS a ks);have s:iT MI [.int .i64 k.1,.int .u8 k.2] (e :: a) i=if k=q then some (some i)else iT MI [.int .i64 k.1,.int .u8 k.2] a (i+1):=by
   simp only[iT,d.1,Hw];rw[NF];by_cases c:k=q<;>simp[c]
  rw[s];by_cases c:k=q
  ·subst c;refine⟨λf=>absurd Ch f,λ_=>⟨0,e,by rw[mc rfl];rfl,rfl,m e Ch⟩⟩
  ·rw[po c];refine⟨λf=>g λb=>f (Bo _ b),λb=>?_⟩;rcases qar.1 b with b|b
   ·exact absurd b c
   ·obtain⟨j,n,o,p,r⟩:=l b;exact⟨j+1,n,by rw[o];congr 2;omega,by simpa using p,r⟩
variable {kt:TJ}
def Kj(h1:zZ C.P kt=some true)(c:flatK C.P 10000 kt=some MI)(k:Ku):DH C.P kt (Hw k)=true:=by
 have a:dF .i64 .i64=true:=rfl;have b:dF .u8 .u8=true:=rfl;unfold DH Hw;simp only[h1,c,gH,a,b,rx];simp
def vn(h1:zZ C.P kt=some true)(b:flatK C.P 10000 kt=some MI)(k:Ku){a:Th}{r:To}(c:iT MI [.int .i64 k.1,.int .u8 k.2] a 0=some r):tO C.P kt (Hw k) a=some r:=by
 unfold tO Hw;simp only[h1,b,mK,c]
def TT(h1:zZ C.P kt=some true)(d:flatK C.P 10000 kt=some MI){h:HL}{id c:Nat}{a:Th}{ks:List Ku}(q:h[id]?=some (.o (.map a c)))(n:EntS a ks)(k:Ku) :
  DL C kt false (.bool false) (.map (some id)) (Hw k) false (wb T h)=some [.bool (decide (k∈ks))]:=by
 unfold DL;rw[Kj h1 d];simp only[Bs,Bf,if_false];have p:Db (wb T h) id=some (a,c):=by
  unfold Db;rw[bF q]
 rw[p];simp only;obtain⟨f,g⟩:=rF k 0 n;by_cases b:k∈ks
 ·obtain⟨j,e,i,l,m⟩:=g b;rw[vn h1 d k i];have r:fA a (0+j)=some (.bool true):=by
   rw[Br];unfold fA;rw[l];simp[m]
  simp only[r,AP];simp[gP,b]
 ·rw[vn h1 d k (f b)];simp[gP,b]
def T7(h1:zZ C.P kt=some true)(b:flatK C.P 10000 kt=some MI){h:HL}{id c n:Nat}{a:Th}{ks:List Ku}(g:h[id]?=some (.o (.map a c)))(d:EntS a ks){k:Ku}(f:k∉ks) :
  HF C kt (.map (some id)) (Hw k) (.bool true) (wb T h) n=some ([.set id (.map (a++[{ key:=Hw k,val:=.bool true,born:=c }]) (c+1))],[]):=by
 unfold HF;simp only;rw[Kj h1 b];simp only[Bs,Bf,if_false];have e:Db (wb T h) id=some (a,c):=by
  unfold Db;rw[bF g]
 rw[e];simp only;rw[vn h1 b k ((rF k 0 d).1 f)]
def EntS.push{b:Th}{ks:List Ku}(d:EntS b ks)(k:Ku)(c:Nat):EntS (b++[{ key:=Hw k,val:=.bool true,born:=c }]) (ks++[k]):=by
 refine⟨by simp[d.1],λe a=>?_⟩;rcases qas.1 a with a|a
 ·exact d.2 e a
 ·simp only[qav]at a;subst a;rfl
end
end Sx
namespace Sx
section
variable [Val] [Kno] {C:Cfg} {T:Tq}
abbrev K3:=Int×Int×Nat
def Xp(k:K3):Tk:=[.int .i64 k.1,.int .i64 k.2.1,.int .u8 (Int.ofNat k.2.2)]
def kv3(k:K3):Value:=.agg ⟨Xp k⟩
abbrev kk3:TE:=[.i .i64,.i .i64,.i .u8]
variable {kt:TJ} (h1:zZ C.P kt=some true) (h2:flatK C.P 10000 kt=some kk3)
include h1 h2
omit h1 h2 in
omit h1 h2 in
omit h1 h2 in
omit h1 h2 in
theorem xi{h:HL}{id c:Nat}{a:Th}(b:h[id]?=some (.o (.map a c))):Db (wb T h) id=some (a,c):=by
 unfold Db;rw[bF b]
end
section
variable [Val] [Kno] {T:Tq}
end
end Sx
namespace Sx
section
variable [Val] [Kno] {C:Cfg} {Sg:Tc} {T:Tq}
def Set3(h:HL)(id:Nat)(ks:List K3):Prop:=∃a c,h[id]?=some (.o (.map a c))/\a.map (·.key)=ks.map kv3/\∀e∈a,e.val = .bool true
def Set3.keep{h h':HL}{id:Nat}{ks:List K3}(f:Set3 h id ks)(e:∀o,h[id]?=some o->h'[id]?=some o):Set3 h' id ks:=by
 obtain⟨a,c,b,d⟩:=f;exact⟨a,c,e _ b,d⟩
def Set3.lt{h:HL}{id:Nat}{ks:List K3}(b:Set3 h id ks):id<h.length:=by
 obtain⟨d,c,a,_⟩:=b;exact aq a
variable {kt:TJ} (h1:zZ C.P kt=some true) (h2:flatK C.P 10000 kt=some kk3)
include h1 h2
end
end Sx
end Go.Am
end

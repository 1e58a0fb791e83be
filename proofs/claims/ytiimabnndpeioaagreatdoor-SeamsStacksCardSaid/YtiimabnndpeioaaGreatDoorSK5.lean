/-
  PART 5 OF THE PROOF (no conditions).
-/
import Derived.Test.YtiimabnndpeioaaGreatDoorSK4
import Derived.Calls
import Derived.LaidMore
import Derived.MakeChecks
import Derived.OpenShut
import Derived.ProofKit
import Derived.Stop.Joined
import Derived.Test.YtiimabnndpeioaaGreatDoorRows
import GoSem.ClaimJoined
set_option linter.unusedSectionVars false
set_option linter.unusedSimpArgs false
set_option linter.unusedVariables false
set_option linter.constructorNameAsVariable false
set_option linter.defProp false
noncomputable section
set_option maxRecDepth 100000
namespace Go.Am
def LK.plain:LK->Bool
 | .v=>false
 |_=>true
def SK.plain:SK->Bool
 | .leaf k=>k.plain
 | .agg ks=>ks.all LK.plain
def Sig.plain(s:Sig):Bool:=s.ps.all SK.plain&&s.rs.all SK.plain
namespace Sx
section
variable [Val] [Kno]
variable {w:TB}
def vV(k:TF)(c:Int)(K:Int->RT):outG k c K=K (k.wrap c):=by
 unfold outG;cases e:fits k c with
 |true=>rw[tU e]
 |false=>exact jM _ _
def out64_eq(c:Int)(K:Int->RT):out64 c K=K (IntKind.wrap .i64 c):=by
 refine Eq.trans ?_ (vV .i64 c K);cases c<;>rfl
def outU8_eq(c:Int)(K:Int->RT):outU8 c K=K (IntKind.wrap .u8 c):=by
 refine Eq.trans ?_ (vV .u8 c K);cases c<;>rfl
def oG(k:TF)(c:Int)(K:Int->RT):outK k c K=K (k.wrap c):=by
 cases k<;>first|exact vV _ _ _|exact out64_eq _ _|exact outU8_eq _ _
def addK_eq(a b:Int)(K:Int->RT):addK a b K=K (a+b):=by
 unfold addK;cases a with
 |ofNat m=>
  cases b with
  |ofNat n=>exact congrArg K rfl
  |negSucc n=>
   simp only[fH];cases e:Nat.blt n m with
   |true=>rw[qa5]at e;exact congrArg K (show Int.ofNat (m - (n+1))=Int.ofNat m+Int.negSucc n by simp only[qa1,qbL];omega)
   |false=>
    have e:¬n<m:=λh=>by rw[←qa5,e]at h;cases h
    exact congrArg K (show Int.negSucc (n - m)=Int.ofNat m+Int.negSucc n by simp only[qa1,qbL];omega)
 |negSucc m=>
  cases b with
  |ofNat n=>
   simp only[fH];cases e:Nat.blt m n with
   |true=>rw[qa5]at e;exact congrArg K (show Int.ofNat (n - (m+1))=Int.negSucc m+Int.ofNat n by simp only[qa1,qbL];omega)
   |false=>
    have e:¬m<n:=λh=>by rw[←qa5,e]at h;cases h
    exact congrArg K (show Int.negSucc (m - n)=Int.negSucc m+Int.ofNat n by simp only[qa1,qbL];omega)
  |negSucc n=>exact congrArg K (show Int.negSucc (m+n+1)=Int.negSucc m+Int.negSucc n by simp only[qbL];omega)
def subK_eq(a b:Int)(K:Int->RT):subK a b K=K (a - b):=by
 unfold subK;cases a with
 |ofNat m=>
  cases b with
  |ofNat n=>
   simp only[fH];cases e:Nat.ble n m with
   |true=>rw[qbP]at e;exact congrArg K (show Int.ofNat (m - n)=Int.ofNat m - Int.ofNat n by simp only[qa1];omega)
   |false=>
    have e:¬n<=m:=λh=>by rw[←qbP,e]at h;cases h
    exact congrArg K (show Int.negSucc (n - (m+1))=Int.ofNat m - Int.ofNat n by simp only[qa1,qbL];omega)
  |negSucc n=>exact congrArg K (show Int.ofNat (m+n+1)=Int.ofNat m - Int.negSucc n by simp only[qa1,qbL];omega)
 |negSucc m=>
  cases b with
  |ofNat n=>exact congrArg K (show Int.negSucc (m+n)=Int.negSucc m - Int.ofNat n by simp only[qa1,qbL];omega)
  |negSucc n=>
   simp only[fH];cases e:Nat.ble m n with
   |true=>rw[qbP]at e;exact congrArg K (show Int.ofNat (n - m)=Int.negSucc m - Int.negSucc n by simp only[qa1,qbL];omega)
   |false=>
    have e:¬m<=n:=λh=>by rw[←qbP,e]at h;cases h
    exact congrArg K (show Int.negSucc (m - (n+1))=Int.negSucc m - Int.negSucc n by simp only[qbL];omega)
def mulK_eq(a b:Int)(K:Int->RT):mulK a b K=K (a*b):=by
 unfold mulK;cases a with
 |ofNat m=>
  cases b with
  |ofNat n=>exact congrArg K rfl
  |negSucc n=>
   cases m with
   |zero=>exact congrArg K (show Int.ofNat 0=Int.ofNat 0*Int.negSucc n by simp)
   |succ m=>
    refine congrArg K (show Int.negSucc ((m+1)*n+m)=Int.ofNat (m+1)*Int.negSucc n from ?_);simp only[qa1,qbL,qdI,qdJ];simp only[qdK,Int.mul_neg,Int.mul_add,Int.add_mul];omega
 |negSucc m=>
  cases b with
  |ofNat n=>
   cases n with
   |zero=>exact congrArg K (show Int.ofNat 0=Int.negSucc m*Int.ofNat 0 by simp)
   |succ n=>
    refine congrArg K (show Int.negSucc (m*(n+1)+n)=Int.negSucc m*Int.ofNat (n+1)from ?_);simp only[qa1,qbL,qdI,qdJ];simp only[qdK,Int.neg_mul,Int.mul_add,Int.add_mul];omega
  |negSucc n=>
   refine congrArg K (show Int.ofNat ((m+1)*(n+1))=Int.negSucc m*Int.negSucc n from ?_);simp only[qa1,qbL,qdI,qdJ];simp only[qdK,Int.neg_mul_neg]
def quoK_eq(a b:Int)(K:Int->RT):quoK a b K=K (Int.tdiv a b):=by
 unfold quoK;cases a with
 |ofNat m=>
  cases b with
  |ofNat n=>exact congrArg K rfl
  |negSucc n=>exact jM _ _
 |negSucc m=>exact jM _ _
def remK_eq(a b:Int)(K:Int->RT):remK a b K=K (Int.tmod a b):=by
 unfold remK;cases a with
 |ofNat m=>
  cases b with
  |ofNat n=>exact congrArg K rfl
  |negSucc n=>exact jM _ _
 |negSucc m=>exact jM _ _
def ug{b:Int}(h:isZ b=false):b≠0:=by
 intro e;subst e;cases h
def fitsK{k:TF}{c:Int}{K:Int->RT}(h:outK k c K=some w):K (k.wrap c)=some w:=(oG k c K).symm.trans h
def ariB_ok{d:BinOp}{k:TF}{a b:Int}{K:Int->RT}(h:ariB d k a b K=some w):∃n,qU d k a b n/\K n=some w:=by
 cases d<;>simp only[ariB,reduceCtorEq]at h
 ·rw[addK_eq,oG]at h;exact⟨_,λP t w=>by simp[binOp,Op.intArith],h⟩
 ·rw[subK_eq,oG]at h;exact⟨_,λP t w=>by simp[binOp,Op.intArith],h⟩
 ·rw[mulK_eq,oG]at h;exact⟨_,λP t w=>by simp[binOp,Op.intArith],h⟩
 ·cases c:isZ b with
  |true=>rw[c]at h;cases h
  |false=>
   rw[c]at h;simp only[quoK_eq,oG]at h;have c:=ug c;exact⟨_,λP t w=>by simp[binOp,Op.intDiv,c],h⟩
 ·cases c:isZ b with
  |true=>rw[c]at h;cases h
  |false=>
   rw[c]at h;simp only[remK_eq]at h;have c:=ug c;exact⟨_,λP t w=>by simp[binOp,Op.intDiv,c],h⟩
 ·split at h
  next c=>
   have c:=eqI_iff.1 c;subst c;rw[jM]at h;exact⟨_,oY rfl,h⟩
  ·split at h
   ·rw[jM]at h;exact⟨_,wi _ _,fitsK h⟩
   ·cases h
 ·split at h
  ·rw[jM]at h;exact⟨_,zt _ _,fitsK h⟩
  ·cases h
 ·split at h
  ·rw[jM]at h;exact⟨_,wj _ _,fitsK h⟩
  ·cases h
def eqI_eq(x y:Int):eqI x y=(x==y):=by rw[qbH,eqI_iff,beq_iff_eq]
def vq(x y:Int):eqZK x y=(x==y):=by
 rw[←eqI_eq];cases x<;>cases y<;>rfl
def leZ_eq(x y:Int):leZ x y=decide (x<=y):=by rw[qbH,leZ_iff,decide_eq_true_iff]
def notK_eq(b:Bool):notK b = !b:=by cases b<;>rfl
def cmpB_ok{c:BinOp}{a b:Int}{K:Bool->RT}(h:cmpB c a b K=some w):∃t,pV c a b=some t/\K t=some w:=by
 cases c<;>simp only[cmpB,reduceCtorEq,vq,leZ_eq,notK_eq]at h
 ·exact⟨_,rfl,h⟩
 ·exact⟨_,rfl,h⟩
 ·exact⟨_,rfl,by rw[show decide (a<b) = !decide (b<=a)by rw[qbH];simp];exact h⟩
 ·exact⟨_,rfl,h⟩
 ·exact⟨_,rfl,by rw[show decide (a > b) = !decide (a<=b)by rw[qbH];simp];exact h⟩
 ·exact⟨_,rfl,h⟩
def eqLf_eq(a b:Lf):eqLf a b=gG a b:=by
 cases a<;>cases b<;>try rfl
 ·exact vq _ _
 next x y=>cases x<;>cases y<;>rfl
def eqsV_eq(l:List (Lf×Lf)):eqsV l=cw l:=by
 unfold cw
 induction l with
 |nil=>rfl
 |cons p l a=>
  show(Bool.rec false (eqsV l) (eqLf p.1 p.2):Bool)=_;rw[eqLf_eq,qcn,a];cases gG p.1 p.2<;>rfl
def eqsB_ok{l:List (Lf×Lf)}{K:Bool->RT}(h:eqsB l K=some w):K (cw l)=some w:=by
 rw[←eqsV_eq];exact h
structure CallBOk(C:Cfg)(Sg:Tc)(T:Tq)(call:gI):Prop where
 f:∀g ls h K w,dQ ls->call (.f g) ls h K=some w->∃rs h',aB C Sg g ls (absH T (toL h)) rs (absH T (toL h'))/\K rs h'=some w
def nX(T:Tq)(h:HL):getH T h=λi=>(absH T h)[i]?:=by
 funext i
 simp only[getH,absH,qan];cases h[i]?<;>rfl
def getT_eq(T:Tq)(h:HTr):getT T h=λi=>(absH T (toL h))[i]?:=by
 funext i
 simp only[getT,absH,qan,px,Option.map_map];cases h.at i<;>rfl
def mV(T:Tq)(h:HTr):getT T h=getH T (toL h):=(getT_eq T h).trans (nX T (toL h)).symm
def nW{T:Tq}{h:HTr}{i:Nat}{x:HOT}(e:h.at i=some x):getH T (toL h) i=some (absO T x.ho):=by
 rw[←mV];unfold getT;rw[e]
def mE(T:Tq)(h:HL):(absH T h).length=h.length:=by simp[absH]
def absH_set(T:Tq)(h:HL)(i:Nat)(o:HO):absH T (h.set i o)=(absH T h).set i (absO T o):=by simp[absH,qb4]
def nq(T:Tq)(h:HL)(o:HO):absH T (h++[o])=absH T h++[absO T o]:=by simp[absH]
def kQ(T:Tq):∀(l:List Act1) (h:HL),absH T (bM h l)=gu (absH T h) l
 | [],h=>rfl
 |a :: l,h=>by
  have b:=kQ T l (a.onH h);show absH T (bM (a.onH h) l)=gu (a.on (absH T h)) l;rw[b]
  congr 1
  cases a with
  |set i o=>exact absH_set T h i _
  |push o=>exact nq T h _
def qX:∀ {l:List Act1} {h:HTr} {k:HTr->RT},yv l h k=some w->∃h',toL h'=bM (toL h) l/\k h'=some w
 | [],h,k,a=>⟨h,rfl,a⟩
 | .set i o :: l,h,k,a=>by
  have a:(ui o λo=>putK h i o λh=>yv l h k)=some w:=a;obtain⟨x,b,c⟩:=jU (o:=o) (k:=λo=>putK h i o λh=>yv l h k);rw[c,sy]at a;obtain⟨h',e,a⟩:=qX a;exact⟨h',by rw[e,sU,b];rfl,a⟩
 | .push o :: l,h,k,a=>by
  have a:(ui o λo=>mw h o λh=>yv l h k)=some w:=a;obtain⟨x,b,c⟩:=jU (o:=o) (k:=λo=>mw h o λh=>yv l h k);rw[c,kq]at a;obtain⟨h',e,a⟩:=qX a;exact⟨h',by rw[e,kO,b];rfl,a⟩
def yg(s:To):spot0 s=(s != some 0):=by
 cases s with
 |none=>rfl
 |some k=>cases k<;>rfl
def wX(v:Value):goodF v=az v:=by
 unfold goodF;split
 next a=>
  rw[yg];simp[az,noLoc,aR,aZ,aT,aI,av]
 next a _ _=>
  rw[yg];simp[az,noLoc,aR,aZ,aT,aI,av]
 ·rfl
def vE{α:Type}(l:List α):lenR l=l.length:=by
 induction l with
 |nil=>rfl
 |cons a l b=>exact congrArg Nat.succ b
def ldB_ok{T:Tq}{n:Nat}{p:Value}{h:HTr}{K:Tk->RT}(b:ldB n p h K=some w):∃cs,ldP n p (getH T (toL h))=some cs/\K cs=some w:=by
 unfold ldB at b;split at b
 next a=>
  split at b
  next g=>
   split at b
   next m e i c f=>
    split at b
    next d=>
     rw[qbP]at d;refine⟨_,?_,b⟩;unfold ldP;simp only[g,jH,nW f,HOT.ho,absO,qao,cut];rw[qd0 (by rw[bq];exact d),kw c n a.off m d]
    ·cases b
   ·cases b
  ·cases b
 ·cases b
def lgB_ok{T:Tq}{C:Cfg}{n:Nat}{p:Value}{h:HTr}{K:Tk->RT}(b:lgB C n p h K=some w):∃cs,lgP C n p (getH T (toL h))=some cs/\K cs=some w:=by
 unfold lgB at b;split at b
 next a=>
  split at b
  next g=>
   split at b
   next m e o c f=>
    split at b
    next d=>
     rw[qbP]at d;refine⟨_,?_,b⟩;unfold lgP;simp only[g,jH,nW f,HOT.ho,absO,qao,cut];rw[qd0 (by rw[bq];exact d),kw c n a.off m d]
    ·cases b
   ·cases b
  next k g=>
   split at b
   next j=>
    split at b
    next q l=>
     split at b
     next cs i=>
      refine⟨cs,?_,b⟩;unfold lgP;simp only[g,j,l,qao];rw[nC]at i;exact i
     ·cases b
    ·cases b
   ·cases b
 ·cases b
def stB_ok{T:Tq}{p:Value}{new:Tk}{h:HTr}{K:Tk->HTr->RT}{n0:Nat}(b:stB p new h K=some w) :
  ∃d cs h',stP p new (getH T (toL h)) n0=some (d,cs)/\toL h'=bM (toL h) d/\K cs h'=some w:=by
 unfold stB at b;split at b
 next a=>
  split at b
  next i=>
   split at b
   next m e c g=>
    split at b
    next f=>
     rw[qbP,vE]at f;rw[od,sy]at b;refine⟨[.set a.block (.cells (cO (insT new a.off c) m) e true)],[],_,?_,?_,b⟩
     ·unfold stP;simp only[i,nW g,HOT.ho,absO,splice];rw[qd0 (by rw[bq];exact f),pT f];rfl
     ·rw[sU];rfl
    ·cases b
   ·cases b
  ·cases b
 ·cases b
def yi{s:To}{esz:Nat}:tagB s esz=true↔s=tag esz:=by
 unfold tagB tag;cases s with
 |none=>simp
 |some k=>simp only[Nat.beq_eq,qaI];try rfl
def slB_ok{C:Cfg}{T:Tq}{esz:Nat}{x:Value}{h:HTr}{K:Tk->Nat->RT}(b:slB C T esz x h K=some w) :
  ∃l n,slG C esz (getH T (toL h)) x=some (l,n)/\K l n=some w:=by
 have d:∀ {x:Value},(match slG C esz (getT T h) x with|some p=>K p.1 p.2|none=>none)=some w->∃l n,slG C esz (getH T (toL h)) x=some (l,n)/\K l n=some w:=by
  intro x b;split at b
  next p e=>
   rw[mV]at e;exact⟨p.1,p.2,e,b⟩
  ·cases b
 unfold slB at b;split at b
 next a k q=>
  split at b
  next f=>
   have f:=yi.1 f;split at b
   next m e o c j=>
    split at b
    next g i=>
     have g:=qad g;rw[qbP]at i;subst g;refine⟨_,_,?_,b⟩;unfold slG;simp only[nW j,HOT.ho,absO];rw[qd1 (by rw[f];simp[tag]),qd0 f]
     first|rw[qd0 rfl]|rw[qd0 trivial]
     rw[cut,qd0 (by rw[bq];exact i),kw c _ a.off m i];rfl
    ·cases b
   ·cases b
  ·exact d b
 ·exact d b
def wY{c:Tr Value}{m off b esz:Nat}{new:Tk}{k:HOT->RT}(f:off+b<=m)(a:growB c m off b esz new k=some w) :
  ∃x:HOT,x.ho = .o (.cells (((cO c m).drop off).take b++new) esz true)/\k x=some w:=by
 unfold growB at a;split at a
 next d e=>
  have d:=qad d;have e:=qad e;subst d e;rw[od,fH,vE]at a;refine⟨_,?_,a⟩;show HO.o (.cells (cO (insT new b c) (b+new.length)) esz true)=_;rw[nu,qbE,qaH (by rw[bq];exact qaj _)]
 ·rw[kw c b off m f]at a;obtain⟨x,g,h⟩:=jU (o:=.cells (((cO c m).drop off).take b++new) esz true) (k:=k);rw[h]at a;exact⟨x,g,a⟩
def apB_ok{C:Cfg}{T:Tq}{esz bytes:Nat}{s x:Value}{h:HTr}{K:Tk->HTr->RT}(b:apB T C esz bytes s x h K=some w) :
  ∃g cs h',apG C esz bytes s x (getH T (toL h)) (toL h).length=some (g,cs)/\toL h'=bM (toL h) g/\K cs h'=some w:=by
 obtain⟨f,n,v,b⟩:=slB_ok b;unfold apG;rw[v,iH];simp only at b ⊢;split at b
 ·cases n with
  |zero=>exact⟨_,_,h,rfl,rfl,b⟩
  |succ n=>
   simp only at b;split at b
   next F=>
    obtain⟨y,l,E⟩:=jU (o:=.cells f esz true) (k:=λo=>mw h o λh'=>fN (n+1) λn=>K [.slice (some ⟨h.n,0,tag esz⟩) n 0] h');rw[E,kq,fH]at b;refine⟨[.push (.cells f esz true)],_,_,?_,?_,b⟩
    ·show(if n+1=0 then some ([],[Value.slice none 0 0])else if bh (n+1) bytes then _ else none)=_;rw[qd1 (by omega),qd0 F]
    ·rw[kO,l];rfl
   ·cases b
 next a d D _=>
  split at b
  ·cases b
  next z=>
   have z:=yi.1 z;split at b
   next m e G c t=>
    split at b
    next r B=>
     have r:=qad r;rw[qbP]at B;subst r;have u:a.off+d*e<=m:=B;have p:cut (cO c m) a.off (d*e)=some (((cO c m).drop a.off).take (d*e)):=by rw[cut,qd0 (by rw[bq];exact u)]
     simp only[z,ne_eq,not_true_eq_false,if_false,nW t,HOT.ho,absO,p];cases D with
     |zero=>
      simp only at b ⊢;cases n with
      |zero=>exact⟨[],_,h,by first|rw[qd0 rfl]|rw[qd0 trivial],rfl,b⟩
      |succ n=>
       simp only at b;split at b
       next A i=>
        obtain⟨y,l,b⟩:=wY u b;rw[sy,kq,fH]at b;refine⟨[.set a.block .dead,.push (.cells (((cO c m).drop a.off).take (d*e)++f) e true)],_,_,by rw[qd1 (by omega),qd0 (by rw[i];rfl)],?_,b⟩;rw[kO,sU,l];rfl
       ·cases b
     |succ q=>
      simp only at b ⊢;split at b
      next j=>
       rw[qbP]at j;split at b
       next A i=>
        rw[qbP,vE]at i;have i:a.off+d*e+f.length<=m:=i;rw[od,sy,fH]at b;refine⟨[.set a.block (.cells ((cO c m).take (a.off+d*e)++f++(cO c m).drop (a.off+d*e+f.length)) e true)],_,_,by rw[qd0 j,qd0 rfl,splice,qd0 (by rw[bq];exact i)];rfl,?_,b⟩;rw[sU];show(toL h).set a.block (.o (.cells (cO (insT f (a.off+d*e) c) m) e true))=_;rw[pT i];rfl
       ·cases b
      next j=>
       have j:¬d+n<=q:=λh=>by rw[←qbP,j]at h;cases h
       split at b
       next A=>
        obtain⟨y,l,b⟩:=wY u b;rw[kq,fH]at b;refine⟨[.push (.cells (((cO c m).drop a.off).take (d*e)++f) e true)],_,_,by rw[qd1 j,qd0 A],?_,b⟩;rw[kO,l];rfl
       ·cases b
    ·cases b
   ·cases b
 ·cases b
def heapB_ok{T:Tq}{f:Hp}{h:HTr}{K:Tk->HTr->RT}(a:heapB T f h K=some w) :
  ∃b cs h',f.run (getH T (toL h)) (toL h).length=some (b,cs)/\toL h'=bM (toL h) b/\K cs h'=some w:=by
 unfold heapB at a;cases f with
 |st p g=>exact stB_ok (n0:=(toL h).length) a
 |ap C d bytes s x=>exact apB_ok a
 |fn f=>
  simp only at a;rw[mV]at a;split at a
  next p e=>
   rw[oP]at a;obtain⟨h',c,a⟩:=qX a;exact⟨p.1,p.2,h',by rw[iH];exact e,c,a⟩
  ·cases a
def toSL_ok{k:LK}{v:Value}{l:SL}(h:toSL k v=some l):l.is k=true/\l.val=v/\l.good:=by
 cases k with
 |i k=>
  cases v<;>simp only[toSL]at h<;>first|cases h|skip
  split at h
  next e=>cases h;exact⟨e,rfl,trivial⟩
  ·cases h
 |b=>
  cases v<;>simp only[toSL]at h<;>cases h;exact⟨rfl,rfl,trivial⟩
 |v=>
  simp only[toSL]at h;split at h
  next e=>cases h;exact⟨rfl,rfl,e⟩
  ·cases h
def yn:∀ {ks:TE} {vs:Tk} {xs:List SL},toSLs ks vs=some xs->bb xs ks=true/\xs.map SL.val=vs/\∀x∈xs,x.good
 | [],[],xs,h=>by cases h;exact⟨rfl,rfl,λ_ h=>by cases h⟩
 |k :: ks,v :: vs,xs,h=>by
  simp only[toSLs]at h;split at h
  next x e=>
   split at h
   next ys j=>
    cases h;obtain⟨b,c,d⟩:=toSL_ok e;obtain⟨f,g,i⟩:=yn j;refine⟨by simp[bb,b,f],by simp[c,g],λy a=>?_⟩;rcases qax.1 a with rfl|a
    ·exact d
    ·exact i y a
   ·cases h
  ·cases h
 | [],_ :: _,_,h=>by cases h
 |_ :: _,[],_,h=>by cases h
def toS0_ok{d:SK}{v:Value}{x:S0}(h:toS0 d v=some x):x.is d=true/\x.val=v/\x.good:=by
 cases d with
 |leaf k=>
  obtain⟨l,e,rfl⟩:=qah.1 h;obtain⟨a,b,c⟩:=toSL_ok e;refine⟨a,b,λy f=>?_⟩;simp only[S0.cells,qaq]at f;subst f;exact c
 |agg g=>
  cases v<;>simp only[toS0]at h<;>first|cases h|skip
  obtain⟨l,e,rfl⟩:=qah.1 h;obtain⟨a,b,c⟩:=yn e;exact⟨a,by simp[S0.val,b],c⟩
def ym:∀ {sks:TH} {vs:Tk} {xs:List S0},toS0s sks vs=some xs->db xs sks=true/\aq xs=vs/\∀x∈xs,x.good
 | [],[],xs,h=>by cases h;exact⟨rfl,rfl,λ_ h=>by cases h⟩
 |k :: ks,v :: vs,xs,h=>by
  simp only[toS0s]at h;split at h
  next x e=>
   split at h
   next ys j=>
    cases h;obtain⟨c,d,f⟩:=toS0_ok e;obtain⟨g,b,i⟩:=ym j;refine⟨by simp[db,c,g],by simp only[aq,qaF,d]at b ⊢;rw[b],λy a=>?_⟩;rcases qax.1 a with rfl|a
    ·exact f
    ·exact i y a
   ·cases h
  ·cases h
 | [],_ :: _,_,h=>by cases h
 |_ :: _,[],_,h=>by cases h
def eqLK_ok{a b:LK}(h:eqLK a b=true):a=b:=by
 cases a<;>cases b<;>simp only[eqLK]at h<;>first|rfl|cases h|skip
 rw[dF h]
def wS:∀ {a b:TE},eqLKs a b=true->a=b
 | [],[],_=>rfl
 |a :: l,b :: m,h=>by
  simp only[eqLKs,qaa]at h;rw[eqLK_ok h.1,wS h.2]
 | [],_ :: _,h=>by cases h
 |_ :: _,[],h=>by cases h
def eqSK_ok{a b:SK}(h:eqSK a b=true):a=b:=by
 cases a<;>cases b<;>simp only[eqSK]at h<;>first|cases h|skip
 ·rw[eqLK_ok h]
 ·rw[wS h]
def wT:∀ {a b:TH},eqSKs a b=true->a=b
 | [],[],_=>rfl
 |a :: l,b :: m,h=>by
  simp only[eqSKs,qaa]at h;rw[eqSK_ok h.1,wT h.2]
 | [],_ :: _,h=>by cases h
 |_ :: _,[],h=>by cases h
def fK:∀ {ls:TB},jR ls=true->dQ ls
 | [],_=>λ_ h=>by cases h
 | .i n :: ls,h=>λl hl=>by
  rcases qax.1 hl with rfl|hl
  ·trivial
  ·exact fK (ls:=ls) h l hl
 | .b n :: ls,h=>λl hl=>by
  rcases qax.1 hl with rfl|hl
  ·trivial
  ·exact fK (ls:=ls) h l hl
 | .v n :: ls,h=>λl hl=>by
  have h:(match goodF n with|true=>jR ls|false=>false)=true:=h;split at h
  next e=>
   rw[wX]at e;rcases qax.1 hl with rfl|hl
   ·exact e
   ·exact fK (ls:=ls) h l hl
  ·cases h
def wG{C:Cfg}{Sg:Tc}{T:Tq}{call:gI}(c:CallBOk C Sg T call){g:TK}{ls:TB}{h:HTr}{K:TB->HTr->RT}(a:callB call g ls h K=some w) :
  ∃b h',aB C Sg g ls (absH T (toL h)) b (absH T (toL h'))/\K b h'=some w:=by
 unfold callB at a;split at a
 next e=>exact c.f g ls h K w (fK e) a
 ·cases a
def vf{C:Cfg}{Sg:Tc}{T:Tq}{call:gI}(m:CallBOk C Sg T call){g:TK}{f:Option (TH)}{b:Tk}{h:HTr}{K:TB->HTr->RT}(a:rl Sg call g f b h K=some w) :
  ∃sg c ys h',Sg g=some sg/\(∀x,f=some x->sg.rs=x)/\Told sg.rs c ys/\pQ C g b (absH T (toL h)) (gj (aq ys)) (absH T (toL h'))/\K c h'=some w:=by
 unfold rl at a;split at a
 ·cases a
 next sg e=>
  split at a
  ·cases a
  next k=>
   split at a
   ·cases a
   next s l=>
    obtain⟨c,h',⟨o,q,ys,d,c2,c3,c4⟩,a⟩:=wG m a;rw[e]at d;cases d;obtain⟨i,j,r⟩:=ym l;obtain⟨p,_⟩:=dz c2.1 i c2.2.1;rw[p,j]at c4;refine⟨sg,c,ys,h',e,λx n=>?_,c3,c4,a⟩;subst n;exact wT k
def callvB_ok{C:Cfg}{Sg:Tc}{T:Tq}{call:gI}(e:CallBOk C Sg T call){v:Value}{args:Tk}{d:TH}{h:HTr}{K:TB->HTr->RT}(a:callvB Sg call v args d h K=some w) :
  ∃b h',ta C v args d (absH T (toL h)) b (absH T (toL h'))/\K b h'=some w:=by
 unfold callvB at a;split at a
 next j first c=>
  split at a
  next g=>
   obtain⟨k,b,f,h',i,c2,c3,c4,c5⟩:=vf e a;rw[c2 _ rfl]at c3;exact⟨b,h',⟨f,c3,.inl ⟨g,first,c,rfl,c4⟩⟩,c5⟩
  ·cases a
 ·cases a
def shfB_ok{e:BinOp}{k d:TF}{a b:Int}{K:Int->RT}(h:shfB e k a d b K=some w):∃n,ShRun e k a d b n/\K n=some w:=by
 unfold shfB at h;split at h
 next c=>
  have c:¬b<0:=by have:=leZ_iff.1 c;omega
  split at h
  ·rw[jM]at h;exact⟨_,λP t w=>by simp[binOp,Op.shift,c],h⟩
  ·rw[jM]at h;exact⟨_,λP t w=>by simp[binOp,Op.shift,c],h⟩
  ·cases h
 ·cases h
def BA_ok{C:Cfg}{Sg:Tc}{T:Tq}{call:gI}(u:CallBOk C Sg T call):AlgOk (BA Sg T call) C Sg T (λb=>b=some w) (λh=>absH T (toL h)) where
 fail:=by intro h;cases h
 cond:=by
  intro b x y h;cases b
  ·exact .inr ⟨rfl,h⟩
  ·exact .inl ⟨rfl,h⟩
 ari:=λA k a b K h=>ariB_ok h
 shf:=λA k a z b K h=>shfB_ok h
 cmp:=λA a b K h=>cmpB_ok h
 eqs:=λl K h=>eqsB_ok h
 conv:=λk a K h=>fitsK h
 sel:=by intro t a b K h;cases t<;>exact h
 opt:=by
  intro α o K h;cases o with
  |none=>cases h
  |some x=>exact⟨x,rfl,h⟩
 chk:=by
  intro v K h;have h:chkB v K=some w:=h;unfold chkB at h;split at h
  next e=>rw[wX]at e;exact⟨e,h⟩
  ·cases h
 unI:=by
  intro d K h
  match d,h with
  | .i n :: r,h=>exact⟨n,r,rfl,h⟩
 unB:=by
  intro d K h
  match d,h with
  | .b n :: r,h=>exact⟨n,r,rfl,h⟩
 unV:=by
  intro d K h
  match d,h with
  | .v n :: r,h=>exact⟨n,r,rfl,h⟩
 un0:=by
  intro d K h
  match d,h with
  | [],h=>exact⟨rfl,h⟩
 ucI:=by
  intro k d K h
  match d,h with
  | .int z n :: r,h=>
   have h:(match dG k z with|true=>K n r|false=>none)=some w:=h;split at h
   next e=>rw[dF e];exact⟨n,r,rfl,h⟩
   ·cases h
 ucB:=by
  intro d K h
  match d,h with
  | .bool n :: r,h=>exact⟨n,r,rfl,h⟩
 ucV:=by
  intro d K h
  match d,h with
  |n :: r,h=>exact⟨n,r,rfl,h⟩
 uc0:=by
  intro d K h
  match d,h with
  | [],h=>exact⟨rfl,h⟩
 peek:=by
  intro f h K c;have c:peekB T f h K=some w:=c;unfold peekB at c;rw[←nX];cases f with
  |ld n p=>exact ldB_ok c
  |lg C n p=>exact lgB_ok c
  |fn f=>
   simp only at c;rw[mV]at c;split at c
   next x e=>exact⟨x,e,c⟩
   ·cases c
 heap:=by
  intro f h K c;have c:heapB T f h K=some w:=c;obtain⟨j,G,q,B,D,E⟩:=heapB_ok c;exact⟨j,G,q,by rw[←nX,mE];exact B,by rw[D];exact kQ T j (toL h),E⟩
 new:=by
  intro o h K c;have c:newB o h K=some w:=c;unfold newB at c;obtain⟨x,H,I⟩:=jU (o:=o) (k:=λo=>mw h o λq=>K h.n q);rw[I,kq]at c;exact⟨h.push x,by rw[kO,H];exact nq T (toL h) _,by rw[mE,iH];exact c⟩
 call:=λg d h K c=>wG u c
 callv:=λv s L h K c=>callvB_ok u c
 join:=λb m h=>h
 loop:=by
  intro F d h c;refine⟨λn=>Nat.rec (motive:=λ_=>TB->HTr->RT) (λ_ _=>none) (λ_ J d h=>F J d h) n,λd h=>(by simp),λn d h=>rfl,1000000,c⟩
inductive TabOk(C:Cfg)(Sg:Tc)(X:Ctxt)(dr:Dr)(A:Alg RT HTr)(f:TK)(ls:TB)(h:HTr)(K:TB->HTr->RT)(w:TB):Prop
 |run (fn:Fn1) (hi:FnIs X Sg f fn) (he:aj A X Sg dr fn ls h K=some w)
 |known (rs:TB) (hc:∀H,aB C Sg f ls H rs H) (hk:K rs h=some w)
 |alone (fn:Fn1) (rs:TB) (sg:Sig) (hi:FnIs X Sg f fn) (hs:Sg f=some sg) (hp:sg.plain=true) (he:aj A X Sg dr fn ls .empty (λrs _=>some rs)=some rs) (hk:K rs h=some w)
end
end Sx
namespace Sx
def gfl(v:Value):Bool:=match v with
 | .pointer (some a)=>a.spot==some 1
 | .slice (some a) _ _=>a.spot==some 1
 |v=>scalar v
section
variable [Val]
def objR_keep [Glo]{mu:HMap}{p:Pl}{x y:Option Obj}{o:HObj}(b:∀a,x=some a->y=some a)(h:objR mu p x o):objR mu p y o:=by
 cases o with
 |cells t j rw=>
  obtain⟨d,f,l,c,e,k,m,n⟩:=h;exact⟨d,f,l,c,e,k,b _ m,n⟩
 |map q g=>
  obtain⟨i,d,f⟩:=h;exact⟨i,b _ d,f⟩
 |loop r=>
  obtain⟨L,d,f⟩:=h;exact⟨L,b _ d,f⟩
 |siter s pos=>exact b _ h
 |dead=>trivial
def flatVRs [Glo]{la:LMap}{mu a:HMap}{vs cs:Tk}(e:vs.all flat=true)(h:VRs la mu vs cs):VRs la a vs cs:=by
 refine⟨h.1,λi x y c f=>?_⟩;have d:=h.2 i x y c f;have b:flat x=true:=qac.1 e x (qab c);rw[rL b d];exact .of_flat b
def gflVR [Glo]{la d:LMap}{mu e:HMap}{v c:Value}(a:gfl v=true)(h:VR la mu v c):VR d e v c:=by
 cases h with
 |poison c=>cases a
 |sym h=>cases a
 |scalar h=>exact .scalar h
 |agg _ _=>cases a
 |tuple _ _ _=>cases a
 |func _ _ _ _ _=>cases a
 |yield _=>cases a
 |lptr _=>cases a
 |hptr _=>cases a
 |gptr=>exact .gptr
 |hslice _ _ _ _=>simp[gfl,tag]at a
 |hslice0 _=>simp[gfl,tag]at a
 |gslice f b=>exact .gslice f b
 |gslice0 b=>exact .gslice0 b
 |map _=>cases a
def wW [Glo]{mu a:HMap}{vs:Tk}{c:Tj}{o:Nat}(f:vs.all gfl=true)(h:cF mu vs c o):cF a vs c o:=by
 intro i v b;obtain⟨g,d,e⟩:=h i v b;exact⟨g,d,gflVR (qac.1 f v (qab b)) e⟩
def no_own{mu:HMap}{b:Nat}:¬Own mu [] b:=by
 rintro⟨id,o,p,h,_⟩;simp at h
def frame_ok{C:Cfg}(N:∀g vs,C.G g=some vs->vs.all gfl=true){f:TK}{args:Tk}{r:Value}{H':Tp}(h:dP C f args [] r H')(O:args.all flat=true)(F:flat r=true)(H:Tp):dP C f args H r H:=by
 intro _ D P w k E m l M;have z:WR C w.heap.size (λ_=>none) [] w:=by
  refine⟨λid o h=>by simp at h,λi j S T U V h=>by simp at h,λi o p h=>by simp at h,λi o p h=>by simp at h,λ_ _=>rfl,λg vs u=>?_⟩;obtain⟨t,n,c,e,y,q,s⟩:=l.glob g vs u;exact⟨by omega,n,c,e,y,q,wW (N g vs u) s⟩
 obtain⟨v,Q,I,J,R,d,K,L⟩:=h _ w.heap.size (λ_=>none) w k (qaj _) (flatVRs O m) z M;have a:∀(b:Nat) x,w.heap[b]?=some x->I.heap[b]?=some x:=by
  intro b x B;have A:b<w.heap.size:=by
   rcases qaP b w.heap.size with h|h
   ·exact h
   ·rw[qbF h]at B;cases B
  rw[d.keep b A no_own];exact B
 refine⟨v,P,I,?_,?_,?_,K,L⟩
 ·rw[rL F J];exact .of_flat F
 ·refine⟨λid o t n=>?_,l.inj,l.own,l.ro,l.dom,λg vs u=>?_⟩
  ·obtain⟨p,q,s⟩:=l.obj id o t n;exact⟨p,q,objR_keep (a p.b) s⟩
  ·obtain⟨t,n,c,e,y,q,s⟩:=l.glob g vs u;exact⟨t,n,c,e,y,a _ _ q,s⟩
 ·exact⟨qaj _,λ_ _=>rfl,d.size,λb E _=>d.keep b E no_own,λb h=>.inr h,d.os,d.tape,d.output,d.dr⟩
end
section
variable [Val] [Kno]
end
end Sx
namespace Sx
def jo(F:Tx)(H a:Tp):Prop:=∀r∈F,∀x,H[r]?=some x->x.alive=true->a[r]?=some x
structure HEff where
 set:Option (Nat×HObj)
 push:Option (HObj×(Nat->Value))
 v:Value
def HEff.put(e:HEff)(H:Tp):Tp:=match e.set with
 |some p=>H.set p.1 p.2
 |none=>H
def HEff.heap(e:HEff)(H:Tp):Tp:=match e.push with
 |some p=>e.put H++[p.1]
 |none=>e.put H
def HEff.val(e:HEff)(n:Nat):Value:=match e.push with
 |some p=>p.2 n
 |none=>e.v
def LocF(b:Prop)(F W:Tx)(f:Tp->Option (List HObj×Value))(H:Tp):Prop:=
 ∀H' v,f H=some (H',v)->∃e:HEff,H'=e.heap H/\v=e.val H.length/\(∀p,e.set=some p->p.1∈W/\∃x,H[p.1]?=some x/\x.alive=true)/\(∀p,e.push=some p->b/\Fresh p.2/\p.1.alive=true)/\
  ∀a,jo F H a->f a=some (e.heap a,e.val a.length)
def LocG(F:Tx)(f:Tp->Ti)(H:Tp):Prop:=∀v,f H=some v->∀a,jo F H a->f a=some v
def fQ{F:Tx}{H a:Tp}(h:jo F H a){r:Nat}(c:r∈F){vs:Tk}{e:Nat}{b:Bool}(d:H[r]?=some (.cells vs e b)):a[r]?=some (.cells vs e b):=h r c _ d rfl
def gJ{F:Tx}{H d:Tp}(h:jo F H d){r:Nat}(f:r∈F){b:Th}{c:Nat}(a:hmap H r=some (b,c)):H[r]?=some (.map b c)/\hmap d r=some (b,c):=by
 unfold hmap at a;split at a
 next e=>
  cases a;exact⟨e,by unfold hmap;rw[h r f _ e rfl]⟩
 ·cases a
def vi{C:Cfg}{H g:Tp}{esz:Nat}{x:Value}{p:List Value×Nat}(c:dS C H esz x=some p){F:Tx}(k:∀r∈adr x,r∈F)(h:jo F H g):dS C g esz x=some p:=by
 unfold dS at c ⊢;split at c
 ·exact c
 next a f j=>
  split at c
  next d=>simp only[d,if_true];exact c
  next d=>
   split at c
   next i=>
    simp only[d,if_false,i,if_true];split at c
    next m e b hid=>
     have l:a.block∈adr (.slice (some a) f j):=by
      simp[adr,i,tag]
     rw[fQ h (k _ l) hid];exact c
    ·cases c
   ·cases c
 ·exact c
 ·cases c
def vF{c:Prop}{F W:Tx}{H:Tp}(a:c)(x:HObj)(mk:Nat->Value)(e:x.alive=true)(d:Fresh mk):LocF c F W (λH=>some (H++[x],mk H.length)) H:=by
 intro f v h;cases h;exact⟨⟨none,some (x,mk),undef⟩,rfl,rfl,λp b=>(by cases b),λp b=>by cases b;exact⟨a,d,e⟩,λg _=>rfl⟩
def rY{d:Prop}{F W:Tx}{f:Tp->Option (List HObj×Value)}{H:Tp}{v:Value}(h:f H=some (H,v))(c:∀a,jo F H a->f a=some (a,v)) :
  ∃e:HEff,H=e.heap H/\v=e.val H.length/\(∀p,e.set=some p->p.1∈W/\∃x,H[p.1]?=some x/\x.alive=true)/\(∀p,e.push=some p->d/\Fresh p.2/\p.1.alive=true)/\∀a,jo F H a->f a=some (e.heap a,e.val a.length):=
 ⟨⟨none,none,v⟩,rfl,rfl,λp b=>(by cases b),λp b=>(by cases b),c⟩
def rX{d:Prop}{F W:Tx}{f:Tp->Option (List HObj×Value)}{H:Tp}{x:HObj}{mk:Nat->Value}(b:d)(i:x.alive=true)(h:Fresh mk)(g:∀a,jo F H a->f a=some (a++[x],mk a.length)) :
  ∃e:HEff,H++[x]=e.heap H/\mk H.length=e.val H.length/\(∀p,e.set=some p->p.1∈W/\∃x,H[p.1]?=some x/\x.alive=true)/\(∀p,e.push=some p->d/\Fresh p.2/\p.1.alive=true)/\∀a,jo F H a->f a=some (e.heap a,e.val a.length):=
 ⟨⟨none,some (x,mk),undef⟩,rfl,rfl,λp c=>(by cases c),λp c=>by cases c;exact⟨b,h,i⟩,g⟩
def rZ{j:Prop}{F W:Tx}{f:Tp->Option (List HObj×Value)}{H:Tp}{i:Nat}{x y:HObj}{v:Value}(g:i∈W)(h:H[i]?=some y)(d:y.alive=true)(c:∀a,jo F H a->f a=some (a.set i x,v)) :
  ∃e:HEff,H.set i x=e.heap H/\v=e.val H.length/\(∀p,e.set=some p->p.1∈W/\∃x,H[p.1]?=some x/\x.alive=true)/\(∀p,e.push=some p->j/\Fresh p.2/\p.1.alive=true)/\∀a,jo F H a->f a=some (e.heap a,e.val a.length):=
 ⟨⟨some (i,x),none,v⟩,rfl,rfl,λp b=>by cases b;exact⟨g,y,h,d⟩,λp b=>(by cases b),c⟩
def yS{Q:Prop}{C:Cfg}{t:TJ}{s x:Value}{H:Tp}{F W:Tx}(B:Q)(M:∀r∈adr s,r∈F/\r∈W)(U:∀r∈adr x,r∈F):LocF Q F W (fC C t s x) H:=by
 intro X v c;unfold fC at c;split at c
 case h_2=>cases c
 rename_i P T
 split at c
 ·cases c
 rename_i b R
 split at c
 ·cases c
 rename_i N
 split at c
 ·cases c
 rename_i V
 split at c
 ·cases c
 rename_i w n J
 have d:∀f,jo F H f->fC C t s x f=(match (motive:=Value->Option (List HObj×Value)) s with
   | .slice none 0 0=>
    if n=0 then some (f,.slice none 0 0)
    else if bh n b.bytes then some (f++[.cells w b.size true],.slice (some ⟨f.length,0,tag b.size⟩) n 0)else none
   | .slice (some a) g I=>
    if a.spot≠tag b.size then none else
    match f[a.block]? with
    |some (.cells G e rw)=>
     if e≠b.size then none else
     match cut G a.off (g*b.size)with
     |none=>none
     |some z=>
      match I with
      |0=>
       if n=0 then some (f,.slice (some a) g 0)
       else if rw&&bh (g+n) b.bytes then
        some (f.set a.block .dead++[.cells (z++w) b.size true],.slice (some ⟨f.length,0,tag b.size⟩) (g+n) 0)
       else none
      |cap+1=>
       if g+n<=cap then
        if rw then(splice G (a.off+g*b.size) w).map λE=>(f.set a.block (.cells E e true),.slice (some a) (g+n) (cap+1))
        else if n=0 then some (f,.slice (some a) g (cap+1))else none
       else if bh (g+n) b.bytes then
        some (f++[.cells (z++w) b.size true],.slice (some ⟨f.length,0,tag b.size⟩) (g+n) 0)
       else none
    |_=>none
   |_=>none):=by
  intro f j;unfold fC;simp only[T,R,N,if_false,V,vi J U j];rfl
 split at c
 ·split at c
  next o=>
   cases c;exact rY (by rw[d H λ_ _ _ h _=>h];simp only[o,if_true]) λf j=>by rw[d f j];simp only[o,if_true]
  next o=>
   split at c
   next u=>
    cases c;exact rX (mk:=λk=>.slice (some ⟨k,0,tag b.size⟩) n 0) B rfl (.slice _ _ _) λf j=>by rw[d f j];simp only[o,if_false,u,if_true]
   ·cases c
 next a g I=>
  split at c
  ·cases c
  rename_i l
  have K:a.block∈adr (.slice (some a) g I):=by
   simp only[ne_eq,Classical.not_not]at l;simp[adr,l,tag]
  split at c
  case h_2=>cases c
  rename_i G e O hid
  split at c
  ·cases c
  rename_i A
  split at c
  ·cases c
  rename_i z i
  have m:∀ {f},jo F H f->f[a.block]?=some (.cells G e O):=λj=>fQ j (M _ K).1 hid;split at c
  ·split at c
   next o=>
    cases c;exact rY (by rw[d H λ_ _ _ h _=>h];simp only[l,hid,A,i,o,if_true,if_false]) λf j=>by rw[d f j];simp only[l,m j,A,i,o,if_true,if_false]
   next o=>
    split at c
    next u=>
     cases c;refine⟨⟨some (a.block,.dead),some (.cells (z++w) b.size true,λk=>.slice (some ⟨k,0,tag b.size⟩) (g+n) 0),undef⟩,rfl,rfl,λp L=>by cases L;exact⟨(M _ K).2,_,hid,rfl⟩,λp L=>by cases L;exact⟨B,.slice _ _ _,rfl⟩,λf j=>?_⟩;rw[d f j];simp only[l,m j,A,i,o,u,if_true,if_false];rfl
    ·cases c
  ·split at c
   next cap q=>
    split at c
    next y=>
     obtain⟨E,D,S⟩:=qah.1 c;cases S;exact rZ (M _ K).2 hid rfl λf j=>by rw[d f j];simp only[l,m j,A,i,q,y,if_true,if_false,D,qaJ]
    next y=>
     split at c
     next o=>
      cases c;exact rY (by rw[d H λ_ _ _ h _=>h];simp only[l,hid,A,i,q,o,y,if_true,if_false];simp[o];omega) λf j=>by rw[d f j];simp only[l,m j,A,i,q,y,o,if_true,if_false];simp[o];omega
     ·cases c
   next cap q=>
    split at c
    next u=>
     cases c;exact rX (mk:=λk=>.slice (some ⟨k,0,tag b.size⟩) (g+n) 0) B rfl (.slice _ _ _) λf j=>by rw[d f j];simp only[l,m j,A,i,q,u,if_true,if_false]
    ·cases c
 ·cases c
def loc_copy{b:Prop}{C:Cfg}{t:TJ}{d x:Value}{H:Tp}{F W:Tx}(e:∀r∈adr d,r∈F/\r∈W)(f:∀r∈adr x,r∈F):LocF b F W (copyA C t d x) H:=by
 intro c v a;cases a
def loc_clear{b:Prop}{C:Cfg}{t:TJ}{x:Value}{H:Tp}{F W:Tx}(d:∀r∈adr x,r∈F/\r∈W):LocF b F W (tC C t x) H:=by
 intro c v a;cases a
def loc_store{g:Prop}{C:Cfg}{t:TJ}{id off:Nat}{x:Value}{H:Tp}{F W:Tx}(h1:id∈F)(b:id∈W):LocF g F W (jy C t id off x) H:=by
 intro i v a;unfold jy at a;split at a
 next k e hid=>
  obtain⟨h,f,d⟩:=qah.1 a;cases d;refine rZ b hid rfl λj c=>?_;unfold jy;simp only[fQ c h1 hid,f,qaJ]
 ·cases a
def qn{s:Prop}{C:Cfg}{t:TJ}{m k x:Value}{H:Tp}{F W:Tx}(q:∀r∈adr m,r∈F/\r∈W):LocF s F W (cI C t m k x) H:=by
 intro u v a;unfold cI at a;split at a
 case h_2=>cases a
 rename_i z y id l
 split at a
 ·cases a
 rename_i d
 split at a
 ·cases a
 rename_i w c g
 obtain⟨e,n⟩:=q id (by simp[adr]);have j:=(gJ (λ_ _ _ h _=>h:jo F H H) e g).1;split at a
 ·cases a
 next b=>
  cases a;refine rZ n j rfl λo f=>?_;unfold cI;simp only[l,d,(gJ f e g).2,b];rfl
 next i b=>
  split at a
  next p=>
   cases a;refine rZ n j rfl λo f=>?_;unfold cI;simp only[l,d,(gJ f e g).2,b,p];rfl
  ·cases a
def loc_entry{b:Prop}{C:Cfg}{t:TJ}{m k:Value}{H:Tp}{F W:Tx}(d:∀r∈adr m,r∈F/\r∈W):LocF b F W (iu C t m k) H:=by
 intro c v a;cases a
def yU{b:Prop}{m s x:Value}{H:Tp}{F W:Tx}(d:∀r∈adr m,r∈F/\r∈W):LocF b F W (eZ m s x) H:=by
 intro c v a;cases a
def yT{b:Prop}{C:Cfg}{t:TJ}{m k:Value}{H:Tp}{F W:Tx}(d:∀r∈adr m,r∈F/\r∈W):LocF b F W (nG C t m k) H:=by
 intro c v a;cases a
def loc_make{g:Prop}{C:Cfg}{t:TJ}{l c:Value}{H:Tp}{F W:Tx}(d:g):LocF g F W (dx C t l c) H:=by
 intro r v a;unfold dx at a;split at a
 case h_2=>cases a
 rename_i q h e i j o
 split at a
 case h_2=>cases a
 rename_i b n
 split at a
 ·cases a
 rename_i f
 split at a
 case h_2=>cases a
 rename_i z p
 split at a
 next m=>
  cases a;refine rX (mk:=λk=>.slice (some ⟨k,0,tag b.size⟩) q.toNat (h.toNat+1)) d rfl (.slice _ _ _) λs _=>?_;unfold dx;simp only[i,j,o,n,f,p,m,and_self,if_true,if_false]
 ·cases a
def yV{C:Cfg}{t:TJ}{m k:Value}{ok:Bool}{H:Tp}{F:Tx}(g:∀r∈adr m,r∈F):LocG F (dH C t m k ok) H:=by
 intro v a h e;unfold dH at a;unfold dH;split at a
 case h_2=>cases a
 rename_i o j l
 split at a
 ·cases a
 rename_i b
 simp only[b];split at a
 ·cases a
 rename_i z n
 split at a
 ·exact a
 next id=>
  have d:=g id (by simp[adr]);split at a
  ·cases a
  rename_i i c f
  simp only[(gJ e d f).2];exact a
 ·cases a
def loc_arr{C:Cfg}{t:TJ}{a:Addr}{d c e:Ti}{H:Tp}{F:Tx}(f:∀r∈adr (.pointer (some a)),r∈F):LocG F (kG C t a d c e) H:=by
 intro v b;cases b
end Sx
namespace Sx
def fpo(pts:Tx)(ρ:Tf)(o:Oper):Tx:=(dh pts o).1.flatMap λx=>adrK (dh pts o).2 (ρ x)
def wpo(pts:Tx)(ρ:Tf)(o:Oper):Tx:=(eH pts o).flatMap λx=>adr (ρ x)
def okS(N:Tb)(pts:Tx)(o:Oper):Bool:=
 match au N pts o with
 |some .hw=>(match o.op with
  | .call c=>(match c.callee with
   | .builtin _=>true
   |_=>false)
  |_=>true)
 |some .hr=>(match o.op with
  | .call c=>(match c.callee with
   | .builtin _=>true
   |_=>false)
  |_=>true)
 |some _=>true
 |none=>false
def dy{C:Cfg}{ρ:Tf}{o:Oper}{e:Eff}(h:cL C ρ o=some e):∃v,e = .val v:=by
 unfold cL at h;split at h
 ·split at h
  ·split at h
   ·cases h;exact⟨_,rfl⟩
   ·cases h
  ·cases h
 ·cases h
def dI{x:Ti}{e:Eff}(h:x.map Eff.val=some e):∃v,e = .val v:=by
 obtain⟨v,_,rfl⟩:=qah.1 h;exact⟨v,rfl⟩
def nohop_or{a:Ti}{b:Option Eff}{e:Eff}(c:b=some e->∃v,e = .val v)(h:oF a b=some e):∃v,e = .val v:=by
 unfold oF at h;split at h
 ·cases h;exact⟨_,rfl⟩
 ·exact c h
def LocE(Q a:Prop)(F W:Tx):Eff->Prop
 | .hop f=>∀H,LocF a F W f H
 | .hget f=>∀H,LocG F f H
 | .call _ _=>Q
 | .yield _ _=>Q
 |_=>True
def ch{Q a:Prop}{F W:Tx}{e:Eff}(h:∃v,e = .val v):LocE Q a F W e:=by
 obtain⟨v,rfl⟩:=h;trivial
def jx{v:Value}{p:Nat×Nat}(h:ij v=some p):adr v=[p.1]:=by
 unfold ij at h;split at h
 next a=>
  split at h
  next c=>
   cases h;cases b:a.spot with
   |none=>simp[adr,b]
   |some k=>rw[b]at c;cases c
  ·cases h
 ·cases h
def xg{Q c:Prop}{C:Cfg}{pts:Tx}{d:Tn}{t:TJ}{v:Value}{e:Eff}{F W:Tx}(a:∀x,d=some x->pts.getD x 0≠x+2->c)(h:cJ C pts d t v=some e):LocE Q c F W e:=by
 unfold cJ at h;split at h
 ·cases h
 ·split at h
  ·cases h
  ·split at h
   ·cases h
   ·split at h
    ·cases h;trivial
    next b=>
     cases h;exact λH=>vF (a _ rfl b) (.cells v.cells.toList (lK C.P t) true) (λn=>.pointer (some ⟨n,0,none⟩)) rfl .ptr
def effOf_loc{C:Cfg}{pts:Tx}{ρ:Tf}{o:Oper}{e:Eff}(g:am C pts ρ o=some e):LocE (∃c f,o.op = .call c/\c.callee = .value f) (dq pts o=true) (fpo pts ρ o) (wpo pts ρ o) e:=by
 unfold am at g;split at g
 ·cases g;trivial
 ·cases g;trivial
 ·split at g
  ·cases g;trivial
  ·cases g
 next t h=>
  obtain⟨z,_,g⟩:=qas.1 g;exact xg (λx D y=>by simp only[dq,h,D];cases J:Nat.beq (pts.getD x 0) (x+2)with
   |false=>rfl
   |true=>exact absurd (qad J) y) g
 next t x h=>
  exact xg (λx D y=>by simp only[dq,h,D];cases J:Nat.beq (pts.getD x 0) (x+2)with
   |false=>rfl
   |true=>exact absurd (qad J) y) g
 ·split at g
  ·exact ch (dI g)
  ·cases g
 next t n U h=>
  split at g
  ·obtain⟨r,_,rfl⟩:=qah.1 g;exact λH=>vF (by simp only[dq,h]) (.cells r.2 r.1 true) (λk=>.slice (some ⟨k,0,tag r.1⟩) n (n+1)) rfl (.slice _ _ _)
  ·cases g
 next t a h=>
  unfold dU at g;split at g
  next E=>
   split at g
   next p y=>
    cases g;intro H v B L G;obtain⟨O,A,I⟩:=qas.1 B;have K:p.1∈fpo pts ρ o:=by simp[fpo,dh,adrK,h,E,jx y]
    refine qas.2 ⟨O,?_,I⟩;unfold ff at A ⊢;split at A
    next hid=>cases A;rw[fQ G K hid]
    ·cases A
   ·obtain⟨p,_,rfl⟩:=qah.1 g;exact λH v B L _=>B
  ·obtain⟨p,_,g⟩:=qas.1 g;exact ch (dI g)
  ·obtain⟨p,_,rfl⟩:=qah.1 g;trivial
 next t a x h=>
  unfold eG at g;split at g
  ·cases g
  ·split at g
   next E=>
    obtain⟨p,y,rfl⟩:=qah.1 g;exact λH=>loc_store (by simp[fpo,dh,adrK,h,E,jx y]) (by simp[wpo,eH,h,E,jx y])
   ·cases g
   ·obtain⟨p,_,rfl⟩:=qah.1 g;trivial
 ·split at g<;>cases g<;>trivial
 ·split at g
  ·split at g
   ·split at g
    ·cases g;trivial
    ·cases g
   ·exact ch (dy g)
  ·split at g
   ·split at g
    ·cases g;trivial
    ·cases g
   ·exact ch (dy g)
  ·exact ch (dy g)
 ·split at g
  ·cases g
  ·cases g;trivial
 next t r h=>
  split at g
  ·cases g;exact λH=>vF (by simp only[dq,h]) (.map [] 0) (λn=>.map (some n)) rfl .map
  ·cases g
 next t l c h=>
  cases g;exact λH=>loc_make (by simp only[dq,h])
 next t x R P S h=>
  split at g
  next a D=>
   split at g
   ·exact ch (dI g)
   ·cases g;exact λH=>loc_arr λr i=>by simp[fpo,dh,adrK,adrP,h,D];exact i
  ·exact ch (nohop_or dy g)
 ·exact ch (dI g)
 ·exact ch (dI g)
 ·exact ch (dI g)
 ·exact ch (dI g)
 next t m k T h=>
  split at g
  ·exact ch (dI g)
  ·cases g;exact λH=>yV λr i=>by simp[fpo,dh,adrK,h];exact i
 next t m k v h=>
  cases g;exact λH=>qn λr i=>⟨by simp[fpo,dh,adrK,h];exact i,by simp[wpo,eH,h];exact i⟩
 next t m k v h=>
  cases g;exact λH=>qn λr i=>⟨by simp[fpo,dh,adrK,h];exact i,by simp[wpo,eH,h];exact i⟩
 next t m k h=>
  cases g;exact λH=>loc_entry λr i=>⟨by simp[fpo,dh,adrK,h];exact i,by simp[wpo,eH,h];exact i⟩
 next t m s v h=>
  cases g;exact λH=>yU λr i=>⟨by simp[fpo,dh,adrK,h];exact i,by simp[wpo,eH,h];exact i⟩
 ·split at g
  ·split at g
   ·cases g
   ·exact ch (dI g)
  ·cases g
 next c h=>
  unfold fT at g;simp only at g;cases q:c.callee with
  |invoke r m=>simp only[q]at g;cases g
  |builtin b=>
   simp only[q]at g;unfold ba at g;split at g
   next s x t j F=>
    split at g
    ·cases g
    ·cases g;have w:∃a b,c.args.toList=[a,b]/\ρ a=s/\ρ b=x:=by
      match c.args.toList,j with
      | [a,b],j=>simp at j;exact⟨a,b,rfl,j.1,j.2⟩
     obtain⟨a,b,u,rfl,rfl⟩:=w;exact λH=>yS (by simp only[dq,h,q]) (λr i=>⟨by simp[fpo,dh,adrK,h,q,u,i],by simp[wpo,eH,h,q,u,i]⟩) λr i=>by simp[fpo,dh,adrK,h,q,u,i]
   next x t j F=>
    split at g
    ·cases g;trivial
    next id Q=>
     cases g;have one:∃a,c.args.toList=[a]/\ρ a = .map (some id):=by
      cases M:c.args.toList with
      |nil=>rw[M]at j;cases j
      |cons a l=>
       rw[M]at j;cases l with
       |nil=>exact⟨a,rfl,by simpa using j⟩
       |cons b l=>simp at j
     obtain⟨a,u,N⟩:=one;intro H v B L G;obtain⟨p,A,I⟩:=qah.1 B;have K:id∈fpo pts ρ o:=by simp[fpo,dh,adrK,adrM,h,q,u,N]
     exact qah.2 ⟨p,(gJ G K A).2,I⟩
    ·cases g;trivial
    ·exact ch (dy g)
   ·split at g
    ·cases g;trivial
    ·cases g;trivial
    ·cases g;trivial
    ·cases g
   next d x t j F=>
    cases g;have w:∃a b,c.args.toList=[a,b]/\ρ a=d/\ρ b=x:=by
     match c.args.toList,j with
     | [a,b],j=>simp at j;exact⟨a,b,rfl,j.1,j.2⟩
    obtain⟨a,b,u,rfl,rfl⟩:=w;exact λH=>loc_copy (λr i=>⟨by simp[fpo,dh,adrK,h,q,u,i],by simp[wpo,eH,h,q,u,i]⟩) λr i=>by simp[fpo,dh,adrK,h,q,u,i]
   next m k t j F=>
    cases g;have w:∃a b,c.args.toList=[a,b]/\ρ a=m/\ρ b=k:=by
     match c.args.toList,j with
     | [a,b],j=>simp at j;exact⟨a,b,rfl,j.1,j.2⟩
    obtain⟨a,b,u,rfl,rfl⟩:=w;exact λH=>yT λr i=>⟨by simp[fpo,dh,adrK,h,q,u,i],by simp[wpo,eH,h,q,u,i]⟩
   next x t j F=>
    cases g;have one:∃a,c.args.toList=[a]/\ρ a=x:=by
     match c.args.toList,j with
     | [a],j=>simp at j;exact⟨a,rfl,j⟩
    obtain⟨a,u,rfl⟩:=one;exact λH=>loc_clear λr i=>⟨by simp[fpo,dh,adrK,h,q,u,i],by simp[wpo,eH,h,q,u,i]⟩
   ·exact ch (dy g)
  |value f=>
   simp only[q]at g;split at g
   ·cases g
   ·split at g
    ·split at g
     ·cases g;exact⟨c,f,h,q⟩
     ·cases g
    ·split at g
     ·cases g;exact⟨c,f,h,q⟩
     ·cases g
    ·cases g
 ·exact ch (dy g)
 ·exact ch (dy g)
 ·cases g
section
variable [Val] {C:Cfg} {B:Below} {N:Tb} {pts:Tx} {ops:Tl}
def qV(N:Tb)(pts:Tx)(ops:Tl)(o:Oper)(σ τ:St):Prop:=
 (∀t∈bj ops o,τ.tmps[t]?=σ.tmps[t]?)/\(match au N pts o with
 |some (.row s _)=>τ.loc[s]?=σ.loc[s]?
 |_=>True)/\jo (fpo pts (oval σ.tmps) o) σ.heap τ.heap
def eV(dst:Tn)(e:HEff)(rw:Option (Nat×Option (Tk)))(k:To)(τ:St):St:=
 ({ tmps:=τ.tmps,loc:=(match rw with|some p=>τ.loc.set p.1 p.2|none=>τ.loc),heap:=(match k with
  |none=>e.heap τ.heap
  |some k=>match e.push with
   |some p=>(e.put τ.heap).set k p.1
   |none=>e.put τ.heap) }:St).put dst (match k with
  |none=>e.val τ.heap.length
  |some k=>e.val k)
def local_okS(S:NeuB N B){i:Nat}{o:Oper}(F:ops[i]?=some o)(r:okS N pts o=true){σ σ':St}(A:ak C B pts ops i σ σ') :
  ∃(e:HEff) (rw:Option (Nat×Option (Tk))),σ'=eV o.dst e rw none σ/\(∀p,rw=some p->au N pts o=some (.row p.1 true))/\(e.push≠none->au N pts o=some .hw)/\
   (∀p,e.set=some p->p.1∈wpo pts (oval σ.tmps) o/\∃x,σ.heap[p.1]?=some x/\x.alive=true)/\(∀p,e.push=some p->dq pts o=true/\Fresh p.2/\p.1.alive=true)/\
   ∀τ,qV N pts ops o σ τ->∀t:Nat->Option Nat,
    (e.push=none->t i=none->dY C B pts ops t i τ (eV o.dst e rw none τ))/\
    (∀p k,e.push=some p->t i=some k->(e.put τ.heap)[k]?=some .dead->dY C B pts ops t i τ (eV o.dst e rw (some k) τ)):=by
 have G:au N pts o≠none:=by intro h;unfold okS at r;rw[h]at r;cases r
 by_cases d:au N pts o=some .hr∨au N pts o=some .hw
 case neg=>
  obtain⟨e,M,E,O⟩:=iL S F G A;have U:e.hp=none:=by
   cases y:e.hp with
   |none=>rfl
   |some x=>exact absurd (.inr (E.2 (by rw[y];simp))) d
  have I:∀τ,e.on o.dst τ=eV o.dst ⟨none,none,e.v⟩ e.rw none τ:=λτ=>by
   unfold Ef.on eV;rw[U];rfl
  refine⟨⟨none,none,e.v⟩,e.rw,by rw[M,I],E.1,λh=>absurd rfl h,λp b=>(by cases b),λp b=>(by cases b),λτ hτ t=>⟨λ_ n=>?_,λp k b=>(by cases b)⟩⟩;unfold dY;rw[n];rw[←I];refine O τ ⟨hτ.1,?_⟩;have:=hτ.2.1;cases H:au N pts o with
  |none=>exact absurd H G
  |some m=>
   rw[H]at this d;cases m with
   |hr=>exact absurd (.inl rfl) d
   |hw=>exact absurd (.inr rfl) d
   |row s w=>exact this
   |_=>trivial
 case pos=>
  unfold ak at A;simp only[F]at A;have hwτ:∀τ,qV N pts ops o σ τ->cE ops τ.tmps o=cE ops σ.tmps o:=λτ hτ=>wz hτ.1;have val:∀v:Value,σ'=σ.put o.dst v->(∀τ,qV N pts ops o σ τ->ak C B pts ops i τ (τ.put o.dst v))->
    ∃(e:HEff) (rw:Option (Nat×Option (Tk))),σ'=eV o.dst e rw none σ/\(∀p,rw=some p->au N pts o=some (.row p.1 true))/\(e.push≠none->au N pts o=some .hw)/\
     (∀p,e.set=some p->p.1∈wpo pts (oval σ.tmps) o/\∃x,σ.heap[p.1]?=some x/\x.alive=true)/\(∀p,e.push=some p->dq pts o=true/\Fresh p.2/\p.1.alive=true)/\
     ∀τ,qV N pts ops o σ τ->∀t:Nat->Option Nat,
      (e.push=none->t i=none->dY C B pts ops t i τ (eV o.dst e rw none τ))/\
      (∀p k,e.push=some p->t i=some k->(e.put τ.heap)[k]?=some .dead->dY C B pts ops t i τ (eV o.dst e rw (some k) τ)):=by
   intro v D h;refine⟨⟨none,none,v⟩,none,D,λp b=>(by cases b),λh=>absurd rfl h,λp b=>(by cases b),λp b=>(by cases b),λτ hτ t=>⟨λ_ n=>?_,λp k b=>(by cases b)⟩⟩;unfold dY;rw[n];exact h τ hτ
  split at A
  ·exact A.elim
  next hw=>
   refine val undef A λτ hτ=>?_;unfold ak;simp only[F,hwτ τ hτ,hw]
  next hw=>
   have step:∀ {τ τ':St},qV N pts ops o σ τ->((∃e,am C pts (oval τ.tmps) o=some e/\lU B e o.dst τ τ')∨(∃v,kL C τ.tmps o v/\τ'=τ.put o.dst v))->ak C B pts ops i τ τ':=by
    intro τ τ' hτ h;unfold ak;simp only[F,hwτ τ hτ,hw];exact h
   rcases A with⟨e,y,hr⟩|⟨v,D,rfl⟩
   ·have yτ:∀τ,qV N pts ops o σ τ->am C pts (oval τ.tmps) o=some e:=λτ hτ=>by
     rw[nL N pts G (xF hτ.1)];exact y
    have a:=ig (N:=N) (λ_=>rfl) G y;have j:=effOf_loc y;cases e with
    |val v=>
     obtain⟨p,b,rfl⟩:=hr;cases b;exact val v rfl λτ hτ=>step hτ (.inl ⟨_,yτ τ hτ,_,rfl,rfl⟩)
    |lnew s Y=>
     have a:au N pts o=some (.row s true):=a;rw[a]at d;rcases d with h|h<;>cases h
    |lget s f=>
     have a:au N pts o=some (.row s false):=a;rw[a]at d;rcases d with h|h<;>cases h
    |lset s f=>
     have a:au N pts o=some (.row s true):=a;rw[a]at d;rcases d with h|h<;>cases h
    |hget f=>
     obtain⟨p,b,rfl⟩:=hr;simp only[aW]at b;obtain⟨v,D,rfl⟩:=qah.1 b;refine val v rfl λτ hτ=>step hτ (.inl ⟨_,yτ τ hτ,(τ,v),?_,rfl⟩);simp only[aW,j _ _ D _ hτ.2.2,qaJ]
    |hop f=>
     obtain⟨p,b,rfl⟩:=hr;simp only[aW]at b;obtain⟨q,D,rfl⟩:=qah.1 b;obtain⟨e,V,W,X,P,Q⟩:=j σ.heap q.1 q.2 D;refine⟨e,none,?_,λp b=>(by cases b),λ_=>a,X,P,λτ hτ t=>⟨λb n=>?_,λp k b n T=>?_⟩⟩
     ·unfold eV;rw[V,W]
     ·unfold dY;rw[n];exact step hτ (.inl ⟨_,yτ τ hτ,({ τ with heap:=e.heap τ.heap },e.val τ.heap.length),by simp only[aW,Q _ hτ.2.2,qaJ],rfl⟩)
     ·unfold dY;rw[n];refine⟨o,f,e.put τ.heap,p.1,p.2,F,by rw[hwτ τ hτ];exact hw,yτ τ hτ,?_,?_,T,(P p b).2.1,?_⟩
      ·rw[Q _ hτ.2.2];unfold HEff.heap HEff.val;rw[b]
      ·unfold HEff.put;split<;>simp
      ·unfold eV HEff.val;rw[b]
    |call f u=>
     exfalso;have a:(au N pts o=some (.neu f)/\N f=some (2*u.length))∨(au N pts o=some .hr/\N f=some (2*u.length+1))∨au N pts o=some .hw:=a;rcases a with⟨h,_⟩|⟨h,_⟩|h
     ·rw[h]at d;rcases d with h|h<;>cases h
     ·obtain⟨c,g,J,K⟩:=j;unfold okS at r;simp only[h,J,K]at r;cases r
     ·obtain⟨c,g,J,K⟩:=j;unfold okS at r;simp only[h,J,K]at r;cases r
    |yield l u=>
     exfalso;have a:au N pts o=some .hw:=a;obtain⟨c,g,J,K⟩:=j;unfold okS at r;simp only[a,J,K]at r;cases r
   ·refine val v rfl λτ hτ=>step hτ (.inr ⟨v,?_,rfl⟩);obtain⟨M,E,O,R⟩:=D;have z:=xF hτ.1;refine⟨M,?_,O,λw=>?_⟩
    ·rw[qac]at E ⊢;intro x L;rw[z x L];exact E x L
    ·rw[execOp_congr N pts G (ρ':=λx=>den (oval σ.tmps x)) λx L=>by rw[z x L]];exact R w
end
end Sx
namespace Sx
section
variable [Val] {C:Cfg} {B:Below} {N:Tb} {pts:Tx} {ops:Tl}
def runR(S:Nat->St->St->Prop):Tx->St->St->Prop
 | [],σ,σ'=>σ'=σ
 |i :: l,σ,σ'=>∃σ₁,S i σ σ₁/\runR S l σ₁ σ'
def ow{S:Nat->St->St->Prop}{i:Nat}{post:Tx}:∀(pre:Tx),(∀k∈pre,∀σ σ₁ σ':St,S k σ σ₁->S i σ₁ σ'->∃τ,S i σ τ/\S k τ σ')->
  ∀σ σ':St,runR S (pre++i :: post) σ σ'->runR S (i :: (pre++post)) σ σ'
 | [],_,σ,σ',h=>h
 |k :: pre,a,σ,σ',⟨σ₁,h1,b⟩=>by
  obtain⟨σ₂,c,d⟩:=ow pre (λk g=>a k (by simp[g])) σ₁ σ' b;obtain⟨τ,e,f⟩:=a k (by simp) σ σ₁ σ₂ h1 c;exact⟨τ,e,σ₂,f,d⟩
def go_okR{S:Nat->St->St->Prop}(f:∀(i:Nat) o,ops[i]?=some o->∀e∈o.after.toList,Region.binds .any e=true->e.on<i)
  (l:∀i k:Nat,i<ops.size->k<i->Anc ops k i∨∀σ σ₁ σ':St,S k σ σ₁->S i σ₁ σ'->∃τ,S i σ τ/\S k τ σ'):∀(fuel t:Nat) (a:Array Bool),a.size=ops.size->(unl ops.size a).length=fuel->
  (∀(x:Nat) o,a.getD x true=true->ops[x]?=some o->∀e∈o.after.toList,Region.binds .any e=true->a.getD e.on false=true)->
  ∀σ σ':St,runR S (unl ops.size a) σ σ'->runR S (Region.linearise.go .any ops fuel t a []) σ σ'/\(Region.linearise.go .any ops fuel t a []).Nodup/\∀x∈Region.linearise.go .any ops fuel t a [],a.getD x true=false
 |0,t,a,_,P,_,σ,σ',h=>by
  have:unl ops.size a=[]:=qaY.1 P;rw[this]at h;simpa[Region.linearise.go]using h
 |fuel+1,t,a,ad,P,G,σ,σ',h=>by
  simp only[Region.linearise.go];generalize J:((List.range ops.size).filter λi=>!a.getD i true&&((ops[i]?).map (·.after.all λe=>!Region.binds .any e||a.getD e.on false)).getD false)=rs;have n:∀i∈rs,i<ops.size/\a.getD i true=false/\∀o,ops[i]?=some o->∀e∈o.after.toList,Region.binds .any e=true->a.getD e.on false=true:=by
   intro i O;rw[←J,qaM,qae]at O;obtain⟨T,U⟩:=O;simp only[qaa,qb9]at U;refine⟨T,U.1,λo w e E D=>?_⟩;have M:=U.2;rw[w]at M;simp only[qaJ,qby]at M;rw[qcN]at M;have:=M e (by simpa using E);rw[D]at this;simpa using this
  have Z:rs≠[]:=by
   have hu:unl ops.size a≠[]:=by intro e;rw[e]at P;cases P
   obtain⟨K,tl,z⟩:=qdo hu;have W:K∈unl ops.size a:=by rw[z];simp
   have m:=W;rw[unl,qaM,qae]at m;have c:K∈rs:=by
    rw[←J,qaM,qae];refine⟨m.1,?_⟩;simp only[qaa];refine⟨m.2,?_⟩;have w:ops[K]?=some ops[K]:=by simp[m.1]
    rw[w];simp only[qaJ,qby];rw[qcN];intro e E;cases D:Region.binds .any e with
    |false=>simp
    |true=>
     have ag:=f K _ w e (by simpa using E) D;simp only[qaQ,qdC];by_cases b:a.getD e.on true=true
     ·have Q:e.on<a.size:=by omega
      rw[qaE]at b ⊢;rw[qbe Q]at b ⊢;exact b
     ·exfalso;have v:e.on∈unl ops.size a:=by
       rw[unl,qaM,qae];exact⟨by omega,by simpa using b⟩
      rw[z]at v;rcases qax.1 v with v|v
      ·omega
      ·have Q:(unl ops.size a).Pairwise (· < ·):=qdd _ qbO;rw[z,qbb]at Q;have:=Q.1 _ v;omega
   intro e;rw[e]at c;cases c
  have g:0<rs.length:=qbd.2 Z;have H:rs[t%rs.length]?=some (rs[t%rs.length]'(qck _ g)):=qap (qck _ g);rw[H];simp only;generalize O:rs[t%rs.length]'(qck _ g)=i;have c:i∈rs:=by rw[←O];exact qc8 _
  obtain⟨i1,i2,i3⟩:=n i c;rw[linearise_go_acc,List.reverse_singleton,List.singleton_append];have X:i∈(List.range ops.size).filter λj=>!a.getD j true:=by
   rw[qaM,qae];exact⟨i1,by simp[i2]⟩
  obtain⟨A,post,R,e2,e3⟩:=gZ List.nodup_range X;have I:=lW R;have p:unl ops.size (a.setIfInBounds i true)=A++post:=by
   rw[←e2];unfold unl;refine qdz λj hj=>?_;rw[qaE,qaE,qbn];by_cases u:i=j
   ·subst u;rw[qd0 rfl,qd0 (by omega)];simp
   ·rw[qd1 u];have:(j != i)=true:=by simpa using λe=>u e.symm
    simp[this]
  have Y:=ow (S:=S) (i:=i) (post:=post) A (λk hk σ σ₁ σ' s1 s2=>by
   obtain⟨m1,m2⟩:=e3 k hk;rw[qaM,qae]at m1;rcases l i k i1 (I k hk)with F|V
   ·exfalso;have:=pR G F i3;have L:=m1.2;rw[qaE]at this L;rw[qbe (by omega)]at this L;simp only[qby]at this L;rw[this]at L;cases L
   ·exact V _ _ _ s1 s2) σ σ'
  obtain⟨σ₁,s1,s2⟩:=Y (by rw[←R];exact h);obtain⟨r1,r2,r3⟩:=go_okR f l fuel (t / rs.length) (a.setIfInBounds i true) (by simp[ad]) (by
    rw[p];have:(unl ops.size a).length=(A++post).length+1:=by
     show(List.filter _ _).length=_;rw[R];simp;omega
    omega) (by
    intro x o r w e E D;have s:∀y,a.getD y false=true->(a.setIfInBounds i true).getD y false=true:=by
     intro y hy;rw[qaE]at hy ⊢;rw[qbn];split
     next T=>
      subst T;rw[qd0 (by omega)];rfl
     ·exact hy
    by_cases d:x=i
    ·subst d;exact s _ (i3 o w e E D)
    ·refine s _ (G x o ?_ w e E D);rw[qaE,qbn,qd1 (λe=>d e.symm)]at r;rw[qaE];exact r) σ₁ σ' (by rw[p];exact s2)
  have q:∀x∈Region.linearise.go .any ops fuel (t / rs.length) (a.setIfInBounds i true) [],x≠i/\a.getD x true=false:=by
   intro x r;have:=r3 x r;rw[qaE,qbn]at this;by_cases d:i=x
   ·subst d;rw[qd0 rfl,qd0 (by omega)]at this;cases this
   ·rw[qd1 d]at this;exact⟨qbR d,by rw[qaE];exact this⟩
  refine⟨⟨σ₁,s1,r1⟩,qcC.2 ⟨λv=>(q i v).1 rfl,r2⟩,λx r=>?_⟩;rcases qax.1 r with rfl|r
  ·exact i2
  ·exact(q x r).2
end
end Sx
namespace Sx
def eF(a:List (Nat×HObj))(H:Tp):Tp:=a.foldl (λH p=>H.set p.1 p.2) H
def fm:∀(a:List (Nat×HObj)) (H:Tp),(eF a H).length=H.length
 | [],H=>rfl
 |p :: a,H=>by
  show(eF a (H.set p.1 p.2)).length=_;rw[fm a];simp
def kF{r:Nat}:∀ {a:List (Nat×HObj)} {H:Tp},(∀p∈a,p.1≠r)->(eF a H)[r]?=H[r]?
 | [],H,_=>rfl
 |p :: a,H,h=>by
  show(eF a (H.set p.1 p.2))[r]?=_;rw[kF λq b=>h q (qav _ b),qaD (h p (by simp))]
def uN{i:Nat}{x:HObj}:∀ {a:List (Nat×HObj)} {H:Tp},(∀p∈a,p.1≠i)->eF a (H.set i x)=(eF a H).set i x
 | [],H,_=>rfl
 |p :: a,H,h=>by
  show eF a ((H.set i x).set p.1 p.2)=(eF a (H.set p.1 p.2)).set i x;rw[List.set_comm _ _ (qbR (h p (by simp))),uN λq b=>h q (qav _ b)]
def iP:∀ {a b:List (Nat×HObj)} {H:Tp},(∀p∈a,∀q∈b,p.1≠q.1)->eF a (eF b H)=eF b (eF a H)
 | [],b,H,_=>rfl
 |p :: a,b,H,h=>by
  show eF a ((eF b H).set p.1 p.2)=eF b (eF a (H.set p.1 p.2));rw[←uN λq c=>qbR (h p (by simp) q c)];exact iP λq c=>h q (qav _ c)
section
variable [Val] {C:Cfg} {B:Below} {N:Tb} {pts:Tx} {ops:Tl}
structure Rec where
 σ:St
 e:HEff
 rw:Option (Nat×Option (Tk))
 k:Option Nat
def Rec.on(r:Rec)(o:Oper)(τ:St):St:=eV o.dst r.e r.rw r.k τ
def Rec.sees(N:Tb)(pts:Tx)(ops:Tl)(r:Rec)(o:Oper)(τ:St):Prop:=
 qV N pts ops o r.σ τ/\∀k,r.k=some k->(r.e.put τ.heap)[k]?=some .dead
def Rec.slot(r:Rec):List (Nat×HObj):=match r.k,r.e.push with
 |some k,some p=>[(k,p.1)]
 |_,_=>[]
def Rec.ws(r:Rec):List (Nat×HObj):=r.e.set.toList++r.slot
structure Rec.Ok(C:Cfg)(B:Below)(N:Tb)(pts:Tx)(ops:Tl)(i:Nat)(o:Oper)(r:Rec):Prop where
 row:∀p,r.rw=some p->au N pts o=some (.row p.1 true)
 wr:∀p,r.e.set=some p->p.1∈wpo pts (oval r.σ.tmps) o
 kp:r.k=none↔r.e.push=none
 fr:∀p,r.e.push=some p->Fresh p.2/\au N pts o=some .hw/\dq pts o=true
 step:∀τ,r.sees N pts ops o τ->∀sl:Nat->Option Nat,sl i=r.k->dY C B pts ops sl i τ (r.on o τ)
def eD(e:HEff)(H:Tp):e.put H=eF e.set.toList H:=by
 unfold HEff.put;cases e.set<;>rfl
def gg{r:Rec}{o:Oper}{τ:St}(h:r.k=none↔r.e.push=none):(r.on o τ).heap=eF r.ws τ.heap:=by
 unfold Rec.on eV;rw[kr];unfold Rec.ws Rec.slot;cases a:r.k with
 |none=>
  simp only[HEff.heap,h.1 a,eD,qaZ]
 |some k=>
  cases b:r.e.push with
  |none=>rw[h.2 b]at a;cases a
  |some p=>
   simp only[eD];show(eF r.e.set.toList τ.heap).set k p.1=_;unfold eF;rw[qcF];rfl
def oE{r:Rec}{o:Oper}{τ:St}:(r.on o τ).loc=(match r.rw with|some p=>τ.loc.set p.1 p.2|none=>τ.loc):=by
 unfold Rec.on eV;rw[sE]
 all_goals (cases r.rw<;>rfl)
def Rec.val(r:Rec):Value:=match r.k with
 |some k=>r.e.val k
 |none=>r.e.v
def mX{r:Rec}{o:Oper}{τ:St}(h:r.k=none↔r.e.push=none):(r.on o τ).tmps=(match o.dst with|some d=>τ.tmps.set d r.val|none=>τ.tmps):=by
 unfold Rec.on eV;rw[sF];unfold Rec.val;cases a:r.k with
 |none=>simp only[HEff.val,h.1 a];all_goals (cases o.dst<;>rfl)
 |some k=>cases o.dst<;>rfl
def rowOk:MC->MC->Bool
 | .row s w,.row a w'=>!Nat.beq s a||(!w && !w')
 |_,_=>true
def stat2(N:Tb)(pts:Tx)(ops:Tl)(a b:Oper):Bool:=
 match au N pts a,au N pts b with
 |some m,some n=>rowOk m n&&bv a.dst (bj ops b)&&bv b.dst (bj ops a)&&bi a.dst b.dst
 |_,_=>false
def pY{d:Tn}{l:Tx}(a:bv d l=true):∀t∈l,∀x,d=some x->x≠t:=by
 intro t c x e b;subst e b;simp only[bv,qb9,qcI,decide_eq_false_iff_not]at a;exact a c
def unseenR{a b:Oper}{m n:MC}{f rb:Rec}{J:Nat}(F:au N pts a=some m)(g:au N pts b=some n)(k:f.Ok C B N pts ops J a)(i:rowOk m n=true∨rowOk n m=true)(G:bv a.dst (bj ops b)=true)
  (E:∀p∈f.ws,p.1∉fpo pts (oval rb.σ.tmps) b) {τ:St}:qV N pts ops b rb.σ (f.on a τ)↔qV N pts ops b rb.σ τ:=by
 have o:∀t∈bj ops b,(f.on a τ).tmps[t]?=τ.tmps[t]?:=λt o=>by
  unfold Rec.on eV;exact sA λx j=>pY G t o x j
 have A:∀s w,au N pts b=some (.row s w)->(f.on a τ).loc[s]?=τ.loc[s]?:=λs w D=>by
  rw[oE];cases q:f.rw with
  |none=>rfl
  |some p=>
   have y:=k.row p q;rw[F]at y;rw[g]at D;cases y;cases D;have:p.1≠s:=by
    intro H;subst H;rcases i with h|h<;>simp[rowOk]at h
   show(τ.loc.set p.1 p.2)[s]?=_;rw[qaD this]
 have z:∀r∈fpo pts (oval rb.σ.tmps) b,(f.on a τ).heap[r]?=τ.heap[r]?:=λr d=>by
  rw[gg k.kp];exact kF λp I e=>E p I (e▸d)
 constructor
 ·rintro⟨u,l,v⟩;refine⟨λt h=>by rw[←o t h];exact u t h,?_,λr d x j c=>by rw[←z r d];exact v r d x j c⟩;rw[g]at l ⊢;cases n<;>first|trivial|(rename_i s w;exact(A s w g).symm.trans l)
 ·rintro⟨u,l,v⟩;refine⟨λt h=>by rw[o t h];exact u t h,?_,λr d x j c=>by rw[z r d];exact v r d x j c⟩;rw[g]at l ⊢;cases n<;>first|trivial|(rename_i s w;exact(A s w g).trans l)
def swapR{a b:Oper}{c rb:Rec}{O P:Nat}(d:c.Ok C B N pts ops O a)(f:rb.Ok C B N pts ops P b)(i:stat2 N pts ops a b=true)
  (L:∀p∈c.ws,p.1∉fpo pts (oval rb.σ.tmps) b) (M:∀p∈rb.ws,p.1∉fpo pts (oval c.σ.tmps) a) (r:∀p∈c.ws,∀q∈rb.ws,p.1≠q.1) {τ:St} (J:c.sees N pts ops a τ) (K:rb.sees N pts ops b (c.on a τ)) :
  rb.sees N pts ops b τ/\c.sees N pts ops a (rb.on b τ)/\rb.on b (c.on a τ)=c.on a (rb.on b τ):=by
 unfold stat2 at i;split at i
 case h_2=>cases i
 rename_i m n z A
 simp only[qaa]at i;obtain⟨⟨⟨t,c2⟩,c3⟩,c4⟩:=i;have R:=unseenR (rb:=rb) z A d (.inl t) c2 L (τ:=τ);have Q:=unseenR (rb:=c) A z f (.inr t) c3 M (τ:=τ);refine⟨⟨R.1 K.1,λk h=>?_⟩,⟨Q.2 J.1,λk h=>?_⟩,?_⟩
 ·have j:=K.2 k h;have w:∃p,rb.e.push=some p:=by
   cases l:rb.e.push with
   |none=>rw[f.kp.2 l]at h;cases h
   |some p=>exact⟨p,rfl⟩
  obtain⟨p,l⟩:=w;have g:(k,p.1)∈rb.ws:=by simp[Rec.ws,Rec.slot,h,l]
  rw[gg d.kp,eD,←iP (λq o s i e=>r q o s (qaW _ i) e),kF (λq o e=>r q o _ g e)]at j;rw[eD];exact j
 ·have j:=J.2 k h;have v:∃p,c.e.push=some p:=by
   cases l:c.e.push with
   |none=>rw[d.kp.2 l]at h;cases h
   |some p=>exact⟨p,rfl⟩
  obtain⟨p,l⟩:=v;have g:(k,p.1)∈c.ws:=by simp[Rec.ws,Rec.slot,h,l]
  rw[gg f.kp,eD,iP (λq o s i e=>r q (qaW _ o) s i e),kF (λq o e=>r _ g q o e.symm)];rw[eD]at j;exact j
 ·have j:(rb.on b (c.on a τ)).tmps=(c.on a (rb.on b τ)).tmps:=by
   rw[mX f.kp,mX d.kp,mX d.kp,mX f.kp];cases D:a.dst with
   |none=>rfl
   |some x=>
    cases E:b.dst with
    |none=>rfl
    |some y=>
     rw[D,E]at c4;have:x≠y:=by
      intro u;subst u;simp[bi]at c4
     exact set_comm _ _ _ this
  have H:(rb.on b (c.on a τ)).loc=(c.on a (rb.on b τ)).loc:=by
   rw[oE,oE,oE,oE];cases D:c.rw with
   |none=>rfl
   |some p=>
    cases E:rb.rw with
    |none=>rfl
    |some q=>
     have F:=d.row p D;have G:=f.row q E;rw[z]at F;rw[A]at G;cases F;cases G;have:p.1≠q.1:=by
      intro u;rw[u]at t;simp[rowOk]at t
     exact set_comm _ _ _ this
  have I:(rb.on b (c.on a τ)).heap=(c.on a (rb.on b τ)).heap:=by
   rw[gg f.kp,gg d.kp,gg d.kp,gg f.kp];exact(iP r).symm
  generalize rb.on b (c.on a τ)=x at *;generalize c.on a (rb.on b τ)=y at *;cases x;cases y;simp only at j H I;subst j;subst H;subst I;rfl
end
end Sx
namespace Sx
section
variable [Val] {C:Cfg} {B:Below} {N:Tb} {pts:Tx} {ops:Tl}
def St.padTo(σ:St)(m:Nat):St:=σ.pad (m - σ.heap.length)
def recS(N:Tb)(pts:Tx)(ops:Tl)(a:Nat->Rec)(i:Nat)(τ τ':St):Prop:=∃o,ops[i]?=some o/\(a i).sees N pts ops o τ/\τ'=(a i).on o τ
def kE{D:Tp}:∀ {a:List (Nat×HObj)} {H:Tp},(∀p∈a,p.1<H.length)->eF a (H++D)=eF a H++D
 | [],H,_=>rfl
 |p :: a,H,h=>by
  show eF a ((H++D).set p.1 p.2)=eF a (H.set p.1 p.2)++D;rw[qdg _ _ (h p (by simp)),kE λq b=>by
   have:=h q (qav _ b);simpa using this]
structure RunOk(C:Cfg)(B:Below)(N:Tb)(pts:Tx)(ops:Tl)(l:Tx)(σ σ':St)(rc:Nat->Rec):Prop where
 len:σ.heap.length<=σ'.heap.length
 ok:∀i∈l,∀o,ops[i]?=some o->(rc i).Ok C B N pts ops i o
 slot:∀i∈l,∀k,(rc i).k=some k->σ.heap.length<=k/\k<σ'.heap.length
 inj:∀i∈l,∀j∈l,∀k,(rc i).k=some k->(rc j).k=some k->i=j
 keep:∀t,(∀j∈l,∀o,ops[j]?=some o->o.dst≠some t)->σ'.tmps[t]?=σ.tmps[t]?
 args:∀i∈l,∀t,(∀j∈l,i<=j->∀o,ops[j]?=some o->o.dst≠some t)->σ'.tmps[t]?=(rc i).σ.tmps[t]?
 res:∀i∈l,∀o d v,ops[i]?=some o->o.dst=some d->(∀j∈l,i<j->∀o,ops[j]?=some o->o.dst≠some d)->σ'.tmps[d]?=some v->v=(rc i).val
 run:∀m,σ'.heap.length<=m->runR (recS N pts ops rc) l (St.padTo σ m) (St.padTo σ' m)
def effOn_len{dst:Tn}{e:HEff}{rw:Option (Nat×Option (Tk))}{σ:St}:(eV dst e rw none σ).heap.length=σ.heap.length+(match e.push with|some _=>1|none=>0):=by
 unfold eV;rw[kr];simp only[HEff.heap,HEff.put];cases e.push<;>cases e.set<;>simp
def kV{dst:Tn}{e:HEff}{rw:Option (Nat×Option (Tk))}{k:To}{σ:St}:(eV dst e rw k σ).tmps=(match dst with|some d=>σ.tmps.set d (match k with|none=>e.val σ.heap.length|some k=>e.val k)|none=>σ.tmps):=by
 unfold eV;rw[sF]
 all_goals (cases dst<;>rfl)
def rec_one(G:NeuB N B){i:Nat}{o:Oper}(J:ops[i]?=some o)(H:okS N pts o=true){σ σ₁:St}(L:ak C B pts ops i σ σ₁) :
  ∃r:Rec,r.σ=σ/\r.Ok C B N pts ops i o/\σ.heap.length<=σ₁.heap.length/\(∀k,r.k=some k->k=σ.heap.length/\k<σ₁.heap.length)/\
   (∀t,o.dst≠some t->σ₁.tmps[t]?=σ.tmps[t]?)/\(∀d v,o.dst=some d->σ₁.tmps[d]?=some v->v=r.val)/\
   ∀m,σ₁.heap.length<=m->r.sees N pts ops o (St.padTo σ m)/\St.padTo σ₁ m=r.on o (St.padTo σ m):=by
 obtain⟨e,rw,g,E,F,z,A,D⟩:=local_okS (N:=N) G J H L;have b:σ₁.heap.length=σ.heap.length+(match e.push with|some _=>1|none=>0):=by rw[g];exact effOn_len
 refine⟨⟨σ,e,rw,match e.push with|some _=>some σ.heap.length|none=>none⟩,rfl,⟨E,λp a=>(z p a).1,?_,λp a=>⟨(A p a).2.1,F (by rw[show e.push=some p from a];simp),(A p a).1⟩,?_⟩,by omega,?_,?_,?_,?_⟩
 ·cases a:e.push<;>simp
 ·intro τ hτ sl hsl;unfold Rec.on;simp only at hsl ⊢;cases a:e.push with
  |none=>
   rw[a]at hsl;exact(D τ hτ.1 sl).1 a hsl
  |some p=>
   rw[a]at hsl;refine(D τ hτ.1 sl).2 p _ a hsl (hτ.2 _ ?_);simp only[a]
 ·intro k c;simp only at c;cases a:e.push with
  |none=>rw[a]at c;cases c
  |some p=>
   rw[a]at c b;cases c;exact⟨rfl,by simp only at b;omega⟩
 ·intro t M;rw[g];unfold eV;exact sA λx l e=>M (by rw[l,e])
 ·intro d v I j;rw[g,kV,I]at j;simp only[qa2]at j;split at j
  ·split at j
   ·cases j;unfold Rec.val;simp only[HEff.val];cases a:e.push<;>rfl
   ·cases j
  next s=>exact absurd trivial s
 ·intro m Q;have q:(St.padTo σ m).heap=σ.heap++List.replicate (m - σ.heap.length) .dead:=rfl;have f:∀p∈e.set.toList,p.1<σ.heap.length:=λp a=>by
   obtain⟨_,x,l,_⟩:=z p (by simpa using a);exact(qbg.1 l).1
  refine⟨⟨⟨λt _=>rfl,?_,λr _ x l _=>?_⟩,λk c=>?_⟩,?_⟩
  ·cases au N pts o with
   |none=>trivial
   |some O=>cases O<;>first|trivial|rfl
  ·rw[q,qam (qbg.1 l).1];exact l
  ·simp only at c;cases a:e.push with
   |none=>rw[a]at c;cases c
   |some p=>
    rw[a]at c b;cases c;simp only at b ⊢;rw[eD,q,kE f,qaw (by rw[fm];exact qaj _),fm,qb6,qa7,qd0 (by omega)]
  · -- the same state
   have u:(St.padTo σ₁ m).tmps=((⟨σ,e,rw,match e.push with|some _=>some σ.heap.length|none=>none⟩ : Rec).on o (St.padTo σ m)).tmps:=by
    show σ₁.tmps=_;unfold Rec.on;rw[g,kV,kV];show _=(match o.dst with|some d=>σ.tmps.set d _|none=>σ.tmps);cases o.dst with
    |none=>rfl
    |some d=>
     simp only[HEff.val];cases a:e.push<;>rfl
   have w:(St.padTo σ₁ m).loc=((⟨σ,e,rw,match e.push with|some _=>some σ.heap.length|none=>none⟩ : Rec).on o (St.padTo σ m)).loc:=by
    show σ₁.loc=_;unfold Rec.on;rw[g];unfold eV;rw[sE,sE];rfl
   have y:(St.padTo σ₁ m).heap=((⟨σ,e,rw,match e.push with|some _=>some σ.heap.length|none=>none⟩ : Rec).on o (St.padTo σ m)).heap:=by
    show σ₁.heap++List.replicate (m - σ₁.heap.length) .dead=_;unfold Rec.on;have n:σ₁.heap=e.heap σ.heap:=by rw[g];unfold eV;rw[kr]
    unfold eV;rw[kr,q];cases a:e.push with
    |none=>
     rw[a]at b;simp only[a,HEff.heap,eD]at n ⊢;rw[kE f,n];simp only[fm]
    |some p=>
     rw[a]at b;simp only at b;simp only[a,HEff.heap,eD]at n ⊢;rw[kE f,n];have K:m - σ.heap.length=(m - σ.heap.length - 1)+1:=by omega
     rw[K,qcw];rw[qbJ _ _ (by rw[fm];exact qaj _),fm,qb6,qcR];simp only[qai,qau,fm,qa0,qbI,qag,qaf];rw[show m - (σ.heap.length+(0+1))=m - σ.heap.length - 1 by omega]
   generalize P:(⟨σ,e,rw,match e.push with|some _=>some σ.heap.length|none=>none⟩ : Rec).on o (St.padTo σ m)=X at *;generalize St.padTo σ₁ m=Y at *;cases X;cases Y;simp only at u w y;subst u;subst w;subst y;rfl
def qI{S a:Nat->St->St->Prop}:∀ {l:Tx},(∀i∈l,∀σ σ',S i σ σ'->a i σ σ')->∀ {σ σ':St},runR S l σ σ'->runR a l σ σ'
 | [],_,_,_,h=>h
 |i :: l,b,σ,σ',⟨σ₁,h1,c⟩=>⟨σ₁,b i (by simp) _ _ h1,qI (λj d=>b j (qav _ d)) c⟩
def recs_of(I:NeuB N B):∀(l:Tx) (σ σ':St),l.Pairwise (· < ·)->(∀i∈l,∃o,ops[i]?=some o/\okS N pts o=true)->bL C B pts ops l σ σ'->∃D:Nat->Rec,RunOk C B N pts ops l σ σ' D
 | [],σ,σ',_,_,h=>by
  have:σ'=σ:=h;subst this;exact⟨λ_=>⟨σ',⟨none,none,undef⟩,none,none⟩,qaj _,λ_ h=>(by cases h),λ_ h=>(by cases h),λ_ h=>(by cases h),λ_ _=>rfl,λ_ h=>(by cases h),λ_ h=>(by cases h),λ_ _=>rfl⟩
 |i :: l,σ,σ',A,z,⟨σ₁,O,P⟩=>by
  obtain⟨o,u,Q⟩:=z i (by simp);obtain⟨r,rfl,T,U,F,M,V,W⟩:=rec_one I u Q O;rw[qbb]at A;obtain⟨D,R⟩:=recs_of I l σ₁ σ' A.2 (λj a=>z j (qav _ a)) P;have E:∀j∈l,j≠i:=λj a e=>by have:=A.1 j a;omega
  have c:∀j∈l,(if j=i then r else D j)=D j:=λj a=>qd1 (E j a);refine⟨λj=>if j=i then r else D j,qbN U R.len,?_,?_,?_,?_,?_,?_,?_⟩
  ·intro j a s g;rcases qax.1 a with rfl|a
   ·simp only[if_true];rw[u]at g;cases g;exact T
   ·simp only[c j a];exact R.ok j a s g
  ·intro j a k p;rcases qax.1 a with rfl|a
   ·simp only[if_true]at p;obtain⟨G,H⟩:=F k p;have:=R.len;omega
   ·simp only[c j a]at p;have:=R.slot j a k p;omega
  ·intro j a f b k p n;rcases qax.1 a with q1|q1<;>rcases qax.1 b with q|q
   ·rw[q1,q]
   ·simp only[q1,if_true]at p;simp only[c f q]at n;have G:=F k p;have H:=R.slot f q k n;omega
   ·simp only[q,if_true]at n;simp only[c j q1]at p;have G:=F k n;have H:=R.slot j q1 k p;omega
   ·simp only[c j q1]at p;simp only[c f q]at n;exact R.inj j q1 f q k p n
  ·intro t w;rw[R.keep t λj a=>w j (qav _ a)];exact M t (w i (by simp) o u)
  ·intro j a t w;rcases qax.1 a with rfl|a
   ·simp only[if_true];have x:∀f∈l,∀s,ops[f]?=some s->s.dst≠some t:=λf b=>w f (qav _ b) (Nat.le_of_lt (A.1 f b));rw[R.keep t x];exact M t (w j (by simp) (qaj _) o u)
   ·simp only[c j a];exact R.args j a t λf b=>w f (qav _ b)
  ·intro j a s d v g J y L;rcases qax.1 a with rfl|a
   ·simp only[if_true];rw[u]at g;cases g;refine V d v J ?_;rw[←R.keep d λf b=>y f (qav _ b) (A.1 f b)];exact L
   ·simp only[c j a];exact R.res j a s d v g J (λf b=>y f (qav _ b)) L
  ·intro m K;obtain⟨X,Y⟩:=W m (qbN R.len K);refine⟨St.padTo σ₁ m,⟨o,u,?_,?_⟩,?_⟩
   ·simp only[if_true];exact X
   ·simp only[if_true];exact Y
   ·refine qI (λj a τ τ' h=>?_) (R.run m K);obtain⟨s,q1,q,S⟩:=h;exact⟨s,q1,by simp only[c j a];exact q,by simp only[c j a];exact S⟩
end
end Sx
namespace Sx
section
variable [Val] {C:Cfg} {B:Below} {N:Tb} {pts:Tx} {ops:Tl}
def sees_refl(o:Oper)(σ:St):Sees N pts ops o σ σ:=by
 refine⟨λ_ _=>rfl,?_⟩;cases au N pts o with
 |none=>trivial
 |some m=>cases m<;>first|trivial|rfl
def sees_symm{o:Oper}{σ τ:St}(h:Sees N pts ops o σ τ):Sees N pts ops o τ σ:=by
 refine⟨λt b=>(h.1 t b).symm,?_⟩;have h:=h.2;cases a:au N pts o with
 |none=>trivial
 |some m=>rw[a]at h;cases m<;>first|trivial|exact h.symm
def fP{o:Oper}{σ τ ρ:St}(h:Sees N pts ops o σ τ)(h':Sees N pts ops o τ ρ):Sees N pts ops o σ ρ:=by
 refine⟨λt a=>(h'.1 t a).trans (h.1 t a),?_⟩;have h:=h.2;have h':=h'.2;cases b:au N pts o with
 |none=>trivial
 |some m=>rw[b]at h h';cases m<;>first|trivial|exact h'.trans h
structure Loc(C:Cfg)(B:Below)(N:Tb)(pts:Tx)(ops:Tl)(j:Nat)(b:Oper)(f:Ef)(τ τ':St):Prop where
 is:τ'=f.on b.dst τ
 tc:th (au N pts b) f
 st:∀ρ,Sees N pts ops b τ ρ->ak C B pts ops j ρ (f.on b.dst ρ)
def tG(N:Tb)(pts:Tx)(ops:Tl)(a b:Oper):Bool:=
 match au N pts a,au N pts b with
 |some m,some n=>m.ok2 n&&bv a.dst (bj ops b)&&bv b.dst (bj ops a)&&bi a.dst b.dst
 |_,_=>false
def swap_loc{i j:Nat}{a b:Oper}{e f:Ef}(d:tG N pts ops a b=true){τ τ₁ τ':St}(h1:Loc C B N pts ops i a e τ τ₁)(c:Loc C B N pts ops j b f τ₁ τ') :
  Loc C B N pts ops j b f τ (f.on b.dst τ)/\Loc C B N pts ops i a e (f.on b.dst τ) τ'/\Sees N pts ops b τ₁ τ:=by
 unfold tG at d;split at d
 next m n k l=>
  simp only[qaa]at d;obtain⟨⟨⟨g,c2⟩,c3⟩,c4⟩:=d;have o:Sees N pts ops b τ₁ τ:=by
   rw[h1.is];exact sees_symm (yq k l (.inl g) c2 h1.tc τ)
  have p:Sees N pts ops a τ (f.on b.dst τ):=yq l k (.inr g) c3 c.tc τ;refine⟨⟨rfl,c.tc,λρ hρ=>c.st ρ (fP o hρ)⟩,⟨?_,h1.tc,λρ hρ=>h1.st ρ (fP p hρ)⟩,o⟩;rw[c.is,h1.is];exact on_comm k l g c4 h1.tc c.tc τ
 ·cases d
def reOk(N:Tb)(pts:Tx)(ops:Tl)(a b:Oper):Bool:=
 (match au N pts a with
 |some .hr=>true
 |_=>false)&&((match au N pts b with
 |some .hw=>true
 |_=>false)&&(bv a.dst (bj ops b)&&(bv b.dst (bj ops a)&&(bv a.dst (bj ops a)&&bi a.dst b.dst))))
def kU{o:Oper}(b:au N pts o=some .hr){e:Ef}(a:th (au N pts o) e):e.rw=none/\e.hp=none:=by
 rw[b]at a;constructor
 ·cases h:e.rw with
  |none=>rfl
  |some p=>have:=a.1 p h;cases this
 ·cases h:e.hp with
  |none=>rfl
  |some p=>have:=a.2 (by rw[h];simp);cases this
def iz{e:Ef}{d:Tn}{σ:St}{t:Nat}(h:∀x,d=some x->x≠t):(e.on d σ).tmps[t]?=σ.tmps[t]?:=by
 unfold Ef.on;exact sA h
def bQ{d:Tn}{l:Tx}(h:bv d l=true){t:Nat}(a:t∈l):∀x,d=some x->x≠t:=by
 intro x b e;subst e;rw[b]at h;simp only[bv,qb9,qcI,decide_eq_false_iff_not]at h;exact h a
def swap_re{k i:Nat}{a b:Oper}{e f:Ef}(j:reOk N pts ops a b=true){τ τ₁ τ':St}(h1:Loc C B N pts ops k a e τ τ₁)(g:Loc C B N pts ops i b f τ₁ τ')(v:∀ρ,Sees N pts ops a τ' ρ->ak C B pts ops k ρ (e.on a.dst ρ)) :
  Loc C B N pts ops i b f τ (f.on b.dst τ)/\Loc C B N pts ops k a e (f.on b.dst τ) τ'/\Sees N pts ops a τ' (f.on b.dst τ):=by
 unfold reOk at j;simp only[qaa]at j;obtain⟨m,c2,c3,c4,c5,c6⟩:=j;have r:au N pts a=some .hr:=by
  split at m
  ·assumption
  ·cases m
 have z:au N pts b=some .hw:=by
  split at c2
  ·assumption
  ·cases c2
 obtain⟨u,n⟩:=kU r h1.tc;have c:∀σ:St,(e.on a.dst σ).heap=σ.heap:=λσ=>by rw[dV,n];rfl
 have D:Sees N pts ops b τ₁ τ:=by
  refine⟨λt l=>?_,?_⟩
  ·rw[h1.is];exact(iz (bQ c3 l)).symm
  ·rw[z];show τ.heap=τ₁.heap;rw[h1.is,c]
 have d:τ'=e.on a.dst (f.on b.dst τ):=by
  rw[g.is,h1.is];have o:(f.on b.dst (e.on a.dst τ)).tmps=(e.on a.dst (f.on b.dst τ)).tmps:=by
   simp only[sn];cases d:a.dst with
   |none=>rfl
   |some x=>
    cases A:b.dst with
    |none=>rfl
    |some y=>
     rw[d,A]at c6;have:x≠y:=by intro w;subst w;simp[bi]at c6
     exact set_comm _ _ _ this
  have p:(f.on b.dst (e.on a.dst τ)).loc=(e.on a.dst (f.on b.dst τ)).loc:=by
   simp only[xC,u]
  have q:(f.on b.dst (e.on a.dst τ)).heap=(e.on a.dst (f.on b.dst τ)).heap:=by
   simp only[dV,n,qdc]
  generalize f.on b.dst (e.on a.dst τ)=x at *;generalize e.on a.dst (f.on b.dst τ)=y at *;cases x;cases y;simp only at o p q;subst o;subst p;subst q;rfl
 have s:Sees N pts ops a τ' (f.on b.dst τ):=by
  rw[d];refine⟨λt l=>(iz (bQ c5 l)).symm,?_⟩;rw[r];exact(c _).symm
 exact⟨⟨rfl,g.tc,λρ hρ=>g.st ρ (fP D hρ)⟩,⟨d,h1.tc,λρ hρ=>v ρ (fP s hρ)⟩,s⟩
def rowX(q:Nat->Nat->Oper->Oper->Bool)(j:Nat)(b:Oper)(m:Nat):Tu->Nat->Bool
 | [],_=>true
 |a :: l,n=>(Nat.testBit m n||q n j a b)&&rowX q j b m l (n+1)
def pairX(q:Nat->Nat->Oper->Oper->Bool)(ms:Tx):Tu->Tu->Nat->Bool
 |_,[],_=>true
 |pre,b :: l,i=>rowX q i b (ms.getD i 0) pre 0&&pairX q ms (pre++[b]) l (i+1)
def rowX_ok{q:Nat->Nat->Oper->Oper->Bool}{i:Nat}{b:Oper}{m:Nat}:∀ {l:Tu} {k:Nat},rowX q i b m l k=true->∀(j:Nat) a,l[j]?=some a->m.testBit (k+j)=true∨q (k+j) i a b=true
 | [],k,_,j,a,h=>by simp at h
 |a :: l,k,h,j,c,d=>by
  simp only[rowX,qaa,qaS]at h;cases j with
  |zero=>simp at d;subst d;exact h.1
  |succ j=>
   have:=rowX_ok h.2 j c (by simpa using d)
   rwa [show k+1+j=k+(j+1)by omega]at this
def xI{q:Nat->Nat->Oper->Oper->Bool}{ms:Tx}:∀ {l pre:Tu} {i:Nat},pre.length=i->pairX q ms pre l i=true->∀(j:Nat) b,l[j]?=some b->∀(k:Nat) a,k<i+j->(pre++l)[k]?=some a->(ms.getD (i+j) 0).testBit k=true∨q k (i+j) a b=true
 | [],pre,i,_,_,j,b,h,_,_,_,_=>by simp at h
 |b :: l,pre,i,f,h,j,c,e,k,a,g,d=>by
  simp only[pairX,qaa]at h;cases j with
  |zero=>
   simp at e;subst e;rw[qam (by omega)]at d;have:=rowX_ok h.1 k a d;simpa using this
  |succ j=>
   have:=xI (pre:=pre++[b]) (i:=i+1) (by simp[f]) h.2 j c (by simpa using e) k a (by omega) (by simpa using d)
   rwa [show i+1+j=i+(j+1)by omega]at this
def loc_of(i:NeuB N B)(a:∀(j:Nat) b,ops[j]?=some b->au N pts b≠none){j:Nat}{b:Oper}(c:ops[j]?=some b){τ τ':St}(h:ak C B pts ops j τ τ'):∃f,Loc C B N pts ops j b f τ τ':=by
 obtain⟨f,d,e,g⟩:=iL i c (a j b c) h;exact⟨f,d,e,g⟩
def qy{S:Nat->St->St->Prop}(a:∀i σ σ',S i σ σ'->ak C B pts ops i σ σ'):∀ {l:Tx} {σ σ':St},runR S l σ σ'->bL C B pts ops l σ σ'
 | [],_,_,h=>h
 |_ :: _,_,_,⟨σ₁,h1,b⟩=>⟨σ₁,a _ _ _ h1,qy a b⟩
end
end Sx
namespace Sx
section
variable [Val] {C:Cfg} {B:Below} {N:Tb} {pts:Tx} {ops:Tl}
def zf{a b:Tn}(k:bi a b=true){e f:Ef}(j:e.rw=none)(c:e.hp=none)(τ:St):f.on b (e.on a τ)=e.on a (f.on b τ):=by
 have i:∀σ:St,(e.on a σ).heap=σ.heap:=λσ=>by rw[dV,c];rfl
 have d:(f.on b (e.on a τ)).tmps=(e.on a (f.on b τ)).tmps:=by
  simp only[sn];cases a with
  |none=>rfl
  |some x=>
   cases b with
   |none=>rfl
   |some y=>
    have:x≠y:=by intro l;subst l;simp[bi]at k
    exact set_comm _ _ _ this
 have g:(f.on b (e.on a τ)).loc=(e.on a (f.on b τ)).loc:=by
  simp only[xC,j]
 have h:(f.on b (e.on a τ)).heap=(e.on a (f.on b τ)).heap:=by
  simp only[dV,c,qdc]
 generalize f.on b (e.on a τ)=x at *;generalize e.on a (f.on b τ)=y at *;cases x;cases y;simp only at d g h;subst d;subst g;subst h;rfl
def we{a b:Oper}(c:reOk N pts ops a b=true):au N pts a=some .hr/\au N pts b=some .hw/\bv a.dst (bj ops b)=true/\bv b.dst (bj ops a)=true/\bv a.dst (bj ops a)=true/\bi a.dst b.dst=true:=by
 unfold reOk at c;simp only[qaa]at c;obtain⟨d,c2,c3,c4,c5,c6⟩:=c;have e:au N pts a=some .hr:=by
  split at d
  ·assumption
  ·cases d
 have f:au N pts b=some .hw:=by
  split at c2
  ·assumption
  ·cases c2
 exact⟨e,f,c3,c4,c5,c6⟩
def swap_er{k i:Nat}{a b:Oper}{e f:Ef}(l:reOk N pts ops b a=true){τ τ₁ τ':St}(h1:Loc C B N pts ops k a e τ τ₁)(c:Loc C B N pts ops i b f τ₁ τ')(j:∀ρ,Sees N pts ops b τ ρ->ak C B pts ops i ρ (f.on b.dst ρ)) :
  Loc C B N pts ops i b f τ (f.on b.dst τ)/\Loc C B N pts ops k a e (f.on b.dst τ) τ':=by
 obtain⟨m,n,c3,c4,c5,c6⟩:=we l;obtain⟨g,d⟩:=kU m c.tc;refine⟨⟨rfl,c.tc,j⟩,⟨?_,h1.tc,λρ hρ=>h1.st ρ (fP ⟨λt o=>iz (bQ c3 o),?_⟩ hρ)⟩⟩
 ·rw[c.is,h1.is];exact(zf c6 g d τ).symm
 ·rw[n];show(f.on b.dst τ).heap=τ.heap;rw[dV,d];rfl
def memPr(k i:Nat):List (Nat×Nat)->Bool
 | []=>false
 |p :: l=>match Nat.beq p.1 k,Nat.beq p.2 i with
  |true,true=>true
  |_,_=>memPr k i l
def sd{k i:Nat}:∀ {l:List (Nat×Nat)},memPr k i l=true->(k,i)∈l
 | [],h=>by cases h
 |p :: l,h=>by
  unfold memPr at h;split at h
  next h1 a=>
   rw[←qad h1,←qad a];exact qaN
  ·exact qav _ (sd h)
def manQ(N:Tb)(pts:Tx)(ops:Tl)(c:List (Nat×Nat))(n j:Nat)(a b:Oper):Bool:=
 tG N pts ops a b||((reOk N pts ops a b&&memPr n j c)||(reOk N pts ops b a&&memPr j n c))
def ssaM(ops:Tl):Tu->Bool
 | []=>true
 |b :: l=>bv b.dst (bj ops b)&&((l.all λa=>bv a.dst (bj ops b)&&bi a.dst b.dst)&&ssaM ops l)
def xh(N:Tb)(pts:Tx)(ops:Tl)(a:List (Nat×Nat)):Bool:=
 fF ops.toList 0&&(ops.toList.all (λo=>(au N pts o).isSome)&&(ssaM ops ops.toList&&pairX (manQ N pts ops a) (ancs ops.toList []) [] ops.toList 0))
def wu:∀ {l:Tu},ssaM ops l=true->∀(j:Nat) b,l[j]?=some b->∀(n:Nat) a,l[n]?=some a->(j<=n->bv a.dst (bj ops b)=true)/\(j<n->bi a.dst b.dst=true)
 | [],_,j,b,h,_,_,_=>by simp at h
 |c :: l,h,j,b,e,n,a,d=>by
  simp only[ssaM,qaa,qac]at h;obtain⟨h1,f,g⟩:=h;cases j with
  |zero=>
   simp at e;subst e;cases n with
   |zero=>simp at d;subst d;exact⟨λ_=>h1,λh=>absurd h (by omega)⟩
   |succ n=>
    have:=f a (qab (by simpa using d));exact⟨λ_=>this.1,λ_=>this.2⟩
  |succ j=>
   cases n with
   |zero=>exact⟨λh=>absurd h (by omega),λh=>absurd h (by omega)⟩
   |succ n=>
    have:=wu g j b (by simpa using e) n a (by simpa using d);exact⟨λh=>this.1 (by omega),λh=>this.2 (by omega)⟩
def tr_st{σ':St}:∀(m i:Nat) (τ:St) (b:List (Tp)),opsTr C B pts ops (List.range' i m) τ b σ'->
  ∃st:Nat->St,st i=τ/\st (i+m)=σ'/\(∀j,i<=j->j<i+m->ak C B pts ops j (st j) (st (j+1)))/\∀j,j<m->b[j]?=some (st (i+j+1)).heap
 |0,i,τ,b,h=>by
  obtain⟨_,rfl⟩:=h;exact⟨λ_=>σ',rfl,rfl,λj _ _=>absurd (show j<i+0 by assumption) (by omega),λj d=>absurd d (by omega)⟩
 |m+1,i,τ,b,h=>by
  rw[qc9]at h;obtain⟨σ₁,c,g,e,l⟩:=h;subst e;obtain⟨st,f,o,p,q⟩:=tr_st m (i+1) σ₁ c l;refine⟨λj=>if j=i then τ else st j,by simp,?_,λj k n=>?_,λj d=>?_⟩
  ·show(if i+(m+1)=i then τ else st (i+(m+1)))=σ';rw[qd1 (by omega),show i+(m+1)=i+1+m by omega];exact o
  ·show ak C B pts ops j (if j=i then τ else st j) (if j+1=i then τ else st (j+1));rw[qd1 (show ¬j+1=i by omega)];by_cases a:j=i
   ·subst a;rw[qd0 rfl,f];exact g
   ·rw[qd1 a];exact p j (by omega) (by omega)
  ·show _=some (if i+j+1=i then τ else st (i+j+1)).heap;rw[qd1 (by omega)];cases j with
   |zero=>rw[show i+0+1=i+1 by omega,f];rfl
   |succ j=>
    rw[qa6,q j (by omega)];rw[show i+1+j+1=i+(j+1)+1 by omega]
def manS(C:Cfg)(B:Below)(N:Tb)(pts:Tx)(ops:Tl)(e:Nat->Ef)(st:Nat->St)(σ':St)(j:Nat)(τ τ':St):Prop:=
 ∃b,ops[j]?=some b/\Loc C B N pts ops j b (e j) τ τ'/\(∀t∈bj ops b,τ.tmps[t]?=σ'.tmps[t]?)/\(au N pts b=some .hw->τ.heap=(st j).heap/\τ'.heap=(st (j+1)).heap)
def hp_none{o:Oper}{e:Ef}(b:th (au N pts o) e)(a:au N pts o≠some .hw):e.hp=none:=by
 cases h:e.hp with
 |none=>rfl
 |some p=>exact absurd (b.2 (by rw[h];simp)) a
def wK{a b:Oper}(c:tG N pts ops a b=true):au N pts a≠some .hw∨au N pts b≠some .hw:=by
 unfold tG at c;split at c
 next m n f g=>
  simp only[qaa]at c;by_cases d:au N pts a=some .hw
  ·by_cases e:au N pts b=some .hw
   ·rw[d]at f;rw[e]at g;cases f;cases g;exact absurd c.1.1.1 (by decide)
   ·exact .inr e
  ·exact .inl d
 ·cases c
def yE{a b:Oper}(c:tG N pts ops a b=true):bv b.dst (bj ops a)=true:=by
 unfold tG at c;split at c
 ·simp only[qaa]at c;exact c.1.2
 ·cases c
def man_pair{P:List (Nat×Nat)}{e:Nat->Ef}{st:Nat->St}{σ':St}(M:∀k i,(k,i)∈P->i<ops.size->∀a,ops[k]?=some a->au N pts a=some .hr->∀ρ,Sees N pts ops a { σ' with heap:=(if k<=i then(st (i+1)).heap else(st i).heap) } ρ->ak C B pts ops k ρ ((e k).on a.dst ρ))
  (Q:pairX (manQ N pts ops P) (ancs ops.toList []) [] ops.toList 0=true) (j n:Nat) (O:j<ops.size) (S:n<j) :
  Anc ops n j∨∀τ τ₁ τ':St,manS C B N pts ops e st σ' n τ τ₁->manS C B N pts ops e st σ' j τ₁ τ'->∃ρ,manS C B N pts ops e st σ' j τ ρ/\manS C B N pts ops e st σ' n ρ τ':=by
 have r:ops[j]?=some ops[j]:=by simp[O]
 have s:ops[n]?=some (ops[n]'(by omega)):=by simp[show n<ops.size by omega]
 generalize ops[j]=y at r;generalize ops[n]'(by omega)=x at s;have c:=xI (pre:=[]) (i:=0) rfl Q j y (by simpa using r) n x (by omega) (by simpa using s);rw[qaR]at c;rcases c with c|c
 ·exact .inl (re ops.toList [] rfl (λi k h=>by simp at h) j n c)
 right;rintro τ τ₁ τ' ⟨T,H,l,A,I⟩ ⟨U,J,u,D,K⟩;rw[s]at H;cases H;rw[r]at J;cases J;unfold manQ at c;simp only[qaS,qaa]at c;have v:τ₁.heap=(e n).hp.getD τ.heap:=by rw[l.is,dV]
 have p:τ'.heap=(e j).hp.getD τ₁.heap:=by rw[u.is,dV]
 have q:((e j).on y.dst τ).heap=(e j).hp.getD τ.heap:=dV;rcases c with c|⟨c,E⟩|⟨c,E⟩
 ·obtain⟨w,z,R⟩:=swap_loc c l u;refine⟨_,⟨y,r,w,λt b=>(R.1 t b).trans (D t b),λg=>?_⟩,x,s,z,λt b=>(iz (bQ (yE c) b)).trans (A t b),λg=>?_⟩
  ·have F:au N pts x≠some .hw:=(wK c).resolve_right λh=>h g;rw[hp_none l.tc F]at v;obtain⟨m,o⟩:=K g;rw[q,←show τ₁.heap=τ.heap from v,←p];exact⟨m,o⟩
  ·have G:au N pts y≠some .hw:=(wK c).resolve_left λh=>h g;rw[hp_none u.tc G]at p q;obtain⟨m,o⟩:=I g;exact⟨(show _=τ.heap from q).trans m,(show _=τ₁.heap from p).trans o⟩
 ·obtain⟨d,c2,c3,c4,c5,c6⟩:=we c;obtain⟨m,o⟩:=K c2;have F:(e n).hp=none:=(kU d l.tc).2;rw[F]at v;have v:τ₁.heap=τ.heap:=v;have f:∀ρ,Sees N pts ops x τ' ρ->Sees N pts ops x { σ' with heap:=(if n<=j then(st (j+1)).heap else(st j).heap) } ρ:=by
   intro ρ hρ;refine⟨λt b=>?_,?_⟩
   ·rw[hρ.1 t b,u.is,iz (bQ c4 b),l.is,iz (bQ c5 b)];exact A t b
   ·rw[d];show ρ.heap=if n<=j then(st (j+1)).heap else(st j).heap
    rw[qd0 (by omega),←o];have:=hρ.2;rw[d]at this;exact this
  obtain⟨w,z,_⟩:=swap_re c l u λρ hρ=>M n j (sd E) O x s d ρ (f ρ hρ);refine⟨_,⟨y,r,w,λt b=>?_,λ_=>?_⟩,x,s,z,λt b=>(iz (bQ c4 b)).trans (A t b),λg=>?_⟩
  ·rw[←D t b,l.is];exact(iz (bQ c3 b)).symm
  ·rw[q,←v,←p];exact⟨m,o⟩
  ·rw[d]at g;cases g
 ·obtain⟨d,c2,c3,c4,c5,c6⟩:=we c;obtain⟨m,o⟩:=I c2;have G:(e j).hp=none:=(kU d u.tc).2;rw[G]at p q;have p:τ'.heap=τ₁.heap:=p;have q:((e j).on y.dst τ).heap=τ.heap:=q;have L:∀t∈bj ops y,τ.tmps[t]?=σ'.tmps[t]?:=λt b=>by
   rw[←D t b,l.is];exact(iz (bQ c4 b)).symm
  have f:∀ρ,Sees N pts ops y τ ρ->Sees N pts ops y { σ' with heap:=(if j<=n then(st (n+1)).heap else(st n).heap) } ρ:=by
   intro ρ hρ;refine⟨λt b=>?_,?_⟩
   ·rw[hρ.1 t b];exact L t b
   ·rw[d];show ρ.heap=if j<=n then(st (n+1)).heap else(st n).heap
    rw[qd1 (by omega),←m];have:=hρ.2;rw[d]at this;exact this
  obtain⟨w,z⟩:=swap_er c l u λρ hρ=>M j n (sd E) (by omega) y r d ρ (f ρ hρ);refine⟨_,⟨y,r,w,L,λg=>?_⟩,x,s,z,λt b=>(iz (bQ c3 b)).trans (A t b),λ_=>?_⟩
  ·rw[d]at g;cases g
  ·rw[q,p];exact⟨m,o⟩
def st_keep(e:NeuB N B)(a:∀(j:Nat) b,ops[j]?=some b->au N pts b≠none){st:Nat->St}{t i:Nat}:∀(m:Nat),(∀j,i<=j->j<i+m->ak C B pts ops j (st j) (st (j+1))/\∀b,ops[j]?=some b->∀x,b.dst=some x->x≠t)->(st (i+m)).tmps[t]?=(st i).tmps[t]?
 |0,_=>rfl
 |m+1,h=>by
  obtain⟨h1,g⟩:=h (i+m) (by omega) (by omega);rw[←st_keep e a m λj c k=>h j c (by omega),show i+(m+1)=i+m+1 by omega];cases d:ops[i+m]? with
  |none=>
   have:st (i+m+1)=st (i+m):=by simpa[ak,d]using h1
   rw[this]
  |some b=>
   obtain⟨f,c⟩:=loc_of e a d h1;rw[c.is];exact iz (g b d)
def run_st{S:Nat->St->St->Prop}{st:Nat->St}:∀(m i:Nat),(∀j,i<=j->j<i+m->S j (st j) (st (j+1)))->runR S (List.range' i m) (st i) (st (i+m))
 |0,i,_=>rfl
 |m+1,i,h=>by
  rw[qc9];refine⟨st (i+1),h i (by omega) (by omega),?_⟩;have:=run_st m (i+1) λj a b=>h j (by omega) (by omega)
  rwa [show i+1+m=i+(m+1)by omega]at this
def any_man(Q:NeuB N B){ps:List (Nat×Nat)}(p:xh N pts ops ps=true){σ σ':St}{E:List (Tp)}(h1:opsTr C B pts ops (List.range ops.size) σ E σ')(h2:AgainAt C B pts ops σ E σ' ps):ep C B pts ops σ σ':=by
 unfold xh at p;simp only[qaa]at p;obtain⟨g1,g2,g3,g4⟩:=p;have l:∀(j:Nat) b,ops[j]?=some b->au N pts b≠none:=by
  intro j b c A;have Y:b∈ops.toList:=by have:=qc1 c;simpa using this
  have:=qac.1 g2 b Y;rw[A]at this;cases this
 have r:∀ {i:Nat} {o:Oper},ops[i]?=some o->i<ops.size:=λs=>(qaO.1 s).1;rw[qb3]at h1;obtain⟨st,s1,s2,O,P⟩:=tr_st ops.size 0 σ E h1;rw[qaR]at s2;have O:∀j,j<ops.size->ak C B pts ops j (st j) (st (j+1)):=λj c=>O j (by omega) (by omega);have P:∀j,j<ops.size->E[j]?=some (st (j+1)).heap:=λj c=>by have:=P j c;rwa [qaR]at this
 have T:∀j,∃f,∀b,ops[j]?=some b->Loc C B N pts ops j b f (st j) (st (j+1)):=by
  intro j;cases c:ops[j]? with
  |none=>exact⟨⟨.nilFunc,none,none⟩,λb h=>by cases h⟩
  |some b=>
   obtain⟨f,U⟩:=loc_of Q l c (O j (r c));exact⟨f,λb' h=>by cases h;exact U⟩
 obtain⟨e,A⟩:=Classical.axiomOfChoice T;have m:∀(j:Nat) (t:Nat),j<=ops.size->(∀n,j<=n->∀a,ops[n]?=some a->∀x,a.dst=some x->x≠t)->σ'.tmps[t]?=(st j).tmps[t]?:=by
  intro j t c h;have:=st_keep (t:=t) (i:=j) Q l (ops.size - j) λn h3 h4=>⟨O n (by omega),h n h3⟩
  rwa [show j+(ops.size - j)=ops.size by omega,s2]at this
 have q:∀(j:Nat) b,ops[j]?=some b->∀t∈bj ops b,(st j).tmps[t]?=σ'.tmps[t]?:=by
  intro j b c t ht;refine(m j t (Nat.le_of_lt (r c)) λn K a u x L=>?_).symm;exact bQ ((wu g3 j b (by simpa using c) n a (by simpa using u)).1 K) ht x L
 have R:∀k i,i<ops.size->atM σ.heap E (k,i)=if k<=i then(st (i+1)).heap else(st i).heap:=by
  intro k i s;unfold atM;show List.getD (σ.heap :: E) (match Nat.ble k i with|true=>i+1|false=>i) σ.heap=_;by_cases D:k<=i
  ·rw[qal D,qd0 D,List.getD_eq_getElem?_getD,qa6,P i s];rfl
  ·rw[show Nat.ble k i=false by rw[←qaU];exact λh=>D (qc6 h),qd1 D,List.getD_eq_getElem?_getD];cases i with
   |zero=>rw[s1];rfl
   |succ i=>rw[qa6,P i (by omega)];rfl
 have U:∀k i,(k,i)∈ps->i<ops.size->∀a,ops[k]?=some a->au N pts a=some .hr->∀ρ,Sees N pts ops a { σ' with heap:=(if k<=i then(st (i+1)).heap else(st i).heap) } ρ->ak C B pts ops k ρ ((e k).on a.dst ρ):=by
  intro k i Y s a u hr;obtain⟨σ₂,M,o,d,x,I,J,q3,q4⟩:=h2 (k,i) Y;have I:ops[k]?=some o:=I;rw[u]at I;cases I;rw[R k i s]at M;obtain⟨g,V⟩:=loc_of Q l u M;have hl:=A k a u;obtain⟨f1,f2⟩:=kU hr V.tc;obtain⟨f3,f4⟩:=kU hr hl.tc;have W:g=e k:=by
   have D:σ'.tmps[d]?=(st (k+1)).tmps[d]?:=m (k+1) d (r u) λn K b v y hy=>by
    have:=(wu g3 k a (by simpa using u) n b (by simpa using v)).2 (by omega);intro h;subst h;rw[hy,J]at this;simp[bi]at this
   have F:(g.on a.dst { σ' with heap:=(if k<=i then(st (i+1)).heap else(st i).heap) }).tmps[d]?=some x:=by rw[←V.is];exact q4
   have G:((e k).on a.dst (st k)).tmps[d]?=some x:=by rw[←hl.is,←D];exact q3
   rw[sn,J]at F G;simp only[qa2]at F G;rw[qd0 trivial]at F G;split at F
   ·split at G
    ·generalize e k=z at *;cases g;cases z;simp only at *;cases F;cases G
     simp_all
    ·cases G
   ·cases F
  subst W;exact V.st
 have H:runR (manS C B N pts ops e st σ') (List.range ops.size) σ σ':=by
  rw[qb3];have:=run_st (S:=manS C B N pts ops e st σ') (st:=st) ops.size 0 λj _ c=>by
   rw[qaR]at c;have v:ops[j]?=some ops[j]:=by simp[c]
   exact⟨_,v,A j _ v,q j _ v,λ_=>⟨rfl,rfl⟩⟩
  rwa [qaR,s1,s2]at this
 have w:∀(i:Nat) o,ops[i]?=some o->∀e∈o.after.toList,Region.binds .any e=true->e.on<i:=by
  intro i o Z e A v;have:=fw g1 i o (by simpa using Z) e A v;omega
 have hz:unl ops.size (Array.replicate ops.size false)=List.range ops.size:=by
  unfold unl;rw[qdk];intro i s;rw[qae]at s;rw[qaE,qbS,qd0 s];rfl
 refine .inl λt=>?_;obtain⟨M,_,_⟩:=go_okR (S:=manS C B N pts ops e st σ') w (λj n c K=>man_pair U g4 j n c K) ops.size t (Array.replicate ops.size false) (by simp) (by rw[hz];simp) (λx o L Z=>by
  have X:x<ops.size:=r Z;rw[qaE,qbS,qd0 X]at L;cases L) σ σ' (by rw[hz];exact H)
 refine qy (λj τ τ' hS=>?_) M;obtain⟨b',I,J,_,_⟩:=hS;rw[J.is];exact J.st τ (sees_refl b' τ)
end
end Sx
namespace Sx
section
variable [Val] {C:Cfg} {B:Below} {N:Tb} {pts:Tx} {ops:Tl}
def xZ(q:Oper->Oper->Bool)(b:Oper)(m:Nat):Tu->Nat->Bool
 | [],_=>true
 |a :: l,k=>(Nat.testBit m k||q a b)&&xZ q b m l (k+1)
def sq(q:Oper->Oper->Bool)(ms:Tx):Tu->Tu->Nat->Bool
 |_,[],_=>true
 |pre,b :: l,i=>xZ q b (ms.getD i 0) pre 0&&sq q ms (pre++[b]) l (i+1)
def uJ{q:Oper->Oper->Bool}{b:Oper}{m:Nat}:∀ {l:Tu} {k:Nat},xZ q b m l k=true->∀(j:Nat) a,l[j]?=some a->m.testBit (k+j)=true∨q a b=true
 | [],k,_,j,a,h=>by simp at h
 |a :: l,k,h,j,c,d=>by
  simp only[xZ,qaa,qaS]at h;cases j with
  |zero=>simp at d;subst d;exact h.1
  |succ j=>
   have:=uJ h.2 j c (by simpa using d)
   rwa [show k+1+j=k+(j+1)by omega]at this
def qA{q:Oper->Oper->Bool}{ms:Tx}:∀ {l pre:Tu} {i:Nat},pre.length=i->sq q ms pre l i=true->∀(j:Nat) b,l[j]?=some b->∀(k:Nat) a,k<i+j->(pre++l)[k]?=some a->(ms.getD (i+j) 0).testBit k=true∨q a b=true
 | [],pre,i,_,_,j,b,h,_,_,_,_=>by simp at h
 |b :: l,pre,i,f,h,j,c,e,k,a,g,d=>by
  simp only[sq,qaa]at h;cases j with
  |zero=>
   simp at e;subst e;rw[qam (by omega)]at d;have:=uJ h.1 k a d;simpa using this
  |succ j=>
   have:=qA (pre:=pre++[b]) (i:=i+1) (by simp[f]) h.2 j c (by simpa using e) k a (by omega) (by simpa using d)
   rwa [show i+1+j=i+(j+1)by omega]at this
def tK{b:Oper}{m i:Nat}:∀ {l:Tu} {k:Nat} (j:Nat) a,l[j]?=some a->m.testBit (k+j)=false->conf pts a b=true->(k+j,i)∈tJ pts b m i l k
 | [],k,j,a,h,_,_=>by simp at h
 |a :: l,k,j,c,d,e,f=>by
  unfold tJ;cases j with
  |zero=>
   simp at d;subst d;simp only[qcM]at e ⊢;rw[e,f];simp
  |succ j=>
   have:=tK (i:=i) (k:=k+1) j c (by simpa using d) (by rwa [show k+1+j=k+(j+1)by omega]) f;rw[show k+1+j=k+(j+1)by omega]at this;split
   ·exact this
   ·exact qav _ this
def tI{ms:Tx}:∀ {l pre:Tu} {i:Nat},pre.length=i->∀(j:Nat) b,l[j]?=some b->∀(k:Nat) a,k<i+j->(pre++l)[k]?=some a->(ms.getD (i+j) 0).testBit k=false->conf pts a b=true->(k,i+j)∈wN pts ms pre l i
 | [],pre,i,_,j,b,h,_,_,_,_,_,_=>by simp at h
 |b :: l,pre,i,g,j,c,e,k,a,n,d,m,f=>by
  unfold wN;rw[qaz];cases j with
  |zero=>
   simp at e;subst e;rw[qam (by omega)]at d;have:=tK (pts:=pts) (i:=i) (k:=0) k a d (by simpa using m) f;left;simpa using this
  |succ j=>
   right;have:=tI (pre:=pre++[b]) (i:=i+1) (by simp[g]) j c (by simpa using e) k a (by omega) (by simpa using d) (by rwa [show i+1+j=i+(j+1)by omega]) f
   rwa [show i+1+j=i+(j+1)by omega]at this
def opT(pts:Tx)(o:Oper):Tx:=((dh pts o).1++eH pts o).filterMap λx=>match x with
 | .tmp t=>some t
 |_=>none
def ssaB(pts:Tx):Tu->Tu->Bool
 |_,[]=>true
 |pre,b :: l=>bv b.dst (opT pts b)&&(pre.all λa=>bv b.dst (opT pts a)&&bi a.dst b.dst)&&ssaB pts (pre++[b]) l
def wt:∀ {l pre:Tu},ssaB pts pre l=true->∀(j:Nat) b,l[j]?=some b->∀(k:Nat) a,(pre++l)[k]?=some a->(k<=pre.length+j->bv b.dst (opT pts a)=true)/\(k<pre.length+j->bi a.dst b.dst=true)
 | [],pre,_,j,b,h,_,_,_=>by simp at h
 |b :: l,pre,h,j,c,e,k,a,d=>by
  simp only[ssaB,qaa,qac]at h;obtain⟨⟨h1,i⟩,m⟩:=h;cases j with
  |zero=>
   simp at e;subst e;refine⟨λf=>?_,λf=>?_⟩
   ·rcases qaP k pre.length with g|n
    ·rw[qam g]at d;exact(i a (qab d)).1
    ·obtain rfl:k=pre.length:=by omega
     rw[qaw (qaj _),qb6]at d;simp at d;subst d;exact h1
   ·rw[qam (by omega)]at d;exact(i a (qab d)).2
  |succ j=>
   have:=wt m j c (by simpa using e) k a (by simpa using d);simp only[qau,qa0,qbI]at this;exact⟨λf=>this.1 (by omega),λf=>this.2 (by omega)⟩
def sepReg(N:Tb)(pts:Tx)(ops:Tl):Bool:=
 fF ops.toList 0&&(ops.toList.all (okS N pts)&&(ops.toList.any (dq pts)&&(ops.toList.all (λo=>!dq pts o||o.dst.isSome)&&(ssaB pts [] ops.toList&&sq (λa b=>stat2 N pts ops a b && !gW a b) (ancs ops.toList []) [] ops.toList 0))))
def xi(N:Tb)(pts:Tx)(ops:Tl)(j:Nat)(b:Oper)(m:Nat):Tu->Nat->List (Nat×Nat)
 | [],_=>[]
 |a :: l,n=>match Nat.testBit m n||tG N pts ops a b,reOk N pts ops a b with
  |true,_=>xi N pts ops j b m l (n+1)
  |false,true=>(n,j) :: xi N pts ops j b m l (n+1)
  |false,false=>(j,n) :: xi N pts ops j b m l (n+1)
def manAll(N:Tb)(pts:Tx)(ops:Tl)(ms:Tx):Tu->Tu->Nat->List (Nat×Nat)
 |_,[],_=>[]
 |pre,b :: l,i=>xi N pts ops i b (ms.getD i 0) pre 0++manAll N pts ops ms (pre++[b]) l (i+1)
def manI(N:Tb)(pts:Tx)(ops:Tl):Option (List (Nat×Nat)):=
 match xh N pts ops (manAll N pts ops (ancs ops.toList []) [] ops.toList 0)with
 |true=>some ((5000,0) :: manAll N pts ops (ancs ops.toList []) [] ops.toList 0)
 |false=>none
def drOf(N:Tb):Dr:=λpts ops=>match wO pts ops with
 | []=>match uH N pts ops with
  |true=>some []
  |false=>manI N pts ops
 |p :: a=>match manyOf (p :: a),splOf (p :: a),sepReg N pts ops with
  |none,none,true=>some (p :: a)
  |_,_,_=>none
def hcls0{o:Oper}(h:hCls pts o=0):(dh pts o).1=[]/\eH pts o=[]/\dq pts o=false:=by
 obtain⟨dst,k,i,pos,d,guard⟩:=o;cases k<;>simp only[hCls]at h<;>first|(exact⟨rfl,rfl,rfl⟩)|(exact absurd h (by decide))|skip
 case alloc t=>cases g:dq pts ⟨dst,.alloc t,i,pos,d,guard⟩with
  |true=>rw[g]at h;cases h
  |false=>exact⟨rfl,rfl,rfl⟩
 case box t x=>cases g:dq pts ⟨dst,.box t x,i,pos,d,guard⟩with
  |true=>rw[g]at h;cases h
  |false=>exact⟨rfl,rfl,rfl⟩
 case load t a=>
  split at h
  ·cases h
  next j=>
   refine⟨?_,rfl,rfl⟩;simp only[dh]
 case store t a x=>
  split at h
  ·cases h
  next j=>
   refine⟨?_,?_,rfl⟩
   ·simp only[dh]
   ·simp only[eH]
 case call c=>
  cases e:c.callee with
  |builtin b=>
   rw[e]at h;simp only[dh,eH,dq,e];cases b<;>first|(exact⟨rfl,rfl,rfl⟩)|(exact absurd h (by simp))
  |value f=>simp only[dh,eH,dq,e];exact⟨trivial,trivial,trivial⟩
  |invoke r m=>simp only[dh,eH,dq,e];exact⟨trivial,trivial,trivial⟩
def hcls1{o:Oper}(h:hCls pts o=1):eH pts o=[]/\dq pts o=false:=by
 obtain⟨dst,j,i,pos,d,guard⟩:=o;cases j<;>simp only[hCls]at h<;>first|(exact⟨rfl,rfl⟩)|(exact absurd h (by decide))|skip
 case alloc t=>cases g:dq pts ⟨dst,.alloc t,i,pos,d,guard⟩with
  |true=>rw[g]at h;cases h
  |false=>exact⟨rfl,rfl⟩
 case box t x=>cases g:dq pts ⟨dst,.box t x,i,pos,d,guard⟩with
  |true=>rw[g]at h;cases h
  |false=>exact⟨rfl,rfl⟩
 case store t a x=>split at h<;>cases h
 case call c=>
  cases e:c.callee with
  |builtin b=>
   rw[e]at h;simp only[eH,dq,e];cases b<;>first|(exact⟨rfl,rfl⟩)|(exact absurd h (by simp))
  |value f=>simp only[eH,dq,e];exact⟨trivial,trivial⟩
  |invoke r m=>simp only[eH,dq,e];exact⟨trivial,trivial⟩
def rQ(o:Oper):hCls pts o=0∨hCls pts o=1∨hCls pts o=2:=by
 obtain⟨dst,d,e,pos,b,guard⟩:=o;cases d<;>simp only[hCls]<;>first|(exact .inl trivial)|(exact .inr (.inl trivial))|(exact .inr (.inr trivial))|skip
 case alloc t=>split<;>simp
 case box t x=>split<;>simp
 case load t a=>split<;>simp
 case store t a x=>split<;>simp
 case call c=>split<;>first|(split<;>simp)|simp
end
end Sx
namespace Sx
section
variable [Val] {C:Cfg} {B:Below} {N:Tb} {pts:Tx} {ops:Tl}
def fresh_adr{mk:Nat->Value}(h:Fresh mk)(k:Nat):adr (mk k)=[k]:=by
 cases h<;>simp[adr,tag]
def yf{S:Nat->St->St->Prop}{c:Nat->To}(b:∀i σ σ',S i σ σ'->dY C B pts ops c i σ σ'):∀ {l:Tx},l.Nodup->∀ {σ σ':St},runR S l σ σ'->iR C B pts ops c l σ σ'
 | [],_,_,_,h=>h
 |i :: l,a,σ,σ',⟨σ₁,h1,d⟩=>by
  rw[qcC]at a;exact⟨a.1,σ₁,b i _ _ h1,yf b a.2 d⟩
def opT_mem{o:Oper}{t:Nat}(h:Operand.tmp t∈(dh pts o).1++eH pts o):t∈opT pts o:=by
 unfold opT;exact qba.2 ⟨.tmp t,h,rfl⟩
def any_okS [Kno](hN:NeuB N B)(F:sepReg N pts ops=true){σ σ':St}(h:bL C B pts ops (List.range ops.size) σ σ')(ap:SepAt pts ops σ'.tmps (wO pts ops)):ep C B pts ops σ σ':=by
 simp only[sepReg,qaa]at F;obtain⟨g1,g2,g3,g4,g5,g6⟩:=F;have a0:∀i∈List.range ops.size,∃o,ops[i]?=some o/\okS N pts o=true:=by
  intro i c;rw[qae]at c;exact⟨ops[i],by simp[c],qac.1 g2 _ (by simp)⟩
 obtain⟨f,R⟩:=recs_of hN (List.range ops.size) σ σ' qbO a0 h;have M:∀ {i:Nat} {o:Oper},ops[i]?=some o->i<ops.size:=λc=>(qaO.1 c).1;have u:∀ {i:Nat} {o:Oper},ops[i]?=some o->i∈List.range ops.size:=λc=>qae.2 (M c);have hl:∀ {i:Nat} {o:Oper},ops[i]?=some o->ops.toList[i]?=some o:=λc=>by simpa using c
 have an:∀ {i:Nat} {o:Oper},ops[i]?=some o->∀x∈(dh pts o).1++eH pts o,oval σ'.tmps x=oval (f i).σ.tmps x:=by
  intro i o c x A;refine lz λt ht=>?_;subst ht;refine R.args i (u c) t λj hj I o' J Q=>?_;have:=(wt g5 j o' (hl J) i o (by simpa using c)).1 (by simpa using I);exact pY this t (opT_mem A) t Q rfl
 have hF:∀ {i:Nat} {o:Oper},ops[i]?=some o->∀r∈fpo pts (oval (f i).σ.tmps) o,r∈fAt pts σ'.tmps o:=by
  intro i o c r T;unfold fpo at T;unfold fAt;obtain⟨x,A,T⟩:=qa8.1 T;exact qa8.2 ⟨x,A,by rw[an c x (qaW _ A)];exact T⟩
 have hW:∀ {i:Nat} {o:Oper},ops[i]?=some o->dstIn pts σ'.tmps o->∀p∈(f i).ws,p.1∈wAt pts σ'.tmps o:=by
  intro i o c ay p hp;have K:=R.ok i (u c) o c;unfold Rec.ws at hp;unfold wAt;rw[qa8];rcases qaz.1 hp with hp|hp
  ·have:=K.wr p (by simpa using hp);unfold wpo at this;obtain⟨x,A,T⟩:=qa8.1 this;exact⟨x,qaW _ A,by rw[an c x (qbo _ A)];exact T⟩
  ·unfold Rec.slot at hp;split at hp
   next k q y z=>
    have hp:p=(k,q.1):=by simpa using hp
    subst hp;obtain⟨f1,f2,Y⟩:=K.fr q z;have Z:hCls pts o=2:=by
     rcases rQ (pts:=pts) o with w|w|w
     ·rw[(hcls0 w).2.2]at Y;cases Y
     ·rw[(hcls1 w).2]at Y;cases Y
     ·exact w
    have aE:o.dst.isSome=true:=by
     have:=qac.1 g4 o (qab (hl c));rw[Y]at this;simpa using this
    obtain⟨d,Q⟩:=qbr.1 aE;obtain⟨v,hv⟩:=ay d Q Z;have ar:=R.res i (u c) o d v c Q (λj hj I o' J ax=>by
     have:=(wt g5 j o' (hl J) i o (by simpa using c)).2 (by simpa using I);rw[Q,ax]at this;simp[bi]at this) hv
    refine⟨.tmp d,sW Q Z,?_⟩;have ho:oval σ'.tmps (.tmp d)=v:=by simp[oval,List.getD_eq_getElem?_getD,hv]
    rw[ho,ar];unfold Rec.val HEff.val;rw[y];simp only[z];rw[fresh_adr f1];exact qaq.2 rfl
   ·cases hp
 have g:∀ {i:Nat} {o:Oper},ops[i]?=some o->hCls pts o≠2->(f i).ws=[]:=by
  intro i o c hc;have K:=R.ok i (u c) o c;have hw:eH pts o=[]/\dq pts o=false:=by
   rcases rQ (pts:=pts) o with w|w|w
   ·exact(hcls0 w).2
   ·exact hcls1 w
   ·exact absurd w hc
  have W:(f i).e.set=none:=by
   cases hs:(f i).e.set with
   |none=>rfl
   |some p=>
    have:=K.wr p hs;unfold wpo at this;rw[hw.1]at this;cases this
  have X:(f i).e.push=none:=by
   cases hs:(f i).e.push with
   |none=>rfl
   |some p=>have:=(K.fr p hs).2.2;rw[hw.2]at this;cases this
  unfold Rec.ws Rec.slot;rw[W,X];cases (f i).k<;>rfl
 have E:∀ {i:Nat} {o:Oper},hCls pts o=0->fpo pts (oval (f i).σ.tmps) o=[]:=by
  intro i o hc;unfold fpo;rw[(hcls0 hc).1];rfl
 refine .inr ⟨λi=>if i<ops.size then(f i).k else none,σ'.heap.length - σ.heap.length,g3,?_,?_,λt=>?_⟩
 ·intro i k y;simp only at y;split at y
  next c=>
   have:=R.slot i (qae.2 c) k y;omega
  ·cases y
 ·intro i j k y D;simp only at y D;split at y
  next c=>
   split at D
   next hj=>
    exact R.inj i (qae.2 c) j (qae.2 hj) k y D
   ·cases D
  ·cases y
 have H:∀(i:Nat) o,ops[i]?=some o->∀e∈o.after.toList,Region.binds .any e=true->e.on<i:=by
  intro i o ho e he m;have:=fw g1 i o (by simpa using ho) e he m;omega
 have L:∀i k:Nat,i<ops.size->k<i->Anc ops k i∨∀τ τ₁ τ':St,recS N pts ops f k τ τ₁->recS N pts ops f i τ₁ τ'->∃ρ,recS N pts ops f i τ ρ/\recS N pts ops f k ρ τ':=by
  intro i k c a2;have m:ops[i]?=some ops[i]:=by simp[c]
  have n:ops[k]?=some (ops[k]'(by omega)):=by simp[show k<ops.size by omega]
  generalize ops[i]=b at m;generalize ops[k]'(by omega)=a at n;have z:=qA (pre:=[]) (i:=0) rfl g6 i b (by simpa using m) k a (by omega) (by simpa using n);rw[qaR]at z;cases O:(List.getD (ancs ops.toList []) i 0).testBit k with
  |true=>exact .inl (re ops.toList [] rfl (λi k h=>by simp at h) i k O)
  |false=>
   right;rw[O]at z;have z:=z.resolve_left (by simp);simp only[qaa]at z;obtain⟨q1,q2⟩:=z;have d:(∀p∈(f k).ws,p.1∉fpo pts (oval (f i).σ.tmps) b)/\(∀p∈(f i).ws,p.1∉fpo pts (oval (f k).σ.tmps) a)/\(∀p∈(f k).ws,∀q∈(f i).ws,p.1≠q.1):=by
    cases s:conf pts a b with
    |true=>
     have hm:=tI (pts:=pts) (ms:=ancs ops.toList []) (l:=ops.toList) (pre:=[]) (i:=0) rfl i b (by simpa using m) k a (by omega) (by simpa using n) (by rw[qaR];exact O) s;rw[qaR]at hm;obtain⟨a',b',U,V,s1,s2,s3,s4,s5⟩:=ap (k,i) hm;have U:ops[k]?=some a':=U;have V:ops[i]?=some b':=V;rw[n]at U;rw[m]at V;cases U;cases V;exact⟨λp hp hf=>s1 _ (hW n s4 p hp) (hF m _ hf),λp hp hf=>s3 _ (hW m s5 p hp) (hF n _ hf),λp hp q z e=>s2 _ (hW n s4 p hp) (e▸hW m s5 q z)⟩
    |false=>
     have s:Nat.ble 3 (hCls pts a+hCls pts b)=false:=by
      unfold conf at s;cases he:gW a b with
      |true=>rw[he]at q2;cases q2
      |false=>rw[he]at s;simpa using s
     have ag:¬3<=hCls pts a+hCls pts b:=λh=>by rw[qal h]at s;cases s
     rcases rQ (pts:=pts) a with W|W|W<;>rcases rQ (pts:=pts) b with X|X|X
     ·rw[g n (by omega),g m (by omega)];exact⟨λ_ h=>(by cases h),λ_ h=>(by cases h),λ_ h=>(by cases h)⟩
     ·rw[g n (by omega),g m (by omega)];exact⟨λ_ h=>(by cases h),λ_ h=>(by cases h),λ_ h=>(by cases h)⟩
     ·rw[g n (by omega),E W];exact⟨λ_ h=>(by cases h),λ_ _ h=>(by cases h),λ_ h=>(by cases h)⟩
     ·rw[g n (by omega),g m (by omega)];exact⟨λ_ h=>(by cases h),λ_ h=>(by cases h),λ_ h=>(by cases h)⟩
     ·rw[g n (by omega),g m (by omega)];exact⟨λ_ h=>(by cases h),λ_ h=>(by cases h),λ_ h=>(by cases h)⟩
     ·omega
     ·rw[g m (by omega),E X];exact⟨λ_ _ h=>(by cases h),λ_ h=>(by cases h),λ_ _ _ h=>(by cases h)⟩
     ·omega
     ·omega
   rintro τ τ₁ τ' ⟨a1,P,h2,rfl⟩ ⟨b1,h3,h4,rfl⟩;rw[n]at P;rw[m]at h3;cases P;cases h3;obtain⟨w1,w2,w3⟩:=swapR (R.ok k (u n) a n) (R.ok i (u m) b m) q1 d.1 d.2.1 d.2.2 h2 h4;exact⟨_,⟨b,m,w1,rfl⟩,⟨a,n,w2,w3⟩⟩
 have hz:unl ops.size (Array.replicate ops.size false)=List.range ops.size:=by
  unfold unl;rw[qdk];intro i c;rw[qae]at c;rw[qaE,qbS,qd0 c];rfl
 have G:=R.run σ'.heap.length (qaj _);have ad:St.padTo σ' σ'.heap.length=σ':=by
  unfold St.padTo St.pad;rw[qb6];simp
 rw[ad]at G;obtain⟨U,V,_⟩:=go_okR (S:=recS N pts ops f) H L ops.size t (Array.replicate ops.size false) (by simp) (by rw[hz];simp) (λx o A ho=>by
  have ag:x<ops.size:=M ho;rw[qaE,qbS,qd0 ag]at A;cases A) _ _ (by rw[hz];exact G)
 refine yf (λi τ τ' hS=>?_) V U;obtain⟨o,P,h2,rfl⟩:=hS;exact(R.ok i (u P) o P).step τ h2 _ (by simp only[M P,if_true])
def manI_ok{a:List (Nat×Nat)}(h:manI N pts ops=some a):∃l,manyOf a=some l/\xh N pts ops l=true:=by
 unfold manI at h;split at h
 next b=>
  cases h;exact⟨_,rfl,b⟩
 ·cases h
def drOf_ok [Kno]{C:Cfg}(b:∀f n,N f=some n->neuF N C f n=true)(c:∀f args H r H',Kno.kh f args H r H'->N f=none∨(N f=some (2*args.length+1)/\H'=H)):DrOk C (drOf N):=by
 intro pts ops q h;unfold drOf at h;split at h
 ·split at h
  next a=>
   cases h;exact λn σ σ' g d=>dr_ok b c pts ops a n σ σ' g
  ·obtain⟨l,e,a⟩:=manI_ok h;rw[e];exact λn σ σ' d i j=>any_man (xv b c n).1.1 a i j
 next p s k=>
  split at h
  next m o a=>
   cases h;rw[m];simp only;rw[o];exact λn σ σ' g d=>any_okS (xv b c n).1.1 a g (by rw[k];exact d)
  ·cases h
end
end Sx
end Go.Am
namespace Go.Am
open Sx Go.Proofs
def neuT:List (Nat×Nat):=[(32,6),(60,6),(35,4),(39,4),(33,4),(34,4),(38,4),(55,4),(51,4),(57,2),(36,6),(84,4),(85,4),(86,4),(96,4),(87,2),(88,2),(62,2),(94,2),(97,4),(121,2),(18,2),(64,4),(101,4),(65,4),(67,6),(126,2),(53,2),(102,4),(103,4),(132,6),(133,2),(134,2),(135,4),(104,4),(105,4),(136,2),(137,4),(173,2),(47,4),(76,4),(92,2),(119,2),(42,5),(41,5),(82,3),(78,3),(80,3),(23,2),(37,5)]
def lookN(l:List (Nat×Nat))(f:Nat):To:=match l with
 | []=>none
 |p :: l=>match Nat.beq p.1 f with
  |true=>some p.2
  |false=>lookN l f
def neuN(f:TK):To:=lookN neuT f
def uk{f n:Nat}:∀ {l:List (Nat×Nat)},lookN l f=some n->(f,n)∈l
 |p :: l,h=>by
  unfold lookN at h;split at h
  next e=>
   cases h;have:=qad e;subst this;exact qaN
  ·exact qav _ (uk h)
def neuT_ok:(neuT.all λp=>neuF neuN cc p.1 p.2)=true:=by kernel_rfl
def neuN_ok(f n:Nat)(h:neuN f=some n):neuF neuN cc f n=true:=qac.1 neuT_ok (f,n) (uk h)
def drN:Dr:=drOf neuN
def nF(k:Nat)(a:List An):Fn1:=fn1 cc.P k ((ab k).getD ⟨[],[]⟩) a
def iF {k:Nat} {g:Func} {a:List An} (h0:(xc k).C.P.funcs[k]?=some g) (h:(g.body,((g.name == "runtime.NumGoroutine")||(xc k).C.opq k),g.ntmps,g.results.toList,ab k)=(some (er (xc k) (nF k a).code),false,(nF k a).nt,(nF k a).rvs,some (nF k a).sg)):FnIs (xc k) ab k (nF k a):=by
 simp only[qcp]at h;exact⟨⟨g,h0,h.1,h.2.1,h.2.2.1,h.2.2.2.1⟩,rfl,h.2.2.2.2⟩
abbrev e_f(k:Nat)(a:List An):(R b:Type)->Alg R b->TB->b->(TB->b->R)->R:=λR b A ls h K=>aj A (xc k) ab drN (nF k a) ls h K
abbrev i_i(k:Nat)(a:List An):Prop:=FnIs (xc k) ab k (nF k a)
def i5:i_i 5 an5:=iF Tryz.func5 (by kernel_rfl)
def i6:i_i 6 an6:=iF Tryz.func6 (by kernel_rfl)
def i7:i_i 7 an7:=iF Tryz.func7 (by kernel_rfl)
def i8:i_i 8 an8:=iF Tryz.func8 (by kernel_rfl)
def i9:i_i 9 an9:=iF Tryz.func9 (by kernel_rfl)
def i10:i_i 10 an10:=iF Tryz.func10 (by kernel_rfl)
def i13:i_i 13 an13:=iF Tryz.func13 (by kernel_rfl)
def i14:i_i 14 an14:=iF Tryz.func14 (by kernel_rfl)
def i15:i_i 15 an15:=iF Tryz.func15 (by kernel_rfl)
def i16:i_i 16 an16:=iF Tryz.func16 (by kernel_rfl)
def i17:i_i 17 an17:=iF Tryz.func17 (by kernel_rfl)
def i18:i_i 18 an18:=iF Tryz.func18 (by kernel_rfl)
def i19:i_i 19 an19:=iF Tryz.func19 (by kernel_rfl)
def i20:i_i 20 an20:=iF Tryz.func20 (by kernel_rfl)
def i21:i_i 21 an21:=iF Tryz.func21 (by kernel_rfl)
def i22:i_i 22 an22:=iF Tryz.func22 (by kernel_rfl)
def i23:i_i 23 an23:=iF Tryz.func23 (by kernel_rfl)
def i24:i_i 24 an24:=iF Tryz.func24 (by kernel_rfl)
def i25:i_i 25 an25:=iF Tryz.func25 (by kernel_rfl)
def i26:i_i 26 an26:=iF Tryz.func26 (by kernel_rfl)
def i27:i_i 27 an27:=iF Tryz.func27 (by kernel_rfl)
def i28:i_i 28 an28:=iF Tryz.func28 (by kernel_rfl)
def i29:i_i 29 an29:=iF Tryz.func29 (by kernel_rfl)
def i30:i_i 30 an30:=iF Tryz.func30 (by kernel_rfl)
def i31:i_i 31 an31:=iF Tryz.func31 (by kernel_rfl)
def i32:i_i 32 an32:=iF Tryz.func32 (by kernel_rfl)
def i33:i_i 33 an33:=iF Tryz.func33 (by kernel_rfl)
def i34:i_i 34 an34:=iF Tryz.func34 (by kernel_rfl)
def i35:i_i 35 an35:=iF Tryz.func35 (by kernel_rfl)
def i36:i_i 36 an36:=iF Tryz.func36 (by kernel_rfl)
def i37:i_i 37 an37:=iF Tryz.func37 (by kernel_rfl)
def i38:i_i 38 an38:=iF Tryz.func38 (by kernel_rfl)
def i39:i_i 39 an39:=iF Tryz.func39 (by kernel_rfl)
def i41:i_i 41 an41:=iF Tryz.func41 (by kernel_rfl)
def i42:i_i 42 an42:=iF Tryz.func42 (by kernel_rfl)
def i43:i_i 43 an43:=iF Tryz.func43 (by kernel_rfl)
def i44:i_i 44 an44:=iF Tryz.func44 (by kernel_rfl)
def i45:i_i 45 an45:=iF Tryz.func45 (by kernel_rfl)
def i46:i_i 46 an46:=iF Tryz.func46 (by kernel_rfl)
def i47:i_i 47 an47:=iF Tryz.func47 (by kernel_rfl)
def i48:i_i 48 an48:=iF Tryz.func48 (by kernel_rfl)
def i49:i_i 49 an49:=iF Tryz.func49 (by kernel_rfl)
def i50:i_i 50 an50:=iF Tryz.func50 (by kernel_rfl)
def i51:i_i 51 an51:=iF Tryz.func51 (by kernel_rfl)
def i52:i_i 52 an52:=iF Tryz.func52 (by kernel_rfl)
def i53:i_i 53 an53:=iF Tryz.func53 (by kernel_rfl)
def i54:i_i 54 an54:=iF Tryz.func54 (by kernel_rfl)
def i55:i_i 55 an55:=iF Tryz.func55 (by kernel_rfl)
def i56:i_i 56 an56:=iF Tryz.func56 (by kernel_rfl)
def i57:i_i 57 an57:=iF Tryz.func57 (by kernel_rfl)
def i58:i_i 58 an58:=iF Tryz.func58 (by kernel_rfl)
def i59:i_i 59 an59:=iF Tryz.func59 (by kernel_rfl)
def i60:i_i 60 an60:=iF Tryz.func60 (by kernel_rfl)
def i61:i_i 61 an61:=iF Tryz.func61 (by kernel_rfl)
def i62:i_i 62 an62:=iF Tryz.func62 (by kernel_rfl)
def i63:i_i 63 an63:=iF Tryz.func63 (by kernel_rfl)
def i64:i_i 64 an64:=iF Tryz.func64 (by kernel_rfl)
def i65:i_i 65 an65:=iF Tryz.func65 (by kernel_rfl)
def i66:i_i 66 an66:=iF Tryz.func66 (by kernel_rfl)
def i67:i_i 67 an67:=iF Tryz.func67 (by kernel_rfl)
def i68:i_i 68 an68:=iF Tryz.func68 (by kernel_rfl)
def i69:i_i 69 an69:=iF Tryz.func69 (by kernel_rfl)
def i70:i_i 70 an70:=iF Tryz.func70 (by kernel_rfl)
def i71:i_i 71 an71:=iF Tryz.func71 (by kernel_rfl)
def i72:i_i 72 an72:=iF Tryz.func72 (by kernel_rfl)
def i73:i_i 73 an73:=iF Tryz.func73 (by kernel_rfl)
def i74:i_i 74 an74:=iF Tryz.func74 (by kernel_rfl)
def i75:i_i 75 an75:=iF Tryz.func75 (by kernel_rfl)
def i76:i_i 76 an76:=iF Tryz.func76 (by kernel_rfl)
def i77:i_i 77 an77:=iF Tryz.func77 (by kernel_rfl)
def i78:i_i 78 an78:=iF Tryz.func78 (by kernel_rfl)
def i79:i_i 79 an79:=iF Tryz.func79 (by kernel_rfl)
def i80:i_i 80 an80:=iF Tryz.func80 (by kernel_rfl)
def i81:i_i 81 an81:=iF Tryz.func81 (by kernel_rfl)
def i82:i_i 82 an82:=iF Tryz.func82 (by kernel_rfl)
def i83:i_i 83 an83:=iF Tryz.func83 (by kernel_rfl)
def i84:i_i 84 an84:=iF Tryz.func84 (by kernel_rfl)
def i85:i_i 85 an85:=iF Tryz.func85 (by kernel_rfl)
def i86:i_i 86 an86:=iF Tryz.func86 (by kernel_rfl)
def i87:i_i 87 an87:=iF Tryz.func87 (by kernel_rfl)
def i88:i_i 88 an88:=iF Tryz.func88 (by kernel_rfl)
def i89:i_i 89 an89:=iF Tryz.func89 (by kernel_rfl)
def i90:i_i 90 an90:=iF Tryz.func90 (by kernel_rfl)
def i91:i_i 91 an91:=iF Tryz.func91 (by kernel_rfl)
def i92:i_i 92 an92:=iF Tryz.func92 (by kernel_rfl)
def i93:i_i 93 an93:=iF Tryz.func93 (by kernel_rfl)
def i94:i_i 94 an94:=iF Tryz.func94 (by kernel_rfl)
def i95:i_i 95 an95:=iF Tryz.func95 (by kernel_rfl)
def i96:i_i 96 an96:=iF Tryz.func96 (by kernel_rfl)
def i97:i_i 97 an97:=iF Tryz.func97 (by kernel_rfl)
def i98:i_i 98 an98:=iF Tryz.func98 (by kernel_rfl)
def i99:i_i 99 an99:=iF Tryz.func99 (by kernel_rfl)
def i100:i_i 100 an100:=iF Tryz.func100 (by kernel_rfl)
def i101:i_i 101 an101:=iF Tryz.func101 (by kernel_rfl)
def i102:i_i 102 an102:=iF Tryz.func102 (by kernel_rfl)
def i103:i_i 103 an103:=iF Tryz.func103 (by kernel_rfl)
def i104:i_i 104 an104:=iF Tryz.func104 (by kernel_rfl)
def i105:i_i 105 an105:=iF Tryz.func105 (by kernel_rfl)
def i106:i_i 106 an106:=iF Tryz.func106 (by kernel_rfl)
def i107:i_i 107 an107:=iF Tryz.func107 (by kernel_rfl)
def i116:i_i 116 an116:=iF Tryz.func116 (by kernel_rfl)
def i117:i_i 117 an117:=iF Tryz.func117 (by kernel_rfl)
def i118:i_i 118 an118:=iF Tryz.func118 (by kernel_rfl)
def i119:i_i 119 an119:=iF Tryz.func119 (by kernel_rfl)
def i120:i_i 120 an120:=iF Tryz.func120 (by kernel_rfl)
def i121:i_i 121 an121:=iF Tryz.func121 (by kernel_rfl)
def i122:i_i 122 an122:=iF Tryz.func122 (by kernel_rfl)
def i123:i_i 123 an123:=iF Tryz.func123 (by kernel_rfl)
def i124:i_i 124 an124:=iF Tryz.func124 (by kernel_rfl)
def i125:i_i 125 an125:=iF Tryz.func125 (by kernel_rfl)
def i126:i_i 126 an126:=iF Tryz.func126 (by kernel_rfl)
def i127:i_i 127 an127:=iF Tryz.func127 (by kernel_rfl)
def i128:i_i 128 an128:=iF Tryz.func128 (by kernel_rfl)
def i129:i_i 129 an129:=iF Tryz.func129 (by kernel_rfl)
def i130:i_i 130 an130:=iF Tryz.func130 (by kernel_rfl)
def i131:i_i 131 an131:=iF Tryz.func131 (by kernel_rfl)
def i132:i_i 132 an132:=iF Tryz.func132 (by kernel_rfl)
def i133:i_i 133 an133:=iF Tryz.func133 (by kernel_rfl)
def i134:i_i 134 an134:=iF Tryz.func134 (by kernel_rfl)
def i135:i_i 135 an135:=iF Tryz.func135 (by kernel_rfl)
def i136:i_i 136 an136:=iF Tryz.func136 (by kernel_rfl)
def i137:i_i 137 an137:=iF Tryz.func137 (by kernel_rfl)
def i138:i_i 138 an138:=iF Tryz.func138 (by kernel_rfl)
def i144:i_i 144 an144:=iF Tryz.func144 (by kernel_rfl)
def i152:i_i 152 an152:=iF Tryz.func152 (by kernel_rfl)
def i160:i_i 160 an160:=iF Tryz.func160 (by kernel_rfl)
def i166:i_i 166 an166:=iF Tryz.func166 (by kernel_rfl)
def i169:i_i 169 an169:=iF Tryz.func169 (by kernel_rfl)
def i170:i_i 170 an170:=iF Tryz.func170 (by kernel_rfl)
def i171:i_i 171 an171:=iF Tryz.func171 (by kernel_rfl)
def i172:i_i 172 an172:=iF Tryz.func172 (by kernel_rfl)
def i173:i_i 173 an173:=iF Tryz.func173 (by kernel_rfl)
def i174:i_i 174 an174:=iF Tryz.func174 (by kernel_rfl)
def i175:i_i 175 an175:=iF Tryz.func175 (by kernel_rfl)
def e8:@f8=e_f 8 an8:=by kernel_rfl
def e14:@f14=e_f 14 an14:=by kernel_rfl
def e18:@f18=e_f 18 an18:=by kernel_rfl
def e27:@f27=e_f 27 an27:=by kernel_rfl
def e28:@f28=e_f 28 an28:=by kernel_rfl
def e32:@f32=e_f 32 an32:=by kernel_rfl
def e47:@f47=e_f 47 an47:=by kernel_rfl
def e54:@f54=e_f 54 an54:=by kernel_rfl
def e60:@f60=e_f 60 an60:=by kernel_rfl
def e69:@f69=e_f 69 an69:=by kernel_rfl
def e70:@f70=e_f 70 an70:=by kernel_rfl
def e75:@f75=e_f 75 an75:=by kernel_rfl
def e76:@f76=e_f 76 an76:=by kernel_rfl
def e78:@f78=e_f 78 an78:=by kernel_rfl
def e79:@f79=e_f 79 an79:=by kernel_rfl
def e90:@f90=e_f 90 an90:=by kernel_rfl
def e102:@f102=e_f 102 an102:=by kernel_rfl
def e122:@f122=e_f 122 an122:=by kernel_rfl
def e124:@f124=e_f 124 an124:=by kernel_rfl
def e137:@f137=e_f 137 an137:=by kernel_rfl
def e13:@f13=e_f 13 an13:=by kernel_rfl
def e15:@f15=e_f 15 an15:=by kernel_rfl
def e22:@f22=e_f 22 an22:=by kernel_rfl
def e24:@f24=e_f 24 an24:=by kernel_rfl
def e30:@f30=e_f 30 an30:=by kernel_rfl
def e33:@f33=e_f 33 an33:=by kernel_rfl
def e34:@f34=e_f 34 an34:=by kernel_rfl
def e37:@f37=e_f 37 an37:=by kernel_rfl
def e46:@f46=e_f 46 an46:=by kernel_rfl
def e51:@f51=e_f 51 an51:=by kernel_rfl
def e53:@f53=e_f 53 an53:=by kernel_rfl
def e59:@f59=e_f 59 an59:=by kernel_rfl
def e63:@f63=e_f 63 an63:=by kernel_rfl
def e66:@f66=e_f 66 an66:=by kernel_rfl
def e72:@f72=e_f 72 an72:=by kernel_rfl
def e88:@f88=e_f 88 an88:=by kernel_rfl
def e93:@f93=e_f 93 an93:=by kernel_rfl
def e95:@f95=e_f 95 an95:=by kernel_rfl
def e96:@f96=e_f 96 an96:=by kernel_rfl
def e107:@f107=e_f 107 an107:=by kernel_rfl
def e116:@f116=e_f 116 an116:=by kernel_rfl
def e123:@f123=e_f 123 an123:=by kernel_rfl
def e134:@f134=e_f 134 an134:=by kernel_rfl
def e136:@f136=e_f 136 an136:=by kernel_rfl
def e144:@f144=e_f 144 an144:=by kernel_rfl
def e169:@f169=e_f 169 an169:=by kernel_rfl
def e7:@f7=e_f 7 an7:=by kernel_rfl
def e25:@f25=e_f 25 an25:=by kernel_rfl
def e26:@f26=e_f 26 an26:=by kernel_rfl
def e35:@f35=e_f 35 an35:=by kernel_rfl
def e36:@f36=e_f 36 an36:=by kernel_rfl
def e38:@f38=e_f 38 an38:=by kernel_rfl
def e39:@f39=e_f 39 an39:=by kernel_rfl
def e41:@f41=e_f 41 an41:=by kernel_rfl
def e43:@f43=e_f 43 an43:=by kernel_rfl
def e44:@f44=e_f 44 an44:=by kernel_rfl
def e52:@f52=e_f 52 an52:=by kernel_rfl
def e56:@f56=e_f 56 an56:=by kernel_rfl
def e67:@f67=e_f 67 an67:=by kernel_rfl
def e74:@f74=e_f 74 an74:=by kernel_rfl
def e81:@f81=e_f 81 an81:=by kernel_rfl
def e94:@f94=e_f 94 an94:=by kernel_rfl
def e97:@f97=e_f 97 an97:=by kernel_rfl
def e98:@f98=e_f 98 an98:=by kernel_rfl
def e101:@f101=e_f 101 an101:=by kernel_rfl
def e126:@f126=e_f 126 an126:=by kernel_rfl
def e127:@f127=e_f 127 an127:=by kernel_rfl
def e129:@f129=e_f 129 an129:=by kernel_rfl
def e131:@f131=e_f 131 an131:=by kernel_rfl
def e171:@f171=e_f 171 an171:=by kernel_rfl
def e175:@f175=e_f 175 an175:=by kernel_rfl
def e9:@f9=e_f 9 an9:=by kernel_rfl
def e17:@f17=e_f 17 an17:=by kernel_rfl
def e19:@f19=e_f 19 an19:=by kernel_rfl
def e45:@f45=e_f 45 an45:=by kernel_rfl
def e50:@f50=e_f 50 an50:=by kernel_rfl
def e55:@f55=e_f 55 an55:=by kernel_rfl
def e57:@f57=e_f 57 an57:=by kernel_rfl
def e73:@f73=e_f 73 an73:=by kernel_rfl
def e80:@f80=e_f 80 an80:=by kernel_rfl
def e85:@f85=e_f 85 an85:=by kernel_rfl
def e87:@f87=e_f 87 an87:=by kernel_rfl
def e92:@f92=e_f 92 an92:=by kernel_rfl
def e104:@f104=e_f 104 an104:=by kernel_rfl
def e128:@f128=e_f 128 an128:=by kernel_rfl
def e130:@f130=e_f 130 an130:=by kernel_rfl
def e132:@f132=e_f 132 an132:=by kernel_rfl
def e135:@f135=e_f 135 an135:=by kernel_rfl
def e160:@f160=e_f 160 an160:=by kernel_rfl
def e170:@f170=e_f 170 an170:=by kernel_rfl
def e174:@f174=e_f 174 an174:=by kernel_rfl
def e5:@f5=e_f 5 an5:=by kernel_rfl
def e29:@f29=e_f 29 an29:=by kernel_rfl
def e31:@f31=e_f 31 an31:=by kernel_rfl
def e42:@f42=e_f 42 an42:=by kernel_rfl
def e48:@f48=e_f 48 an48:=by kernel_rfl
def e64:@f64=e_f 64 an64:=by kernel_rfl
def e65:@f65=e_f 65 an65:=by kernel_rfl
def e68:@f68=e_f 68 an68:=by kernel_rfl
def e77:@f77=e_f 77 an77:=by kernel_rfl
def e82:@f82=e_f 82 an82:=by kernel_rfl
def e100:@f100=e_f 100 an100:=by kernel_rfl
def e106:@f106=e_f 106 an106:=by kernel_rfl
def e118:@f118=e_f 118 an118:=by kernel_rfl
def e119:@f119=e_f 119 an119:=by kernel_rfl
def e121:@f121=e_f 121 an121:=by kernel_rfl
def e138:@f138=e_f 138 an138:=by kernel_rfl
def e166:@f166=e_f 166 an166:=by kernel_rfl
def e172:@f172=e_f 172 an172:=by kernel_rfl
def e6:@f6=e_f 6 an6:=by kernel_rfl
def e10:@f10=e_f 10 an10:=by kernel_rfl
def e16:@f16=e_f 16 an16:=by kernel_rfl
def e20:@f20=e_f 20 an20:=by kernel_rfl
def e21:@f21=e_f 21 an21:=by kernel_rfl
def e23:@f23=e_f 23 an23:=by kernel_rfl
def e49:@f49=e_f 49 an49:=by kernel_rfl
def e58:@f58=e_f 58 an58:=by kernel_rfl
def e61:@f61=e_f 61 an61:=by kernel_rfl
def e62:@f62=e_f 62 an62:=by kernel_rfl
def e71:@f71=e_f 71 an71:=by kernel_rfl
def e83:@f83=e_f 83 an83:=by kernel_rfl
def e84:@f84=e_f 84 an84:=by kernel_rfl
def e86:@f86=e_f 86 an86:=by kernel_rfl
def e89:@f89=e_f 89 an89:=by kernel_rfl
def e91:@f91=e_f 91 an91:=by kernel_rfl
def e99:@f99=e_f 99 an99:=by kernel_rfl
def e103:@f103=e_f 103 an103:=by kernel_rfl
def e105:@f105=e_f 105 an105:=by kernel_rfl
def e117:@f117=e_f 117 an117:=by kernel_rfl
def e120:@f120=e_f 120 an120:=by kernel_rfl
def e125:@f125=e_f 125 an125:=by kernel_rfl
def e133:@f133=e_f 133 an133:=by kernel_rfl
def e152:@f152=e_f 152 an152:=by kernel_rfl
def e173:@f173=e_f 173 an173:=by kernel_rfl
end Go.Am
namespace Go.Am
namespace Sx
def unL(P:TD)(a:TJ->DataW Unit->Option (Tk)):List (Nat×TypeId)->List (DataW Unit)->Nat->Option (Tk)
 | [],[],_=>some []
 |(o,t) :: l,d :: ds,off=>match Nat.beq o off,a t d with
  |true,some v=>match Nat.beq v.length (P.cellsOf t),unL P a l ds (off+v.length)with
   |true,some vs=>some (v++vs)
   |_,_=>none
  |_,_=>none
 |_,_,_=>none
def unD(P:TD):Nat->TJ->DataW Unit->Option (Tk)
 |0,_,_=>none
 |a+1,t,d=>match P.underlying t,d with
  |some .bool,.lit (.bool b)=>some [.bool b]
  |some (.int k),.lit (.int _ n)=>some [.int k n]
  |some (.struct c),.agg ds=>match unL P (unD P a) (c.toList.map λf=>(f.offset,f.type)) ds 0 with
   |some vs=>if vs.length=P.cellsOf t then some vs else none
   |none=>none
  |some (.array n e),.agg ds=>match unL P (unD P a) ((List.range n).map λi=>(i*P.cellsOf e,e)) ds 0 with
   |some vs=>if vs.length=P.cellsOf t then some vs else none
   |none=>none
  |_,_=>none
section
variable {P:TD} {w:World} {base:Nat} {spare:Tt} {held:Bool} {enc:TypeId×Value->Unit}
def seg_ok{h:TJ->DataW Unit->Option (Tk)}{fuel:Nat}(c:∀t d vs,h t d=some vs->∀cs p,DataW.trod enc P w base spare held fuel t cs=some (d,p)->cs=vs){α:Type}(o:α->Nat)(ty:α->TJ)(cs:Tk) :
  ∀(l:List α) (xs:List (DataW Unit×List MemPlace)) (off:Nat) (vs:Tk),l.mapM (λa=>DataW.trod enc P w base spare held fuel (ty a) ((cs.drop (o a)).take (P.cellsOf (ty a))))=some xs->
   unL P h (l.map λa=>(o a,ty a)) (xs.map (·.1)) off=some vs->(cs.drop off).take vs.length=vs
 | [],xs,off,vs,h1,b=>by
  simp only[qdE,qdm,qaI]at h1;subst h1;simp only[qbA,unL,qaI]at b;subst b;simp
 |a :: l,xs,off,vs,h1,b=>by
  rw[qbX]at h1;obtain⟨x,k,h1⟩:=qas.1 h1;obtain⟨q,m,h1⟩:=qas.1 h1;cases h1;simp only[qaF,unL]at b;split at b
  next v e i=>
   split at b
   next r f j=>
    cases b;have e:=qad e;have f:=qad f;have g:=c _ _ _ i _ _ k;have n:=seg_ok c o ty cs l q _ _ m j;rw[e,←f]at g;rw[qau,qdF,g,qbW];rw[n]
   ·cases b
  ·cases b
def unD_ok:∀(l:Nat) (t:TJ) (d:DataW Unit) (vs:Tk),unD P l t d=some vs->∀(fuel:Nat) (cs:Tk) (p:List MemPlace),DataW.trod enc P w base spare held fuel t cs=some (d,p)->cs=vs
 |0,_,_,_,h=>by cases h
 |l+1,t,d,vs,h=>by
  intro fuel cs p a;cases fuel with
  |zero=>simp[DataW.trod]at a
  |succ fuel=>
   have j:∀t d vs,unD P l t d=some vs->∀cs p,DataW.trod enc P w base spare held fuel t cs=some (d,p)->cs=vs:=λt d vs h cs p=>unD_ok l t d vs h fuel cs p;simp only[unD]at h;split at h
   next b e=>
    cases h;simp only[DataW.trod,e]at a;split at a<;>simp_all
   next k z n e=>
    cases h;simp only[DataW.trod,e]at a;split at a<;>first|cases a|skip
    all_goals first
     |(split at a<;>first|(rename_i v;simp at a;obtain⟨⟨rfl,rfl⟩,_⟩:=a;rw[v.1];done)|(cases a;done))
     |simp_all
   next y r e=>
    split at h
    next x c=>
     split at h
     next s=>
      cases h;simp only[DataW.trod,e]at a;split at a
      next u=>
       obtain⟨o,m,g⟩:=qah.1 a;simp only[qcp,DataW.agg.injEq]at g;rw[←g.1]at c;have:=seg_ok j (λf:Field=>f.offset) (λf:Field=>f.type) cs _ o 0 _ m c;rw[qbE,qaH (by omega)]at this;exact this
      ·cases a
     ·cases h
    ·cases h
   next n q r e=>
    split at h
    next x c=>
     split at h
     next s=>
      cases h;simp only[DataW.trod,e]at a;split at a
      next u=>
       obtain⟨o,m,g⟩:=qah.1 a;simp only[qcp,DataW.agg.injEq]at g;rw[←g.1]at c;have:=seg_ok j (λi=>i*P.cellsOf q) (λ_=>q) cs _ o 0 _ m c;rw[qbE,qaH (by omega)]at this;exact this
      ·cases a
     ·cases h
    ·cases h
   ·cases h
end
section
variable [Val]
def tW [Glo]{W:World}{g:Nat}{vs:Tk}(h0:Nat.blt g gB=true)(h1:vs.all bg=true)(f:vs.all flat=true)(h:∃c e fr,W.heap[g]?=some (.cells c e fr)/\c.toList=vs) :
  gBlk g<W.heap.size/\vs.all bg=true/\∃c e fr,W.heap[gBlk g]?=some (.cells c e fr)/\cF (λ_=>none) vs c (gOff g):=by
 obtain⟨c,e,fr,a,j⟩:=h;rw[gBlk_lt h0,gOff_lt h0];refine⟨(qaO.1 a).1,h1,c,e,fr,a,.of_list ?_⟩;rw[j];exact⟨rfl,λi x y b d=>by rw[b]at d;cases d;exact .of_flat (qac.1 f x (qab b))⟩
end
end Sx
namespace Sx
open Go.ChangeShapes Go.WideShapes Go.ChangeAt Go.WideMaps Go.WideElems Go.RowKit
def kept_of{W c:World}(h1:c.os=W.os)(e:c.output=W.output)(f:∀b,b<W.heap.size->c.heap[b]?=W.heap[b]?)(a:MemPlace->Prop):W.keptBut c a:=by
 refine⟨h1,e,λi d=>?_⟩;rw[f i d];exact(World.keptBut_refl W a).2.2 i d
def ql{P:TD}{w:World}{a:List (String×DataW Unit)}{s:List MemPlace}(h:DataW.LaidVars P w a s):∀n d,(n,d)∈a->∀g t f vs,P.globalNamed n=some g->(P.globals[g]?).map (·.type)=some t->unD P f t d=some vs->
  ∃c e fr,w.heap[g]?=some (.cells c e fr)/\c.toList=vs:=by
 induction a generalizing s with
 |nil=>intro n d h;cases h
 |cons x l A=>
  obtain⟨F,D⟩:=x;obtain⟨E,G,C,r,p,q,m,u,b,v,y,B⟩:=h;intro n d k g t f vs i j o;rcases qax.1 k with e|k
  ·cases e;rw[m]at i;cases i;rw[u]at j;cases j;have z:=unD_ok f _ _ vs o _ _ _ v;unfold World.var? at b;rw[m]at b;simp only[qao]at b;split at b
   next c H fr e=>
    cases b;exact⟨_,_,_,e,z⟩
   ·cases b
  ·exact A y n d k g t f vs i j o
section
variable [Val] [Kno]
end
end Sx
namespace Sx
section
variable [Val] [Kno]
def condP(b:Bool)(x y:Prop):Prop:=(b=true->x)/\(b=false->y)
abbrev _root_.Ts:=Int->Prop
def ariP(op:BinOp)(k:TF)(a b:Int)(K:Ts):Prop:=
 match op with
 | .add=>K (k.wrap (a+b))
 | .sub=>K (k.wrap (a - b))
 | .mul=>K (k.wrap (a*b))
 | .quo=>b≠0/\K (k.wrap (a.tdiv b))
 | .rem=>b≠0/\K (a.tmod b)
 | .and=>(b=1/\K (a%2))∨(b≠1/\∃n,qU .and k a b n/\K n)
 |op=>∃n,qU op k a b n/\K n
abbrev _root_.Tm:=Bool->Prop
def cmpP(c:BinOp)(a b:Int)(K:Tm):Prop:=
 match c with
 | .eql=>K (a==b)
 | .neq=>K (a != b)
 | .lss=>K (decide (a<b))
 | .leq=>K (decide (a<=b))
 | .gtr=>K (decide (a > b))
 | .geq=>K (decide (a ≥ b))
 |_=>False
def optP{α:Type}(o:Option α)(K:α->Prop):Prop:=∃x,o=some x/\K x
def unIP(ls:TB)(K:Int->TB->Prop):Prop:=match ls with | .i n :: r=>K n r|_=>False
def unBP(ls:TB)(K:Bool->TB->Prop):Prop:=match ls with | .b n :: r=>K n r|_=>False
def unVP(ls:TB)(K:Value->TB->Prop):Prop:=match ls with | .v n :: r=>K n r|_=>False
def un0P(ls:TB)(K:Prop):Prop:=match ls with | []=>K|_=>False
def ucIP(k:TF)(ls:Tk)(K:Int->Tk->Prop):Prop:=match ls with | .int k' n :: r=>k=k'/\K n r|_=>False
def ucBP(ls:Tk)(K:Bool->Tk->Prop):Prop:=match ls with | .bool n :: r=>K n r|_=>False
def ucVP(ls:Tk)(K:Value->Tk->Prop):Prop:=match ls with|n :: r=>K n r|_=>False
def uc0P(ls:Tk)(K:Prop):Prop:=match ls with | []=>K|_=>False
def getL(h:Tp):cR:=λi=>h[i]?
abbrev _root_.Te:=List Value->Prop
def peekP(f:Pk)(h:Tp)(K:Te):Prop:=∃cs,f.run (getL h)=some cs/\K cs
def heapP(f:Hp)(h:Tp)(K:Tk->Tp->Prop):Prop:=∃a cs,f.run (getL h) h.length=some (a,cs)/\K cs (gu h a)
def callP(C:Cfg)(Sg:Tc)(g:TK)(ls:TB)(h:Tp)(K:TB->Tp->Prop):Prop:=∃a h',aB C Sg g ls h a h'/\K a h'
def callvP(C:Cfg)(v:Value)(args:Tk)(b:TH)(h:Tp)(K:TB->Tp->Prop):Prop:=∃a h',ta C v args b h a h'/\K a h'
def itP(F:(TB->Tp->Prop)->TB->Tp->Prop)(n:Nat):TB->Tp->Prop:=
 match n with
 |0=>λ_ _=>False
 |n+1=>F (itP F n)
def loopP(F:(TB->Tp->Prop)->TB->Tp->Prop)(ls:TB)(h:Tp):Prop:=∃n,itP F n ls h
def PA(C:Cfg)(Sg:Tc)(T:Tq):Alg Prop (Tp) where
 fail:=False
 cond:=condP
 ari:=ariP
 shf:=λd k a c b K=>∃n,ShRun d k a c b n/\K n
 cmp:=cmpP
 eqs:=λl K=>K (cw l)
 conv:=λk a K=>K (k.wrap a)
 sel:=λt a b K=>K (if t then a else b)
 opt:=optP
 chk:=λv K=>az v=true/\K
 unI:=unIP
 unB:=unBP
 unV:=unVP
 un0:=un0P
 ucI:=ucIP
 ucB:=ucBP
 ucV:=ucVP
 uc0:=uc0P
 peek:=peekP
 heap:=heapP
 new:=λo h K=>K h.length (h++[o])
 call:=callP C Sg
 callv:=callvP C
 join:=λb m=>m b
 loop:=loopP
def gF(C:Cfg)(Sg:Tc)(T:Tq):AlgOk (PA C Sg T) C Sg T id id where
 fail:=λh=>h
 cond:=by
  intro b x y h;cases b
  ·exact .inr ⟨rfl,h.2 rfl⟩
  ·exact .inl ⟨rfl,h.1 rfl⟩
 ari:=by
  intro e k a b K h;have h:ariP e k a b K:=h;cases e<;>simp only[ariP]at h
  ·exact⟨_,λP t w=>by simp[binOp,Op.intArith],h⟩
  ·exact⟨_,λP t w=>by simp[binOp,Op.intArith],h⟩
  ·exact⟨_,λP t w=>by simp[binOp,Op.intArith],h⟩
  ·obtain⟨s,h⟩:=h;exact⟨_,λP t w=>by simp[binOp,Op.intDiv,s],h⟩
  ·obtain⟨s,h⟩:=h;exact⟨_,λP t w=>by simp[binOp,Op.intDiv,s],h⟩
  ·rcases h with⟨rfl,B⟩|⟨_,n,p,q⟩
   ·exact⟨_,oY rfl,B⟩
   ·exact⟨n,p,q⟩
  all_goals exact h
 shf:=λe k a z b K h=>h
 cmp:=by
  intro e a b K h;have h:cmpP e a b K:=h;cases e<;>simp only[cmpP]at h<;>exact⟨_,rfl,h⟩
 eqs:=λl K h=>h
 conv:=λk a K h=>h
 sel:=λt a b K h=>h
 opt:=λo K h=>h
 chk:=λv K h=>h
 unI:=by
  intro c K h
  match c,h with
  | .i n :: r,h=>exact⟨n,r,rfl,h⟩
 unB:=by
  intro c K h
  match c,h with
  | .b n :: r,h=>exact⟨n,r,rfl,h⟩
 unV:=by
  intro c K h
  match c,h with
  | .v n :: r,h=>exact⟨n,r,rfl,h⟩
 un0:=by
  intro c K h
  match c,h with
  | [],h=>exact⟨rfl,h⟩
 ucI:=by
  intro k c K h
  match c,h with
  | .int z n :: r,h=>
   obtain⟨rfl,h⟩ : k=z/\K n r:=h;exact⟨n,r,rfl,h⟩
 ucB:=by
  intro c K h
  match c,h with
  | .bool n :: r,h=>exact⟨n,r,rfl,h⟩
 ucV:=by
  intro c K h
  match c,h with
  |n :: r,h=>exact⟨n,r,rfl,h⟩
 uc0:=by
  intro c K h
  match c,h with
  | [],h=>exact⟨rfl,h⟩
 peek:=λf h K d=>d
 heap:=by
  intro f h K d;obtain⟨j,A,p,q⟩:=d;exact⟨j,A,_,p,rfl,q⟩
 new:=λo h K d=>⟨_,rfl,d⟩
 call:=λg c h K d=>d
 callv:=λv u D h K d=>d
 join:=λb m h=>h
 loop:=by
  intro F c h d;obtain⟨n,d⟩:=d;exact⟨itP F,λc h=>(id:False->False),λn c h=>rfl,n,d⟩
def SL.plain_scalar{l:SL}{k:LK}(h:l.is k=true)(a:k.plain=true):scalar l.val=true:=by
 cases l<;>cases k<;>first|(cases a;done)|(cases h;done)|rfl
def lR:∀ {cs:List SL} {ks:TE},bb cs ks=true->ks.all LK.plain=true->(cs.map SL.val).all scalar=true
 | [],[],_,_=>rfl
 |c :: cs,k :: ks,h,a=>by
  simp only[bb,qaa]at h;simp only[qcn,qaa]at a;simp only[qaF,qcn,qaa];exact⟨SL.plain_scalar h.1 a.1,lR h.2 a.2⟩
 | [],_ :: _,h,_=>by cases h
 |_ :: _,[],h,_=>by cases h
def S0.plain_flat1{x:S0}{k:SK}(h:x.is k=true)(a:k.plain=true):fD x.val=true:=by
 cases x with
 |leaf l=>
  cases k with
  |leaf k=>
   have:=SL.plain_scalar h a;show fD l.val=true;cases b:l.val<;>rw[b]at this<;>first|exact this|cases this
  |agg _=>cases h
 |agg c=>
  cases k with
  |leaf k=>cases h
  |agg d=>exact lR h a
def jQ{v:Value}(h:fD v=true):flat v=true:=by
 cases v<;>first|exact h|cases h
def jp:∀ {xs:List S0} {sks:TH},db xs sks=true->sks.all SK.plain=true->(aq xs).all fD=true
 | [],[],_,_=>rfl
 |x :: xs,k :: ks,h,a=>by
  simp only[db,qaa]at h;simp only[qcn,qaa]at a;simp only[aq,qaF,qcn,qaa];exact⟨S0.plain_flat1 h.1 a.1,jp h.2 a.2⟩
 | [],_ :: _,h,_=>by cases h
 |_ :: _,[],h,_=>by cases h
def yx{xs:List S0}{sks:TH}(h:db xs sks=true)(a:sks.all SK.plain=true):(aq xs).all flat=true:=by
 have:=jp h a;rw[qac]at this ⊢;exact λv b=>jQ (this v b)
def zg{vs:Tk}(h:vs.all fD=true):flat (gj vs)=true:=by
 match vs,h with
 | [],_=>rfl
 | [v],h=>
  simp only[qcn,List.all_nil,qdV]at h;exact jQ h
 |a :: b :: l,h=>
  show flat (.tuple (a :: b :: l).toArray)=true;simp only[flat,qaa];exact⟨by simp,h⟩
end
@[reducible] def KnoC (C:Cfg) (N:Tb) [Val]:Kno:=⟨λf args r=>∀H,dP C f args H r H,λf args H r H'=>(N f=none∨(N f=some (2*args.length+1)/\H'=H))/\dP C f args H r H'⟩
section
variable [Val]
def Ct(C:Cfg)(N:Tb)(Sg:Tc)(g:TK)(ls a:TB):Prop:=let _:Kno:=KnoC C N;∀H,aB C Sg g ls H a H
def uV{C:Cfg}{N:Tb}(a:C.P.follows .mixedOrders=true){f:TK}{args:Tk}{H:Tp}{r:Value}{H':Tp}(h:let _:Kno:=KnoC C N;pQ C f args H r H'):dP C f args H r H':=
 @uCall_ok _ _ (KnoC C N) a (λ_ _ _ h=>h) (λ_ _ _ _ _ h=>h.2) _ _ _ _ _ h
def ct_of{C:Cfg}{N:Tb}{Sg:Tc}(i:C.P.follows .mixedOrders=true)(e:∀g vs,C.G g=some vs->vs.all gfl=true){g:TK}{sg:Sig}(c:Sg g=some sg)(a:sg.plain=true){ls d:TB}{H':Tp}
  (h:let _:Kno:=KnoC C N;aB C Sg g ls [] d H'):Ct C N Sg g ls d:=by
 let _:Kno:=KnoC C N
 obtain⟨k,l,m,b,c2,c3,c4⟩:=h;rw[c]at b;cases b;simp only[Sig.plain,qaa]at a;have f:=yx c2.1 a.1;have j:=zg (jp c3.1 a.2);intro H;exact⟨sg,l,m,c,c2,c3,⟨0,.inl ⟨λH=>frame_ok e (uV i c4) f j H,rfl⟩⟩⟩
end
section
variable [Val] [Kno]
def df{n:Int}(h1:-9223372036854775808<=n)(a:n<=9223372036854775807):IntKind.wrap .i64 n=n:=by
 simp only[IntKind.wrap,IntKind.bits,IntKind.signed,qdh,ge_iff_le,qdX];split<;>omega
def sX{n:Int}(h1:0<=n)(a:n<=255):IntKind.wrap .u8 n=n:=by
 simp only[IntKind.wrap,IntKind.bits,IntKind.signed,qdS,qar,if_false];omega
end
end Sx
namespace Sx
section
variable [Val]
end
end Sx
end Go.Am
namespace Go.Am
open Sx
abbrev FB:=List Lf->HTr->(TB->HTr->RT)->RT
def nf:FB:=λ_ _ _=>none
def tell(a:TB)(_:HTr):RT:=sw a λa=>some a
def memo(g:FB):FB:=λa h K=>sw a λa=>@Option.rec _ (λ_=>RT) none (λb=>K b h) (g a .empty tell)
def fB{R:Type}(b:Bool)(k:Bool->R):R:=Bool.rec (k false) (k true) b
def flatI(v:Value):Bool:=match v with
 | .int _ _=>true
 | .bool _=>true
 |_=>false
def allR(c:Tr Value)(n:Nat):Bool:=@Nat.rec (λ_=>Bool) true (λi a=>@Bool.rec (λ_=>Bool) false a (flatI ((bV i).get nilV c))) n
def ext(h:HTr)(d:RT)(ls:TB):HTr->(TB->HTr->RT)->RT:=
 @List.rec Lf (λ_=>HTr->(TB->HTr->RT)->RT) (λf k=>k [] f) (λx _ m f k=>match x with
  | .i n=>fI n λn=>m f λl g=>k (.i n :: l) g
  | .b t=>fB t λt=>m f λl g=>k (.b t :: l) g
  | .v v=>match v with
   | .slice (some a) j p=>match h.at a.block with
    |some (.t n e _ c)=>match tagB a.spot e,allR c n with
     |true,true=>mw f (.t n e false c) λg=>fN a.off λo=>fN j λj=>fN p λp=>m g λl q=>k (.v (.slice (some ⟨f.n,o,tag e⟩) j p) :: l) q
     |_,_=>d
    |_=>d
   |v=>match flat v with
    |true=>m f λl g=>k (.v v :: l) g
    |false=>d) ls
def fx{K b:TB->HTr->RT}(h:∀a h,K a h=b a h):K=b:=funext λa=>funext λx=>h a x
abbrev cB(x y:RT)(b:Bool):RT:=@Bool.rec (λ_=>RT) x y b
def c2{A B Z:Sort _}{f g:A->B->Z}(h:f=g)(a:A)(b:B):f a b=g a b:=by rw[h]
def c3{A B C Z:Sort _}{f g:A->B->C->Z}(h:f=g)(a:A)(b:B)(c:C):f a b c=g a b c:=by rw[h]
def c4{A B C D Z:Sort _}{f g:A->B->C->D->Z}(h:f=g)(a:A)(b:B)(c:C)(d:D):f a b c d=g a b c d:=by rw[h]
def c5{A B C D E Z:Sort _}{f g:A->B->C->D->E->Z}(h:f=g)(a:A)(b:B)(c:C)(d:D)(e:E):f a b c d e=g a b c d e:=by rw[h]
def c6{A B C D E F Z:Sort _}{f g:A->B->C->D->E->F->Z}(h:f=g)(a:A)(b:B)(c:C)(d:D)(e:E)(x5:F):f a b c d e x5=g a b c d e x5:=by rw[h]
def c7{A B C D E F G Z:Sort _}{f g:A->B->C->D->E->F->G->Z}(h:f=g)(a:A)(b:B)(c:C)(d:D)(e:E)(x5:F)(x6:G):f a b c d e x5 x6=g a b c d e x5 x6:=by rw[h]
def c8{A B C D E F G H Z:Sort _}{f g:A->B->C->D->E->F->G->H->Z}(h:f=g)(a:A)(b:B)(c:C)(d:D)(e:E)(x5:F)(x6:G)(x7:H):f a b c d e x5 x6 x7=g a b c d e x5 x6 x7:=by rw[h]
def c9{A B C D E F G H I Z:Sort _}{f g:A->B->C->D->E->F->G->H->I->Z}(h:f=g)(a:A)(b:B)(c:C)(d:D)(e:E)(x5:F)(x6:G)(x7:H)(x8:I):f a b c d e x5 x6 x7 x8=g a b c d e x5 x6 x7 x8:=by rw[h]
def c11{A B C D E F G H I J K Z:Sort _}{f g:A->B->C->D->E->F->G->H->I->J->K->Z}(h:f=g)(a:A)(b:B)(c:C)(d:D)(e:E)(x5:F)(x6:G)(x7:H)(x8:I)(x9:J)(x10:K):f a b c d e x5 x6 x7 x8 x9 x10=g a b c d e x5 x6 x7 x8 x9 x10:=by rw[h]
def c16{A B C D E F G H I J K L M N O P Z:Sort _}{f g:A->B->C->D->E->F->G->H->I->J->K->L->M->N->O->P->Z}(h:f=g)(e:A)(i:B)(j:C)(k:D)(l:E)(x5:F)(x6:G)(x7:H)(x8:I)(x9:J)(x10:K)(a:L)(b:M)(c:N)(x14:O)(d:P):f e i j k l x5 x6 x7 x8 x9 x10 a b c x14 d=g e i j k l x5 x6 x7 x8 x9 x10 a b c x14 d:=by rw[h]
abbrev r0(X:RT)(ls:TB):RT:=@List.rec Lf (λ_=>RT) X (λ_ _ _=>none) ls
section
variable {Sg:Tc} {T:Tq} {call:gI}
end
section
variable [Val] [Kno]
def eqLs(a:TB):TB->Bool:=@List.rec _ (λ_=>TB->Bool) (λb=>@List.rec _ (λ_=>Bool) true (λ_ _ _=>false) b) (λx _ c b=>@List.rec _ (λ_=>Bool) false (λy m _=>@Bool.rec (λ_=>Bool) false (c m) (eqLf x y)) b) a
def yI{x y:Lf}(h:eqLf x y=true):x=y:=by
 cases x<;>cases y<;>first|(cases h;done)|skip
 ·have h:eqZK _ _=true:=h;rw[vq,beq_iff_eq]at h;rw[h]
 next a b=>cases a<;>cases b<;>first|rfl|cases h
def pZ:∀ {a b:TB},eqLs a b=true->a=b
 | [],[],_=>rfl
 |x :: a,y :: b,h=>by
  have h:@Bool.rec (λ_=>Bool) false (eqLs a b) (eqLf x y)=true:=h;cases e:eqLf x y with
  |true=>rw[e]at h;rw[yI e,pZ h]
  |false=>rw[e]at h;cases h
 | [],_ :: _,h=>by cases h
 |_ :: _,[],h=>by cases h
abbrev KN1:=Nat×List Lf×List Lf
def EntOk(C:Cfg)(Sg:Tc)(T:Tq)(k:Nat)(g:FB):Prop:=∀ls h K w,dQ ls->g ls h K=some w->∃a h',aB C Sg k ls (absH T (toL h)) a (absH T (toL h'))/\K a h'=some w
def AllK(C:Cfg)(Sg:Tc)(l:List KN1):Prop:=∀p∈l,∀H,aB C Sg p.1 p.2.1 H p.2.2 H
def tell_eq:tell=λa _=>some a:=by
 funext a h
 exact eQ a _
def memo_ok{C:Cfg}{Sg:Tc}{T:Tq}(d:∀f sg ls a H',Sg f=some sg->sg.plain=true->aB C Sg f ls [] a H'->∀H,aB C Sg f ls H a H)
  {k:Nat} {g:FB} {sg:Sig} (hg:EntOk C Sg T k g) (m:Sg k=some sg) (l:sg.plain=true):EntOk C Sg T k (memo g):=by
 intro ls h K w c b;unfold memo at b;rw[eQ,tell_eq]at b;cases e:g ls .empty (λa _=>some a)with
 |none=>rw[e]at b;cases b
 |some a=>
  rw[e]at b;obtain⟨n,o,i,j⟩:=hg ls .empty _ a c e;cases j;exact⟨a,h,d k sg ls a _ m l i _,b⟩
end
end Go.Am
namespace Go.Am
open Sx Go.Proofs
instance val0 : Val := ⟨λ_ => 0⟩
instance kno0:Kno:=KnoC cc neuN
def mixed:cc.P.follows .mixedOrders=true:=by kernel_rfl
def rO(g:Nat)(vs:Tk)(h:cc.G g=some vs):vs.all gfl=true:=by
 unfold cc at h;simp only at h;split at h<;>first|(cases h;done)|(obtain rfl:=qat h;kernel_rfl)
def drN_ok:DrOk cc drN:=drOf_ok neuN_ok (λ_ _ _ _ _ (h:_/\_)=>h.1)
abbrev Ent(k:Nat)(g:FB):Prop:=EntOk cc ab aa k g
abbrev Cok(c:gI):Prop:=CallBOk cc ab aa c
def xU(f:TK)(sg:Sig)(ls a:TB)(H':Tp)(d:ab f=some sg)(c:sg.plain=true)(b:aB cc ab f ls [] a H'):∀H,aB cc ab f ls H a H:=ct_of mixed rO d c b
def ent_mem{k:Nat}{g:FB}{sg:Sig}(h:Ent k g)(a:ab k=some sg)(b:sg.plain=true):Ent k (memo g):=memo_ok xU h a b
def nA:Alg RT HTr->FB:=λ_=>nf
def mmA(F:Alg RT HTr->FB):Alg RT HTr->FB:=λA=>memo (F A)
inductive TrA where
 |leaf
 |node (v:Alg RT HTr->FB) (l r:TrA)
def getA(p:Pth):TrA->Alg RT HTr->FB:=
 Pth.rec (motive:=λ_=>TrA->Alg RT HTr->FB) (λt=>TrA.casesOn t nA λv _ _=>v) (λ_ a t=>TrA.casesOn t nA λ_ l _=>a l) (λ_ a t=>TrA.casesOn t nA λ_ _ r=>a r) p
def tabT:TrA:=(.node nA (.node nA (.node nA (.node f7 (.node f15 (.node f31 (.node f63 (.node (mmA f127) .leaf .leaf) .leaf) (.node f95 .leaf .leaf)) (.node (mmA f47) (.node f79 .leaf .leaf) (.node nA (.node (mmA f175) .leaf .leaf) .leaf))) (.node (mmA f23) (.node (mmA f39) (.node f71 (.node (mmA f135) .leaf .leaf) .leaf) (.node (mmA f103) .leaf .leaf)) (.node (mmA f55) (.node (mmA f87) .leaf .leaf) (.node (mmA f119) .leaf .leaf)))) (.node nA (.node f19 (.node (mmA f35) (.node (mmA f67) (.node (mmA f131) .leaf .leaf) .leaf) (.node f99 .leaf .leaf)) (.node (mmA f51) (.node f83 .leaf .leaf) .leaf)) (.node f27 (.node f43 (.node f75 .leaf .leaf) (.node f107 (.node (mmA f171) .leaf .leaf) .leaf)) (.node f59 (.node f91 .leaf .leaf) (.node (mmA f123) .leaf .leaf))))) (.node f5 (.node f9 (.node f17 (.node (mmA f33) (.node (mmA f65) (.node f129 .leaf .leaf) .leaf) (.node (mmA f97) .leaf .leaf)) (.node f49 (.node f81 .leaf .leaf) .leaf)) (.node f25 (.node f41 (.node f73 (.node (mmA f137) .leaf .leaf) .leaf) (.node (mmA f105) (.node f169 .leaf .leaf) .leaf)) (.node (mmA f57) (.node f89 .leaf .leaf) (.node (mmA f121) .leaf .leaf)))) (.node (mmA f13) (.node f21 (.node f37 (.node f69 (.node (mmA f133) .leaf .leaf) .leaf) (.node (mmA f101) .leaf .leaf)) (.node (mmA f53) (.node (mmA f85) .leaf .leaf) (.node f117 .leaf .leaf))) (.node f29 (.node f45 (.node f77 .leaf .leaf) (.node nA (.node (mmA f173) .leaf .leaf) .leaf)) (.node f61 (.node f93 .leaf .leaf) (.node (mmA f125) .leaf .leaf)))))) (.node nA (.node nA (.node f8 (.node f16 (.node (mmA f32) (.node (mmA f64) (.node f128 .leaf .leaf) .leaf) (.node (mmA f96) (.node f160 .leaf .leaf) .leaf)) (.node f48 (.node f80 (.node f144 .leaf .leaf) .leaf) .leaf)) (.node f24 (.node nA (.node f72 (.node (mmA f136) .leaf .leaf) .leaf) (.node (mmA f104) .leaf .leaf)) (.node f56 (.node (mmA f88) (.node f152 .leaf .leaf) .leaf) (.node f120 .leaf .leaf)))) (.node nA (.node f20 (.node (mmA f36) (.node f68 (.node (mmA f132) .leaf .leaf) .leaf) (.node f100 .leaf .leaf)) (.node (mmA f52) (.node (mmA f84) .leaf .leaf) (.node (mmA f116) .leaf .leaf))) (.node (mmA f28) (.node f44 (.node (mmA f76) .leaf .leaf) (.node nA (.node (mmA f172) .leaf .leaf) .leaf)) (.node (mmA f60) (.node (mmA f92) .leaf .leaf) (.node (mmA f124) .leaf .leaf))))) (.node f6 (.node f10 (.node (mmA f18) (.node (mmA f34) (.node f66 (.node (mmA f130) .leaf .leaf) .leaf) (.node (mmA f98) .leaf .leaf)) (.node f50 (.node f82 .leaf .leaf) .leaf)) (.node f26 (.node f42 (.node f74 (.node f138 .leaf .leaf) .leaf) (.node f106 (.node (mmA f170) .leaf .leaf) .leaf)) (.node (mmA f58) (.node f90 .leaf .leaf) (.node f122 .leaf .leaf)))) (.node f14 (.node f22 (.node (mmA f38) (.node (mmA f70) (.node (mmA f134) .leaf .leaf) .leaf) (.node (mmA f102) (.node (mmA f166) .leaf .leaf) .leaf)) (.node f54 (.node (mmA f86) .leaf .leaf) (.node f118 .leaf .leaf))) (.node (mmA f30) (.node (mmA f46) (.node f78 .leaf .leaf) (.node nA (.node f174 .leaf .leaf) .leaf)) (.node (mmA f62) (.node (mmA f94) .leaf .leaf) (.node (mmA f126) .leaf .leaf)))))))
def stepF(c:gI):gI:=λa=>match a with
 | .f f=>match Nat.blt f 176 with
  |true=>getA (bV f) tabT (BA ab aa c)
  |false=>nf
 | .y .. => nf
def runF(n:Nat):gI:=Nat.rec (motive:=λ_=>gI) (λ_ _ _ _=>none) (λ_ c=>stepF c) n
section
variable {k:Nat} {F:(R HT:Type)->Alg R HT->TB->HT->(TB->HT->R)->R} {fn:Fn1} {c:gI}
def tn(h1:getA (bV k) tabT=nA:=by kernel_rfl):Ent k (getA (bV k) tabT (BA ab aa c)):=by
 intro d h K w b a;rw[h1]at a;cases a
def oy(g:F=λR HT A ls h K=>aj A (xc k) ab drN fn ls h K)(i:FnIs (xc k) ab k fn)(j:Cok c):Ent k (F RT HTr (BA ab aa c)):=by
 intro ls h K w a b;rw[g]at b;obtain⟨l,f,d,_,e⟩:=rD (BA_ok (w:=w) j) drN_ok i a b;exact⟨l,f,d,e⟩
def tw(a:F=λR HT A ls h K=>aj A (xc k) ab drN fn ls h K)(b:FnIs (xc k) ab k fn)(d:Cok c)(h1:getA (bV k) tabT=F RT HTr:=by kernel_rfl):Ent k (getA (bV k) tabT (BA ab aa c)):=by
 rw[h1];exact oy a b d
def tm(a:F=λR HT A ls h K=>aj A (xc k) ab drN fn ls h K)(b:FnIs (xc k) ab k fn)(f:Cok c){sg:Sig}(d:ab k=some sg:=by rfl)(e:sg.plain=true:=by kernel_rfl)(h1:getA (bV k) tabT=mmA (F RT HTr):=by kernel_rfl):Ent k (getA (bV k) tabT (BA ab aa c)):=by
 rw[h1];exact ent_mem (oy a b f) d e
end
def tabT_ok{c:gI}(a:Cok c):∀f,Nat.blt f 176=true->Ent f (getA (bV f) tabT (BA ab aa c))
 |0,_=>tn
 |1,_=>tn
 |2,_=>tn
 |3,_=>tn
 |4,_=>tn
 |5,_=>tw e5 i5 a
 |6,_=>tw e6 i6 a
 |7,_=>tw e7 i7 a
 |8,_=>tw e8 i8 a
 |9,_=>tw e9 i9 a
 |10,_=>tw e10 i10 a
 |11,_=>tn
 |12,_=>tn
 |13,_=>tm e13 i13 a
 |14,_=>tw e14 i14 a
 |15,_=>tw e15 i15 a
 |16,_=>tw e16 i16 a
 |17,_=>tw e17 i17 a
 |18,_=>tm e18 i18 a
 |19,_=>tw e19 i19 a
 |20,_=>tw e20 i20 a
 |21,_=>tw e21 i21 a
 |22,_=>tw e22 i22 a
 |23,_=>tm e23 i23 a
 |24,_=>tw e24 i24 a
 |25,_=>tw e25 i25 a
 |26,_=>tw e26 i26 a
 |27,_=>tw e27 i27 a
 |28,_=>tm e28 i28 a
 |29,_=>tw e29 i29 a
 |30,_=>tm e30 i30 a
 |31,_=>tw e31 i31 a
 |32,_=>tm e32 i32 a
 |33,_=>tm e33 i33 a
 |34,_=>tm e34 i34 a
 |35,_=>tm e35 i35 a
 |36,_=>tm e36 i36 a
 |37,_=>tw e37 i37 a
 |38,_=>tm e38 i38 a
 |39,_=>tm e39 i39 a
 |40,_=>tn
 |41,_=>tw e41 i41 a
 |42,_=>tw e42 i42 a
 |43,_=>tw e43 i43 a
 |44,_=>tw e44 i44 a
 |45,_=>tw e45 i45 a
 |46,_=>tm e46 i46 a
 |47,_=>tm e47 i47 a
 |48,_=>tw e48 i48 a
 |49,_=>tw e49 i49 a
 |50,_=>tw e50 i50 a
 |51,_=>tm e51 i51 a
 |52,_=>tm e52 i52 a
 |53,_=>tm e53 i53 a
 |54,_=>tw e54 i54 a
 |55,_=>tm e55 i55 a
 |56,_=>tw e56 i56 a
 |57,_=>tm e57 i57 a
 |58,_=>tm e58 i58 a
 |59,_=>tw e59 i59 a
 |60,_=>tm e60 i60 a
 |61,_=>tw e61 i61 a
 |62,_=>tm e62 i62 a
 |63,_=>tw e63 i63 a
 |64,_=>tm e64 i64 a
 |65,_=>tm e65 i65 a
 |66,_=>tw e66 i66 a
 |67,_=>tm e67 i67 a
 |68,_=>tw e68 i68 a
 |69,_=>tw e69 i69 a
 |70,_=>tm e70 i70 a
 |71,_=>tw e71 i71 a
 |72,_=>tw e72 i72 a
 |73,_=>tw e73 i73 a
 |74,_=>tw e74 i74 a
 |75,_=>tw e75 i75 a
 |76,_=>tm e76 i76 a
 |77,_=>tw e77 i77 a
 |78,_=>tw e78 i78 a
 |79,_=>tw e79 i79 a
 |80,_=>tw e80 i80 a
 |81,_=>tw e81 i81 a
 |82,_=>tw e82 i82 a
 |83,_=>tw e83 i83 a
 |84,_=>tm e84 i84 a
 |85,_=>tm e85 i85 a
 |86,_=>tm e86 i86 a
 |87,_=>tm e87 i87 a
 |88,_=>tm e88 i88 a
 |89,_=>tw e89 i89 a
 |90,_=>tw e90 i90 a
 |91,_=>tw e91 i91 a
 |92,_=>tm e92 i92 a
 |93,_=>tw e93 i93 a
 |94,_=>tm e94 i94 a
 |95,_=>tw e95 i95 a
 |96,_=>tm e96 i96 a
 |97,_=>tm e97 i97 a
 |98,_=>tm e98 i98 a
 |99,_=>tw e99 i99 a
 |100,_=>tw e100 i100 a
 |101,_=>tm e101 i101 a
 |102,_=>tm e102 i102 a
 |103,_=>tm e103 i103 a
 |104,_=>tm e104 i104 a
 |105,_=>tm e105 i105 a
 |106,_=>tw e106 i106 a
 |107,_=>tw e107 i107 a
 |108,_=>tn
 |109,_=>tn
 |110,_=>tn
 |111,_=>tn
 |112,_=>tn
 |113,_=>tn
 |114,_=>tn
 |115,_=>tn
 |116,_=>tm e116 i116 a
 |117,_=>tw e117 i117 a
 |118,_=>tw e118 i118 a
 |119,_=>tm e119 i119 a
 |120,_=>tw e120 i120 a
 |121,_=>tm e121 i121 a
 |122,_=>tw e122 i122 a
 |123,_=>tm e123 i123 a
 |124,_=>tm e124 i124 a
 |125,_=>tm e125 i125 a
 |126,_=>tm e126 i126 a
 |127,_=>tm e127 i127 a
 |128,_=>tw e128 i128 a
 |129,_=>tw e129 i129 a
 |130,_=>tm e130 i130 a
 |131,_=>tm e131 i131 a
 |132,_=>tm e132 i132 a
 |133,_=>tm e133 i133 a
 |134,_=>tm e134 i134 a
 |135,_=>tm e135 i135 a
 |136,_=>tm e136 i136 a
 |137,_=>tm e137 i137 a
 |138,_=>tw e138 i138 a
 |139,_=>tn
 |140,_=>tn
 |141,_=>tn
 |142,_=>tn
 |143,_=>tn
 |144,_=>tw e144 i144 a
 |145,_=>tn
 |146,_=>tn
 |147,_=>tn
 |148,_=>tn
 |149,_=>tn
 |150,_=>tn
 |151,_=>tn
 |152,_=>tw e152 i152 a
 |153,_=>tn
 |154,_=>tn
 |155,_=>tn
 |156,_=>tn
 |157,_=>tn
 |158,_=>tn
 |159,_=>tn
 |160,_=>tw e160 i160 a
 |161,_=>tn
 |162,_=>tn
 |163,_=>tn
 |164,_=>tn
 |165,_=>tn
 |166,_=>tm e166 i166 a
 |167,_=>tn
 |168,_=>tn
 |169,_=>tw e169 i169 a
 |170,_=>tm e170 i170 a
 |171,_=>tm e171 i171 a
 |172,_=>tm e172 i172 a
 |173,_=>tm e173 i173 a
 |174,_=>tw e174 i174 a
 |175,_=>tm e175 i175 a
 |n+176,h=>by rw[qa5]at h;omega
def stepF_ok{c:gI}(g:Cok c):Cok (stepF c):=by
 refine⟨λf d h K w b a=>?_⟩;have a:(match Nat.blt f 176 with|true=>getA (bV f) tabT (BA ab aa c)|false=>nf) d h K=some w:=a;cases e:Nat.blt f 176 with
 |true=>rw[e]at a;exact tabT_ok g f e d h K w b a
 |false=>rw[e]at a;cases a
def wh:∀n,Cok (runF n)
 |0=>⟨λ_ _ _ _ _ _ h=>by(cases h)⟩
 |n+1=>stepF_ok (wh n)
end Go.Am
namespace Go.Am
namespace Sx
section
variable [Val] [Kno]
def peekH(T:Tq)(f:Pk)(h:HL)(K:Te):Prop:=∃cs,f.run (getH T h)=some cs/\K cs
abbrev _root_.Ta:=List Value->HL->Prop
def heapH(T:Tq)(f:Hp)(h:HL)(K:Ta):Prop:=∃a cs,f.run (getH T h) h.length=some (a,cs)/\K cs (bM h a)
abbrev _root_.Td:=List Lf->HL->Prop
def callH(C:Cfg)(Sg:Tc)(T:Tq)(g:TK)(ls:TB)(h:HL)(K:Td):Prop:=∃a h',aB C Sg g ls (absH T h) a (absH T h')/\K a h'
def callvH(C:Cfg)(T:Tq)(v:Value)(args:Tk)(b:TH)(h:HL)(K:Td):Prop:=∃a h',ta C v args b (absH T h) a (absH T h')/\K a h'
def itH(F:(TB->HL->Prop)->TB->HL->Prop)(n:Nat):TB->HL->Prop:=
 match n with
 |0=>λ_ _=>False
 |n+1=>F (itH F n)
def loopH(F:(TB->HL->Prop)->TB->HL->Prop)(ls:TB)(h:HL):Prop:=∃n,itH F n ls h
def PH(C:Cfg)(Sg:Tc)(T:Tq):Alg Prop HL where
 fail:=False
 cond:=condP
 ari:=ariP
 shf:=λd k a c b K=>∃n,ShRun d k a c b n/\K n
 cmp:=cmpP
 eqs:=λl K=>K (cw l)
 conv:=λk a K=>K (k.wrap a)
 sel:=λt a b K=>K (if t then a else b)
 opt:=optP
 chk:=λv K=>az v=true/\K
 unI:=unIP
 unB:=unBP
 unV:=unVP
 un0:=un0P
 ucI:=ucIP
 ucB:=ucBP
 ucV:=ucVP
 uc0:=uc0P
 peek:=peekH T
 heap:=heapH T
 new:=λo h K=>K h.length (h++[.o o])
 call:=callH C Sg T
 callv:=callvH C T
 join:=λb m=>m b
 loop:=loopH
def PH_ok(C:Cfg)(Sg:Tc)(T:Tq):AlgOk (PH C Sg T) C Sg T id (absH T) where
 fail:=(gF C Sg T).fail
 cond:=(gF C Sg T).cond
 ari:=(gF C Sg T).ari
 shf:=(gF C Sg T).shf
 cmp:=(gF C Sg T).cmp
 eqs:=(gF C Sg T).eqs
 conv:=(gF C Sg T).conv
 sel:=(gF C Sg T).sel
 opt:=(gF C Sg T).opt
 chk:=(gF C Sg T).chk
 unI:=(gF C Sg T).unI
 unB:=(gF C Sg T).unB
 unV:=(gF C Sg T).unV
 un0:=(gF C Sg T).un0
 ucI:=(gF C Sg T).ucI
 ucB:=(gF C Sg T).ucB
 ucV:=(gF C Sg T).ucV
 uc0:=(gF C Sg T).uc0
 peek:=by
  intro f h K a;obtain⟨d,e,i⟩:=a;exact⟨d,by rw[←nX];exact e,i⟩
 heap:=by
  intro f h K a;obtain⟨c,d,e,i⟩:=a;exact⟨c,d,_,by rw[←nX,mE];exact e,kQ T c h,i⟩
 new:=λo h K a=>⟨_,nq T h _,by rw[mE];exact a⟩
 call:=λg j h K a=>a
 callv:=λv k l h K a=>a
 join:=λb m h=>h
 loop:=by
  intro F j h a;obtain⟨n,a⟩:=a;exact⟨itH F,λj h=>(id:False->False),λn j h=>rfl,n,a⟩
section
variable {C:Cfg} {Sg:Tc} {T:Tq} {call:gI} (hc:CallBOk C Sg T call)
include hc
theorem s_shf{e:BinOp}{k d:TF}{a b:Int}{K:Int->RT}{c:Ts}(i:∀n,K n=yes->c n)(h:(BA Sg T call).shf e k a d b K=yes):(PH C Sg T).shf e k a d b c:=by
 obtain⟨n,f,g⟩:=shfB_ok (w:=[]) h;exact⟨n,f,i _ g⟩
end
def xd{F:(TB->HL->Prop)->TB->HL->Prop}(Inv:Nat->TB->HL->Prop)
  (step:∀m ls h,Inv m ls h->∀a:TB->HL->Prop,(∀b ls h,b<m->Inv b ls h->a ls h)->F a ls h):∀n m ls h,m<n->Inv m ls h->itH F n ls h
 |0,_,_,_,d,_=>absurd d (qdR _)
 |n+1,m,ls,h,d,e=>step m ls h e (itH F n) λb ls h h' c=>xd Inv step n b ls h (by omega) c
def eP{F:(TB->HL->Prop)->TB->HL->Prop}(Inv:Nat->TB->HL->Prop){m:Nat}{ls:TB}{h:HL}(c:Inv m ls h)
  (step:∀m ls h,Inv m ls h->∀a:TB->HL->Prop,(∀b ls h,b<m->Inv b ls h->a ls h)->F a ls h):loopH F ls h:=
 ⟨m+1,xd Inv step (m+1) m ls h (Nat.lt_succ_self m) c⟩
end
end Sx
namespace Sx
class Bx (α:Sort _) where
 v:α
def hid{α:Sort _} [b:Bx α]:α:=b.v
section
variable [Val] [Kno] {C:Cfg} {Sg:Tc} {T:Tq}
def b_unI{n:Int}{r:TB}{K:Int->TB->Prop}:(PH C Sg T).unI (.i n :: r) K=K n r:=rfl
def b_unB{n:Bool}{r:TB}{K:Bool->TB->Prop}:(PH C Sg T).unB (.b n :: r) K=K n r:=rfl
def b_unV{n:Value}{r:TB}{K:Value->TB->Prop}:(PH C Sg T).unV (.v n :: r) K=K n r:=rfl
def b_un0{K:Prop}:(PH C Sg T).un0 [] K=K:=rfl
def b_ucI{k:TF}{n:Int}{r:Tk}{K:Int->Tk->Prop}:(PH C Sg T).ucI k (.int k n :: r) K=K n r:=by
 show(k=k/\K n r)=K n r;simp
def b_ucB{n:Bool}{r:Tk}{K:Bool->Tk->Prop}:(PH C Sg T).ucB (.bool n :: r) K=K n r:=rfl
def b_ucV{n:Value}{r:Tk}{K:Value->Tk->Prop}:(PH C Sg T).ucV (n :: r) K=K n r:=rfl
def b_uc0{K:Prop}:(PH C Sg T).uc0 [] K=K:=rfl
def b_cond_t{X Y:Prop}:(PH C Sg T).cond true X Y=X:=by
 show((true=true->X)/\(true=false->Y))=X;simp
def b_cond_f{X Y:Prop}:(PH C Sg T).cond false X Y=Y:=by
 show((false=true->X)/\(false=false->Y))=Y;simp
def b_lss_t{a b:Int}{K:Tm}(h:a<b):(PH C Sg T).cmp .lss a b K=K true:=by
 show K (decide (a<b))=_;rw[qdZ h]
def b_lss_f{a b:Int}{K:Tm}(h:b<=a):(PH C Sg T).cmp .lss a b K=K false:=by
 show K (decide (a<b))=_;rw[qdY (by omega)]
def b_leq_t{a b:Int}{K:Tm}(h:a<=b):(PH C Sg T).cmp .leq a b K=K true:=by
 show K (decide (a<=b))=_;rw[qdZ h]
def b_leq_f{a b:Int}{K:Tm}(h:b<a):(PH C Sg T).cmp .leq a b K=K false:=by
 show K (decide (a<=b))=_;rw[qdY (by omega)]
def b_gtr_t{a b:Int}{K:Tm}(h:b<a):(PH C Sg T).cmp .gtr a b K=K true:=by
 show K (decide (a > b))=_;rw[qdZ h]
def b_gtr_f{a b:Int}{K:Tm}(h:a<=b):(PH C Sg T).cmp .gtr a b K=K false:=by
 show K (decide (a > b))=_;rw[qdY (by omega)]
def b_geq_t{a b:Int}{K:Tm}(h:b<=a):(PH C Sg T).cmp .geq a b K=K true:=by
 show K (decide (a ≥ b))=_;rw[qdZ h]
def b_geq_f{a b:Int}{K:Tm}(h:a<b):(PH C Sg T).cmp .geq a b K=K false:=by
 show K (decide (a ≥ b))=_;rw[qdY (by omega)]
def b_eql_t{a b:Int}{K:Tm}(h:a=b):(PH C Sg T).cmp .eql a b K=K true:=by
 show K (a==b)=_;rw[beq_iff_eq.2 h]
def b_eql_f{a b:Int}{K:Tm}(h:a≠b):(PH C Sg T).cmp .eql a b K=K false:=by
 show K (a==b)=_;rw[beq_false_of_ne h]
def b_neq_t{a b:Int}{K:Tm}(h:a≠b):(PH C Sg T).cmp .neq a b K=K true:=by
 show K (a != b)=_;rw[bne_iff_ne.2 h]
def b_neq_f{a b:Int}{K:Tm}(h:a=b):(PH C Sg T).cmp .neq a b K=K false:=by
 show K (a != b)=_;subst h;simp
def b_add{a b:Int}{K:Ts}(h1:-9223372036854775808<=a+b)(c:a+b<=9223372036854775807):(PH C Sg T).ari .add .i64 a b K=K (a+b):=by
 show K (IntKind.wrap .i64 (a+b))=_;rw[df h1 c]
def b_sub{a b:Int}{K:Ts}(h1:-9223372036854775808<=a - b)(c:a - b<=9223372036854775807):(PH C Sg T).ari .sub .i64 a b K=K (a - b):=by
 show K (IntKind.wrap .i64 (a - b))=_;rw[df h1 c]
def b_mul{a b:Int}{K:Ts}(h1:-9223372036854775808<=a*b)(c:a*b<=9223372036854775807):(PH C Sg T).ari .mul .i64 a b K=K (a*b):=by
 show K (IntKind.wrap .i64 (a*b))=_;rw[df h1 c]
def b_add8{a b:Int}{K:Ts}(h1:0<=a+b)(c:a+b<=255):(PH C Sg T).ari .add .u8 a b K=K (a+b):=by
 show K (IntKind.wrap .u8 (a+b))=_;rw[sX h1 c]
def b_sub8{a b:Int}{K:Ts}(h1:0<=a - b)(c:a - b<=255):(PH C Sg T).ari .sub .u8 a b K=K (a - b):=by
 show K (IntKind.wrap .u8 (a - b))=_;rw[sX h1 c]
def b_mul8{a b:Int}{K:Ts}(h1:0<=a*b)(c:a*b<=255):(PH C Sg T).ari .mul .u8 a b K=K (a*b):=by
 show K (IntKind.wrap .u8 (a*b))=_;rw[sX h1 c]
def tdiv_nn{a b:Int}(h:0<=a):a.tdiv b=a / b:=Int.tdiv_eq_ediv_of_nonneg h
def b_quo_nn{a b:Int}{K:Ts}(h:0<=a)(f:0<b)(c:a<=9223372036854775807):(PH C Sg T).ari .quo .i64 a b K=K (a / b):=by
 show(b≠0/\K (IntKind.wrap .i64 (a.tdiv b)))=_;have d:a / b<=a:=Int.ediv_le_self b h;have e:0<=a / b:=Int.ediv_nonneg h (by omega);rw[tdiv_nn h,df (by omega) (by omega)];simp;intro _ h;omega
def b_quo_dv{a b:Int}{K:Ts}(h:a%b=0)(f:0<b)(h1:-9223372036854775808<=a)(e:a<=9223372036854775807):(PH C Sg T).ari .quo .i64 a b K=K (a / b):=by
 show(b≠0/\K (IntKind.wrap .i64 (a.tdiv b)))=_;obtain⟨q,rfl⟩:=Int.dvd_of_emod_eq_zero h;rw[Int.mul_tdiv_cancel_left q (by omega),Int.mul_ediv_cancel_left q (by omega)];have c:-9223372036854775808<=q/\q<=9223372036854775807:=by
  rcases Int.le_total 0 q with d|d
  ·have:=qct (show(1:Int)<=b by omega) d;omega
  ·have:=qct (show(1:Int)<=b by omega) (show 0<=-q by omega);rw[Int.mul_neg b q]at this;omega
 rw[df c.1 c.2];simp;intro _ h;omega
def b_rem_nn{k:TF}{a b:Int}{K:Ts}(h:0<=a)(c:0<b):(PH C Sg T).ari .rem k a b K=K (a%b):=by
 show(b≠0/\K (a.tmod b))=_;rw[qdn h];simp;intro _ h;omega
def b_rem_np{k:TF}{a b:Int}{K:Ts}(h:a<=0)(d:0<b):(PH C Sg T).ari .rem k a b K=K (-((-a)%b)):=by
 show(b≠0/\K (a.tmod b))=_;have:a.tmod b = -((-a)%b):=by
  have c:=Int.neg_tmod a b;rw[qdn (a:=-a) (by omega)]at c;omega
 rw[this];simp;intro _ h;omega
def b_and1{a:Int}{K:Ts}:(PH C Sg T).ari .and .i64 a 1 K=K (a%2):=by
 show(((1:Int)=1/\K (a%2))∨((1:Int)≠1/\∃n,qU .and .i64 a 1 n/\K n))=K (a%2);simp
def b_conv{a:Int}{K:Ts}(h1:-9223372036854775808<=a)(b:a<=9223372036854775807):(PH C Sg T).conv .i64 a K=K a:=by
 show K (IntKind.wrap .i64 a)=_;rw[df h1 b]
def b_conv8{a:Int}{K:Ts}(h1:0<=a)(b:a<=255):(PH C Sg T).conv .u8 a K=K a:=by
 show K (IntKind.wrap .u8 a)=_;rw[sX h1 b]
def b_sel_t{a b:Int}{K:Ts}:(PH C Sg T).sel true a b K=K a:=rfl
def b_sel_f{a b:Int}{K:Ts}:(PH C Sg T).sel false a b K=K b:=rfl
def b_opt{α:Type}{x:α}{K:α->Prop}:(PH C Sg T).opt (some x) K=K x:=by
 show(∃y,some x=some y/\K y)=K x;simp
def b_inB{n:Nat}{i:Int}{K:Unit->Prop}(h1:0<=i)(a:i<(n:Int)):(PH C Sg T).opt (inB n i) K=K ():=by
 rw[show inB n i=some ()from(inB_eq n i).trans (qd0 ⟨h1,a⟩),b_opt]
def b_join{b:Td}{m:(TB->HL->Prop)->Prop}:(PH C Sg T).join b m=m b:=rfl
def b_eqs0{K:Tm}:(PH C Sg T).eqs [] K=K true:=rfl
def b_eqs_t{a b:Int}{l:List (Lf×Lf)}{K:Tm}(h:a=b):(PH C Sg T).eqs ((.i a,.i b) :: l) K=(PH C Sg T).eqs l K:=by
 show K (cw _)=K (cw l);subst h;simp[cw,gG]
def b_eqs_f{a b:Int}{l:List (Lf×Lf)}{K:Tm}(h:a≠b):(PH C Sg T).eqs ((.i a,.i b) :: l) K=K false:=by
 show K (cw _)=K false;have:(a==b)=false:=beq_false_of_ne h;simp[cw,gG,this]
def gz{F:(TB->HL->Prop)->TB->HL->Prop}{ls:TB}{h:HL}(n:Nat)(a:itH F n ls h):(PH C Sg T).loop F ls h:=⟨n,a⟩
def b_it{F:(TB->HL->Prop)->TB->HL->Prop}{n:Nat}{ls:TB}{h:HL}:itH F (n+1) ls h=F (itH F n) ls h:=rfl
def ah{g:TK}{ls a:TB}{h:HL}{K:Td}(b:∀H,aB C Sg g ls H a H)(c:K a h):(PH C Sg T).call g ls h (@hid _ ⟨K⟩):=⟨a,h,b _,c⟩
def b_eqsb_t{a b:Bool}{l:List (Lf×Lf)}{K:Tm}(h:a=b):(PH C Sg T).eqs ((.b a,.b b) :: l) K=(PH C Sg T).eqs l K:=by
 show K (cw _)=K (cw l);subst h;simp[cw,gG]
def b_eqsb_tf{l:List (Lf×Lf)}{K:Tm}:(PH C Sg T).eqs ((.b true,.b false) :: l) K=K false:=rfl
def b_eqsb_ft{l:List (Lf×Lf)}{K:Tm}:(PH C Sg T).eqs ((.b false,.b true) :: l) K=K false:=rfl
def b_mul_1{b:Int}{K:Ts}(h1:-9223372036854775808<=b)(a:b<=9223372036854775807):(PH C Sg T).ari .mul .i64 1 b K=K b:=by
 show K (IntKind.wrap .i64 (1*b))=_;rw[Int.one_mul,df h1 a]
def b_mul_0{b:Int}{K:Ts}:(PH C Sg T).ari .mul .i64 0 b K=K 0:=by
 show K (IntKind.wrap .i64 (0*b))=_;rw[Int.zero_mul];rfl
def b_mul_m{b:Int}{K:Ts}(h1:-9223372036854775808<=-b)(a:-b<=9223372036854775807):(PH C Sg T).ari .mul .i64 (-1) b K=K (-b):=by
 show K (IntKind.wrap .i64 (-1*b))=_;have:(-1*b:Int) = -b:=by omega
 rw[this,df h1 a]
def b_mul_r1{b:Int}{K:Ts}(h1:-9223372036854775808<=b)(a:b<=9223372036854775807):(PH C Sg T).ari .mul .i64 b 1 K=K b:=by
 show K (IntKind.wrap .i64 (b*1))=_;rw[Int.mul_one,df h1 a]
def b_mul_r0{b:Int}{K:Ts}:(PH C Sg T).ari .mul .i64 b 0 K=K 0:=by
 show K (IntKind.wrap .i64 (b*0))=_;rw[Int.mul_zero];rfl
def b_mul_rm{b:Int}{K:Ts}(h1:-9223372036854775808<=-b)(a:-b<=9223372036854775807):(PH C Sg T).ari .mul .i64 b (-1) K=K (-b):=by
 show K (IntKind.wrap .i64 (b * -1))=_;have:(b * -1:Int) = -b:=by omega
 rw[this,df h1 a]
def b_add_0{b:Int}{K:Ts}(h1:-9223372036854775808<=b)(a:b<=9223372036854775807):(PH C Sg T).ari .add .i64 0 b K=K b:=by
 show K (IntKind.wrap .i64 (0+b))=_;rw[Int.zero_add,df h1 a]
def b_add_r0{b:Int}{K:Ts}(h1:-9223372036854775808<=b)(a:b<=9223372036854775807):(PH C Sg T).ari .add .i64 b 0 K=K b:=by
 show K (IntKind.wrap .i64 (b+0))=_;rw[Int.add_zero,df h1 a]
def b_add_11{K:Ts}:(PH C Sg T).ari .add .i64 1 1 K=K 2:=by
 show K (IntKind.wrap .i64 (1+1))=_;rfl
def b_quo_1{a:Int}{K:Ts}(h1:-9223372036854775808<=a)(b:a<=9223372036854775807):(PH C Sg T).ari .quo .i64 a 1 K=K a:=by
 show((1:Int)≠0/\K (IntKind.wrap .i64 (a.tdiv 1)))=_;rw[Int.tdiv_one,df h1 b];simp
def ae{α:Type}{o:Option α}{x:α}{K:α->Prop}(h:o=some x)(a:K x):(PH C Sg T).opt o (@hid _ ⟨K⟩):=⟨x,h,a⟩
theorem p_unI{n:Int}{r:TB}{K:Int->TB->Prop}:(PH C Sg T).unI (.i n :: r) (@hid _ ⟨K⟩)=K n r:=b_unI
theorem p_unB{n:Bool}{r:TB}{K:Bool->TB->Prop}:(PH C Sg T).unB (.b n :: r) (@hid _ ⟨K⟩)=K n r:=b_unB
theorem p_unV{n:Value}{r:TB}{K:Value->TB->Prop}:(PH C Sg T).unV (.v n :: r) (@hid _ ⟨K⟩)=K n r:=b_unV
theorem p_un0{K:Prop}:(PH C Sg T).un0 [] (@hid _ ⟨K⟩)=K:=b_un0
theorem p_ucI{k:TF}{n:Int}{r:Tk}{K:Int->Tk->Prop}:(PH C Sg T).ucI k (.int k n :: r) (@hid _ ⟨K⟩)=K n r:=b_ucI
theorem p_ucB{n:Bool}{r:Tk}{K:Bool->Tk->Prop}:(PH C Sg T).ucB (.bool n :: r) (@hid _ ⟨K⟩)=K n r:=b_ucB
theorem p_ucV{n:Value}{r:Tk}{K:Value->Tk->Prop}:(PH C Sg T).ucV (n :: r) (@hid _ ⟨K⟩)=K n r:=b_ucV
theorem p_uc0{K:Prop}:(PH C Sg T).uc0 [] (@hid _ ⟨K⟩)=K:=b_uc0
theorem p_cond_t{X Y:Prop}:(PH C Sg T).cond true (@hid _ ⟨X⟩) Y=X:=b_cond_t
theorem p_cond_f{X Y:Prop}:(PH C Sg T).cond false X (@hid _ ⟨Y⟩)=Y:=b_cond_f
theorem p_lss_t{a b:Int}{K:Tm}(h:a<b):(PH C Sg T).cmp .lss a b (@hid _ ⟨K⟩)=K true:=b_lss_t h
theorem p_lss_f{a b:Int}{K:Tm}(h:b<=a):(PH C Sg T).cmp .lss a b (@hid _ ⟨K⟩)=K false:=b_lss_f h
theorem p_leq_t{a b:Int}{K:Tm}(h:a<=b):(PH C Sg T).cmp .leq a b (@hid _ ⟨K⟩)=K true:=b_leq_t h
theorem p_leq_f{a b:Int}{K:Tm}(h:b<a):(PH C Sg T).cmp .leq a b (@hid _ ⟨K⟩)=K false:=b_leq_f h
theorem p_gtr_t{a b:Int}{K:Tm}(h:b<a):(PH C Sg T).cmp .gtr a b (@hid _ ⟨K⟩)=K true:=b_gtr_t h
theorem p_gtr_f{a b:Int}{K:Tm}(h:a<=b):(PH C Sg T).cmp .gtr a b (@hid _ ⟨K⟩)=K false:=b_gtr_f h
theorem p_geq_t{a b:Int}{K:Tm}(h:b<=a):(PH C Sg T).cmp .geq a b (@hid _ ⟨K⟩)=K true:=b_geq_t h
theorem p_geq_f{a b:Int}{K:Tm}(h:a<b):(PH C Sg T).cmp .geq a b (@hid _ ⟨K⟩)=K false:=b_geq_f h
theorem p_eql_t{a b:Int}{K:Tm}(h:a=b):(PH C Sg T).cmp .eql a b (@hid _ ⟨K⟩)=K true:=b_eql_t h
theorem p_eql_f{a b:Int}{K:Tm}(h:a≠b):(PH C Sg T).cmp .eql a b (@hid _ ⟨K⟩)=K false:=b_eql_f h
theorem p_neq_t{a b:Int}{K:Tm}(h:a≠b):(PH C Sg T).cmp .neq a b (@hid _ ⟨K⟩)=K true:=b_neq_t h
theorem p_neq_f{a b:Int}{K:Tm}(h:a=b):(PH C Sg T).cmp .neq a b (@hid _ ⟨K⟩)=K false:=b_neq_f h
theorem p_add{a b:Int}{K:Ts}(h1:-9223372036854775808<=a+b)(c:a+b<=9223372036854775807):(PH C Sg T).ari .add .i64 a b (@hid _ ⟨K⟩)=K (a+b):=b_add h1 c
theorem p_sub{a b:Int}{K:Ts}(h1:-9223372036854775808<=a - b)(c:a - b<=9223372036854775807):(PH C Sg T).ari .sub .i64 a b (@hid _ ⟨K⟩)=K (a - b):=b_sub h1 c
theorem p_mul{a b:Int}{K:Ts}(h1:-9223372036854775808<=a*b)(c:a*b<=9223372036854775807):(PH C Sg T).ari .mul .i64 a b (@hid _ ⟨K⟩)=K (a*b):=b_mul h1 c
theorem p_add8{a b:Int}{K:Ts}(h1:0<=a+b)(c:a+b<=255):(PH C Sg T).ari .add .u8 a b (@hid _ ⟨K⟩)=K (a+b):=b_add8 h1 c
theorem p_sub8{a b:Int}{K:Ts}(h1:0<=a - b)(c:a - b<=255):(PH C Sg T).ari .sub .u8 a b (@hid _ ⟨K⟩)=K (a - b):=b_sub8 h1 c
theorem p_mul8{a b:Int}{K:Ts}(h1:0<=a*b)(c:a*b<=255):(PH C Sg T).ari .mul .u8 a b (@hid _ ⟨K⟩)=K (a*b):=b_mul8 h1 c
theorem p_quo_nn{a b:Int}{K:Ts}(h:0<=a)(d:0<b)(c:a<=9223372036854775807):(PH C Sg T).ari .quo .i64 a b (@hid _ ⟨K⟩)=K (a / b):=b_quo_nn h d c
theorem p_quo_dv{a b:Int}{K:Ts}(h:a%b=0)(d:0<b)(h1:-9223372036854775808<=a)(c:a<=9223372036854775807):(PH C Sg T).ari .quo .i64 a b (@hid _ ⟨K⟩)=K (a / b):=b_quo_dv h d h1 c
theorem p_rem_nn{k:TF}{a b:Int}{K:Ts}(h:0<=a)(c:0<b):(PH C Sg T).ari .rem k a b (@hid _ ⟨K⟩)=K (a%b):=b_rem_nn h c
theorem p_rem_np{k:TF}{a b:Int}{K:Ts}(h:a<=0)(c:0<b):(PH C Sg T).ari .rem k a b (@hid _ ⟨K⟩)=K (-((-a)%b)):=b_rem_np h c
theorem p_and1{a:Int}{K:Ts}:(PH C Sg T).ari .and .i64 a 1 (@hid _ ⟨K⟩)=K (a%2):=b_and1
theorem p_conv{a:Int}{K:Ts}(h1:-9223372036854775808<=a)(b:a<=9223372036854775807):(PH C Sg T).conv .i64 a (@hid _ ⟨K⟩)=K a:=b_conv h1 b
theorem p_conv8{a:Int}{K:Ts}(h1:0<=a)(b:a<=255):(PH C Sg T).conv .u8 a (@hid _ ⟨K⟩)=K a:=b_conv8 h1 b
theorem p_sel_t{a b:Int}{K:Ts}:(PH C Sg T).sel true a b (@hid _ ⟨K⟩)=K a:=b_sel_t
theorem p_sel_f{a b:Int}{K:Ts}:(PH C Sg T).sel false a b (@hid _ ⟨K⟩)=K b:=b_sel_f
theorem p_opt{α:Type}{x:α}{K:α->Prop}:(PH C Sg T).opt (some x) (@hid _ ⟨K⟩)=K x:=b_opt
theorem p_inB{n:Nat}{i:Int}{K:Unit->Prop}(h1:0<=i)(a:i<(n:Int)):(PH C Sg T).opt (inB n i) (@hid _ ⟨K⟩)=K ():=b_inB h1 a
theorem p_join{b:Td}{m:(TB->HL->Prop)->Prop}:(PH C Sg T).join (@hid _ ⟨b⟩) (@hid _ ⟨m⟩)=m (@hid _ ⟨b⟩):=b_join
theorem p_eqs0{K:Tm}:(PH C Sg T).eqs [] (@hid _ ⟨K⟩)=K true:=b_eqs0
theorem p_eqs_t{a b:Int}{l:List (Lf×Lf)}{K:Tm}(h:a=b):(PH C Sg T).eqs ((.i a,.i b) :: l) (@hid _ ⟨K⟩)=(PH C Sg T).eqs l (@hid _ ⟨K⟩):=b_eqs_t h
theorem p_eqs_f{a b:Int}{l:List (Lf×Lf)}{K:Tm}(h:a≠b):(PH C Sg T).eqs ((.i a,.i b) :: l) (@hid _ ⟨K⟩)=K false:=b_eqs_f h
theorem p_it{F:(TB->HL->Prop)->TB->HL->Prop}{n:Nat}{ls:TB}{h:HL}:itH (@hid _ ⟨F⟩) (n+1) ls h=F (itH (@hid _ ⟨F⟩) n) ls h:=b_it
theorem p_eqsb_t{a b:Bool}{l:List (Lf×Lf)}{K:Tm}(h:a=b):(PH C Sg T).eqs ((.b a,.b b) :: l) (@hid _ ⟨K⟩)=(PH C Sg T).eqs l (@hid _ ⟨K⟩):=b_eqsb_t h
theorem p_eqsb_tf{l:List (Lf×Lf)}{K:Tm}:(PH C Sg T).eqs ((.b true,.b false) :: l) (@hid _ ⟨K⟩)=K false:=b_eqsb_tf
theorem p_eqsb_ft{l:List (Lf×Lf)}{K:Tm}:(PH C Sg T).eqs ((.b false,.b true) :: l) (@hid _ ⟨K⟩)=K false:=b_eqsb_ft
theorem p_mul_1{b:Int}{K:Ts}(h1:-9223372036854775808<=b)(a:b<=9223372036854775807):(PH C Sg T).ari .mul .i64 1 b (@hid _ ⟨K⟩)=K b:=b_mul_1 h1 a
theorem p_mul_0{b:Int}{K:Ts}:(PH C Sg T).ari .mul .i64 0 b (@hid _ ⟨K⟩)=K 0:=b_mul_0
theorem p_mul_m{b:Int}{K:Ts}(h1:-9223372036854775808<=-b)(a:-b<=9223372036854775807):(PH C Sg T).ari .mul .i64 (-1) b (@hid _ ⟨K⟩)=K (-b):=b_mul_m h1 a
theorem p_mul_r1{b:Int}{K:Ts}(h1:-9223372036854775808<=b)(a:b<=9223372036854775807):(PH C Sg T).ari .mul .i64 b 1 (@hid _ ⟨K⟩)=K b:=b_mul_r1 h1 a
theorem p_mul_r0{b:Int}{K:Ts}:(PH C Sg T).ari .mul .i64 b 0 (@hid _ ⟨K⟩)=K 0:=b_mul_r0
theorem p_mul_rm{b:Int}{K:Ts}(h1:-9223372036854775808<=-b)(a:-b<=9223372036854775807):(PH C Sg T).ari .mul .i64 b (-1) (@hid _ ⟨K⟩)=K (-b):=b_mul_rm h1 a
theorem p_add_0{b:Int}{K:Ts}(h1:-9223372036854775808<=b)(a:b<=9223372036854775807):(PH C Sg T).ari .add .i64 0 b (@hid _ ⟨K⟩)=K b:=b_add_0 h1 a
theorem p_add_r0{b:Int}{K:Ts}(h1:-9223372036854775808<=b)(a:b<=9223372036854775807):(PH C Sg T).ari .add .i64 b 0 (@hid _ ⟨K⟩)=K b:=b_add_r0 h1 a
theorem p_add_11{K:Ts}:(PH C Sg T).ari .add .i64 1 1 (@hid _ ⟨K⟩)=K 2:=b_add_11
theorem p_quo_1{a:Int}{K:Ts}(h1:-9223372036854775808<=a)(b:a<=9223372036854775807):(PH C Sg T).ari .quo .i64 a 1 (@hid _ ⟨K⟩)=K a:=b_quo_1 h1 b
theorem p_hid2{f:Td}{a:TB}{b:HL}:@hid _ ⟨f⟩ a b=f a b:=rfl
theorem p_eqs2_f{a b c d:Int}{K:Tm}(h:¬(a=c/\b=d)):(PH C Sg T).eqs [(.i a,.i c),(.i b,.i d)] (@hid _ ⟨K⟩)=K false:=by
 show K (cw _)=K false;have:cw [(.i a,.i c),(.i b,.i d)]=false:=by
  rw[qcE];simpa[cw,gG]using h
 rw[this]
theorem p_eqs3_f{a b c d e f:Int}{K:Tm}(h:¬(a=d/\b=e/\c=f)):(PH C Sg T).eqs [(.i a,.i d),(.i b,.i e),(.i c,.i f)] (@hid _ ⟨K⟩)=K false:=by
 show K (cw _)=K false;have:cw [(.i a,.i d),(.i b,.i e),(.i c,.i f)]=false:=by
  rw[qcE];simpa[cw,gG]using h
 rw[this]
def ai{g:TK}{ls a:TB}{h h':HL}{K:Td}(b:aB C Sg g ls (absH T h) a (absH T h'))(c:K a h'):(PH C Sg T).call g ls h (@hid _ ⟨K⟩):=⟨a,h',b,c⟩
def rn{g:TK}{sg:Sig}{ls b:TB}{H H':Tp}(d:aB C Sg g ls H b H')(e:Sg g=some sg)(xs:List S0)(h1:db xs sg.ps=true)(c:cX xs=ls) :
  ta C (.func (.func g) #[] #[]) (aq xs) sg.rs H b H':=by
 obtain⟨f,i,j,a,c2,c3,c4⟩:=d;rw[e]at a;cases a;obtain⟨h,_⟩:=dz c2.1 h1 (c2.2.1.trans c.symm);rw[h]at c4;exact⟨j,c3,.inl ⟨g,#[],#[],rfl,by simpa using c4⟩⟩
def oJ{v:Value}{args:Tk}{b:TH}{a:TB}{h h':HL}{K:Td}(c:ta C v args b (absH T h) a (absH T h'))(d:K a h'):(PH C Sg T).callv v args b h (@hid _ ⟨K⟩):=⟨a,h',c,d⟩
theorem p_new{o:HObj}{h:HL}{K:Nat->HL->Prop}:(PH C Sg T).new o h (@hid _ ⟨K⟩)=K h.length (h++[.o o]):=rfl
def ac{v:Value}{K:Prop}(h:az v=true)(a:K):(PH C Sg T).chk v (@hid _ ⟨K⟩):=⟨h,a⟩
def cj{f:Hp}{h:HL}{K:Ta}{a:List Act1}{cs:Tk}(e:f.run (getH T h) h.length=some (a,cs))(b:K cs (bM h a)):(PH C Sg T).heap f h (@hid _ ⟨K⟩):=⟨a,cs,e,b⟩
def gi{f:Pk}{h:HL}{K:Te}{cs:Tk}(e:f.run (getH T h)=some cs)(a:K cs):(PH C Sg T).peek f h (@hid _ ⟨K⟩):=⟨cs,e,a⟩
def pxs(C:Cfg)(Sg:Tc)(T:Tq):=And.intro @p_hid2 (And.intro (@p_new _ _ C Sg T) (And.intro (@p_unI _ _ C Sg T) (And.intro (@p_unB _ _ C Sg T) (And.intro (@p_unV _ _ C Sg T) (And.intro (@p_un0 _ _ C Sg T) (And.intro (@p_ucI _ _ C Sg T) (And.intro (@p_ucB _ _ C Sg T) (And.intro (@p_ucV _ _ C Sg T) (And.intro (@p_uc0 _ _ C Sg T) (And.intro (@p_cond_t _ _ C Sg T) (And.intro (@p_cond_f _ _ C Sg T) (And.intro (@p_opt _ _ C Sg T) (And.intro (@p_inB _ _ C Sg T) (And.intro (@p_join _ _ C Sg T) (And.intro (@p_sel_t _ _ C Sg T) (And.intro (@p_sel_f _ _ C Sg T) ((@p_it))))))))))))))))))
def pxc(C:Cfg)(Sg:Tc)(T:Tq):=And.intro (@p_lss_t _ _ C Sg T) (And.intro (@p_lss_f _ _ C Sg T) (And.intro (@p_leq_t _ _ C Sg T) (And.intro (@p_leq_f _ _ C Sg T) (And.intro (@p_gtr_t _ _ C Sg T) (And.intro (@p_gtr_f _ _ C Sg T) (And.intro (@p_geq_t _ _ C Sg T) (And.intro (@p_geq_f _ _ C Sg T) (And.intro (@p_eql_t _ _ C Sg T) (And.intro (@p_eql_f _ _ C Sg T) (And.intro (@p_neq_t _ _ C Sg T) (And.intro (@p_neq_f _ _ C Sg T) (And.intro (@p_eqs0 _ _ C Sg T) (And.intro (@p_eqs_t _ _ C Sg T) (And.intro (@p_eqs_f _ _ C Sg T) (And.intro (@p_eqs2_f _ _ C Sg T) (And.intro (@p_eqs3_f _ _ C Sg T) (And.intro (@p_eqsb_t _ _ C Sg T) (And.intro (@p_eqsb_tf _ _ C Sg T) ((@p_eqsb_ft _ _ C Sg T))))))))))))))))))))
def pxa(C:Cfg)(Sg:Tc)(T:Tq):=And.intro (@p_mul_1 _ _ C Sg T) (And.intro (@p_mul_0 _ _ C Sg T) (And.intro (@p_mul_m _ _ C Sg T) (And.intro (@p_mul_r1 _ _ C Sg T) (And.intro (@p_mul_r0 _ _ C Sg T) (And.intro (@p_mul_rm _ _ C Sg T) (And.intro (@p_add_0 _ _ C Sg T) (And.intro (@p_add_r0 _ _ C Sg T) (And.intro (@p_add_11 _ _ C Sg T) (And.intro (@p_quo_1 _ _ C Sg T) (And.intro (@p_add _ _ C Sg T) (And.intro (@p_sub _ _ C Sg T) (And.intro (@p_mul _ _ C Sg T) (And.intro (@p_add8 _ _ C Sg T) (And.intro (@p_sub8 _ _ C Sg T) (And.intro (@p_mul8 _ _ C Sg T) (And.intro (@p_quo_nn _ _ C Sg T) (And.intro (@p_quo_dv _ _ C Sg T) (And.intro (@p_rem_nn _ _ C Sg T) (And.intro (@p_rem_np _ _ C Sg T) (And.intro (@p_and1 _ _ C Sg T) (And.intro (@p_conv _ _ C Sg T) ((@p_conv8 _ _ C Sg T)))))))))))))))))))))))
end
end Sx
namespace Sx
section
variable [Val] [Kno]
variable {C:Cfg} {Sg:Tc} {T:Tq}
def ti{h:HL}{l:Nat}{o:HO}:absH T (h.set l o)=(absH T h).set l (absO T o):=by
 unfold absH;rw[qb4]
end
end Sx
namespace Sx
open Go.Proofs
def hA(A:Alg Prop HL):Alg Prop HL where
 fail:=A.fail
 cond b x y:=A.cond b (@hid _ ⟨x⟩) (@hid _ ⟨y⟩)
 ari o k a b K:=A.ari o k a b (@hid _ ⟨K⟩)
 shf o k a l b K:=A.shf o k a l b (@hid _ ⟨K⟩)
 cmp o a b K:=A.cmp o a b (@hid _ ⟨K⟩)
 eqs l K:=A.eqs l (@hid _ ⟨K⟩)
 conv k a K:=A.conv k a (@hid _ ⟨K⟩)
 sel t a b K:=A.sel t a b (@hid _ ⟨K⟩)
 opt o K:=A.opt o (@hid _ ⟨K⟩)
 chk v x:=A.chk v (@hid _ ⟨x⟩)
 unI l K:=A.unI l (@hid _ ⟨K⟩)
 unB l K:=A.unB l (@hid _ ⟨K⟩)
 unV l K:=A.unV l (@hid _ ⟨K⟩)
 un0 l x:=A.un0 l (@hid _ ⟨x⟩)
 ucI k l K:=A.ucI k l (@hid _ ⟨K⟩)
 ucB l K:=A.ucB l (@hid _ ⟨K⟩)
 ucV l K:=A.ucV l (@hid _ ⟨K⟩)
 uc0 l x:=A.uc0 l (@hid _ ⟨x⟩)
 peek f h K:=A.peek f h (@hid _ ⟨K⟩)
 heap f h K:=A.heap f h (@hid _ ⟨K⟩)
 new o h K:=A.new o h (@hid _ ⟨K⟩)
 call g l h K:=A.call g l h (@hid _ ⟨K⟩)
 callv v a s h K:=A.callv v a s h (@hid _ ⟨K⟩)
 join b m:=A.join (@hid _ ⟨b⟩) (@hid _ ⟨m⟩)
 loop F l h:=A.loop (@hid _ ⟨F⟩) l h
def hA_eq(A:Alg Prop HL):hA A=A:=rfl
section
variable {A:Alg Prop HL}
theorem h_cond{b:Bool}{x y:Prop}:(hA A).cond b x y=A.cond b (@hid _ ⟨x⟩) (@hid _ ⟨y⟩):=rfl
theorem h_ari{o:BinOp}{k:TF}{a b:Int}{K:Ts}:(hA A).ari o k a b K=A.ari o k a b (@hid _ ⟨K⟩):=rfl
theorem h_shf{o:BinOp}{k l:TF}{a b:Int}{K:Ts}:(hA A).shf o k a l b K=A.shf o k a l b (@hid _ ⟨K⟩):=rfl
theorem h_cmp{o:BinOp}{a b:Int}{K:Tm}:(hA A).cmp o a b K=A.cmp o a b (@hid _ ⟨K⟩):=rfl
theorem h_eqs{l:List (Lf×Lf)}{K:Tm}:(hA A).eqs l K=A.eqs l (@hid _ ⟨K⟩):=rfl
theorem h_conv{k:TF}{a:Int}{K:Ts}:(hA A).conv k a K=A.conv k a (@hid _ ⟨K⟩):=rfl
theorem h_sel{t:Bool}{a b:Int}{K:Ts}:(hA A).sel t a b K=A.sel t a b (@hid _ ⟨K⟩):=rfl
theorem h_opt{α:Type}{o:Option α}{K:α->Prop}:(hA A).opt o K=A.opt o (@hid _ ⟨K⟩):=rfl
theorem h_chk{v:Value}{x:Prop}:(hA A).chk v x=A.chk v (@hid _ ⟨x⟩):=rfl
theorem h_unI{l:TB}{K:Int->TB->Prop}:(hA A).unI l K=A.unI l (@hid _ ⟨K⟩):=rfl
theorem h_unB{l:TB}{K:Bool->TB->Prop}:(hA A).unB l K=A.unB l (@hid _ ⟨K⟩):=rfl
theorem h_unV{l:TB}{K:Value->TB->Prop}:(hA A).unV l K=A.unV l (@hid _ ⟨K⟩):=rfl
theorem h_un0{l:TB}{x:Prop}:(hA A).un0 l x=A.un0 l (@hid _ ⟨x⟩):=rfl
theorem h_ucI{k:TF}{l:Tk}{K:Int->Tk->Prop}:(hA A).ucI k l K=A.ucI k l (@hid _ ⟨K⟩):=rfl
theorem h_ucB{l:Tk}{K:Bool->Tk->Prop}:(hA A).ucB l K=A.ucB l (@hid _ ⟨K⟩):=rfl
theorem h_ucV{l:Tk}{K:Value->Tk->Prop}:(hA A).ucV l K=A.ucV l (@hid _ ⟨K⟩):=rfl
theorem h_uc0{l:Tk}{x:Prop}:(hA A).uc0 l x=A.uc0 l (@hid _ ⟨x⟩):=rfl
theorem h_peek{f:Pk}{h:HL}{K:Te}:(hA A).peek f h K=A.peek f h (@hid _ ⟨K⟩):=rfl
theorem h_heap{f:Hp}{h:HL}{K:Ta}:(hA A).heap f h K=A.heap f h (@hid _ ⟨K⟩):=rfl
theorem h_new{o:HObj}{h:HL}{K:Nat->HL->Prop}:(hA A).new o h K=A.new o h (@hid _ ⟨K⟩):=rfl
theorem h_call{g:TK}{l:TB}{h:HL}{K:Td}:(hA A).call g l h K=A.call g l h (@hid _ ⟨K⟩):=rfl
theorem h_callv{v:Value}{a:Tk}{s:TH}{h:HL}{K:Td}:(hA A).callv v a s h K=A.callv v a s h (@hid _ ⟨K⟩):=rfl
theorem h_join{b:Td}{m:(TB->HL->Prop)->Prop}:(hA A).join b m=A.join (@hid _ ⟨b⟩) (@hid _ ⟨m⟩):=rfl
theorem h_loop{F:(TB->HL->Prop)->TB->HL->Prop}{l:TB}{h:HL}:(hA A).loop F l h=A.loop (@hid _ ⟨F⟩) l h:=rfl
end
def pxh(A:Alg Prop HL):=And.intro (@h_cond A) (And.intro (@h_ari A) (And.intro (@h_shf A) (And.intro (@h_cmp A) (And.intro (@h_eqs A) (And.intro (@h_conv A) (And.intro (@h_sel A) (And.intro (@h_opt A) (And.intro (@h_chk A) (And.intro (@h_unI A) (And.intro (@h_unB A) (And.intro (@h_unV A) (And.intro (@h_un0 A) (And.intro (@h_ucI A) (And.intro (@h_ucB A) (And.intro (@h_ucV A) (And.intro (@h_uc0 A) (And.intro (@h_peek A) (And.intro (@h_heap A) (And.intro (@h_new A) (And.intro (@h_call A) (And.intro (@h_callv A) (And.intro (@h_join A) (@h_loop A)))))))))))))))))))))))
end Sx
end Go.Am
namespace Go.Am
open Sx Go.Proofs
def gl_cell(g:Nat)(vs:Tk)(h:cc.G g=some vs):vs.all bg=true:=by
 unfold cc at h;simp only at h;split at h<;>first|(cases h;done)|(obtain rfl:=qat h;kernel_rfl)
abbrev P1:Alg Prop HL:=PH cc ab aa
abbrev Cc(g:TK)(ls a:TB):Prop:=∀H,aB cc ab g ls H a H
def fn_ok{f:TK}{c:Fn1}(i:FnIs (xc f) ab f c){ls:TB}{H:HL}{K:Td}(b:jR ls=true)
  (h:aj P1 (xc f) ab drN c ls H K):∃a H',aB cc ab f ls (absH aa H) a (absH aa H')/\K a H':=by
 obtain⟨a,g,d,_,e⟩:=rD (X:=xc f) (holds:=id) (abs:=absH aa) (PH_ok cc ab aa) drN_ok i (fK b) h;exact⟨a,g,d,e⟩
def fn_okG{f:TK}{c:Fn1}(i:FnIs (xc f) ab f c){ls:TB}{H:HL}{K:Td}(b:dQ ls)
  (h:aj P1 (xc f) ab drN c ls H K):∃a H',aB cc ab f ls (absH aa H) a (absH aa H')/\K a H':=by
 obtain⟨a,g,d,_,e⟩:=rD (X:=xc f) (holds:=id) (abs:=absH aa) (PH_ok cc ab aa) drN_ok i b h;exact⟨a,g,d,e⟩
def gls0:dQ []:=λ_ h=>by cases h
def glsI{n:Int}{ls:TB}(h:dQ ls):dQ (.i n :: ls):=λl hl=>by
 rcases qax.1 hl with rfl|hl
 ·trivial
 ·exact h l hl
def glsB{n:Bool}{ls:TB}(h:dQ ls):dQ (.b n :: ls):=λl hl=>by
 rcases qax.1 hl with rfl|hl
 ·trivial
 ·exact h l hl
def glsV{x:Value}{ls:TB}(a:az x=true)(h:dQ ls):dQ (.v x :: ls):=λl hl=>by
 rcases qax.1 hl with rfl|hl
 ·exact a
 ·exact h l hl
abbrev FP:=List Lf->HL->(TB->HL->Prop)->Prop
abbrev UG(k:TK)(p:FP):Prop:=∀ {ls:TB} {H:HL} {K:Td},jR ls=true->p ls H K->∃a H',aB cc ab k ls (absH aa H) a (absH aa H')/\K a H'
abbrev XG(k:TK)(p:FP):Prop:=∀ {ls:TB} {H:HL} {K:Td},dQ ls->p ls H K->∃a H',aB cc ab k ls (absH aa H) a (absH aa H')/\K a H'
abbrev QG(k:TK)(p:FP):Prop:=∀ {ls b:TB},jR ls=true->p ls [] (λa _=>a=b)->Cc k ls b
def uu{k:TK}{c:Fn1}{f:{R a:Type}->Alg R a->TB->a->(TB->a->R)->R}(d:FnIs (xc k) ab k c)(e:@f=λR a A ls h K=>aj A (xc k) ab drN c ls h K):UG k (f (hA P1)):=by
 intro ls H K b h;rw[hA_eq,e]at h;exact fn_ok d b h
def xx{k:TK}{c:Fn1}{f:{R a:Type}->Alg R a->TB->a->(TB->a->R)->R}(d:FnIs (xc k) ab k c)(e:@f=λR a A ls h K=>aj A (xc k) ab drN c ls h K):XG k (f (hA P1)):=by
 intro ls H K b h;rw[hA_eq,e]at h;exact fn_okG d b h
def qq{k:TK}{sg:Sig}{p:FP}(e:UG k p)(d:ab k=some sg)(c:sg.plain=true):QG k p:=λa h=>by
 obtain⟨_,_,b,rfl⟩:=e a h;exact ct_of mixed rO d c b
def qxs:=pxs cc ab aa
def qxh:=And.intro (qeq (hA P1)) (pxh P1)
def qxc:=pxc cc ab aa
def qxa:=pxa cc ab aa
def qXX:=And.intro qxs (And.intro qxc qxa)
def p_x{P Q:Prop}(k:Q)(h:P=Q:=by simp(disch:=omega)only[↓qXX];exact rfl):P:=Eq.mpr h k
def p_y{P Q:Prop}(k:Q)(h:P=Q:=by first|(simp(disch:=omega)only[↓qXX];exact rfl)|exact rfl):P:=Eq.mpr h k
def xK{k:TK}{p:FP}(c:XG k p){ls R:TB}{H H':HL}(hg:dQ ls)(h:p ls H λa h'=>a=R/\h'=H'):aB cc ab k ls (absH aa H) R (absH aa H'):=by
 obtain⟨a,h',b,rfl,rfl⟩:=c hg h;exact b
end Go.Am
namespace Go.Am
namespace Sx
def mN{vs:Tk}{off n:Nat}{cs:Tk}:cut vs off n=some cs↔off+n<=vs.length/\(vs.drop off).take n=cs:=by
 unfold cut;split
 next h=>simp[h]
 next h=>simp[h]
def cut_len{vs:Tk}{off n:Nat}{cs:Tk}(h:cut vs off n=some cs):cs.length=n:=by
 obtain⟨a,rfl⟩:=mN.1 h;rw[qaL,qbQ];omega
def nE{vs:Tk}{off n:Nat}{cs:Tk}(h:cut vs off n=some cs){o k:Nat}(b:o+k<=n):cut vs (off+o) k=some ((cs.drop o).take k):=by
 obtain⟨a,rfl⟩:=mN.1 h;refine mN.2 ⟨by omega,?_⟩;rw[List.drop_take,qbW,List.take_take,qa4 (by omega)]
def cut_all{vs:Tk}{n:Nat}(h:vs.length=n):cut vs 0 n=some vs:=mN.2 ⟨by omega,by rw[qbE,qaH (by omega)]⟩
def Pre(h0 h:HL):Prop:=∃G,h=h0++G
theorem Pre.refl(h:HL):Pre h h:=⟨[],by simp⟩
def Pre.trans{a b c:HL}(h:Pre a b)(k:Pre b c):Pre a c:=by
 obtain⟨G,rfl⟩:=h;obtain⟨d,rfl⟩:=k;exact⟨G++d,by simp⟩
def Pre.app{a b:HL}(h:Pre a b)(G:HL):Pre a (b++G):=h.trans ⟨G,rfl⟩
def Pre.len{a b:HL}(h:Pre a b):a.length<=b.length:=by obtain⟨G,rfl⟩:=h;simp
def Pre.get{a b:HL}(h:Pre a b){i:Nat}{o:HO}(c:a[i]?=some o):b[i]?=some o:=by
 obtain⟨G,rfl⟩:=h;have:i<a.length:=by
  rcases qaP i a.length with h|h
  ·exact h
  ·rw[qak h]at c;cases c
 rw[qam this];exact c
def Pre.set{a b:HL}(h:Pre a b){i:Nat}(c:a.length<=i)(o:HO):Pre a (b.set i o):=by
 obtain⟨G,rfl⟩:=h;rw[qbJ _ _ c];exact⟨_,rfl⟩
def Ptr(h:HL)(p:Value)(cs:Tk):Prop:=∃id o vs e rw,p = .pointer (some ⟨id,o,none⟩)/\h[id]?=some (.o (.cells vs e rw))/\cut vs o cs.length=some cs
def SlC(h:HL)(v:Value)(e n:Nat)(cs:Tk):Prop:=
 cs.length=n*e/\((v = .slice none 0 0/\n=0)∨∃id off cx vs rw,v = .slice (some ⟨id,off,tag e⟩) n cx/\h[id]?=some (.o (.cells vs e rw))/\cut vs off (n*e)=some cs)
def LsH{α:Type}(h:HL)(v:Value)(e:Nat)(enc:α->Tk)(l:List α):Prop:=(∀a∈l,(enc a).length=e)/\SlC h v e l.length (l.flatMap enc)
def Mk(n0:Nat)(h:HL)(v:Value)(e n:Nat)(cs:Tk):Prop:=
 cs.length=n*e/\((v = .slice none 0 0/\n=0)∨∃id,n0<=id/\v = .slice (some ⟨id,0,tag e⟩) n 0/\h[id]?=some (.o (.cells cs e true)))
def MkL{α:Type}(n0:Nat)(h:HL)(v:Value)(e:Nat)(enc:α->Tk)(l:List α):Prop:=(∀a∈l,(enc a).length=e)/\Mk n0 h v e l.length (l.flatMap enc)
def blk:Value->Option Nat
 | .slice (some a) _ _=>some a.block
 |_=>none
def SlC.keep{h h':HL}{v:Value}{e n:Nat}{cs:Tk}(l:SlC h v e n cs)(k:∀(j:Nat) o,h[j]?=some o->blk v=some j->h'[j]?=some o):SlC h' v e n cs:=by
 obtain⟨c,f|⟨id,a,d,m,b,rfl,g,i⟩⟩:=l
 ·exact⟨c,.inl f⟩
 ·exact⟨c,.inr ⟨id,a,d,m,b,rfl,k _ _ g rfl,i⟩⟩
def SlC.pre{h h':HL}{v:Value}{e n:Nat}{cs:Tk}(b:SlC h v e n cs)(a:Pre h h'):SlC h' v e n cs:=b.keep λ_ _ h _=>a.get h
def LsH.keep{α:Type}{h h':HL}{v:Value}{e:Nat}{enc:α->Tk}{l:List α}(a:LsH h v e enc l)(b:∀(j:Nat) o,h[j]?=some o->blk v=some j->h'[j]?=some o):LsH h' v e enc l:=⟨a.1,a.2.keep b⟩
def LsH.pre{α:Type}{h h':HL}{v:Value}{e:Nat}{enc:α->Tk}{l:List α}(a:LsH h v e enc l)(b:Pre h h'):LsH h' v e enc l:=⟨a.1,a.2.pre b⟩
def SlC.len{h:HL}{v:Value}{e n:Nat}{cs:Tk}(a:SlC h v e n cs):lenS v=some (.ofNat n):=by
 obtain⟨_,⟨rfl,rfl⟩|⟨id,b,d,f,c,rfl,_⟩⟩:=a<;>rfl
def LsH.len{α:Type}{h:HL}{v:Value}{e:Nat}{enc:α->Tk}{l:List α}(a:LsH h v e enc l):lenS v=some (.ofNat l.length):=a.2.len
def Mk.sl{n0:Nat}{h:HL}{v:Value}{e n:Nat}{cs:Tk}(d:Mk n0 h v e n cs):SlC h v e n cs:=by
 obtain⟨a,b|⟨id,_,rfl,c⟩⟩:=d
 ·exact⟨a,.inl b⟩
 ·exact⟨a,.inr ⟨id,0,0,cs,true,rfl,c,cut_all a⟩⟩
def MkL.ls{α:Type}{n0:Nat}{h:HL}{v:Value}{e:Nat}{enc:α->Tk}{l:List α}(a:MkL n0 h v e enc l):LsH h v e enc l:=⟨a.1,a.2.sl⟩
def Mk.nil(n0:Nat)(h:HL)(e:Nat):Mk n0 h (.slice none 0 0) e 0 []:=⟨by simp,.inl ⟨rfl,rfl⟩⟩
def MkL.nil{α:Type}(n0:Nat)(h:HL)(e:Nat)(enc:α->Tk):MkL n0 h (.slice none 0 0) e enc []:=⟨by simp,Mk.nil n0 h e⟩
def LsH.nil{α:Type}(h:HL)(e:Nat)(enc:α->Tk):LsH h (.slice none 0 0) e enc []:=(MkL.nil 0 h e enc).ls
def Mk.keep{n0:Nat}{h h':HL}{v:Value}{e n:Nat}{cs:Tk}(f:Mk n0 h v e n cs)(d:∀(j:Nat) o,h[j]?=some o->blk v=some j->h'[j]?=some o):Mk n0 h' v e n cs:=by
 obtain⟨b,a|⟨id,a,rfl,c⟩⟩:=f
 ·exact⟨b,.inl a⟩
 ·exact⟨b,.inr ⟨id,a,rfl,d _ _ c rfl⟩⟩
def Mk.pre{n0:Nat}{h h':HL}{v:Value}{e n:Nat}{cs:Tk}(b:Mk n0 h v e n cs)(a:Pre h h'):Mk n0 h' v e n cs:=b.keep λ_ _ h _=>a.get h
def aY{α:Type}{e:Nat}{enc:α->Tk}:∀ {l:List α},(∀a∈l,(enc a).length=e)->(l.flatMap enc).length=l.length*e
 | [],_=>by simp
 |a :: l,h=>by
  rw[qaV,qau,h a qaN,aY λb c=>h b (qav _ c),qa0,qbz,qce,Nat.add_comm]
def kY{α:Type}{e:Nat}{enc:α->Tk}:∀ {l:List α},(∀a∈l,(enc a).length=e)->∀ {i:Nat} {a:α},l[i]?=some a->((l.flatMap enc).drop (i*e)).take e=enc a
 |b :: l,h,0,a,c=>by
  simp only[qbM,qaI]at c;subst c;have:=h b qaN;rw[qch,qbE,qaV,qcz (by omega),qaH (by omega)]
 |b :: l,h,i+1,a,c=>by
  simp only[qa6]at c;have d:=h b qaN;have:=kY (λb d=>h b (qav _ d)) c;rw[qaV,qbz,qce,←this];have f:i*e+e=(enc b).length+i*e:=by omega
  rw[f,qcy,qbG (by omega),qaf,qcT]
 | [],_,_,_,c=>by simp at c
def SlC.at{h:HL}{v:Value}{e n:Nat}{cs:Tk}(l:SlC h v e n cs){i:Nat}(r:i<n):∃p,idS e v (.ofNat i)=some p/\Ptr h p ((cs.drop (i*e)).take e):=by
 obtain⟨q,⟨rfl,rfl⟩|⟨id,a,o,m,c,rfl,f,g⟩⟩:=l
 ·omega
 ·have b:i*e+e<=n*e:=by
   have:=qbt e (show i+1<=n by omega);rw[qbz,qce]at this;exact this
  refine⟨.pointer (some ⟨id,a+i*e,none⟩),?_,id,a+i*e,m,e,c,rfl,f,?_⟩
  ·rw[ud];have j:0<=Int.ofNat i/\Int.ofNat i<(n:Int):=⟨qaG i,by show(i:Int)<n;omega⟩;simp only[qd0 j];have:¬(tag e=some 1):=by simp[tag]
   simp only[qd1 this];rfl
  ·have d:=nE g b;have k:=cut_len d;rw[k];exact d
def LsH.at{α:Type}{h:HL}{v:Value}{e:Nat}{enc:α->Tk}{l:List α}(f:LsH h v e enc l){i:Nat}{a:α}(b:l[i]?=some a):∃p,idS e v (.ofNat i)=some p/\Ptr h p (enc a):=by
 have c:i<l.length:=by
  rcases qaP i l.length with h|h
  ·exact h
  ·rw[qak h]at b;cases b
 obtain⟨p,g,d⟩:=f.2.at c;rw[kY f.1 b]at d;exact⟨p,g,d⟩
def Ptr.fd{h:HL}{p:Value}{cs:Tk}(i:Ptr h p cs)(o k:Nat)(g:o+k<=cs.length):∃c,fdP o p=some c/\Ptr h c ((cs.drop o).take k):=by
 obtain⟨id,j,l,e,a,rfl,d,f⟩:=i;refine⟨_,rfl,id,j+o,l,e,a,rfl,d,?_⟩;have b:=nE f g;rw[cut_len b];exact b
section
variable [Val] [Kno]
def bN{T:Tq}{h:HL}{i:Nat}{o:HObj}(a:h[i]?=some (.o o)):getH T h i=some o:=by
 unfold getH;rw[a];rfl
def Ptr.lg{C:Cfg}{T:Tq}{h:HL}{p:Value}{cs:Tk}(f:Ptr h p cs){n:Nat}(d:cs.length=n):(Pk.lg C n p).run (getH T h)=some cs:=by
 obtain⟨id,o,a,e,g,rfl,b,c⟩:=f;subst d;show(jH (getH T h) id).bind (λa=>cut a o cs.length)=_;unfold jH;rw[bN b];exact c
def qL{C:Cfg}{T:Tq}{h:HL}{v:Value}{e n:Nat}{cs:Tk}(d:SlC h v e n cs):slG C e (getH T h) v=some (cs,n):=by
 obtain⟨a,⟨rfl,rfl⟩|⟨id,f,i,j,g,rfl,b,c⟩⟩:=d
 ·simp only[qch,qaY]at a;subst a;rfl
 ·unfold slG;have:¬(tag e=some 1):=by simp[tag]
  simp only[qd1 this,if_true];rw[bN b];simp only[if_true];rw[c];rfl
variable {C:Cfg} {Sg:Tc} {T:Tq}
def ap_mk{n0:Nat}{h0 h:HL}{v x:Value}{e n k bytes:Nat}{cs new:Tk}(g:Pre h0 h)(u:h0.length=n0)(q:Mk n0 h v e n cs)(t:SlC h x e k new)(s:bh (n+k) bytes=true) :
  ∃b v',(Hp.ap C e bytes v x).run (getH T h) h.length=some (b,[v'])/\Pre h0 (bM h b)/\Mk n0 (bM h b) v' e (n+k) (cs++new)/\
   (∀(j:Nat) o,h[j]?=some o->blk v≠some j->(bM h b)[j]?=some o)/\(blk v'=blk v∨blk v'=none∨∃j,blk v'=some j/\h.length<=j):=by
 obtain⟨i,q⟩:=q;have f:=t.1;have c3:(cs++new).length=(n+k)*e:=by rw[qau,i,f,qbz]
 have c:=qL (C:=C) (T:=T) t;rcases q with⟨rfl,rfl⟩|⟨id,hid,rfl,l⟩
 ·simp only[qch,qaY]at i;subst i;by_cases m:k=0
  ·subst m;simp only[qch,qaY]at f;subst f;refine⟨[],.slice none 0 0,?_,g,Mk.nil _ _ _,λj o d _=>d,.inl rfl⟩;show apG C e bytes (.slice none 0 0) x (getH T h) h.length=_;unfold apG;rw[c];rfl
  ·refine⟨[.push (.cells new e true)],.slice (some ⟨h.length,0,tag e⟩) k 0,?_,g.app _,?_,λj o d _=>?_,.inr (.inr ⟨h.length,rfl,qaj _⟩)⟩
   ·show apG C e bytes (.slice none 0 0) x (getH T h) h.length=_;unfold apG;rw[c];simp only[qd1 m];rw[qaR]at s;rw[qd0 s]
   ·rw[qaR,qaf];refine⟨by simpa using f,.inr ⟨h.length,by have:=g.len;omega,rfl,?_⟩⟩;simp[bM,Act1.onH]
   ·exact Pre.get ⟨_,rfl⟩ d
 ·by_cases m:k=0
  ·subst m;simp only[qch,qaY]at f;subst f;refine⟨[],.slice (some ⟨id,0,tag e⟩) n 0,?_,g,⟨c3,.inr ⟨id,hid,rfl,by simpa[bM]using l⟩⟩,λj o d _=>d,.inl rfl⟩;show apG C e bytes (.slice (some ⟨id,0,tag e⟩) n 0) x (getH T h) h.length=_;unfold apG;rw[c];simp only[ne_eq,not_true_eq_false,if_false];rw[bN l];simp only[ne_eq,not_true_eq_false,if_false];rw[cut_all i];rfl
  ·have z:id<h.length:=by
    rcases qaP id h.length with p|p
    ·exact p
    ·rw[qak p]at l;cases l
   refine⟨[.set id .dead,.push (.cells (cs++new) e true)],.slice (some ⟨h.length,0,tag e⟩) (n+k) 0,?_,?_,?_,λj o d w=>?_,.inr (.inr ⟨h.length,rfl,qaj _⟩)⟩
   ·show apG C e bytes (.slice (some ⟨id,0,tag e⟩) n 0) x (getH T h) h.length=_;unfold apG;rw[c];simp only[ne_eq,not_true_eq_false,if_false];rw[bN l];simp only[ne_eq,not_true_eq_false,if_false];rw[cut_all i];simp only[qd1 m,qdh];rw[qd0 s]
   ·exact(g.set (by omega) _).app _
   ·refine⟨c3,.inr ⟨h.length,by have:=g.len;omega,rfl,?_⟩⟩;simp[bM,Act1.onH]
   ·have r:id≠j:=λy=>w (by subst y;rfl);refine Pre.get (a:=h.set id (.o .dead)) ⟨_,rfl⟩ ?_;rw[qaD r];exact d
def p_app1{α:Type}{h0 h:HL}{v:Value}{e bytes:Nat}{enc:α->Tk}{l:List α}{a:α}{K:Ta}{new:Tk}{m:Nat}{q:To}(B:Pre h0 h)(p:MkL h0.length h v e enc l)(A:new=enc a)(z:(enc a).length=e)(i:m=h.length)(k:q=some (e+10))
  (D:bh (l.length+1) bytes=true)
  (y:∀v' h',Pre h0 h'->MkL h0.length h' v' e enc (l++[a])->az v'=true->(∀(j:Nat) o,h[j]?=some o->blk v≠some j->h'[j]?=some o)->(blk v'=blk v∨∃j,blk v'=some j/\h.length<=j)->K [v'] h') :
  (PH C Sg T).heap (.ap C e bytes v (.slice (some ⟨m,0,q⟩) 1 2)) (h++[.o (.cells new e true)]) (@hid _ ⟨K⟩):=by
 subst A i k;have E:SlC (h++[HO.o (.cells (enc a) e true)]) (.slice (some ⟨h.length,0,tag e⟩) 1 2) e 1 (enc a):=by
  refine⟨by omega,.inr ⟨h.length,0,2,enc a,true,rfl,by simp,cut_all (by omega)⟩⟩
 have g:Mk h0.length (h++[HO.o (.cells (enc a) e true)]) v e l.length (l.flatMap enc):=p.2.pre ⟨_,rfl⟩;obtain⟨n,v',r,s,f,t,u⟩:=ap_mk (C:=C) (T:=T) (B.app [HO.o (.cells (enc a) e true)]) rfl g E D;refine cj r (y v' _ s ⟨?_,?_⟩ ?_ ?_ ?_)
 ·intro b c;rcases qaz.1 c with c|c
  ·exact p.1 b c
  ·simp only[qaq]at c;subst c;exact z
 ·rw[qbB,qau];simpa using f
 ·obtain⟨_,⟨rfl,_⟩|⟨id,_,rfl,_⟩⟩:=f
  ·rfl
  ·simp[az,noLoc,aR,aZ,aT,aI,av,tag]
 ·intro j o x c;exact t j o (Pre.get ⟨_,rfl⟩ x) c
 ·rcases u with d|d|⟨j,d,w⟩
  ·exact .inl d
  ·obtain⟨F,⟨_,G⟩|⟨id,_,rfl,_⟩⟩:=f
   ·omega
   ·cases d
  ·exact .inr ⟨j,d,by simp at w;omega⟩
end
end Sx
namespace Sx
def Ptr.good{h:HL}{p:Value}{cs:Tk}(a:Ptr h p cs):az p=true:=by
 obtain⟨id,o,c,e,b,rfl,_⟩:=a;simp[az,noLoc,aR,aZ,aT,aI,av]
def SlC.good{h:HL}{v:Value}{e n:Nat}{cs:Tk}(a:SlC h v e n cs):az v=true:=by
 obtain⟨_,⟨rfl,_⟩|⟨id,b,d,f,c,rfl,_⟩⟩:=a
 ·rfl
 ·simp[az,noLoc,aR,aZ,aT,aI,av,tag]
def LsH.good{α:Type}{h:HL}{v:Value}{e:Nat}{enc:α->Tk}{l:List α}(a:LsH h v e enc l):az v=true:=a.2.good
section
variable [Val] [Kno] {C:Cfg} {Sg:Tc} {T:Tq}
def hidA{α:Sort _}{a:α}:@hid _ ⟨a⟩=a:=rfl
def hidL{F:(TB->HL->Prop)->TB->HL->Prop}{s:Td}{l:TB}{h:HL}(a:F s l h):@hid _ ⟨F⟩ s l h:=a
def aS{σ:Type}{F:(TB->HL->Prop)->TB->HL->Prop}(n:Nat)(S:Nat->σ->TB)(d:Nat->σ->HL)(Inv:Nat->σ->Prop){j0:Nat}{s0:σ}{ls:TB}{h:HL}(i:ls=S j0 s0)(k:h=d j0 s0)(g:j0<=n)(e:Inv j0 s0)
  (step:∀j s,j<=n->Inv j s->∀a:TB->HL->Prop,(∀c,j<n->Inv (j+1) c->a (S (j+1) c) (d (j+1) c))->F a (S j s) (d j s)):(PH C Sg T).loop (@hid _ ⟨F⟩) ls h:=by
 subst i k;refine eP (m:=n - j0) (λm ls h=>∃j s,ls=S j s/\h=d j s/\j<=n/\m=n - j/\Inv j s) ⟨j0,s0,rfl,rfl,g,rfl,e⟩ ?_;rintro m ls h ⟨j,s,rfl,rfl,g,rfl,e⟩ a b;exact hidL (step j s g e a λc l f=>b (n - (j+1)) _ _ (by omega) ⟨j+1,c,rfl,rfl,by omega,rfl,f⟩)
def ce{F:(TB->HL->Prop)->TB->HL->Prop}(n:Nat)(Inv:Nat->Prop){j0:Nat}{h:HL}{ls:TB}(f:ls=[.i (Int.ofNat j0)])(e:j0<=n)(d:Inv j0)
  (step:∀j,j<=n->Inv j->∀c:TB->HL->Prop,(j<n->Inv (j+1)->c [.i (Int.ofNat j+1)] h)->F c [.i (Int.ofNat j)] h):(PH C Sg T).loop (@hid _ ⟨F⟩) ls h:=
 aS (σ:=Unit) n (λj _=>[.i (Int.ofNat j)]) (λ_ _=>h) (λj _=>Inv j) (s0:=()) f rfl e d λj _ e d c g=>step j e d c (λa b=>g () a b)
def br{α:Type}{h:HL}{v:Value}{e:Nat}{enc:α->Tk}{l:List α}{K:Ts}(b:LsH h v e enc l)(a:K (Int.ofNat l.length)):(PH C Sg T).opt (lenS v) (@hid _ ⟨K⟩):=ae b.len a
def aQ{α:Type}{h:HL}{v:Value}{e:Nat}{enc:α->Tk}{l:List α}{i:Nat}{a:α}{n:Int}{K:Te}(c:LsH h v e enc l)(j:n=Int.ofNat i)(b:l[i]?=some a)(g:K (enc a)) :
  (PH C Sg T).opt (idS e v n) (@hid _ ⟨λx=>(PH C Sg T).peek (.lg C e x) h (@hid _ ⟨K⟩)⟩):=by
 subst j;obtain⟨p,d,f⟩:=c.at b;exact ae d (gi (f.lg (c.1 a (qab b))) g)
def bp{α:Type}{h:HL}{v:Value}{e:Nat}{enc:α->Tk}{l:List α}{i:Nat}{a:α}{n:Int}{o k:Nat}{cs:Tk}{K:Te}(j:LsH h v e enc l)(u:n=Int.ofNat i)(g:l[i]?=some a)(d:cs=((enc a).drop o).take k)(c:o+k<=e)(t:K cs) :
  (PH C Sg T).opt (idS e v n) (@hid _ ⟨λx=>(PH C Sg T).opt (fdP o x) (@hid _ ⟨λy=>(PH C Sg T).chk y (@hid _ ⟨(PH C Sg T).peek (.lg C k y) h (@hid _ ⟨K⟩)⟩)⟩)⟩):=by
 subst u d;obtain⟨p,m,r⟩:=j.at g;have w:=j.1 a (qab g);have c:o+k<=(enc a).length:=by omega
 have b:(((enc a).drop o).take k).length=k:=by rw[qaL,qbQ];omega
 obtain⟨q,s,f⟩:=r.fd o k c;refine ae m (ae s ?_);show az q=true/\_;exact⟨f.good,gi (f.lg b) t⟩
end
end Sx
namespace Sx
section
variable [Val] [Kno] {C:Cfg} {Sg:Tc} {T:Tq}
def aL{j:Nat}{K:Ts}(h:j<=4294967296):(PH C Sg T).ari .add .i64 (Int.ofNat j) 1 (@hid _ ⟨K⟩)=K (Int.ofNat j+1):=
 p_add (by show -9223372036854775808<=(j:Int)+1;omega) (by show(j:Int)+1<=9223372036854775807;omega)
def ja{j:Nat}{K:Ts}(h1:1<=j)(h:j<=4294967296):(PH C Sg T).ari .sub .i64 (Int.ofNat j) 1 (@hid _ ⟨K⟩)=K (Int.ofNat (j - 1)):=by
 rw[p_sub (by show -9223372036854775808<=(j:Int) - 1;omega) (by show(j:Int) - 1<=9223372036854775807;omega)]
 congr 1
 show(j:Int) - 1=((j - 1:Nat):Int);omega
def aD{j n:Nat}{K:Tm}(h:j<n):(PH C Sg T).cmp .lss (Int.ofNat j) (Int.ofNat n) (@hid _ ⟨K⟩)=K true:=p_lss_t (by show(j:Int)<n;omega)
def aC{j n:Nat}{K:Tm}(h:n<=j):(PH C Sg T).cmp .lss (Int.ofNat j) (Int.ofNat n) (@hid _ ⟨K⟩)=K false:=p_lss_f (by show(n:Int)<=j;omega)
end
def aw{α:Type}{l:List α}{i:Nat}{a:α}(h:l[i]?=some a):i<l.length:=by
 rcases qaP i l.length with b|b
 ·exact b
 ·rw[qak b]at h;cases h
def aH{α:Type}{l:List α}{i:Nat}(h:i<l.length):∃a,l[i]?=some a:=⟨_,qap h⟩
end Sx
namespace Sx
section
variable [Val] [Kno]
variable {C:Cfg} {Sg:Tc} {T:Tq} {α:Type}
def putE(h:HL)(id e:Nat)(enc:α->Tk)(l:List α):HL:=h.set id (.o (.cells (l.flatMap enc) e true))
def bF{h:HL}{id e:Nat}{enc:α->Tk}{l:List α}(a:id<h.length):(putE h id e enc l)[id]?=some (.o (.cells (l.flatMap enc) e true)):=by
 unfold putE;rw[qaK a]
def putE_put{h:HL}{id e:Nat}{enc:α->Tk}{l l':List α}:(putE h id e enc l).set id (.o (.cells (l'.flatMap enc) e true))=putE h id e enc l':=by
 unfold putE;rw[qdQ]
def putE_ls{h:HL}{id e cx:Nat}{enc:α->Tk}(b:∀a,(enc a).length=e){l:List α}(c:id<h.length):LsH (putE h id e enc l) (.slice (some ⟨id,0,tag e⟩) l.length cx) e enc l:=by
 have d:=aY (e:=e) (enc:=enc) (l:=l) λa _=>b a;exact⟨λa _=>b a,d,.inr ⟨id,0,cx,_,true,rfl,bF c,cut_all d⟩⟩
def fY{e:Nat}{enc:α->Tk}(c:∀a,(enc a).length=e):∀ {l:List α} {i:Nat} (a:α),i<l.length->(l.flatMap enc).take (i*e)++enc a++(l.flatMap enc).drop (i*e+e)=(l.set i a).flatMap enc
 | [],_,_,h=>by simp at h
 |b :: l,0,a,_=>by
  have d:=c b;simp only[qch,qcJ,qaf,qaR,qcR,qaV];rw[qcy,qbG (by omega),qaf,show e - (enc b).length=0 by omega,qbE]
 |b :: l,i+1,a,h=>by
  have d:=c b;have f:=fY c (l:=l) (i:=i) a (by simpa using h);simp only[qcB,qaV];rw[←f,qbz,qce,qda,qcy];rw[qaH (by omega),qbG (by omega),qaf];rw[show i*e+e - (enc b).length=i*e by omega,show i*e+e+e - (enc b).length=i*e+e by omega];simp[qai]
def r_set{h:HL}{id e cx len:Nat}{enc:α->Tk}(b:∀a,(enc a).length=e){l:List α}{i:Nat}{a:α}{n:Int}{new:Tk}{K:Ta}(j:id<h.length)(q:n=Int.ofNat i)(m:i<l.length)(c:l.length=len)(d:new=enc a)
  (o:K [] (putE h id e enc (l.set i a))):(PH C Sg T).opt (idS e (.slice (some ⟨id,0,tag e⟩) len cx) n) (@hid _ ⟨λx=>(PH C Sg T).heap (.st x new) (putE h id e enc l) (@hid _ ⟨K⟩)⟩):=by
 subst q c d;have r:idS e (.slice (some ⟨id,0,tag e⟩) l.length cx) (Int.ofNat i)=some (.pointer (some ⟨id,i*e,none⟩)):=by
  rw[ud];have k:0<=Int.ofNat i/\Int.ofNat i<(l.length:Int):=⟨qaG i,by show(i:Int)<l.length;omega⟩;simp only[qd0 k];have:¬(tag e=some 1):=by simp[tag]
  simp only[qd1 this,qaR];rfl
 refine ae r ?_;have p:=aY (e:=e) (enc:=enc) (l:=l) λa _=>b a;have g:i*e+e<=l.length*e:=by
  have:=qbt e (show i+1<=l.length by omega);rw[qbz,qce]at this;exact this
 have f:(Hp.st (.pointer (some ⟨id,i*e,none⟩)) (enc a)).run (getH T (putE h id e enc l)) (putE h id e enc l).length=some ([.set id (.cells ((l.set i a).flatMap enc) e true)],[]):=by
  show stP (.pointer (some ⟨id,i*e,none⟩)) (enc a) (getH T (putE h id e enc l)) (putE h id e enc l).length=_;unfold stP;simp only;rw[bN (bF j)];simp only;unfold splice;rw[b a,p,qd0 g,fY b a m];rfl
 refine cj f ?_;show K [] (bM _ _);have:bM (putE h id e enc l) [.set id (.cells ((l.set i a).flatMap enc) e true)]=putE h id e enc (l.set i a):=putE_put;rw[this];exact o
end
end Sx
namespace Sx
section
variable [Val] [Kno]
variable {C:Cfg} {Sg:Tc} {T:Tq} {α:Type}
def cU{enc:α->Tk}{z:α}{n:Nat}:bc (enc z) n=(List.replicate n z).flatMap enc:=by
 unfold bc;rw[qdG,List.map_replicate]
def newE(h:HL)(e:Nat)(enc:α->Tk)(l:List α):HL:=h++[.o (.cells (l.flatMap enc) e true)]
def newE_put{h:HL}{e:Nat}{enc:α->Tk}{l:List α}:putE (h++[.o .dead]) h.length e enc l=newE h e enc l:=by
 unfold putE newE;rw[qbJ _ _ (qaj _),qb6];rfl
def vP{h:HL}{e cx:Nat}{enc:α->Tk}(b:∀a,(enc a).length=e){l:List α}{n:Nat}(c:n=l.length):LsH (newE h e enc l) (.slice (some ⟨h.length,0,tag e⟩) n cx) e enc l:=by
 subst c;rw[←newE_put];exact putE_ls b (by simp)
def dZ{n:Nat}(h:n<=1048576):mkOk (Int.ofNat n) (Int.ofNat n)=some ():=by
 unfold mkOk;rw[qd0];exact⟨qaG n,qbZ _,by show(n:Int)<=1048576;omega⟩
def cap_full{id n:Nat}{o:Nat}{a:To}:capS (.slice (some ⟨id,o,a⟩) n (n+1))=some (Int.ofNat n):=rfl
end
end Sx
namespace Sx
section
variable [Val] [Kno]
variable {C:Cfg} {Sg:Tc} {T:Tq} {α:Type}
def bD{l:List α}{i:Nat}{a:α}(h:l[i]?=some a):l.set i a=l:=by
 apply qbi;intro k;by_cases b:i=k
 ·subst b;rw[qaK (aw h),h]
 ·rw[qaD b]
end
end Sx
namespace Sx
section
variable [Val] [Kno] {C:Cfg} {T:Tq}
abbrev Ku:=Int×Int
def kvU(k:Ku):Value:=.agg ⟨[.int .i64 k.1,.int .u8 k.2]⟩
def EntS(a:Th)(ks:List Ku):Prop:=a.map (·.key)=ks.map kvU/\∀e∈a,e.val = .bool true
abbrev kkU:TE:=[.i .i64,.i .u8]
def rB(a b:Int):eqZ a b=decide (a=b):=by
 have c:∀m n:Nat,Nat.beq m n=decide (m=n):=λm n=>by
  by_cases h:m=n
  ·subst h;simp
  ·rw[qdY h];cases d:Nat.beq m n with
   |true=>exact absurd (qad d) h
   |false=>rfl
 cases a<;>cases b<;>simp[eqZ,c];omega
def difK_kv(a b:Ku):difK kkU [.int .i64 a.1,.int .u8 a.2] [.int .i64 b.1,.int .u8 b.2]=some (decide (a=b)):=by
 have i:dG .i64 .i64=true:=rfl;have j:dG .u8 .u8=true:=rfl;obtain⟨e,f⟩:=a;obtain⟨g,h⟩:=b;simp only[difK,i,j,rB,qcp];by_cases c:e=g
 ·by_cases d:f=h
  ·simp[c,d]
  ·simp[c,d]
 ·simp[c]
def rI(k:Ku):∀ {a:Th} {ks:List Ku} (i:Nat),EntS a ks->(k∉ks->iW kkU [.int .i64 k.1,.int .u8 k.2] a i=some none)/\(k∈ks->∃j e,iW kkU [.int .i64 k.1,.int .u8 k.2] a i=some (some (i+j))/\a[j]?=some e/\e.val = .bool true)
 | [],[],i,_=>⟨λ_=>rfl,λh=>by cases h⟩
 | [],_ :: _,i,h=>by have:=h.1;simp at this
 |_ :: _,[],i,h=>by have:=h.1;simp at this
 |e :: a,q :: ks,i,h=>by
  obtain⟨d,m⟩:=h;simp only[qaF,qa9]at d;obtain⟨g,l⟩:=rI k (i+1) (⟨d.2,λx t=>m x (qav _ t)⟩ : EntS a ks);have s:iW kkU [.int .i64 k.1,.int .u8 k.2] (e :: a) i=if k=q then some (some i)else iW kkU [.int .i64 k.1,.int .u8 k.2] a (i+1):=by
   simp only[iW,d.1,kvU];rw[difK_kv];by_cases c:k=q<;>simp[c]
  rw[s];by_cases c:k=q
  ·subst c;refine⟨λf=>absurd qaN f,λ_=>⟨0,e,by rw[qd0 rfl];rfl,rfl,m e qaN⟩⟩
  ·rw[qd1 c];refine⟨λf=>g λb=>f (qav _ b),λb=>?_⟩;rcases qax.1 b with b|b
   ·exact absurd b c
   ·obtain⟨j,n,o,p,r⟩:=l b;exact⟨j+1,n,by rw[o];congr 2;omega,by simpa using p,r⟩
variable {kt:TJ}
def keyF_u(h1:aggT C.P kt=some true)(c:flatK C.P 10000 kt=some kkU)(k:Ku):keyF C.P kt (kvU k)=true:=by
 have a:dG .i64 .i64=true:=rfl;have b:dG .u8 .u8=true:=rfl;unfold keyF kvU;simp only[h1,c,gH,a,b,rB];simp
def vw(h1:aggT C.P kt=some true)(b:flatK C.P 10000 kt=some kkU)(k:Ku){a:Th}{r:To}(c:iW kkU [.int .i64 k.1,.int .u8 k.2] a 0=some r):tR C.P kt (kvU k) a=some r:=by
 unfold tR kvU;simp only[h1,b,mR,c]
def lu_set(h1:aggT C.P kt=some true)(d:flatK C.P 10000 kt=some kkU){h:HL}{id c:Nat}{a:Th}{ks:List Ku}(q:h[id]?=some (.o (.map a c)))(n:EntS a ks)(k:Ku) :
  luG C kt false (.bool false) (.map (some id)) (kvU k) false (getH T h)=some [.bool (decide (k∈ks))]:=by
 unfold luG;rw[keyF_u h1 d];simp only[qaQ,qar,if_false];have p:mapG (getH T h) id=some (a,c):=by
  unfold mapG;rw[bN q]
 rw[p];simp only;obtain⟨f,g⟩:=rI k 0 n;by_cases b:k∈ks
 ·obtain⟨j,e,i,l,m⟩:=g b;rw[vw h1 d k i];have r:fz a (0+j)=some (.bool true):=by
   rw[qaR];unfold fz;rw[l];simp[m]
  simp only[r,qao];simp[gO,b]
 ·rw[vw h1 d k (f b)];simp[gO,b]
def mu_set(h1:aggT C.P kt=some true)(b:flatK C.P 10000 kt=some kkU){h:HL}{id c n:Nat}{a:Th}{ks:List Ku}(g:h[id]?=some (.o (.map a c)))(d:EntS a ks){k:Ku}(f:k∉ks) :
  muG C kt (.map (some id)) (kvU k) (.bool true) (getH T h) n=some ([.set id (.map (a++[{ key:=kvU k,val:=.bool true,born:=c }]) (c+1))],[]):=by
 unfold muG;simp only;rw[keyF_u h1 b];simp only[qaQ,qar,if_false];have e:mapG (getH T h) id=some (a,c):=by
  unfold mapG;rw[bN g]
 rw[e];simp only;rw[vw h1 b k ((rI k 0 d).1 f)]
def EntS.push{b:Th}{ks:List Ku}(d:EntS b ks)(k:Ku)(c:Nat):EntS (b++[{ key:=kvU k,val:=.bool true,born:=c }]) (ks++[k]):=by
 refine⟨by simp[d.1],λe a=>?_⟩;rcases qaz.1 a with a|a
 ·exact d.2 e a
 ·simp only[qaq]at a;subst a;rfl
end
end Sx
namespace Sx
section
variable [Val] [Kno] {C:Cfg} {T:Tq}
abbrev K3:=Int×Int×Nat
def cc3(k:K3):Tk:=[.int .i64 k.1,.int .i64 k.2.1,.int .u8 (Int.ofNat k.2.2)]
def kv3(k:K3):Value:=.agg ⟨cc3 k⟩
abbrev kk3:TE:=[.i .i64,.i .i64,.i .u8]
variable {kt:TJ} (h1:aggT C.P kt=some true) (h2:flatK C.P 10000 kt=some kk3)
include h1 h2
omit h1 h2 in
omit h1 h2 in
omit h1 h2 in
omit h1 h2 in
theorem xj{h:HL}{id c:Nat}{a:Th}(b:h[id]?=some (.o (.map a c))):mapG (getH T h) id=some (a,c):=by
 unfold mapG;rw[bN b]
end
section
variable [Val] [Kno] {T:Tq}
end
end Sx
namespace Sx
section
variable [Val] [Kno] {C:Cfg} {Sg:Tc} {T:Tq}
def Set3(h:HL)(id:Nat)(ks:List K3):Prop:=∃a c,h[id]?=some (.o (.map a c))/\a.map (·.key)=ks.map kv3/\∀e∈a,e.val = .bool true
variable {kt:TJ} (h1:aggT C.P kt=some true) (h2:flatK C.P 10000 kt=some kk3)
include h1 h2
end
end Sx
end Go.Am
end

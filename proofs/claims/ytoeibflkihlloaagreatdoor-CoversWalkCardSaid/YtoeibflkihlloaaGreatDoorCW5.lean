/-
  PART 5 OF THE PROOF (no conditions).
-/
import Derived.Test.YtoeibflkihlloaaGreatDoorCW4
import Derived.BigCall
import Derived.Calls
import Derived.LaidMore
import Derived.MakeChecks
import Derived.OpenShut
import Derived.ProofKit
import Derived.Shelf.Strings.Builder1
import Derived.Stop.Joined
import Derived.Test.YtoeibflkihlloaaGreatDoorProg
import Derived.Test.YtoeibflkihlloaaGreatDoorRows
import Derived.WalkKit
import GoSem.ClaimJoined
set_option linter.unusedSectionVars false
set_option linter.unusedSimpArgs false
set_option linter.unusedVariables false
set_option linter.constructorNameAsVariable false
set_option linter.defProp false
noncomputable section
set_option maxRecDepth 100000
set_option maxHeartbeats 16000000
namespace Go.Am
def LK.plain:LK->Bool
 | .v=>false
 |_=>true
def SK.plain:SK->Bool
 | .leaf k=>k.plain
 | .agg ks=>ks.all LK.plain
def Sig.plain(s:Sig):Bool:=s.ps.all SK.plain&&s.rs.all SK.plain
namespace Sx
section
variable [Val] [Kno]
variable {w:TD}
def uD(k:TH)(c:Int)(K:Int->RT):outG k c K=K (k.wrap c):=by
 unfold outG
 cases e:fits k c with
 |true=>rw[sG e]
 |false=>exact jf _ _
def out64_eq(c:Int)(K:Int->RT):out64 c K=K (IntKind.wrap .i64 c):=by
 refine Eq.trans ?_ (uD .i64 c K)
 cases c<;>rfl
def outU8_eq(c:Int)(K:Int->RT):outU8 c K=K (IntKind.wrap .u8 c):=by
 refine Eq.trans ?_ (uD .u8 c K)
 cases c<;>rfl
def nn(k:TH)(c:Int)(K:Int->RT):outK k c K=K (k.wrap c):=by
 cases k<;>first|exact uD _ _ _|exact out64_eq _ _|exact outU8_eq _ _
def addK_eq(a b:Int)(K:Int->RT):addK a b K=K (a+b):=by
 unfold addK
 cases a with
 |ofNat m=>
  cases b with
  |ofNat n=>exact congrArg K rfl
  |negSucc n=>
   simp only[dq]
   cases e:Nat.blt n m with
   |true=>rw[qbc]at e;exact congrArg K (show Int.ofNat (m - (n+1))=Int.ofNat m+Int.negSucc n by simp only[qaV,qbM];omega)
   |false=>
    have e:¬n<m:=λh=>by rw[←qbc,e]at h;cases h
    exact congrArg K (show Int.negSucc (n - m)=Int.ofNat m+Int.negSucc n by simp only[qaV,qbM];omega)
 |negSucc m=>
  cases b with
  |ofNat n=>
   simp only[dq]
   cases e:Nat.blt m n with
   |true=>rw[qbc]at e;exact congrArg K (show Int.ofNat (n - (m+1))=Int.negSucc m+Int.ofNat n by simp only[qaV,qbM];omega)
   |false=>
    have e:¬m<n:=λh=>by rw[←qbc,e]at h;cases h
    exact congrArg K (show Int.negSucc (m - n)=Int.negSucc m+Int.ofNat n by simp only[qaV,qbM];omega)
  |negSucc n=>exact congrArg K (show Int.negSucc (m+n+1)=Int.negSucc m+Int.negSucc n by simp only[qbM];omega)
def subK_eq(a b:Int)(K:Int->RT):subK a b K=K (a - b):=by
 unfold subK
 cases a with
 |ofNat m=>
  cases b with
  |ofNat n=>
   simp only[dq]
   cases e:Nat.ble n m with
   |true=>rw[qbR]at e;exact congrArg K (show Int.ofNat (m - n)=Int.ofNat m - Int.ofNat n by simp only[qaV];omega)
   |false=>
    have e:¬n<=m:=λh=>by rw[←qbR,e]at h;cases h
    exact congrArg K (show Int.negSucc (n - (m+1))=Int.ofNat m - Int.ofNat n by simp only[qaV,qbM];omega)
  |negSucc n=>exact congrArg K (show Int.ofNat (m+n+1)=Int.ofNat m - Int.negSucc n by simp only[qaV,qbM];omega)
 |negSucc m=>
  cases b with
  |ofNat n=>exact congrArg K (show Int.negSucc (m+n)=Int.negSucc m - Int.ofNat n by simp only[qaV,qbM];omega)
  |negSucc n=>
   simp only[dq]
   cases e:Nat.ble m n with
   |true=>rw[qbR]at e;exact congrArg K (show Int.ofNat (n - m)=Int.negSucc m - Int.negSucc n by simp only[qaV,qbM];omega)
   |false=>
    have e:¬m<=n:=λh=>by rw[←qbR,e]at h;cases h
    exact congrArg K (show Int.negSucc (m - (n+1))=Int.negSucc m - Int.negSucc n by simp only[qbM];omega)
def mulK_eq(a b:Int)(K:Int->RT):mulK a b K=K (a*b):=by
 unfold mulK
 cases a with
 |ofNat m=>
  cases b with
  |ofNat n=>exact congrArg K rfl
  |negSucc n=>
   cases m with
   |zero=>exact congrArg K (show Int.ofNat 0=Int.ofNat 0*Int.negSucc n by simp)
   |succ m=>
    refine congrArg K (show Int.negSucc ((m+1)*n+m)=Int.ofNat (m+1)*Int.negSucc n from ?_)
    simp only[qaV,qbM,qdl,qdm]
    simp only[qdn,Int.mul_neg,Int.mul_add,Int.add_mul]
    omega
 |negSucc m=>
  cases b with
  |ofNat n=>
   cases n with
   |zero=>exact congrArg K (show Int.ofNat 0=Int.negSucc m*Int.ofNat 0 by simp)
   |succ n=>
    refine congrArg K (show Int.negSucc (m*(n+1)+n)=Int.negSucc m*Int.ofNat (n+1)from ?_)
    simp only[qaV,qbM,qdl,qdm]
    simp only[qdn,Int.neg_mul,Int.mul_add,Int.add_mul]
    omega
  |negSucc n=>
   refine congrArg K (show Int.ofNat ((m+1)*(n+1))=Int.negSucc m*Int.negSucc n from ?_)
   simp only[qaV,qbM,qdl,qdm]
   simp only[qdn,Int.neg_mul_neg]
def quoK_eq(a b:Int)(K:Int->RT):quoK a b K=K (Int.tdiv a b):=by
 unfold quoK
 cases a with
 |ofNat m=>
  cases b with
  |ofNat n=>exact congrArg K rfl
  |negSucc n=>exact jf _ _
 |negSucc m=>exact jf _ _
def remK_eq(a b:Int)(K:Int->RT):remK a b K=K (Int.tmod a b):=by
 unfold remK
 cases a with
 |ofNat m=>
  cases b with
  |ofNat n=>exact congrArg K rfl
  |negSucc n=>exact jf _ _
 |negSucc m=>exact jf _ _
def sO{b:Int}(h:isZ b=false):b≠0:=by
 intro e;subst e;cases h
def fitsK{k:TH}{c:Int}{K:Int->RT}(h:outK k c K=some w):K (k.wrap c)=some w:=(nn k c K).symm.trans h
def ariB_ok{op:BinOp}{k:TH}{a b:Int}{K:Int->RT}(h:ariB op k a b K=some w):∃n,pR op k a b n/\K n=some w:=by
 cases op<;>simp only[ariB,reduceCtorEq]at h
 ·rw[addK_eq,nn]at h
  exact⟨_,λP t w=>by simp[binOp,Op.intArith],h⟩
 ·rw[subK_eq,nn]at h
  exact⟨_,λP t w=>by simp[binOp,Op.intArith],h⟩
 ·rw[mulK_eq,nn]at h
  exact⟨_,λP t w=>by simp[binOp,Op.intArith],h⟩
 ·cases hb:isZ b with
  |true=>rw[hb]at h;cases h
  |false=>
   rw[hb]at h
   simp only[quoK_eq,nn]at h
   have hb:=sO hb
   exact⟨_,λP t w=>by simp[binOp,Op.intDiv,hb],h⟩
 ·cases hb:isZ b with
  |true=>rw[hb]at h;cases h
  |false=>
   rw[hb]at h
   simp only[remK_eq]at h
   have hb:=sO hb
   exact⟨_,λP t w=>by simp[binOp,Op.intDiv,hb],h⟩
 ·split at h
  next hb=>
   have hb:=eqI_iff.1 hb
   subst hb
   rw[jf]at h
   exact⟨_,nE rfl,h⟩
  ·split at h
   ·rw[jf]at h
    exact⟨_,uG _ _,fitsK h⟩
   ·cases h
 ·split at h
  ·rw[jf]at h
   exact⟨_,xC _ _,fitsK h⟩
  ·cases h
 ·split at h
  ·rw[jf]at h
   exact⟨_,uJ _ _,fitsK h⟩
  ·cases h
def eqI_eq(x y:Int):eqI x y=(x==y):=by rw[qbJ,eqI_iff,beq_iff_eq]
def qw(x y:Int):eqZK x y=(x==y):=by
 rw[←eqI_eq]
 cases x<;>cases y<;>rfl
def leZ_eq(x y:Int):leZ x y=decide (x<=y):=by rw[qbJ,leZ_iff,decide_eq_true_iff]
def notK_eq(b:Bool):notK b = !b:=by cases b<;>rfl
def cmpB_ok{op:BinOp}{a b:Int}{K:Bool->RT}(h:cmpB op a b K=some w):∃t,oC op a b=some t/\K t=some w:=by
 cases op<;>simp only[cmpB,reduceCtorEq,qw,leZ_eq,notK_eq]at h
 ·exact⟨_,rfl,h⟩
 ·exact⟨_,rfl,h⟩
 ·exact⟨_,rfl,by rw[show decide (a<b) = !decide (b<=a)by rw[qbJ];simp];exact h⟩
 ·exact⟨_,rfl,h⟩
 ·exact⟨_,rfl,by rw[show decide (a > b) = !decide (a<=b)by rw[qbJ];simp];exact h⟩
 ·exact⟨_,rfl,h⟩
def eqLf_eq(a b:Lf):eqLf a b=gA a b:=by
 cases a<;>cases b<;>try rfl
 ·exact qw _ _
 next x y=>cases x<;>cases y<;>rfl
def eqsV_eq(l:List (Lf×Lf)):eqsV l=cp l:=by
 unfold cp
 induction l with
 |nil=>rfl
 |cons p l ih=>
  show(Bool.rec false (eqsV l) (eqLf p.1 p.2):Bool)=_
  rw[eqLf_eq,qbU,ih]
  cases gA p.1 p.2<;>rfl
def eqsB_ok{l:List (Lf×Lf)}{K:Bool->RT}(h:eqsB l K=some w):K (cp l)=some w:=by
 rw[←eqsV_eq];exact h
structure CallBOk(C:Cfg)(Sg:Tc)(T:Tt)(call:ac):Prop where
 f:∀g ls h K w,dj ls->call (.f g) ls h K=some w->∃rs h',aK C Sg g ls (absH T (toL h)) rs (absH T (toL h'))/\K rs h'=some w
 y:∀κ vs l ls h K w st pd xs,h.at l=some (.lp κ st pd vs)->Told ((T κ).params.map (·.2)) ls xs->call (.y κ vs l) ls h K=some w->
  ∃b h',jH C l (ah xs) (absH T (toL h)) (.bool b) (absH T (toL h'))/\K [.b b] h'=some w
def jX(T:Tt)(h:HL):getH T h=λi=>(absH T h)[i]?:=by
 funext i
 simp only[getH,absH,qax]
 cases h[i]?<;>rfl
def getT_eq(T:Tt)(h:HTr):getT T h=λi=>(absH T (toL h))[i]?:=by
 funext i
 simp only[getT,absH,qax,iW,Option.map_map]
 cases h.at i<;>rfl
def lT(T:Tt)(h:HTr):getT T h=getH T (toL h):=(getT_eq T h).trans (jX T (toL h)).symm
def jW{T:Tt}{h:HTr}{i:Nat}{x:HOT}(e:h.at i=some x):getH T (toL h) i=some (absO T x.ho):=by
 rw[←lT];unfold getT;rw[e]
def dt(T:Tt)(h:HL):(absH T h).length=h.length:=by simp[absH]
def jb(T:Tt)(h:HL)(i:Nat)(o:HO):absH T (h.set i o)=(absH T h).set i (absO T o):=by simp[absH,List.map_set]
def gg(T:Tt)(h:HL)(o:HO):absH T (h++[o])=absH T h++[absO T o]:=by simp[absH]
def jN(T:Tt):∀(l:List Act1) (h:HL),absH T (cB h l)=fY (absH T h) l
 | [],h=>rfl
 |a :: l,h=>by
  have ih:=jN T l (a.onH h)
  show absH T (cB (a.onH h) l)=fY (a.on (absH T h)) l
  rw[ih]
  congr 1
  cases a with
  |set i o=>exact jb T h i _
  |push o=>exact gg T h _
def pU:∀ {l:List Act1} {h:HTr} {k:HTr->RT},wM l h k=some w->∃h',toL h'=cB (toL h) l/\k h'=some w
 | [],h,k,hk=>⟨h,rfl,hk⟩
 | .set i o :: l,h,k,hk=>by
  have hk:(od o λo=>putK h i o λh=>wM l h k)=some w:=hk
  obtain⟨x,e1,e2⟩:=gY (o:=o) (k:=λo=>putK h i o λh=>wM l h k)
  rw[e2,gO]at hk
  obtain⟨h',e,hk⟩:=pU hk
  exact⟨h',by rw[e,gT,e1];rfl,hk⟩
 | .push o :: l,h,k,hk=>by
  have hk:(od o λo=>gN h o λh=>wM l h k)=some w:=hk
  obtain⟨x,e1,e2⟩:=gY (o:=o) (k:=λo=>gN h o λh=>wM l h k)
  rw[e2,eX]at hk
  obtain⟨h',e,hk⟩:=pU hk
  exact⟨h',by rw[e,eZ,e1];rfl,hk⟩
def ww(s:Tp):spot0 s=(s != some 0):=by
 cases s with
 |none=>rfl
 |some k=>cases k<;>rfl
def vu(v:Value):goodF v=aW v:=by
 unfold goodF
 split
 next a=>
  rw[ww]
  simp[aW,noLoc,bj,bB,bu,aS,aJ]
 next a _ _=>
  rw[ww]
  simp[aW,noLoc,bj,bB,bu,aS,aJ]
 ·rfl
def ut{α:Type}(l:List α):lenR l=l.length:=by
 induction l with
 |nil=>rfl
 |cons a l ih=>exact congrArg Nat.succ ih
def ldB_ok{T:Tt}{n:Nat}{p:Value}{h:HTr}{K:Tl->RT}(hk:ldB n p h K=some w):∃cs,ldP n p (getH T (toL h))=some cs/\K cs=some w:=by
 unfold ldB at hk
 split at hk
 next a=>
  split at hk
  next hs=>
   split at hk
   next m e rw' c hat=>
    split at hk
    next hle=>
     rw[qbR]at hle
     refine⟨_,?_,hk⟩
     unfold ldP
     simp only[hs,gp,jW hat,HOT.ho,absO,qak,cut]
     rw[qdy (by rw[bf];exact hle),jv c n a.off m hle]
    ·cases hk
   ·cases hk
  ·cases hk
 ·cases hk
def lgB_ok{T:Tt}{C:Cfg}{n:Nat}{p:Value}{h:HTr}{K:Tl->RT}(hk:lgB C n p h K=some w):∃cs,lgP C n p (getH T (toL h))=some cs/\K cs=some w:=by
 unfold lgB at hk
 split at hk
 next a=>
  split at hk
  next hs=>
   split at hk
   next m e rw' c hat=>
    split at hk
    next hle=>
     rw[qbR]at hle
     refine⟨_,?_,hk⟩
     unfold lgP
     simp only[hs,gp,jW hat,HOT.ho,absO,qak,cut]
     rw[qdy (by rw[bf];exact hle),jv c n a.off m hle]
    ·cases hk
   ·cases hk
  next k hs=>
   split at hk
   next hb=>
    split at hk
    next vs hg=>
     split at hk
     next cs hc=>
      refine⟨cs,?_,hk⟩
      unfold lgP
      simp only[hs,hb,hg,qak]
      rw[mw]at hc
      exact hc
     ·cases hk
    ·cases hk
   ·cases hk
 ·cases hk
def stB_ok{T:Tt}{p:Value}{new:Tl}{h:HTr}{K:Tl->HTr->RT}{n0:Nat}(hk:stB p new h K=some w) :
  ∃acts cs h',stP p new (getH T (toL h)) n0=some (acts,cs)/\toL h'=cB (toL h) acts/\K cs h'=some w:=by
 unfold stB at hk
 split at hk
 next a=>
  split at hk
  next hs=>
   split at hk
   next m e c hat=>
    split at hk
    next hle=>
     rw[qbR,ut]at hle
     rw[mU,gO]at hk
     refine⟨[.set a.block (.cells (bT (insT new a.off c) m) e true)],[],_,?_,?_,hk⟩
     ·unfold stP
      simp only[hs,jW hat,HOT.ho,absO,splice]
      rw[qdy (by rw[bf];exact hle),oA hle]
      rfl
     ·rw[gT];rfl
    ·cases hk
   ·cases hk
  ·cases hk
 ·cases hk
def rH{s:Tp}{esz:Nat}:tagB s esz=true↔s=tag esz:=by
 unfold tagB tag
 cases s with
 |none=>simp
 |some k=>simp only[Nat.beq_eq,qas];try rfl
def slB_ok{C:Cfg}{T:Tt}{esz:Nat}{x:Value}{h:HTr}{K:Tl->Nat->RT}(hk:slB C T esz x h K=some w) :
  ∃l n,slG C esz (getH T (toL h)) x=some (l,n)/\K l n=some w:=by
 have gen:∀ {x:Value},(match slG C esz (getT T h) x with|some p=>K p.1 p.2|none=>none)=some w->∃l n,slG C esz (getH T (toL h)) x=some (l,n)/\K l n=some w:=by
  intro x hk
  split at hk
  next p e=>
   rw[lT]at e
   exact⟨p.1,p.2,e,hk⟩
  ·cases hk
 unfold slB at hk
 split at hk
 next a len cx=>
  split at hk
  next ht=>
   have ht:=rH.1 ht
   split at hk
   next m e rw' c hat=>
    split at hk
    next h1 h2=>
     have h1:=qad h1
     rw[qbR]at h2
     subst h1
     refine⟨_,_,?_,hk⟩
     unfold slG
     simp only[jW hat,HOT.ho,absO]
     rw[qdz (by rw[ht];simp[tag]),qdy ht]
     first|rw[qdy rfl]|rw[qdy trivial]
     rw[cut,qdy (by rw[bf];exact h2),jv c _ a.off m h2]
     rfl
    ·cases hk
   ·cases hk
  ·exact gen hk
 ·exact gen hk
def vw{c:Tr Value}{m off wd esz:Nat}{new:Tl}{k:HOT->RT}(hle:off+wd<=m)(hk:growB c m off wd esz new k=some w) :
  ∃x:HOT,x.ho = .o (.cells (((bT c m).drop off).take wd++new) esz true)/\k x=some w:=by
 unfold growB at hk
 split at hk
 next h1 h2=>
  have h1:=qad h1
  have h2:=qad h2
  subst h1 h2
  rw[mU,dq,ut]at hk
  refine⟨_,?_,hk⟩
  show HO.o (.cells (bT (insT new wd c) (wd+new.length)) esz true)=_
  rw[mn,qa1,qaQ (by rw[bf];exact qaf _)]
 ·rw[jv c wd off m hle]at hk
  obtain⟨x,e1,e2⟩:=gY (o:=.cells (((bT c m).drop off).take wd++new) esz true) (k:=k)
  rw[e2]at hk
  exact⟨x,e1,hk⟩
def apB_ok{C:Cfg}{T:Tt}{esz bytes:Nat}{s x:Value}{h:HTr}{K:Tl->HTr->RT}(hk:apB T C esz bytes s x h K=some w) :
  ∃acts cs h',apG C esz bytes s x (getH T (toL h)) (toL h).length=some (acts,cs)/\toL h'=cB (toL h) acts/\K cs h'=some w:=by
 obtain⟨new,n,hsl,hk⟩:=slB_ok hk
 unfold apG
 rw[hsl,cU]
 simp only at hk ⊢
 split at hk
 ·cases n with
  |zero=>exact⟨_,_,h,rfl,rfl,hk⟩
  |succ n=>
   simp only at hk
   split at hk
   next hz=>
    obtain⟨y,e1,e2⟩:=gY (o:=.cells new esz true) (k:=λo=>gN h o λh'=>fN (n+1) λn=>K [.slice (some ⟨h.n,0,tag esz⟩) n 0] h')
    rw[e2,eX,dq]at hk
    refine⟨[.push (.cells new esz true)],_,_,?_,?_,hk⟩
    ·show(if n+1=0 then some ([],[Value.slice none 0 0])else if bO (n+1) bytes then _ else none)=_
     rw[qdz (by omega),qdy hz]
    ·rw[eZ,e1];rfl
   ·cases hk
 next a len cx _=>
  split at hk
  ·cases hk
  next ht=>
   have ht:=rH.1 ht
   split at hk
   next m e rw' c hat=>
    split at hk
    next h1 h2=>
     have h1:=qad h1
     rw[qbR]at h2
     subst h1
     have hb:a.off+len*e<=m:=h2
     have hcut:cut (bT c m) a.off (len*e)=some (((bT c m).drop a.off).take (len*e)):=by rw[cut,qdy (by rw[bf];exact hb)]
     simp only[ht,ne_eq,not_true_eq_false,if_false,jW hat,HOT.ho,absO,hcut]
     cases cx with
     |zero=>
      simp only at hk ⊢
      cases n with
      |zero=>exact⟨[],_,h,by first|rw[qdy rfl]|rw[qdy trivial],rfl,hk⟩
      |succ n=>
       simp only at hk
       split at hk
       next q1 q2=>
        obtain⟨y,e1,hk⟩:=vw hb hk
        rw[gO,eX,dq]at hk
        refine⟨[.set a.block .dead,.push (.cells (((bT c m).drop a.off).take (len*e)++new) e true)],_,_,by rw[qdz (by omega),qdy (by rw[q2];rfl)],?_,hk⟩
        rw[eZ,gT,e1];rfl
       ·cases hk
     |succ cap=>
      simp only at hk ⊢
      split at hk
      next q0=>
       rw[qbR]at q0
       split at hk
       next q1 q2=>
        rw[qbR,ut]at q2
        have q2:a.off+len*e+new.length<=m:=q2
        rw[mU,gO,dq]at hk
        refine⟨[.set a.block (.cells ((bT c m).take (a.off+len*e)++new++(bT c m).drop (a.off+len*e+new.length)) e true)],_,_,by rw[qdy q0,qdy rfl,splice,qdy (by rw[bf];exact q2)];rfl,?_,hk⟩
        rw[gT]
        show(toL h).set a.block (.o (.cells (bT (insT new (a.off+len*e) c) m) e true))=_
        rw[oA q2];rfl
       ·cases hk
      next q0=>
       have q0:¬len+n<=cap:=λh=>by rw[←qbR,q0]at h;cases h
       split at hk
       next q1=>
        obtain⟨y,e1,hk⟩:=vw hb hk
        rw[eX,dq]at hk
        refine⟨[.push (.cells (((bT c m).drop a.off).take (len*e)++new) e true)],_,_,by rw[qdz q0,qdy q1],?_,hk⟩
        rw[eZ,e1];rfl
       ·cases hk
    ·cases hk
   ·cases hk
 ·cases hk
def heapB_ok{T:Tt}{f:Hp}{h:HTr}{K:Tl->HTr->RT}(hk:heapB T f h K=some w) :
  ∃acts cs h',f.run (getH T (toL h)) (toL h).length=some (acts,cs)/\toL h'=cB (toL h) acts/\K cs h'=some w:=by
 unfold heapB at hk
 cases f with
 |st p new=>exact stB_ok (n0:=(toL h).length) hk
 |ap C esz bytes s x=>exact apB_ok hk
 |fn f=>
  simp only at hk
  rw[lT]at hk
  split at hk
  next p e=>
   rw[ns]at hk
   obtain⟨h',e2,hk⟩:=pU hk
   exact⟨p.1,p.2,h',by rw[cU];exact e,e2,hk⟩
  ·cases hk
def toSL_ok{k:LK}{v:Value}{l:SL}(h:toSL k v=some l):l.is k=true/\l.val=v/\l.good:=by
 cases k with
 |i k=>
  cases v<;>simp only[toSL]at h<;>first|cases h|skip
  split at h
  next e=>cases h;exact⟨e,rfl,trivial⟩
  ·cases h
 |b=>
  cases v<;>simp only[toSL]at h<;>cases h
  exact⟨rfl,rfl,trivial⟩
 |v=>
  simp only[toSL]at h
  split at h
  next e=>cases h;exact⟨rfl,rfl,e⟩
  ·cases h
def wD:∀ {ks:TG} {vs:Tl} {xs:List SL},toSLs ks vs=some xs->aT xs ks=true/\xs.map SL.val=vs/\∀x∈xs,x.good
 | [],[],xs,h=>by cases h;exact⟨rfl,rfl,λ_ h=>by cases h⟩
 |k :: ks,v :: vs,xs,h=>by
  simp only[toSLs]at h
  split at h
  next x e=>
   split at h
   next ys e2=>
    cases h
    obtain⟨a1,a2,a3⟩:=toSL_ok e
    obtain⟨b1,b2,b3⟩:=wD e2
    refine⟨by simp[aT,a1,b1],by simp[a2,b2],λy hy=>?_⟩
    rcases qal.1 hy with rfl|hy
    ·exact a3
    ·exact b3 y hy
   ·cases h
  ·cases h
 | [],_ :: _,_,h=>by cases h
 |_ :: _,[],_,h=>by cases h
def toS0_ok{sk:SK}{v:Value}{x:S0}(h:toS0 sk v=some x):x.is sk=true/\x.val=v/\x.good:=by
 cases sk with
 |leaf k=>
  obtain⟨l,e,rfl⟩:=qac.1 h
  obtain⟨a1,a2,a3⟩:=toSL_ok e
  refine⟨a1,a2,λy hy=>?_⟩
  simp only[S0.cells,qap]at hy
  subst hy;exact a3
 |agg ks=>
  cases v<;>simp only[toS0]at h<;>first|cases h|skip
  obtain⟨l,e,rfl⟩:=qac.1 h
  obtain⟨a1,a2,a3⟩:=wD e
  exact⟨a1,by simp[S0.val,a2],a3⟩
def rI:∀ {sks:TI} {vs:Tl} {xs:List S0},toS0s sks vs=some xs->ca xs sks=true/\ah xs=vs/\∀x∈xs,x.good
 | [],[],xs,h=>by cases h;exact⟨rfl,rfl,λ_ h=>by cases h⟩
 |k :: ks,v :: vs,xs,h=>by
  simp only[toS0s]at h
  split at h
  next x e=>
   split at h
   next ys e2=>
    cases h
    obtain⟨a1,a2,a3⟩:=toS0_ok e
    obtain⟨b1,b2,b3⟩:=rI e2
    refine⟨by simp[ca,a1,b1],by simp only[ah,qau,a2]at b2 ⊢;rw[b2],λy hy=>?_⟩
    rcases qal.1 hy with rfl|hy
    ·exact a3
    ·exact b3 y hy
   ·cases h
  ·cases h
 | [],_ :: _,_,h=>by cases h
 |_ :: _,[],_,h=>by cases h
def eqLK_ok{a b:LK}(h:eqLK a b=true):a=b:=by
 cases a<;>cases b<;>simp only[eqLK]at h<;>first|rfl|cases h|skip
 rw[dw h]
def vo:∀ {a b:TG},eqLKs a b=true->a=b
 | [],[],_=>rfl
 |a :: l,b :: m,h=>by
  simp only[eqLKs,qaa]at h
  rw[eqLK_ok h.1,vo h.2]
 | [],_ :: _,h=>by cases h
 |_ :: _,[],h=>by cases h
def eqSK_ok{a b:SK}(h:eqSK a b=true):a=b:=by
 cases a<;>cases b<;>simp only[eqSK]at h<;>first|cases h|skip
 ·rw[eqLK_ok h]
 ·rw[vo h]
def qu:∀ {a b:TI},eqSKs a b=true->a=b
 | [],[],_=>rfl
 |a :: l,b :: m,h=>by
  simp only[eqSKs,qaa]at h
  rw[eqSK_ok h.1,qu h.2]
 | [],_ :: _,h=>by cases h
 |_ :: _,[],h=>by cases h
def cI:∀ {ls:TD},gI ls=true->dj ls
 | [],_=>λ_ h=>by cases h
 | .i n :: ls,h=>λl hl=>by
  rcases qal.1 hl with rfl|hl
  ·trivial
  ·exact cI (ls:=ls) h l hl
 | .b n :: ls,h=>λl hl=>by
  rcases qal.1 hl with rfl|hl
  ·trivial
  ·exact cI (ls:=ls) h l hl
 | .v n :: ls,h=>λl hl=>by
  have h:(match goodF n with|true=>gI ls|false=>false)=true:=h
  split at h
  next e=>
   rw[vu]at e
   rcases qal.1 hl with rfl|hl
   ·exact e
   ·exact cI (ls:=ls) h l hl
  ·cases h
def vb{C:Cfg}{Sg:Tc}{T:Tt}{call:ac}(hc:CallBOk C Sg T call){g:TM}{ls:TD}{h:HTr}{K:TD->HTr->RT}(hk:callB call g ls h K=some w) :
  ∃rs h',aK C Sg g ls (absH T (toL h)) rs (absH T (toL h'))/\K rs h'=some w:=by
 unfold callB at hk
 split at hk
 next e=>exact hc.f g ls h K w (cI e) hk
 ·cases hk
def mg{C:Cfg}{Sg:Tc}{T:Tt}{call:ac}(hc:CallBOk C Sg T call){g:TM}{hs:Option (TI)}{vals:Tl}{h:HTr}{K:TD->HTr->RT}(hk:lI Sg call g hs vals h K=some w) :
  ∃sg rs ys h',Sg g=some sg/\(∀x,hs=some x->sg.rs=x)/\Told sg.rs rs ys/\ip C g vals (absH T (toL h)) (fq (ah ys)) (absH T (toL h'))/\K rs h'=some w:=by
 unfold lI at hk
 split at hk
 ·cases hk
 next sg e=>
  split at hk
  ·cases hk
  next e2=>
   split at hk
   ·cases hk
   next xs e3=>
    obtain⟨rs,h',⟨sg',xs',ys,c1,c2,c3,c4⟩,hk⟩:=vb hc hk
    rw[e]at c1
    cases c1
    obtain⟨d1,d2,d3⟩:=rI e3
    obtain⟨w1,_⟩:=cH c2.1 d1 c2.2.1
    rw[w1,d2]at c4
    refine⟨sg,rs,ys,h',e,λx hx=>?_,c3,c4,hk⟩
    subst hx
    exact qu e2
def jj{T:Tt}{h:HTr}{l κ:Nat}{st:LoopState}{pd:Tk}{vs:Tl}(e:h.at l=some (.lp κ st pd vs)):ed (absH T (toL h)) l=some { lpOf (T κ) κ vs with state:=st,pending:=pd }:=by
 unfold ed absH
 rw[qax,iW,e]
 rfl
def callvB_ok{C:Cfg}{Sg:Tc}{T:Tt}{call:ac}(hc:CallBOk C Sg T call){v:Value}{args:Tl}{hs:TI}{h:HTr}{K:TD->HTr->RT}(hk:callvB Sg T call v args hs h K=some w) :
  ∃rs h',tR C v args hs (absH T (toL h)) rs (absH T (toL h'))/\K rs h'=some w:=by
 unfold callvB at hk
 split at hk
 next fn first cap=>
  split at hk
  next g=>
   obtain⟨sg,rs,ys,h',c1,c2,c3,c4,c5⟩:=mg hc hk
   rw[c2 _ rfl]at c3
   exact⟨rs,h',⟨ys,c3,.inl ⟨g,first,cap,rfl,c4⟩⟩,c5⟩
  next l=>
   split at hk
   next e1 e2=>
    have e1:first = #[]:=qa6.1 e1
    have e2:cap = #[]:=qa6.1 e2
    subst e1 e2
    split at hk
    next κ st pd vs e=>
     split at hk
     ·cases hk
     next e3=>
      have e3:=qu e3
      subst e3
      split at hk
      ·cases hk
      next xs e4=>
       split at hk
       next e5=>
        obtain⟨d1,d2,d3⟩:=rI e4
        obtain⟨b,h',y1,y2⟩:=hc.y κ vs l _ h K w st pd xs e ⟨d1,rfl,d3⟩ hk
        rw[d2]at y1
        refine⟨[.b b],h',⟨[.leaf (.b b)],⟨rfl,rfl,λx hx=>?_⟩,.inr ⟨l,rfl,y1⟩⟩,y2⟩
        simp only[qap]at hx
        subst hx
        intro y hy
        simp only[S0.cells,qap]at hy
        subst hy;trivial
       ·cases hk
    ·cases hk
   ·cases hk
  ·cases hk
 ·cases hk
def rfunB_ok{C:Cfg}{Sg:Tc}{T:Tt}{call:ac}(hc:CallBOk C Sg T call){κ:Nat}{v:Value}{vals:Tl}{h:HTr}{K:Tk->HTr->RT}(hk:rfunB Sg call κ v vals h K=some w) :
  ∃g first cap r H1 lp h2,v = .func (.func g) first cap/\ip C g (first.toList++[.func (.yield (absH T (toL h)).length) #[] #[]]++cap.toList) (absH T (toL h)++[.loop (lpOf (T κ) κ vals)]) r H1/\
   ed H1 (absH T (toL h)).length=some lp/\lp.state≠.busy/\absH T (toL h2)=H1.set (absH T (toL h)).length (.loop { lp with state:=.exhausted })/\K lp.pending h2=some w:=by
 unfold rfunB at hk
 split at hk
 next fn first cap=>
  split at hk
  next g=>
   rw[eX]at hk
   obtain⟨sg,rs,ys,h',_,_,c3,c4,c5⟩:=mg hc hk
   have hlen:(absH T (toL h)).length=h.n:=by rw[dt,cU]
   split at c5
   next κ' st pd vs e=>
    have hl:=jj (T:=T) e
    rw[eZ,gg]at c4
    have fin:∀(hst:st≠.busy),(putK h' h.n (.lp κ' .exhausted pd vs) λh2=>K pd h2)=some w->∃g' first' cap' r H1 lp h2,(Value.func (.func g) first cap) = .func (.func g') first' cap'/\ip C g' (first'.toList++[.func (.yield (absH T (toL h)).length) #[] #[]]++cap'.toList) (absH T (toL h)++[.loop (lpOf (T κ) κ vals)]) r H1/\
      ed H1 (absH T (toL h)).length=some lp/\lp.state≠.busy/\absH T (toL h2)=H1.set (absH T (toL h)).length (.loop { lp with state:=.exhausted })/\K lp.pending h2=some w:=by
     intro hst hk
     rw[gO]at hk
     refine⟨g,first,cap,fq (ah ys),absH T (toL h'),{ lpOf (T κ') κ' vs with state:=st,pending:=pd },h'.put h.n (.lp κ' .exhausted pd vs),rfl,?_,?_,hst,?_,hk⟩
     ·rw[hlen];exact c4
     ·rw[hlen];exact hl
     ·rw[gT,jb,hlen];rfl
    cases st with
    |busy=>cases c5
    |_=>exact fin (by simp) c5
   ·cases c5
  ·cases hk
 ·cases hk
def tr{id:Nat}:∀ {ks:List (Nat×RT)},(List.rec none (λp _ ih=>match Nat.beq p.1 id with|true=>p.2|false=>ih) ks:RT)=some w->
  ∃id' x,some (Code.exit id)=some (Code.exit id')/\(id',x)∈ks/\x=some w
 | [],h=>by cases h
 |p :: ks,h=>by
  have h:(match Nat.beq p.1 id with|true=>p.2|false=>(List.rec none (λp _ ih=>match Nat.beq p.1 id with|true=>p.2|false=>ih) ks:RT))=some w:=h
  split at h
  next e=>
   exact⟨id,p.2,rfl,by rw[←qad e];exact qaB,h⟩
  ·obtain⟨id',x,a,b,c⟩:=tr h
   exact⟨id',x,a,qan _ b,c⟩
def shfB_ok{op:BinOp}{k k':TH}{a b:Int}{K:Int->RT}(h:shfB op k a k' b K=some w):∃n,ShRun op k a k' b n/\K n=some w:=by
 unfold shfB at h
 split at h
 next hb=>
  have hb:¬b<0:=by have:=leZ_iff.1 hb;omega
  split at h
  ·rw[jf]at h
   exact⟨_,λP t w=>by simp[binOp,Op.shift,hb],h⟩
  ·rw[jf]at h
   exact⟨_,λP t w=>by simp[binOp,Op.shift,hb],h⟩
  ·cases h
 ·cases h
def BA_ok{C:Cfg}{Sg:Tc}{T:Tt}{call:ac}(hc:CallBOk C Sg T call):AlgOk (BA Sg T call) C Sg T (λb=>b=some w) (λh=>absH T (toL h)) where
 fail:=by intro h;cases h
 cond:=by
  intro b x y h
  cases b
  ·exact .inr ⟨rfl,h⟩
  ·exact .inl ⟨rfl,h⟩
 ari:=λop k a b K h=>ariB_ok h
 shf:=λop k a k' b K h=>shfB_ok h
 cmp:=λop a b K h=>cmpB_ok h
 eqs:=λl K h=>eqsB_ok h
 conv:=λk a K h=>fitsK h
 sel:=by intro t a b K h;cases t<;>exact h
 opt:=by
  intro α o K h
  cases o with
  |none=>cases h
  |some x=>exact⟨x,rfl,h⟩
 chk:=by
  intro v K h
  have h:chkB v K=some w:=h
  unfold chkB at h
  split at h
  next e=>rw[vu]at e;exact⟨e,h⟩
  ·cases h
 unI:=by
  intro ls K h
  match ls,h with
  | .i n :: r,h=>exact⟨n,r,rfl,h⟩
 unB:=by
  intro ls K h
  match ls,h with
  | .b n :: r,h=>exact⟨n,r,rfl,h⟩
 unV:=by
  intro ls K h
  match ls,h with
  | .v n :: r,h=>exact⟨n,r,rfl,h⟩
 un0:=by
  intro ls K h
  match ls,h with
  | [],h=>exact⟨rfl,h⟩
 ucI:=by
  intro k ls K h
  match ls,h with
  | .int k' n :: r,h=>
   have h:(match dy k k' with|true=>K n r|false=>none)=some w:=h
   split at h
   next e=>rw[dw e];exact⟨n,r,rfl,h⟩
   ·cases h
 ucB:=by
  intro ls K h
  match ls,h with
  | .bool n :: r,h=>exact⟨n,r,rfl,h⟩
 ucV:=by
  intro ls K h
  match ls,h with
  |n :: r,h=>exact⟨n,r,rfl,h⟩
 uc0:=by
  intro ls K h
  match ls,h with
  | [],h=>exact⟨rfl,h⟩
 peek:=by
  intro f h K hk
  have hk:peekB T f h K=some w:=hk
  unfold peekB at hk
  rw[←jX]
  cases f with
  |ld n p=>exact ldB_ok hk
  |lg C n p=>exact lgB_ok hk
  |fn f=>
   simp only at hk
   rw[lT]at hk
   split at hk
   next x e=>exact⟨x,e,hk⟩
   ·cases hk
 heap:=by
  intro f h K hk
  have hk:heapB T f h K=some w:=hk
  obtain⟨acts,cs,h',a1,a2,a3⟩:=heapB_ok hk
  exact⟨acts,cs,h',by rw[←jX,dt];exact a1,by rw[a2];exact jN T acts (toL h),a3⟩
 new:=by
  intro o h K hk
  have hk:newB o h K=some w:=hk
  unfold newB at hk
  obtain⟨x,e1,e2⟩:=gY (o:=o) (k:=λo=>gN h o λh'=>K h.n h')
  rw[e2,eX]at hk
  exact⟨h.push x,by rw[eZ,e1];exact gg T (toL h) _,by rw[dt,cU];exact hk⟩
 call:=λg ls h K hk=>vb hc hk
 callv:=λv args hs h K hk=>callvB_ok hc hk
 join:=λb m h=>h
 loop:=by
  intro F ls h hk
  refine⟨λn=>Nat.rec (motive:=λ_=>TD->HTr->RT) (λ_ _=>none) (λ_ ih ls h=>F ih ls h) n,λls h=>(by simp),λn ls h=>rfl,1000000,hk⟩
 rfun:=λκ v vals h K hk=>rfunB_ok hc hk
 pend:=by
  intro pd kn kr ks h
  cases pd with
  |none=>exact .inl ⟨rfl,h⟩
  |some c=>
   cases c<;>first|exact .inr (.inl ⟨rfl,h⟩)|skip
   case exit id=>
    exact .inr (.inr (tr h))
   all_goals cases h
 lp1:=by
  intro l h K hk
  have hk:lp1B l h K=some w:=hk
  unfold lp1B at hk
  split at hk
  next κ st pd vs e=>
   split at hk
   ·rw[gO]at hk
    exact⟨_,_,jj e,rfl,by rw[gT];exact jb T (toL h) l _,hk⟩
   ·cases hk
  ·cases hk
 lp2:=by
  intro l j h K hk
  have hk:lp2B l j h K=some w:=hk
  unfold lp2B at hk
  split at hk
  next κ st pd vs e=>
   cases j with
   |none=>
    have hk:putK h l (.lp κ .ready none vs) K=some w:=hk
    rw[gO]at hk
    exact⟨_,h.put l (.lp κ .ready none vs),jj e,(congrArg (absH T) (gT h l (.lp κ .ready none vs))).trans (jb T (toL h) l (.lp κ .ready none vs)),hk⟩
   |some c=>
    have hk:putK h l (.lp κ .done (some c) vs) K=some w:=hk
    rw[gO]at hk
    exact⟨_,h.put l (.lp κ .done (some c) vs),jj e,(congrArg (absH T) (gT h l (.lp κ .done (some c) vs))).trans (jb T (toL h) l (.lp κ .done (some c) vs)),hk⟩
  ·cases hk
inductive TabOk(C:Cfg)(Sg:Tc)(X:Ctxt)(dr:Dr)(A:Alg RT HTr)(f:TM)(ls:TD)(h:HTr)(K:TD->HTr->RT)(w:TD):Prop
 |run (fn:Fn1) (hi:FnIs X Sg f fn) (he:av A X Sg dr fn ls h K=some w)
 |known (rs:TD) (hc:∀H,aK C Sg f ls H rs H) (hk:K rs h=some w)
 |alone (fn:Fn1) (rs:TD) (sg:Sig) (hi:FnIs X Sg f fn) (hs:Sg f=some sg) (hp:sg.plain=true) (he:av A X Sg dr fn ls .empty (λrs _=>some rs)=some rs) (hk:K rs h=some w)
end
end Sx
namespace Sx
def gfl(v:Value):Bool:=match v with
 | .pointer (some a)=>a.spot==some 1
 | .slice (some a) _ _=>a.spot==some 1
 |v=>scalar v
section
variable [Val]
def tn [Glo]{mu:HMap}{p:Pl}{x y:Option Obj}{o:HObj}(hxy:∀a,x=some a->y=some a)(h:objR mu p x o):objR mu p y o:=by
 cases o with
 |cells vs esz rw=>
  obtain⟨h1,h2,h3,c,e,fr,h4,h5⟩:=h
  exact⟨h1,h2,h3,c,e,fr,hxy _ h4,h5⟩
 |map es clock=>
  obtain⟨es',h1,h2⟩:=h
  exact⟨es',hxy _ h1,h2⟩
 |loop r=>
  obtain⟨L,h1,h2⟩:=h
  exact⟨L,hxy _ h1,h2⟩
 |siter s pos=>exact hxy _ h
 |dead=>trivial
def flatVRs [Glo]{la:LMap}{mu mu':HMap}{vs cs:Tl}(hf:vs.all flat=true)(h:VRs la mu vs cs):VRs la mu' vs cs:=by
 refine⟨h.1,λi x y hx hy=>?_⟩
 have h1:=h.2 i x y hx hy
 have h2:flat x=true:=qag.1 hf x (qab hx)
 rw[fg h2 h1]
 exact .of_flat h2
def gflVR [Glo]{la la':LMap}{mu mu':HMap}{v c:Value}(hf:gfl v=true)(h:VR la mu v c):VR la' mu' v c:=by
 cases h with
 |poison c=>cases hf
 |sym h=>cases hf
 |scalar h=>exact .scalar h
 |agg _ _=>cases hf
 |tuple _ _ _=>cases hf
 |func _ _ _ _ _=>cases hf
 |yield _=>cases hf
 |lptr _=>cases hf
 |hptr _=>cases hf
 |gptr=>exact .gptr
 |hslice _ _ _ _=>simp[gfl,tag]at hf
 |hslice0 _=>simp[gfl,tag]at hf
 |gslice hl hx=>exact .gslice hl hx
 |gslice0 hx=>exact .gslice0 hx
 |map _=>cases hf
def lU [Glo]{mu mu':HMap}{vs:Tl}{c:Tj}{o:Nat}(hf:vs.all gfl=true)(h:bL mu vs c o):bL mu' vs c o:=by
 intro i v hv
 obtain⟨v',h1,h2⟩:=h i v hv
 exact⟨v',h1,gflVR (qag.1 hf v (qab hv)) h2⟩
def no_own{mu:HMap}{b:Nat}:¬Own mu [] b:=by
 rintro⟨id,o,p,h,_⟩
 simp at h
def frame_ok{C:Cfg}(hG:∀g vs,C.G g=some vs->vs.all gfl=true){f:TM}{args:Tl}{r:Value}{H':Ts}(h:cO C f args [] r H')(ha:args.all flat=true)(hr:flat r=true)(H:Ts):cO C f args H r H:=by
 intro _ base mu w args' hb hargs hW cs
 have hW0:WR C w.heap.size (λ_=>none) [] w:=by
  refine⟨λid o h=>by simp at h,λi j oi oj pi pj h=>by simp at h,λi o p h=>by simp at h,λi o p h=>by simp at h,λ_ _=>rfl,λg vs hg=>?_⟩
  obtain⟨h1,h2,c,e,fr,h3,h4⟩:=hW.glob g vs hg
  exact⟨by omega,h2,c,e,fr,h3,lU (hG g vs hg) h4⟩
 obtain⟨v,mu',w',a1,a2,a3,a4,a5⟩:=h _ w.heap.size (λ_=>none) w args' (qaf _) (flatVRs ha hargs) hW0 cs
 have hkeep:∀(b:Nat) x,w.heap[b]?=some x->w'.heap[b]?=some x:=by
  intro b x hx
  have hlt:b<w.heap.size:=by
   rcases qaO b w.heap.size with h|h
   ·exact h
   ·rw[qbb h]at hx;cases hx
  rw[a3.keep b hlt no_own];exact hx
 refine⟨v,mu,w',?_,?_,?_,a4,a5⟩
 ·rw[fg hr a1];exact .of_flat hr
 ·refine⟨λid o h1 h2=>?_,hW.inj,hW.own,hW.ro,hW.dom,λg vs hg=>?_⟩
  ·obtain⟨p,h3,h4⟩:=hW.obj id o h1 h2
   exact⟨p,h3,tn (hkeep p.b) h4⟩
  ·obtain⟨h1,h2,c,e,fr,h3,h4⟩:=hW.glob g vs hg
   exact⟨h1,h2,c,e,fr,hkeep _ _ h3,h4⟩
 ·exact⟨qaf _,λ_ _=>rfl,a3.size,λb hb _=>a3.keep b hb no_own,λb h=>.inr h,a3.os,a3.tape,a3.output,a3.dr⟩
abbrev _root_.TB:=Nat->Nat
def frame_ro{C:Cfg}(hG:∀g vs,C.G g=some vs->vs.all gfl=true){f:TM}{args0 args:Tl}{r:Value}{H0 H' H:Ts}(σ:TB)(h:cO C f args0 H0 r H')(hr:flat r=true)
  (h0:∀(j:Nat) (o:HObj),H0[j]?=some o->∃vs e rw,o = .cells vs e false/\vs.all flat=true/\H[σ j]?=some (.cells vs e rw))
  (ha:∀ [Glo] (mu mu0:HMap) (cs:Tl),(∀j,j<H0.length->mu0 j=mu (σ j))->VRs noL mu args cs->VRs noL mu0 args0 cs):cO C f args H r H:=by
 intro _ base mu w args' hb hargs hW cs
 let mu0:HMap:=λj=>if j<H0.length then mu (σ j)else none
 have hno:∀b,¬Own mu0 H0 b:=by
  rintro b ⟨id,o,p,h1,h2,_⟩
  obtain⟨vs,e,rw',rfl,_⟩:=h0 id o h1
  cases h2
 have hmu:∀(id:Nat) (o:HObj),H0[id]?=some o->mu0 id=mu (σ id):=by
  intro id o h1
  have:id<H0.length:=by
   rcases qaO id H0.length with h|h
   ·exact h
   ·rw[qaj h]at h1;cases h1
  simp only[mu0,qdy this]
 have hobj:∀(id:Nat) (o:HObj),H0[id]?=some o->∃p,mu0 id=some p/\objR mu0 p w.heap[p.b]? o:=by
  intro id o h1
  obtain⟨vs,e,rw',rfl,hf,hH⟩:=h0 id o h1
  obtain⟨p,h3,h4⟩:=hW.obj (σ id) _ hH rfl
  obtain⟨g1,g2,g3,c,e',fr,g4,g5,g6,g7⟩:=h4
  refine⟨p,by rw[hmu id _ h1];exact h3,g1,g2,g3,c,e',fr,g4,g5,λe=>by(cases e),λi v hv=>?_⟩
  obtain⟨v',q1,q2⟩:=g7 i v hv
  have h2:flat v=true:=qag.1 hf v (qab hv)
  refine⟨v',q1,?_⟩
  rw[fg h2 q2]
  exact .of_flat h2
 have hW0:WR C w.heap.size mu0 H0 w:=by
  refine⟨λid o h1 _=>hobj id o h1,λi j oi oj pi pj h1 h2 h3=>?_,λi o p h1 h2=>?_,λi o p h1 _ _ h2=>?_,λid h1=>?_,λg vs hg=>?_⟩
  ·obtain⟨vs,e,rw',rfl,_⟩:=h0 i oi h1
   cases h3
  ·obtain⟨vs,e,rw',rfl,_⟩:=h0 i o h1
   cases h2
  ·obtain⟨p',h3,h4⟩:=hobj i o h1
   rw[h2]at h3
   cases h3
   obtain⟨vs,e,rw',rfl,_⟩:=h0 i o h1
   obtain⟨_,_,_,c,e',fr,g4,_⟩:=h4
   rcases qaO p.b w.heap.size with h|h
   ·exact h
   ·rw[qbb h]at g4;cases g4
  ·simp only[mu0,qdz (Nat.not_lt.2 h1)]
  ·obtain⟨h1,h2,c,e,fr,h3,h4⟩:=hW.glob g vs hg
   exact⟨by omega,h2,c,e,fr,h3,lU (hG g vs hg) h4⟩
 have hargs0:VRs noL mu0 args0 args'.toList:=ha mu mu0 _ (λj hj=>by simp only[mu0,qdy hj]) hargs
 obtain⟨v,mu',w',a1,a2,a3,a4,a5⟩:=h _ w.heap.size mu0 w args' (qaf _) hargs0 hW0 cs
 have hkeep:∀(b:Nat) x,w.heap[b]?=some x->w'.heap[b]?=some x:=by
  intro b x hx
  have hlt:b<w.heap.size:=by
   rcases qaO b w.heap.size with h|h
   ·exact h
   ·rw[qbb h]at hx;cases hx
  rw[a3.keep b hlt (hno b)];exact hx
 refine⟨v,mu,w',?_,?_,?_,a4,a5⟩
 ·rw[fg hr a1];exact .of_flat hr
 ·refine⟨λid o h1 h2=>?_,hW.inj,hW.own,hW.ro,hW.dom,λg vs hg=>?_⟩
  ·obtain⟨p,h3,h4⟩:=hW.obj id o h1 h2
   exact⟨p,h3,tn (hkeep p.b) h4⟩
  ·obtain⟨h1,h2,c,e,fr,h3,h4⟩:=hW.glob g vs hg
   exact⟨h1,h2,c,e,fr,hkeep _ _ h3,h4⟩
 ·exact⟨qaf _,λ_ _=>rfl,a3.size,λb hb _=>a3.keep b hb (hno b),λb h=>.inr h,a3.os,a3.tape,a3.output,a3.dr⟩
end
section
variable [Val] [Kno]
end
end Sx
namespace Sx
def gf(F:TA)(H H2:Ts):Prop:=∀r∈F,∀x,H[r]?=some x->x.alive=true->H2[r]?=some x
structure HEff where
 set:Option (Nat×HObj)
 push:Option (HObj×(Nat->Value))
 v:Value
def HEff.put(e:HEff)(H:Ts):Ts:=match e.set with
 |some p=>H.set p.1 p.2
 |none=>H
def HEff.heap(e:HEff)(H:Ts):Ts:=match e.push with
 |some p=>e.put H++[p.1]
 |none=>e.put H
def HEff.val(e:HEff)(n:Nat):Value:=match e.push with
 |some p=>p.2 n
 |none=>e.v
def LocF(nw:Prop)(F W:TA)(f:Ts->Option (List HObj×Value))(H:Ts):Prop:=
 ∀H' v,f H=some (H',v)->∃e:HEff,H'=e.heap H/\v=e.val H.length/\(∀p,e.set=some p->p.1∈W/\∃x,H[p.1]?=some x/\x.alive=true)/\(∀p,e.push=some p->nw/\Fresh p.2/\p.1.alive=true)/\
  ∀H2,gf F H H2->f H2=some (e.heap H2,e.val H2.length)
def LocG(F:TA)(f:Ts->Ti)(H:Ts):Prop:=∀v,f H=some v->∀H2,gf F H H2->f H2=some v
def dc{F:TA}{H H2:Ts}(h:gf F H H2){r:Nat}(hr:r∈F){vs:Tl}{e:Nat}{b:Bool}(hx:H[r]?=some (.cells vs e b)):H2[r]?=some (.cells vs e b):=h r hr _ hx rfl
def co{F:TA}{H H2:Ts}(h:gf F H H2){r:Nat}(hr:r∈F){es:Th}{c:Nat}(hx:hmap H r=some (es,c)):H[r]?=some (.map es c)/\hmap H2 r=some (es,c):=by
 unfold hmap at hx
 split at hx
 next e=>
  cases hx
  exact⟨e,by unfold hmap;rw[h r hr _ e rfl]⟩
 ·cases hx
def iD{C:Cfg}{H H2:Ts}{esz:Nat}{x:Value}{p:List Value×Nat}(hc:cK C H esz x=some p){F:TA}(hF:∀r∈adr x,r∈F)(h:gf F H H2):cK C H2 esz x=some p:=by
 unfold cK at hc ⊢
 split at hc
 ·exact hc
 next a len cx=>
  split at hc
  next hs=>simp only[hs,if_true];exact hc
  next hs=>
   split at hc
   next ht=>
    simp only[hs,if_false,ht,if_true]
    split at hc
    next vs e b hid=>
     have hm:a.block∈adr (.slice (some a) len cx):=by
      simp[adr,ht,tag]
     rw[dc h (hF _ hm) hid]
     exact hc
    ·cases hc
   ·cases hc
 ·exact hc
 ·cases hc
def uv{nw:Prop}{F W:TA}{H:Ts}(hnw:nw)(x:HObj)(mk:Nat->Value)(hx:x.alive=true)(hm:Fresh mk):LocF nw F W (λH=>some (H++[x],mk H.length)) H:=by
 intro H' v h
 cases h
 exact⟨⟨none,some (x,mk),undef⟩,rfl,rfl,λp hp=>(by cases hp),λp hp=>by cases hp;exact⟨hnw,hm,hx⟩,λH2 _=>rfl⟩
def fM{nw:Prop}{F W:TA}{f:Ts->Option (List HObj×Value)}{H:Ts}{v:Value}(h:f H=some (H,v))(h2:∀H2,gf F H H2->f H2=some (H2,v)) :
  ∃e:HEff,H=e.heap H/\v=e.val H.length/\(∀p,e.set=some p->p.1∈W/\∃x,H[p.1]?=some x/\x.alive=true)/\(∀p,e.push=some p->nw/\Fresh p.2/\p.1.alive=true)/\∀H2,gf F H H2->f H2=some (e.heap H2,e.val H2.length):=
 ⟨⟨none,none,v⟩,rfl,rfl,λp hp=>(by cases hp),λp hp=>(by cases hp),h2⟩
def qQ{nw:Prop}{F W:TA}{f:Ts->Option (List HObj×Value)}{H:Ts}{x:HObj}{mk:Nat->Value}(hnw:nw)(hx:x.alive=true)(hm:Fresh mk)(h2:∀H2,gf F H H2->f H2=some (H2++[x],mk H2.length)) :
  ∃e:HEff,H++[x]=e.heap H/\mk H.length=e.val H.length/\(∀p,e.set=some p->p.1∈W/\∃x,H[p.1]?=some x/\x.alive=true)/\(∀p,e.push=some p->nw/\Fresh p.2/\p.1.alive=true)/\∀H2,gf F H H2->f H2=some (e.heap H2,e.val H2.length):=
 ⟨⟨none,some (x,mk),undef⟩,rfl,rfl,λp hp=>(by cases hp),λp hp=>by cases hp;exact⟨hnw,hm,hx⟩,h2⟩
def fh{nw:Prop}{F W:TA}{f:Ts->Option (List HObj×Value)}{H:Ts}{i:Nat}{x y:HObj}{v:Value}(hi:i∈W)(hy:H[i]?=some y)(ha:y.alive=true)(h2:∀H2,gf F H H2->f H2=some (H2.set i x,v)) :
  ∃e:HEff,H.set i x=e.heap H/\v=e.val H.length/\(∀p,e.set=some p->p.1∈W/\∃x,H[p.1]?=some x/\x.alive=true)/\(∀p,e.push=some p->nw/\Fresh p.2/\p.1.alive=true)/\∀H2,gf F H H2->f H2=some (e.heap H2,e.val H2.length):=
 ⟨⟨some (i,x),none,v⟩,rfl,rfl,λp hp=>by cases hp;exact⟨hi,y,hy,ha⟩,λp hp=>(by cases hp),h2⟩
def xj{nw:Prop}{C:Cfg}{t:TK}{s x:Value}{H:Ts}{F W:TA}(hnw:nw)(hs:∀r∈adr s,r∈F/\r∈W)(hx:∀r∈adr x,r∈F):LocF nw F W (fe C t s x) H:=by
 intro H' v hf
 unfold fe at hf
 split at hf
 case h_2=>cases hf
 rename_i elem hu
 split at hf
 ·cases hf
 rename_i info hi
 split at hf
 ·cases hf
 rename_i hsz
 split at hf
 ·cases hf
 rename_i hz
 split at hf
 ·cases hf
 rename_i new n hcv
 have base:∀H2,gf F H H2->fe C t s x H2=(match (motive:=Value->Option (List HObj×Value)) s with
   | .slice none 0 0=>
    if n=0 then some (H2,.slice none 0 0)
    else if bO n info.bytes then some (H2++[.cells new info.size true],.slice (some ⟨H2.length,0,tag info.size⟩) n 0)else none
   | .slice (some a) len cx=>
    if a.spot≠tag info.size then none else
    match H2[a.block]? with
    |some (.cells vs e rw)=>
     if e≠info.size then none else
     match cut vs a.off (len*info.size)with
     |none=>none
     |some old=>
      match cx with
      |0=>
       if n=0 then some (H2,.slice (some a) len 0)
       else if rw&&bO (len+n) info.bytes then
        some (H2.set a.block .dead++[.cells (old++new) info.size true],.slice (some ⟨H2.length,0,tag info.size⟩) (len+n) 0)
       else none
      |cap+1=>
       if len+n<=cap then
        if rw then(splice vs (a.off+len*info.size) new).map λvs'=>(H2.set a.block (.cells vs' e true),.slice (some a) (len+n) (cap+1))
        else if n=0 then some (H2,.slice (some a) len (cap+1))else none
       else if bO (len+n) info.bytes then
        some (H2++[.cells (old++new) info.size true],.slice (some ⟨H2.length,0,tag info.size⟩) (len+n) 0)
       else none
    |_=>none
   |_=>none):=by
  intro H2 h2
  unfold fe
  simp only[hu,hi,hsz,if_false,hz,iD hcv hx h2]
  rfl
 split at hf
 ·split at hf
  next hn=>
   cases hf
   exact fM (by rw[base H λ_ _ _ h _=>h];simp only[hn,if_true]) λH2 h2=>by rw[base H2 h2];simp only[hn,if_true]
  next hn=>
   split at hf
   next hok=>
    cases hf
    exact qQ (mk:=λk=>.slice (some ⟨k,0,tag info.size⟩) n 0) hnw rfl (.slice _ _ _) λH2 h2=>by rw[base H2 h2];simp only[hn,if_false,hok,if_true]
   ·cases hf
 next a len cx=>
  split at hf
  ·cases hf
  rename_i hsp
  have hm:a.block∈adr (.slice (some a) len cx):=by
   simp only[ne_eq,Classical.not_not]at hsp
   simp[adr,hsp,tag]
  split at hf
  case h_2=>cases hf
  rename_i vs e rw0 hid
  split at hf
  ·cases hf
  rename_i he
  split at hf
  ·cases hf
  rename_i old hcut
  have hid2:∀ {H2},gf F H H2->H2[a.block]?=some (.cells vs e rw0):=λh2=>dc h2 (hs _ hm).1 hid
  split at hf
  ·split at hf
   next hn=>
    cases hf
    exact fM (by rw[base H λ_ _ _ h _=>h];simp only[hsp,hid,he,hcut,hn,if_true,if_false]) λH2 h2=>by rw[base H2 h2];simp only[hsp,hid2 h2,he,hcut,hn,if_true,if_false]
   next hn=>
    split at hf
    next hok=>
     cases hf
     refine⟨⟨some (a.block,.dead),some (.cells (old++new) info.size true,λk=>.slice (some ⟨k,0,tag info.size⟩) (len+n) 0),undef⟩,rfl,rfl,λp hp=>by cases hp;exact⟨(hs _ hm).2,_,hid,rfl⟩,λp hp=>by cases hp;exact⟨hnw,.slice _ _ _,rfl⟩,λH2 h2=>?_⟩
     rw[base H2 h2];simp only[hsp,hid2 h2,he,hcut,hn,hok,if_true,if_false];rfl
    ·cases hf
  ·split at hf
   next cap hle=>
    split at hf
    next hrw=>
     obtain⟨vs',hspl,hq⟩:=qac.1 hf
     cases hq
     exact fh (hs _ hm).2 hid rfl λH2 h2=>by rw[base H2 h2];simp only[hsp,hid2 h2,he,hcut,hle,hrw,if_true,if_false,hspl,qaz]
    next hrw=>
     split at hf
     next hn=>
      cases hf
      exact fM (by rw[base H λ_ _ _ h _=>h];simp only[hsp,hid,he,hcut,hle,hn,hrw,if_true,if_false];simp[hn];omega) λH2 h2=>by rw[base H2 h2];simp only[hsp,hid2 h2,he,hcut,hle,hrw,hn,if_true,if_false];simp[hn];omega
     ·cases hf
   next cap hle=>
    split at hf
    next hok=>
     cases hf
     exact qQ (mk:=λk=>.slice (some ⟨k,0,tag info.size⟩) (len+n) 0) hnw rfl (.slice _ _ _) λH2 h2=>by rw[base H2 h2];simp only[hsp,hid2 h2,he,hcut,hle,hok,if_true,if_false]
    ·cases hf
 ·cases hf
def loc_copy{nw:Prop}{C:Cfg}{t:TK}{d x:Value}{H:Ts}{F W:TA}(hs:∀r∈adr d,r∈F/\r∈W)(hx:∀r∈adr x,r∈F):LocF nw F W (mr C t d x) H:=by
 intro H' v hf
 unfold mr at hf
 split at hf
 next elem hu=>
  split at hf
  ·cases hf
  rename_i hsz
  obtain⟨p,hp,hq⟩:=qac.1 hf
  cases hq
  exact fM (by unfold mr;simp only[hu,hsz,if_false,hp,qaz]) λH2 h2=>by unfold mr;simp only[hu,hsz,if_false,iD hp hx h2,qaz]
 next elem a dlen cx hu=>
  split at hf
  ·cases hf
  rename_i hsz
  split at hf
  ·cases hf
  rename_i hsp
  split at hf
  case h_2=>cases hf
  rename_i new n vs e hcv hid
  split at hf
  ·cases hf
  rename_i he
  obtain⟨vs',hspl,hq⟩:=qac.1 hf
  cases hq
  have hm:a.block∈adr (.slice (some a) dlen cx):=by
   simp only[ne_eq,Classical.not_not]at hsp
   simp[adr,hsp,tag]
  refine fh (hs _ hm).2 hid rfl λH2 h2=>?_
  unfold mr
  simp only[hu,hsz,hsp,he,if_false,iD hcv hx h2,dc h2 (hs _ hm).1 hid,hspl,qaz]
 ·cases hf
def loc_clear{nw:Prop}{C:Cfg}{t:TK}{x:Value}{H:Ts}{F W:TA}(hs:∀r∈adr x,r∈F/\r∈W):LocF nw F W (gt C t x) H:=by
 intro H' v hf
 unfold gt at hf
 split at hf
 next elem hu=>
  cases hf
  exact fM (by unfold gt;simp only[hu]) λH2 h2=>by unfold gt;simp only[hu]
 next elem a n cx hu=>
  split at hf
  ·cases hf
  rename_i hsz
  split at hf
  ·cases hf
  rename_i hsp
  split at hf
  case h_2=>cases hf
  rename_i z vs e hz hid
  split at hf
  ·cases hf
  rename_i he
  obtain⟨vs',hspl,hq⟩:=qac.1 hf
  cases hq
  have hm:a.block∈adr (.slice (some a) n cx):=by
   simp only[ne_eq,Classical.not_not]at hsp
   simp[adr,hsp,tag]
  refine fh (hs _ hm).2 hid rfl λH2 h2=>?_
  unfold gt
  simp only[hu,hsz,hsp,he,if_false,hz,dc h2 (hs _ hm).1 hid,hspl,qaz]
 ·cases hf
def loc_store{nw:Prop}{C:Cfg}{t:TK}{id off:Nat}{x:Value}{H:Ts}{F W:TA}(h1:id∈F)(h2:id∈W):LocF nw F W (iL C t id off x) H:=by
 intro H' v hf
 unfold iL at hf
 split at hf
 next vs e hid=>
  obtain⟨vs',hw,hq⟩:=qac.1 hf
  cases hq
  refine fh h2 hid rfl λH2 h3=>?_
  unfold iL
  simp only[dc h3 h1 hid,hw,qaz]
 ·cases hf
def oR{nw:Prop}{C:Cfg}{t:TK}{m k x:Value}{H:Ts}{F W:TA}(hs:∀r∈adr m,r∈F/\r∈W):LocF nw F W (cu C t m k x) H:=by
 intro H' v hf
 unfold cu at hf
 split at hf
 case h_2=>cases hf
 rename_i kt et id hu
 split at hf
 ·cases hf
 rename_i hok
 split at hf
 ·cases hf
 rename_i es c hm
 obtain⟨f1,w1⟩:=hs id (by simp[adr])
 have g1:=(co (λ_ _ _ h _=>h:gf F H H) f1 hm).1
 split at hf
 ·cases hf
 next hfi=>
  cases hf
  refine fh w1 g1 rfl λH2 h2=>?_
  unfold cu
  simp only[hu,hok,(co h2 f1 hm).2,hfi]
  rfl
 next i hfi=>
  split at hf
  next hb=>
   cases hf
   refine fh w1 g1 rfl λH2 h2=>?_
   unfold cu
   simp only[hu,hok,(co h2 f1 hm).2,hfi,hb]
   rfl
  ·cases hf
def loc_entry{nw:Prop}{C:Cfg}{t:TK}{m k:Value}{H:Ts}{F W:TA}(hs:∀r∈adr m,r∈F/\r∈W):LocF nw F W (cr C t m k) H:=by
 intro H' v hf
 unfold cr at hf
 split at hf
 case h_2=>cases hf
 rename_i kt et id hu
 split at hf
 ·cases hf
 rename_i hok
 split at hf
 ·cases hf
 rename_i es c hm
 obtain⟨f1,w1⟩:=hs id (by simp[adr])
 have g1:=(co (λ_ _ _ h _=>h:gf F H H) f1 hm).1
 split at hf
 ·cases hf
 next hfi=>
  split at hf
  ·cases hf
  rename_i z hz
  cases hf
  refine fh w1 g1 rfl λH2 h2=>?_
  unfold cr
  simp only[hu,hok,(co h2 f1 hm).2,hfi,hz]
  rfl
 next i hfi=>
  split at hf
  ·cases hf
  rename_i e hei
  split at hf
  next hb=>
   cases hf
   refine fh w1 g1 rfl λH2 h2=>?_
   unfold cr
   simp only[hu,hok,(co h2 f1 hm).2,hfi,hei,hb]
   rfl
  ·cases hf
def xl{nw:Prop}{m s x:Value}{H:Ts}{F W:TA}(hs:∀r∈adr m,r∈F/\r∈W):LocF nw F W (cD m s x) H:=by
 intro H' v hf
 unfold cD at hf
 split at hf
 case h_2=>cases hf
 rename_i id b hb
 split at hf
 ·cases hf
 rename_i hok
 split at hf
 ·cases hf
 rename_i es c hm
 obtain⟨f1,w1⟩:=hs id (by simp[adr])
 have g1:=(co (λ_ _ _ h _=>h:gf F H H) f1 hm).1
 split at hf
 next i hfi=>
  cases hf
  refine fh w1 g1 rfl λH2 h2=>?_
  unfold cD
  simp only[hb,hok,(co h2 f1 hm).2,hfi]
  rfl
 ·cases hf
def xk{nw:Prop}{C:Cfg}{t:TK}{m k:Value}{H:Ts}{F W:TA}(hs:∀r∈adr m,r∈F/\r∈W):LocF nw F W (dE C t m k) H:=by
 intro H' v hf
 unfold dE at hf
 split at hf
 case h_2=>cases hf
 rename_i kt et hu
 split at hf
 ·cases hf
 rename_i hok
 split at hf
 ·cases hf
  exact fM (by unfold dE;simp only[hu,hok];rfl) λH2 h2=>by unfold dE;simp only[hu,hok];rfl
 next id=>
  obtain⟨f1,w1⟩:=hs id (by simp[adr])
  split at hf
  ·cases hf
  rename_i es c hm
  have g1:=(co (λ_ _ _ h _=>h:gf F H H) f1 hm).1
  split at hf
  ·cases hf
  next hfi=>
   cases hf
   exact fM (by unfold dE;simp only[hu,hok,hm,hfi];rfl) λH2 h2=>by unfold dE;simp only[hu,hok,(co h2 f1 hm).2,hfi];rfl
  next i hfi=>
   cases hf
   refine fh w1 g1 rfl λH2 h2=>?_
   unfold dE
   simp only[hu,hok,(co h2 f1 hm).2,hfi]
   rfl
 ·cases hf
def loc_make{nw:Prop}{C:Cfg}{t:TK}{l c:Value}{H:Ts}{F W:TA}(hnw:nw):LocF nw F W (dm C t l c) H:=by
 intro H' v hf
 unfold dm at hf
 split at hf
 case h_2=>cases hf
 rename_i ln cn e h1 h2 hu
 split at hf
 case h_2=>cases hf
 rename_i info hi
 split at hf
 ·cases hf
 rename_i hsz
 split at hf
 case h_2=>cases hf
 rename_i z hz
 split at hf
 next hb=>
  cases hf
  refine qQ (mk:=λk=>.slice (some ⟨k,0,tag info.size⟩) ln.toNat (cn.toNat+1)) hnw rfl (.slice _ _ _) λH2 _=>?_
  unfold dm
  simp only[h1,h2,hu,hi,hsz,hz,hb,and_self,if_true,if_false]
 ·cases hf
def xm{C:Cfg}{t:TK}{m k:Value}{ok:Bool}{H:Ts}{F:TA}(hs:∀r∈adr m,r∈F):LocG F (cE C t m k ok) H:=by
 intro v hf H2 h2
 unfold cE at hf
 unfold cE
 split at hf
 case h_2=>cases hf
 rename_i kt et hu
 split at hf
 ·cases hf
 rename_i hok
 simp only[hok]
 split at hf
 ·cases hf
 rename_i z hz
 split at hf
 ·exact hf
 next id=>
  have f1:=hs id (by simp[adr])
  split at hf
  ·cases hf
  rename_i es c hm
  simp only[(co h2 f1 hm).2]
  exact hf
 ·cases hf
def loc_arr{C:Cfg}{t:TK}{a:Addr}{lo hi mx:Ti}{H:Ts}{F:TA}(hs:∀r∈adr (.pointer (some a)),r∈F):LocG F (cM C t a lo hi mx) H:=by
 intro v hf H2 h2
 unfold cM at hf
 unfold cM
 split at hf
 case h_2=>cases hf
 rename_i n elem hu
 split at hf
 ·cases hf
 rename_i hsz
 simp only[hsz,if_false]
 split at hf
 ·cases hf
 rename_i l h m hb
 split at hf
 next hsp=>
  simp only[hsp,if_true];exact hf
 next hsp=>
  simp only[hsp,if_false]
  split at hf
  next hn=>
   simp only[hn,if_true]
   split at hf
   next vs e b hid=>
    rw[dc h2 (hs _ (by simp[adr,hn])) hid]
    exact hf
   ·cases hf
  ·cases hf
end Sx
namespace Sx
def fpo(pts:TA)(ρ:Tf)(o:Oper):TA:=(cV pts o).1.flatMap λx=>adrK (cV pts o).2 (ρ x)
def wpo(pts:TA)(ρ:Tf)(o:Oper):TA:=(eo pts o).flatMap λx=>adr (ρ x)
def okS(N:Tb)(pts:TA)(o:Oper):Bool:=
 match az N pts o with
 |some .hw=>(match o.op with
  | .call c=>(match c.callee with
   | .builtin _=>true
   |_=>false)
  |_=>true)
 |some .hr=>(match o.op with
  | .call c=>(match c.callee with
   | .builtin _=>true
   |_=>false)
  |_=>true)
 |some _=>true
 |none=>false
def dp{C:Cfg}{ρ:Tf}{o:Oper}{e:Eff}(h:cz C ρ o=some e):∃v,e = .val v:=by
 unfold cz at h
 split at h
 ·split at h
  ·split at h
   ·cases h;exact⟨_,rfl⟩
   ·cases h
  ·cases h
 ·cases h
def dz{x:Ti}{e:Eff}(h:x.map Eff.val=some e):∃v,e = .val v:=by
 obtain⟨v,_,rfl⟩:=qac.1 h
 exact⟨v,rfl⟩
def nohop_or{a:Ti}{b:Option Eff}{e:Eff}(hb:b=some e->∃v,e = .val v)(h:nm a b=some e):∃v,e = .val v:=by
 unfold nm at h
 split at h
 ·cases h;exact⟨_,rfl⟩
 ·exact hb h
def LocE(Q nw:Prop)(F W:TA):Eff->Prop
 | .hop f=>∀H,LocF nw F W f H
 | .hget f=>∀H,LocG F f H
 | .call _ _=>Q
 | .yield _ _=>Q
 |_=>True
def bW{Q nw:Prop}{F W:TA}{e:Eff}(h:∃v,e = .val v):LocE Q nw F W e:=by
 obtain⟨v,rfl⟩:=h;trivial
def iK{v:Value}{p:Nat×Nat}(h:gJ v=some p):adr v=[p.1]:=by
 unfold gJ at h
 split at h
 next a=>
  split at h
  next hs=>
   cases h
   cases hsp:a.spot with
   |none=>simp[adr,hsp]
   |some k=>rw[hsp]at hs;cases hs
  ·cases h
 ·cases h
def vC{Q nw:Prop}{C:Cfg}{pts:TA}{d:Tn}{t:TK}{v:Value}{e:Eff}{F W:TA}(hnw:∀x,d=some x->pts.getD x 0≠x+2->nw)(h:cw C pts d t v=some e):LocE Q nw F W e:=by
 unfold cw at h
 split at h
 ·cases h
 ·split at h
  ·cases h
  ·split at h
   ·cases h
   ·split at h
    ·cases h;trivial
    next hpt=>
     cases h
     exact λH=>uv (hnw _ rfl hpt) (.cells v.cells.toList (kJ C.P t) true) (λn=>.pointer (some ⟨n,0,none⟩)) rfl .ptr
def effOf_loc{C:Cfg}{pts:TA}{ρ:Tf}{o:Oper}{e:Eff}(he:aj C pts ρ o=some e):LocE (∃c f,o.op = .call c/\c.callee = .value f) (de pts o=true) (fpo pts ρ o) (wpo pts ρ o) e:=by
 unfold aj at he
 split at he
 ·cases he;trivial
 ·cases he;trivial
 ·split at he
  ·cases he;trivial
  ·cases he
 next t ho=>
  obtain⟨z,_,he⟩:=qar.1 he
  exact vC (λx hx hp=>by simp only[de,ho,hx];cases hb:Nat.beq (pts.getD x 0) (x+2)with
   |false=>rfl
   |true=>exact absurd (qad hb) hp) he
 next t x ho=>
  exact vC (λx hx hp=>by simp only[de,ho,hx];cases hb:Nat.beq (pts.getD x 0) (x+2)with
   |false=>rfl
   |true=>exact absurd (qad hb) hp) he
 ·split at he
  ·exact bW (dz he)
  ·cases he
 next t n ps ho=>
  split at he
  ·obtain⟨r,_,rfl⟩:=qac.1 he
   exact λH=>uv (by simp only[de,ho]) (.cells r.2 r.1 true) (λk=>.slice (some ⟨k,0,tag r.1⟩) n (n+1)) rfl (.slice _ _ _)
  ·cases he
 next t a ho=>
  unfold dG at he
  split at he
  next hk=>
   split at he
   next p hp=>
    cases he
    intro H v hv H2 h2
    obtain⟨vs,h3,h4⟩:=qar.1 hv
    have hm:p.1∈fpo pts ρ o:=by simp[fpo,cV,adrK,ho,hk,iK hp]
    refine qar.2 ⟨vs,?_,h4⟩
    unfold dv at h3 ⊢
    split at h3
    next hid=>cases h3;rw[dc h2 hm hid]
    ·cases h3
   ·obtain⟨p,_,rfl⟩:=qac.1 he
    exact λH v hv H2 _=>hv
  ·obtain⟨p,_,he⟩:=qar.1 he
   exact bW (dz he)
  ·obtain⟨p,_,rfl⟩:=qac.1 he
   trivial
 next t a x ho=>
  unfold em at he
  split at he
  ·cases he
  ·split at he
   next hk=>
    obtain⟨p,hp,rfl⟩:=qac.1 he
    exact λH=>loc_store (by simp[fpo,cV,adrK,ho,hk,iK hp]) (by simp[wpo,eo,ho,hk,iK hp])
   ·cases he
   ·obtain⟨p,_,rfl⟩:=qac.1 he
    trivial
 ·split at he<;>cases he<;>trivial
 ·split at he
  ·split at he
   ·split at he
    ·cases he;trivial
    ·cases he
   ·exact bW (dp he)
  ·split at he
   ·split at he
    ·cases he;trivial
    ·cases he
   ·exact bW (dp he)
  ·exact bW (dp he)
 ·split at he
  ·cases he
  ·cases he;trivial
 next t r ho=>
  split at he
  ·cases he
   exact λH=>uv (by simp only[de,ho]) (.map [] 0) (λn=>.map (some n)) rfl .map
  ·cases he
 next t l c ho=>
  cases he
  exact λH=>loc_make (by simp only[de,ho])
 next t x lo hi mx ho=>
  split at he
  next a hx=>
   split at he
   ·exact bW (dz he)
   ·cases he
    exact λH=>loc_arr λr hr=>by simp[fpo,cV,adrK,adrP,ho,hx];exact hr
  ·exact bW (nohop_or dp he)
 ·exact bW (dz he)
 ·exact bW (dz he)
 ·exact bW (dz he)
 ·exact bW (dz he)
 next t m k ok ho=>
  split at he
  ·exact bW (dz he)
  ·cases he
   exact λH=>xm λr hr=>by simp[fpo,cV,adrK,ho];exact hr
 next t m k v ho=>
  cases he
  exact λH=>oR λr hr=>⟨by simp[fpo,cV,adrK,ho];exact hr,by simp[wpo,eo,ho];exact hr⟩
 next t m k v ho=>
  cases he
  exact λH=>oR λr hr=>⟨by simp[fpo,cV,adrK,ho];exact hr,by simp[wpo,eo,ho];exact hr⟩
 next t m k ho=>
  cases he
  exact λH=>loc_entry λr hr=>⟨by simp[fpo,cV,adrK,ho];exact hr,by simp[wpo,eo,ho];exact hr⟩
 next t m s v ho=>
  cases he
  exact λH=>xl λr hr=>⟨by simp[fpo,cV,adrK,ho];exact hr,by simp[wpo,eo,ho];exact hr⟩
 ·split at he
  ·split at he
   ·cases he
   ·exact bW (dz he)
  ·cases he
 next c ho=>
  unfold fF at he
  simp only at he
  cases hc:c.callee with
  |invoke r m=>simp only[hc]at he;cases he
  |builtin b=>
   simp only[hc]at he
   unfold ba at he
   split at he
   next s x t ha ht=>
    split at he
    ·cases he
    ·cases he
     have two:∃a b,c.args.toList=[a,b]/\ρ a=s/\ρ b=x:=by
      match c.args.toList,ha with
      | [a,b],ha=>simp at ha;exact⟨a,b,rfl,ha.1,ha.2⟩
     obtain⟨a,b,e1,rfl,rfl⟩:=two
     exact λH=>xj (by simp only[de,ho,hc]) (λr hr=>⟨by simp[fpo,cV,adrK,ho,hc,e1,hr],by simp[wpo,eo,ho,hc,e1,hr]⟩) λr hr=>by simp[fpo,cV,adrK,ho,hc,e1,hr]
   next x t ha ht=>
    split at he
    ·cases he;trivial
    next id hu=>
     cases he
     have one:∃a,c.args.toList=[a]/\ρ a = .map (some id):=by
      cases hl:c.args.toList with
      |nil=>rw[hl]at ha;cases ha
      |cons a l=>
       rw[hl]at ha
       cases l with
       |nil=>exact⟨a,rfl,by simpa using ha⟩
       |cons b l=>simp at ha
     obtain⟨a,e1,e2⟩:=one
     intro H v hv H2 h2
     obtain⟨p,h3,h4⟩:=qac.1 hv
     have hm:id∈fpo pts ρ o:=by simp[fpo,cV,adrK,adrM,ho,hc,e1,e2]
     exact qac.2 ⟨p,(co h2 hm h3).2,h4⟩
    ·cases he;trivial
    ·exact bW (dp he)
   ·split at he
    ·cases he;trivial
    ·cases he;trivial
    ·cases he;trivial
    ·cases he
   next d x t ha ht=>
    cases he
    have two:∃a b,c.args.toList=[a,b]/\ρ a=d/\ρ b=x:=by
     match c.args.toList,ha with
     | [a,b],ha=>simp at ha;exact⟨a,b,rfl,ha.1,ha.2⟩
    obtain⟨a,b,e1,rfl,rfl⟩:=two
    exact λH=>loc_copy (λr hr=>⟨by simp[fpo,cV,adrK,ho,hc,e1,hr],by simp[wpo,eo,ho,hc,e1,hr]⟩) λr hr=>by simp[fpo,cV,adrK,ho,hc,e1,hr]
   next m k t ha ht=>
    cases he
    have two:∃a b,c.args.toList=[a,b]/\ρ a=m/\ρ b=k:=by
     match c.args.toList,ha with
     | [a,b],ha=>simp at ha;exact⟨a,b,rfl,ha.1,ha.2⟩
    obtain⟨a,b,e1,rfl,rfl⟩:=two
    exact λH=>xk λr hr=>⟨by simp[fpo,cV,adrK,ho,hc,e1,hr],by simp[wpo,eo,ho,hc,e1,hr]⟩
   next x t ha ht=>
    cases he
    have one:∃a,c.args.toList=[a]/\ρ a=x:=by
     match c.args.toList,ha with
     | [a],ha=>simp at ha;exact⟨a,rfl,ha⟩
    obtain⟨a,e1,rfl⟩:=one
    exact λH=>loc_clear λr hr=>⟨by simp[fpo,cV,adrK,ho,hc,e1,hr],by simp[wpo,eo,ho,hc,e1,hr]⟩
   ·exact bW (dp he)
  |value f=>
   simp only[hc]at he
   split at he
   ·cases he
   ·split at he
    ·split at he
     ·cases he;exact⟨c,f,ho,hc⟩
     ·cases he
    ·split at he
     ·cases he;exact⟨c,f,ho,hc⟩
     ·cases he
    ·cases he
 ·exact bW (dp he)
 ·exact bW (dp he)
 ·cases he
section
variable [Val] {C:Cfg} {B:Below} {N:Tb} {pts:TA} {ops:Tm}
def pT(N:Tb)(pts:TA)(ops:Tm)(o:Oper)(σ τ:St):Prop:=
 (∀t∈bz ops o,τ.tmps[t]?=σ.tmps[t]?)/\(match az N pts o with
 |some (.row s _)=>τ.loc[s]?=σ.loc[s]?
 |_=>True)/\gf (fpo pts (oval σ.tmps) o) σ.heap τ.heap
def eC(dst:Tn)(e:HEff)(rw:Option (Nat×Option (Tl)))(k:Tp)(τ:St):St:=
 ({ tmps:=τ.tmps,loc:=(match rw with|some p=>τ.loc.set p.1 p.2|none=>τ.loc),heap:=(match k with
  |none=>e.heap τ.heap
  |some k=>match e.push with
   |some p=>(e.put τ.heap).set k p.1
   |none=>e.put τ.heap) }:St).put dst (match k with
  |none=>e.val τ.heap.length
  |some k=>e.val k)
def local_okS(hN:NeuB N B){i:Nat}{o:Oper}(hi:ops[i]?=some o)(hc:okS N pts o=true){σ σ':St}(hs:ai C B pts ops i σ σ') :
  ∃(e:HEff) (rw:Option (Nat×Option (Tl))),σ'=eC o.dst e rw none σ/\(∀p,rw=some p->az N pts o=some (.row p.1 true))/\(e.push≠none->az N pts o=some .hw)/\
   (∀p,e.set=some p->p.1∈wpo pts (oval σ.tmps) o/\∃x,σ.heap[p.1]?=some x/\x.alive=true)/\(∀p,e.push=some p->de pts o=true/\Fresh p.2/\p.1.alive=true)/\
   ∀τ,pT N pts ops o σ τ->∀sl:Nat->Option Nat,
    (e.push=none->sl i=none->dJ C B pts ops sl i τ (eC o.dst e rw none τ))/\
    (∀p k,e.push=some p->sl i=some k->(e.put τ.heap)[k]?=some .dead->dJ C B pts ops sl i τ (eC o.dst e rw (some k) τ)):=by
 have hm:az N pts o≠none:=by intro h;unfold okS at hc;rw[h]at hc;cases hc
 by_cases hcl:az N pts o=some .hr∨az N pts o=some .hw
 case neg=>
  obtain⟨e,h1,h2,h3⟩:=fO hN hi hm hs
  have hh:e.hp=none:=by
   cases he:e.hp with
   |none=>rfl
   |some x=>exact absurd (.inr (h2.2 (by rw[he];simp))) hcl
  have hon:∀τ,e.on o.dst τ=eC o.dst ⟨none,none,e.v⟩ e.rw none τ:=λτ=>by
   unfold Ef.on eC
   rw[hh]
   rfl
  refine⟨⟨none,none,e.v⟩,e.rw,by rw[h1,hon],h2.1,λh=>absurd rfl h,λp hp=>(by cases hp),λp hp=>(by cases hp),λτ hτ sl=>⟨λ_ hsl=>?_,λp k hp=>(by cases hp)⟩⟩
  unfold dJ
  rw[hsl]
  rw[←hon]
  refine h3 τ ⟨hτ.1,?_⟩
  have:=hτ.2.1
  cases hmm:az N pts o with
  |none=>exact absurd hmm hm
  |some m=>
   rw[hmm]at this hcl
   cases m with
   |hr=>exact absurd (.inl rfl) hcl
   |hw=>exact absurd (.inr rfl) hcl
   |row s w=>exact this
   |_=>trivial
 case pos=>
  unfold ai at hs
  simp only[hi]at hs
  have hwτ:∀τ,pT N pts ops o σ τ->cj ops τ.tmps o=cj ops σ.tmps o:=λτ hτ=>iY hτ.1
  have val:∀v:Value,σ'=σ.put o.dst v->(∀τ,pT N pts ops o σ τ->ai C B pts ops i τ (τ.put o.dst v))->
    ∃(e:HEff) (rw:Option (Nat×Option (Tl))),σ'=eC o.dst e rw none σ/\(∀p,rw=some p->az N pts o=some (.row p.1 true))/\(e.push≠none->az N pts o=some .hw)/\
     (∀p,e.set=some p->p.1∈wpo pts (oval σ.tmps) o/\∃x,σ.heap[p.1]?=some x/\x.alive=true)/\(∀p,e.push=some p->de pts o=true/\Fresh p.2/\p.1.alive=true)/\
     ∀τ,pT N pts ops o σ τ->∀sl:Nat->Option Nat,
      (e.push=none->sl i=none->dJ C B pts ops sl i τ (eC o.dst e rw none τ))/\
      (∀p k,e.push=some p->sl i=some k->(e.put τ.heap)[k]?=some .dead->dJ C B pts ops sl i τ (eC o.dst e rw (some k) τ)):=by
   intro v hv h
   refine⟨⟨none,none,v⟩,none,hv,λp hp=>(by cases hp),λh=>absurd rfl h,λp hp=>(by cases hp),λp hp=>(by cases hp),λτ hτ sl=>⟨λ_ hsl=>?_,λp k hp=>(by cases hp)⟩⟩
   unfold dJ
   rw[hsl]
   exact h τ hτ
  split at hs
  ·exact hs.elim
  next hw=>
   refine val undef hs λτ hτ=>?_
   unfold ai
   simp only[hi,hwτ τ hτ,hw]
  next hw=>
   have step:∀ {τ τ':St},pT N pts ops o σ τ->((∃e,aj C pts (oval τ.tmps) o=some e/\jd B e o.dst τ τ')∨(∃v,iB C τ.tmps o v/\τ'=τ.put o.dst v))->ai C B pts ops i τ τ':=by
    intro τ τ' hτ h
    unfold ai
    simp only[hi,hwτ τ hτ,hw]
    exact h
   rcases hs with⟨e,he,hr⟩|⟨v,hv,rfl⟩
   ·have heτ:∀τ,pT N pts ops o σ τ->aj C pts (oval τ.tmps) o=some e:=λτ hτ=>by
     rw[iH N pts hm (lZ hτ.1)];exact he
    have hfit:=gG (N:=N) (λ_=>rfl) hm he
    have hloc:=effOf_loc he
    cases e with
    |val v=>
     obtain⟨p,hp,rfl⟩:=hr
     cases hp
     exact val v rfl λτ hτ=>step hτ (.inl ⟨_,heτ τ hτ,_,rfl,rfl⟩)
    |lnew s vs=>
     have hfit:az N pts o=some (.row s true):=hfit
     rw[hfit]at hcl;rcases hcl with h|h<;>cases h
    |lget s f=>
     have hfit:az N pts o=some (.row s false):=hfit
     rw[hfit]at hcl;rcases hcl with h|h<;>cases h
    |lset s f=>
     have hfit:az N pts o=some (.row s true):=hfit
     rw[hfit]at hcl;rcases hcl with h|h<;>cases h
    |hget f=>
     obtain⟨p,hp,rfl⟩:=hr
     simp only[aQ]at hp
     obtain⟨v,hv,rfl⟩:=qac.1 hp
     refine val v rfl λτ hτ=>step hτ (.inl ⟨_,heτ τ hτ,(τ,v),?_,rfl⟩)
     simp only[aQ,hloc _ _ hv _ hτ.2.2,qaz]
    |hop f=>
     obtain⟨p,hp,rfl⟩:=hr
     simp only[aQ]at hp
     obtain⟨q,hv,rfl⟩:=qac.1 hp
     obtain⟨e,l1,l2,l3,l4,l5⟩:=hloc σ.heap q.1 q.2 hv
     refine⟨e,none,?_,λp hp=>(by cases hp),λ_=>hfit,l3,l4,λτ hτ sl=>⟨λhp hsl=>?_,λp k hp hsl hd=>?_⟩⟩
     ·unfold eC
      rw[l1,l2]
     ·unfold dJ
      rw[hsl]
      exact step hτ (.inl ⟨_,heτ τ hτ,({ τ with heap:=e.heap τ.heap },e.val τ.heap.length),by simp only[aQ,l5 _ hτ.2.2,qaz],rfl⟩)
     ·unfold dJ
      rw[hsl]
      refine⟨o,f,e.put τ.heap,p.1,p.2,hi,by rw[hwτ τ hτ];exact hw,heτ τ hτ,?_,?_,hd,(l4 p hp).2.1,?_⟩
      ·rw[l5 _ hτ.2.2]
       unfold HEff.heap HEff.val
       rw[hp]
      ·unfold HEff.put
       split<;>simp
      ·unfold eC HEff.val
       rw[hp]
    |call f args=>
     exfalso
     have hfit:(az N pts o=some (.neu f)/\N f=some (2*args.length))∨(az N pts o=some .hr/\N f=some (2*args.length+1))∨az N pts o=some .hw:=hfit
     rcases hfit with⟨h,_⟩|⟨h,_⟩|h
     ·rw[h]at hcl;rcases hcl with h|h<;>cases h
     ·obtain⟨c,g,q1,q2⟩:=hloc
      unfold okS at hc
      simp only[h,q1,q2]at hc
      cases hc
     ·obtain⟨c,g,q1,q2⟩:=hloc
      unfold okS at hc
      simp only[h,q1,q2]at hc
      cases hc
    |yield l args=>
     exfalso
     have hfit:az N pts o=some .hw:=hfit
     obtain⟨c,g,q1,q2⟩:=hloc
     unfold okS at hc
     simp only[hfit,q1,q2]at hc
     cases hc
   ·refine val v rfl λτ hτ=>step hτ (.inr ⟨v,?_,rfl⟩)
    obtain⟨h1,h2,h3,h4⟩:=hv
    have hops:=lZ hτ.1
    refine⟨h1,?_,h3,λw=>?_⟩
    ·rw[qag]at h2 ⊢
     intro x hx
     rw[hops x hx];exact h2 x hx
    ·rw[execOp_congr N pts hm (ρ':=λx=>den (oval σ.tmps x)) λx hx=>by rw[hops x hx]]
     exact h4 w
end
end Sx
namespace Sx
section
variable [Val] {C:Cfg} {B:Below} {N:Tb} {pts:TA} {ops:Tm}
def runR(S:Nat->St->St->Prop):TA->St->St->Prop
 | [],σ,σ'=>σ'=σ
 |i :: l,σ,σ'=>∃σ₁,S i σ σ₁/\runR S l σ₁ σ'
def nh{S:Nat->St->St->Prop}{i:Nat}{post:TA}:∀(pre:TA),(∀k∈pre,∀σ σ₁ σ':St,S k σ σ₁->S i σ₁ σ'->∃τ,S i σ τ/\S k τ σ')->
  ∀σ σ':St,runR S (pre++i :: post) σ σ'->runR S (i :: (pre++post)) σ σ'
 | [],_,σ,σ',h=>h
 |k :: pre,hc,σ,σ',⟨σ₁,h1,h2⟩=>by
  obtain⟨σ₂,h3,h4⟩:=nh pre (λk hk=>hc k (by simp[hk])) σ₁ σ' h2
  obtain⟨τ,h5,h6⟩:=hc k (by simp) σ σ₁ σ₂ h1 h3
  exact⟨τ,h5,σ₂,h6,h4⟩
def go_okR{S:Nat->St->St->Prop}(hback:∀(i:Nat) o,ops[i]?=some o->∀e∈o.after.toList,Region.binds .any e=true->e.on<i)
  (hpair:∀i k:Nat,i<ops.size->k<i->Anc ops k i∨∀σ σ₁ σ':St,S k σ σ₁->S i σ₁ σ'->∃τ,S i σ τ/\S k τ σ'):∀(fuel t:Nat) (listed:Array Bool),listed.size=ops.size->(unl ops.size listed).length=fuel->
  (∀(x:Nat) o,listed.getD x true=true->ops[x]?=some o->∀e∈o.after.toList,Region.binds .any e=true->listed.getD e.on false=true)->
  ∀σ σ':St,runR S (unl ops.size listed) σ σ'->runR S (Region.linearise.go .any ops fuel t listed []) σ σ'/\(Region.linearise.go .any ops fuel t listed []).Nodup/\∀x∈Region.linearise.go .any ops fuel t listed [],listed.getD x true=false
 |0,t,listed,_,hl,_,σ,σ',h=>by
  have:unl ops.size listed=[]:=qbn.1 hl
  rw[this]at h
  simpa[Region.linearise.go]using h
 |fuel+1,t,listed,hsz,hl,hcl,σ,σ',h=>by
  simp only[Region.linearise.go]
  generalize hrs:((List.range ops.size).filter λi=>!listed.getD i true&&((ops[i]?).map (·.after.all λe=>!Region.binds .any e||listed.getD e.on false)).getD false)=rs
  have hready:∀i∈rs,i<ops.size/\listed.getD i true=false/\∀o,ops[i]?=some o->∀e∈o.after.toList,Region.binds .any e=true->listed.getD e.on false=true:=by
   intro i hi
   rw[←hrs,qbk,qaD]at hi
   obtain⟨h1,h2⟩:=hi
   simp only[qaa,qbY]at h2
   refine⟨h1,h2.1,λo ho e he hb=>?_⟩
   have h3:=h2.2
   rw[ho]at h3
   simp only[qaz,qa9]at h3
   rw[qcD]at h3
   have:=h3 e (by simpa using he)
   rw[hb]at this
   simpa using this
  have hne:rs≠[]:=by
   have hu:unl ops.size listed≠[]:=by intro e;rw[e]at hl;cases hl
   obtain⟨i0,tl,hu0⟩:=qc8 hu
   have hi0:i0∈unl ops.size listed:=by rw[hu0];simp
   have hi1:=hi0
   rw[unl,qbk,qaD]at hi1
   have hmem:i0∈rs:=by
    rw[←hrs,qbk,qaD]
    refine⟨hi1.1,?_⟩
    simp only[qaa]
    refine⟨hi1.2,?_⟩
    have ho:ops[i0]?=some ops[i0]:=by simp[hi1.1]
    rw[ho]
    simp only[qaz,qa9]
    rw[qcD]
    intro e he
    cases hb:Region.binds .any e with
    |false=>simp
    |true=>
     have hlt:=hback i0 _ ho e (by simpa using he) hb
     simp only[qaE,qc1]
     by_cases hlis:listed.getD e.on true=true
     ·have hs:e.on<listed.size:=by omega
      rw[qaw]at hlis ⊢
      rw[qbo hs]at hlis ⊢
      exact hlis
     ·exfalso
      have hm:e.on∈unl ops.size listed:=by
       rw[unl,qbk,qaD]
       exact⟨by omega,by simpa using hlis⟩
      rw[hu0]at hm
      rcases qal.1 hm with hm|hm
      ·omega
      ·have hs:(unl ops.size listed).Pairwise (· < ·):=qcW _ qcp
       rw[hu0,qcG]at hs
       have:=hs.1 _ hm
       omega
   intro e;rw[e]at hmem;cases hmem
  have hlen:0<rs.length:=List.length_pos_iff.2 hne
  have hget:rs[t%rs.length]?=some (rs[t%rs.length]'(qbz _ hlen)):=qai (qbz _ hlen)
  rw[hget]
  simp only
  generalize hi:rs[t%rs.length]'(qbz _ hlen)=i
  have hmem:i∈rs:=by rw[←hi];exact qco _
  obtain⟨i1,i2,i3⟩:=hready i hmem
  rw[linearise_go_acc,List.reverse_singleton,List.singleton_append]
  have hiu:i∈(List.range ops.size).filter λj=>!listed.getD j true:=by
   rw[qbk,qaD];exact⟨i1,by simp[i2]⟩
  obtain⟨pre,post,e1,e2,e3⟩:=gD List.nodup_range hiu
  have hord:=kW e1
  have hnew:unl ops.size (listed.setIfInBounds i true)=pre++post:=by
   rw[←e2]
   unfold unl
   refine qdd λj hj=>?_
   rw[qaw,qaw,qbm]
   by_cases hji:i=j
   ·subst hji
    rw[qdy rfl,qdy (by omega)]
    simp
   ·rw[qdz hji]
    have:(j != i)=true:=by simpa using λe=>hji e.symm
    simp[this]
  have hmf:=nh (S:=S) (i:=i) (post:=post) pre (λk hk σ σ₁ σ' s1 s2=>by
   obtain⟨m1,m2⟩:=e3 k hk
   rw[qbk,qaD]at m1
   rcases hpair i k i1 (hord k hk)with hanc|hcm
   ·exfalso
    have:=ou hcl hanc i3
    have m3:=m1.2
    rw[qaw]at this m3
    rw[qbo (by omega)]at this m3
    simp only[qa9]at this m3
    rw[this]at m3
    cases m3
   ·exact hcm _ _ _ s1 s2) σ σ'
  obtain⟨σ₁,s1,s2⟩:=hmf (by rw[←e1];exact h)
  obtain⟨r1,r2,r3⟩:=go_okR hback hpair fuel (t / rs.length) (listed.setIfInBounds i true) (by simp[hsz]) (by
    rw[hnew]
    have:(unl ops.size listed).length=(pre++post).length+1:=by
     show(List.filter _ _).length=_
     rw[e1];simp;omega
    omega) (by
    intro x o hx ho e he hb
    have keep:∀y,listed.getD y false=true->(listed.setIfInBounds i true).getD y false=true:=by
     intro y hy
     rw[qaw]at hy ⊢
     rw[qbm]
     split
     next h1=>
      subst h1
      rw[qdy (by omega)];rfl
     ·exact hy
    by_cases hxi:x=i
    ·subst hxi;exact keep _ (i3 o ho e he hb)
    ·refine keep _ (hcl x o ?_ ho e he hb)
     rw[qaw,qbm,qdz (λe=>hxi e.symm)]at hx
     rw[qaw];exact hx) σ₁ σ' (by rw[hnew];exact s2)
  have hout:∀x∈Region.linearise.go .any ops fuel (t / rs.length) (listed.setIfInBounds i true) [],x≠i/\listed.getD x true=false:=by
   intro x hx
   have:=r3 x hx
   rw[qaw,qbm]at this
   by_cases hxi:i=x
   ·subst hxi
    rw[qdy rfl,qdy (by omega)]at this
    cases this
   ·rw[qdz hxi]at this
    exact⟨qcq hxi,by rw[qaw];exact this⟩
  refine⟨⟨σ₁,s1,r1⟩,qcg.2 ⟨λhm=>(hout i hm).1 rfl,r2⟩,λx hx=>?_⟩
  rcases qal.1 hx with rfl|hx
  ·exact i2
  ·exact(hout x hx).2
end
end Sx
namespace Sx
def ek(ws:List (Nat×HObj))(H:Ts):Ts:=ws.foldl (λH p=>H.set p.1 p.2) H
def eK:∀(ws:List (Nat×HObj)) (H:Ts),(ek ws H).length=H.length
 | [],H=>rfl
 |p :: ws,H=>by
  show(ek ws (H.set p.1 p.2)).length=_
  rw[eK ws];simp
def jC{r:Nat}:∀ {ws:List (Nat×HObj)} {H:Ts},(∀p∈ws,p.1≠r)->(ek ws H)[r]?=H[r]?
 | [],H,_=>rfl
 |p :: ws,H,h=>by
  show(ek ws (H.set p.1 p.2))[r]?=_
  rw[jC λq hq=>h q (qan _ hq),qaA (h p (by simp))]
def tI{i:Nat}{x:HObj}:∀ {ws:List (Nat×HObj)} {H:Ts},(∀p∈ws,p.1≠i)->ek ws (H.set i x)=(ek ws H).set i x
 | [],H,_=>rfl
 |p :: ws,H,h=>by
  show ek ws ((H.set i x).set p.1 p.2)=(ek ws (H.set p.1 p.2)).set i x
  rw[List.set_comm _ _ (qcq (h p (by simp))),tI λq hq=>h q (qan _ hq)]
def ii:∀ {a b:List (Nat×HObj)} {H:Ts},(∀p∈a,∀q∈b,p.1≠q.1)->ek a (ek b H)=ek b (ek a H)
 | [],b,H,_=>rfl
 |p :: a,b,H,h=>by
  show ek a ((ek b H).set p.1 p.2)=ek b (ek a (H.set p.1 p.2))
  rw[←tI λq hq=>qcq (h p (by simp) q hq)]
  exact ii λq hq=>h q (qan _ hq)
section
variable [Val] {C:Cfg} {B:Below} {N:Tb} {pts:TA} {ops:Tm}
structure Rec where
 σ:St
 e:HEff
 rw:Option (Nat×Option (Tl))
 k:Option Nat
def Rec.on(r:Rec)(o:Oper)(τ:St):St:=eC o.dst r.e r.rw r.k τ
def Rec.sees(N:Tb)(pts:TA)(ops:Tm)(r:Rec)(o:Oper)(τ:St):Prop:=
 pT N pts ops o r.σ τ/\∀k,r.k=some k->(r.e.put τ.heap)[k]?=some .dead
def Rec.slot(r:Rec):List (Nat×HObj):=match r.k,r.e.push with
 |some k,some p=>[(k,p.1)]
 |_,_=>[]
def Rec.ws(r:Rec):List (Nat×HObj):=r.e.set.toList++r.slot
structure Rec.Ok(C:Cfg)(B:Below)(N:Tb)(pts:TA)(ops:Tm)(i:Nat)(o:Oper)(r:Rec):Prop where
 row:∀p,r.rw=some p->az N pts o=some (.row p.1 true)
 wr:∀p,r.e.set=some p->p.1∈wpo pts (oval r.σ.tmps) o
 kp:r.k=none↔r.e.push=none
 fr:∀p,r.e.push=some p->Fresh p.2/\az N pts o=some .hw/\de pts o=true
 step:∀τ,r.sees N pts ops o τ->∀sl:Nat->Option Nat,sl i=r.k->dJ C B pts ops sl i τ (r.on o τ)
def ei(e:HEff)(H:Ts):e.put H=ek e.set.toList H:=by
 unfold HEff.put
 cases e.set<;>rfl
def fQ{r:Rec}{o:Oper}{τ:St}(h:r.k=none↔r.e.push=none):(r.on o τ).heap=ek r.ws τ.heap:=by
 unfold Rec.on eC
 rw[eh]
 unfold Rec.ws Rec.slot
 cases hk:r.k with
 |none=>
  simp only[HEff.heap,h.1 hk,ei,qa4]
 |some k=>
  cases hp:r.e.push with
  |none=>rw[h.2 hp]at hk;cases hk
  |some p=>
   simp only[ei]
   show(ek r.e.set.toList τ.heap).set k p.1=_
   unfold ek
   rw[List.foldl_append]
   rfl
def nl{r:Rec}{o:Oper}{τ:St}:(r.on o τ).loc=(match r.rw with|some p=>τ.loc.set p.1 p.2|none=>τ.loc):=by
 unfold Rec.on eC
 rw[rn]
 all_goals (cases r.rw<;>rfl)
def Rec.val(r:Rec):Value:=match r.k with
 |some k=>r.e.val k
 |none=>r.e.v
def lX{r:Rec}{o:Oper}{τ:St}(h:r.k=none↔r.e.push=none):(r.on o τ).tmps=(match o.dst with|some d=>τ.tmps.set d r.val|none=>τ.tmps):=by
 unfold Rec.on eC
 rw[rp]
 unfold Rec.val
 cases hk:r.k with
 |none=>simp only[HEff.val,h.1 hk];all_goals (cases o.dst<;>rfl)
 |some k=>cases o.dst<;>rfl
def rowOk:MC->MC->Bool
 | .row s w,.row s' w'=>!Nat.beq s s'||(!w && !w')
 |_,_=>true
def stat2(N:Tb)(pts:TA)(ops:Tm)(a b:Oper):Bool:=
 match az N pts a,az N pts b with
 |some m,some n=>rowOk m n&&bI a.dst (bz ops b)&&bI b.dst (bz ops a)&&bK a.dst b.dst
 |_,_=>false
def oF{d:Tn}{l:TA}(hd:bI d l=true):∀t∈l,∀x,d=some x->x≠t:=by
 intro t ht x hx he
 subst hx he
 simp only[bI,qbY,qcd,decide_eq_false_iff_not]at hd
 exact hd ht
def unseenR{a b:Oper}{m n:MC}{ra rb:Rec}{ia:Nat}(ha:az N pts a=some m)(hb:az N pts b=some n)(oka:ra.Ok C B N pts ops ia a)(hrow:rowOk m n=true∨rowOk n m=true)(hd:bI a.dst (bz ops b)=true)
  (d1:∀p∈ra.ws,p.1∉fpo pts (oval rb.σ.tmps) b) {τ:St}:pT N pts ops b rb.σ (ra.on a τ)↔pT N pts ops b rb.σ τ:=by
 have ht:∀t∈bz ops b,(ra.on a τ).tmps[t]?=τ.tmps[t]?:=λt ht=>by
  unfold Rec.on eC
  exact kE λx hx=>oF hd t ht x hx
 have hl:∀s w,az N pts b=some (.row s w)->(ra.on a τ).loc[s]?=τ.loc[s]?:=λs w hm=>by
  rw[nl]
  cases hrw:ra.rw with
  |none=>rfl
  |some p=>
   have h1:=oka.row p hrw
   rw[ha]at h1
   rw[hb]at hm
   cases h1;cases hm
   have:p.1≠s:=by
    intro he
    subst he
    rcases hrow with h|h<;>simp[rowOk]at h
   show(τ.loc.set p.1 p.2)[s]?=_
   rw[qaA this]
 have hh:∀r∈fpo pts (oval rb.σ.tmps) b,(ra.on a τ).heap[r]?=τ.heap[r]?:=λr hr=>by
  rw[fQ oka.kp]
  exact jC λp hp e=>d1 p hp (e▸hr)
 constructor
 ·rintro⟨q1,q2,q3⟩
  refine⟨λt h=>by rw[←ht t h];exact q1 t h,?_,λr hr x hx hal=>by rw[←hh r hr];exact q3 r hr x hx hal⟩
  rw[hb]at q2 ⊢
  cases n<;>first|trivial|(rename_i s w;exact(hl s w hb).symm.trans q2)
 ·rintro⟨q1,q2,q3⟩
  refine⟨λt h=>by rw[ht t h];exact q1 t h,?_,λr hr x hx hal=>by rw[hh r hr];exact q3 r hr x hx hal⟩
  rw[hb]at q2 ⊢
  cases n<;>first|trivial|(rename_i s w;exact(hl s w hb).trans q2)
def swapR{a b:Oper}{ra rb:Rec}{ia ib:Nat}(oka:ra.Ok C B N pts ops ia a)(okb:rb.Ok C B N pts ops ib b)(hs:stat2 N pts ops a b=true)
  (d1:∀p∈ra.ws,p.1∉fpo pts (oval rb.σ.tmps) b) (d2:∀p∈rb.ws,p.1∉fpo pts (oval ra.σ.tmps) a) (d3:∀p∈ra.ws,∀q∈rb.ws,p.1≠q.1) {τ:St} (ha:ra.sees N pts ops a τ) (hb:rb.sees N pts ops b (ra.on a τ)) :
  rb.sees N pts ops b τ/\ra.sees N pts ops a (rb.on b τ)/\rb.on b (ra.on a τ)=ra.on a (rb.on b τ):=by
 unfold stat2 at hs
 split at hs
 case h_2=>cases hs
 rename_i m n hm hn
 simp only[qaa]at hs
 obtain⟨⟨⟨c1,c2⟩,c3⟩,c4⟩:=hs
 have ub:=unseenR (rb:=rb) hm hn oka (.inl c1) c2 d1 (τ:=τ)
 have ua:=unseenR (rb:=ra) hn hm okb (.inr c1) c3 d2 (τ:=τ)
 refine⟨⟨ub.1 hb.1,λk hk=>?_⟩,⟨ua.2 ha.1,λk hk=>?_⟩,?_⟩
 ·have h1:=hb.2 k hk
  have hkb:∃p,rb.e.push=some p:=by
   cases hp:rb.e.push with
   |none=>rw[okb.kp.2 hp]at hk;cases hk
   |some p=>exact⟨p,rfl⟩
  obtain⟨p,hp⟩:=hkb
  have hmem:(k,p.1)∈rb.ws:=by simp[Rec.ws,Rec.slot,hk,hp]
  rw[fQ oka.kp,ei,←ii (λq hq s hs e=>d3 q hq s (qaH _ hs) e),jC (λq hq e=>d3 q hq _ hmem e)]at h1
  rw[ei];exact h1
 ·have h1:=ha.2 k hk
  have hka:∃p,ra.e.push=some p:=by
   cases hp:ra.e.push with
   |none=>rw[oka.kp.2 hp]at hk;cases hk
   |some p=>exact⟨p,rfl⟩
  obtain⟨p,hp⟩:=hka
  have hmem:(k,p.1)∈ra.ws:=by simp[Rec.ws,Rec.slot,hk,hp]
  rw[fQ okb.kp,ei,ii (λq hq s hs e=>d3 q (qaH _ hq) s hs e),jC (λq hq e=>d3 _ hmem q hq e.symm)]
  rw[ei]at h1;exact h1
 ·have h1:(rb.on b (ra.on a τ)).tmps=(ra.on a (rb.on b τ)).tmps:=by
   rw[lX okb.kp,lX oka.kp,lX oka.kp,lX okb.kp]
   cases hx:a.dst with
   |none=>rfl
   |some x=>
    cases hy:b.dst with
    |none=>rfl
    |some y=>
     rw[hx,hy]at c4
     have:x≠y:=by
      intro he;subst he;simp[bK]at c4
     exact set_comm _ _ _ this
  have h2:(rb.on b (ra.on a τ)).loc=(ra.on a (rb.on b τ)).loc:=by
   rw[nl,nl,nl,nl]
   cases hx:ra.rw with
   |none=>rfl
   |some p=>
    cases hy:rb.rw with
    |none=>rfl
    |some q=>
     have e1:=oka.row p hx
     have e2:=okb.row q hy
     rw[hm]at e1
     rw[hn]at e2
     cases e1;cases e2
     have:p.1≠q.1:=by
      intro he
      rw[he]at c1
      simp[rowOk]at c1
     exact set_comm _ _ _ this
  have h3:(rb.on b (ra.on a τ)).heap=(ra.on a (rb.on b τ)).heap:=by
   rw[fQ okb.kp,fQ oka.kp,fQ oka.kp,fQ okb.kp]
   exact(ii d3).symm
  generalize rb.on b (ra.on a τ)=x at *
  generalize ra.on a (rb.on b τ)=y at *
  cases x;cases y
  simp only at h1 h2 h3
  subst h1;subst h2;subst h3
  rfl
end
end Sx
namespace Sx
section
variable [Val] {C:Cfg} {B:Below} {N:Tb} {pts:TA} {ops:Tm}
def St.padTo(σ:St)(m:Nat):St:=σ.pad (m - σ.heap.length)
def recS(N:Tb)(pts:TA)(ops:Tm)(rc:Nat->Rec)(i:Nat)(τ τ':St):Prop:=∃o,ops[i]?=some o/\(rc i).sees N pts ops o τ/\τ'=(rc i).on o τ
def jB{D:Ts}:∀ {ws:List (Nat×HObj)} {H:Ts},(∀p∈ws,p.1<H.length)->ek ws (H++D)=ek ws H++D
 | [],H,_=>rfl
 |p :: ws,H,h=>by
  show ek ws ((H++D).set p.1 p.2)=ek ws (H.set p.1 p.2)++D
  rw[qc0 _ _ (h p (by simp)),jB λq hq=>by
   have:=h q (qan _ hq)
   simpa using this]
structure RunOk(C:Cfg)(B:Below)(N:Tb)(pts:TA)(ops:Tm)(l:TA)(σ σ':St)(rc:Nat->Rec):Prop where
 len:σ.heap.length<=σ'.heap.length
 ok:∀i∈l,∀o,ops[i]?=some o->(rc i).Ok C B N pts ops i o
 slot:∀i∈l,∀k,(rc i).k=some k->σ.heap.length<=k/\k<σ'.heap.length
 inj:∀i∈l,∀j∈l,∀k,(rc i).k=some k->(rc j).k=some k->i=j
 keep:∀t,(∀j∈l,∀o,ops[j]?=some o->o.dst≠some t)->σ'.tmps[t]?=σ.tmps[t]?
 args:∀i∈l,∀t,(∀j∈l,i<=j->∀o,ops[j]?=some o->o.dst≠some t)->σ'.tmps[t]?=(rc i).σ.tmps[t]?
 res:∀i∈l,∀o d v,ops[i]?=some o->o.dst=some d->(∀j∈l,i<j->∀o,ops[j]?=some o->o.dst≠some d)->σ'.tmps[d]?=some v->v=(rc i).val
 run:∀m,σ'.heap.length<=m->runR (recS N pts ops rc) l (St.padTo σ m) (St.padTo σ' m)
def effOn_len{dst:Tn}{e:HEff}{rw:Option (Nat×Option (Tl))}{σ:St}:(eC dst e rw none σ).heap.length=σ.heap.length+(match e.push with|some _=>1|none=>0):=by
 unfold eC
 rw[eh]
 simp only[HEff.heap,HEff.put]
 cases e.push<;>cases e.set<;>simp
def jQ{dst:Tn}{e:HEff}{rw:Option (Nat×Option (Tl))}{k:Tp}{σ:St}:(eC dst e rw k σ).tmps=(match dst with|some d=>σ.tmps.set d (match k with|none=>e.val σ.heap.length|some k=>e.val k)|none=>σ.tmps):=by
 unfold eC
 rw[rp]
 all_goals (cases dst<;>rfl)
def rec_one(hN:NeuB N B){i:Nat}{o:Oper}(hi:ops[i]?=some o)(hc:okS N pts o=true){σ σ₁:St}(hs:ai C B pts ops i σ σ₁) :
  ∃r:Rec,r.σ=σ/\r.Ok C B N pts ops i o/\σ.heap.length<=σ₁.heap.length/\(∀k,r.k=some k->k=σ.heap.length/\k<σ₁.heap.length)/\
   (∀t,o.dst≠some t->σ₁.tmps[t]?=σ.tmps[t]?)/\(∀d v,o.dst=some d->σ₁.tmps[d]?=some v->v=r.val)/\
   ∀m,σ₁.heap.length<=m->r.sees N pts ops o (St.padTo σ m)/\St.padTo σ₁ m=r.on o (St.padTo σ m):=by
 obtain⟨e,rw,h1,h2,h3,h4,h5,h6⟩:=local_okS (N:=N) hN hi hc hs
 have hlen:σ₁.heap.length=σ.heap.length+(match e.push with|some _=>1|none=>0):=by rw[h1];exact effOn_len
 refine⟨⟨σ,e,rw,match e.push with|some _=>some σ.heap.length|none=>none⟩,rfl,⟨h2,λp hp=>(h4 p hp).1,?_,λp hp=>⟨(h5 p hp).2.1,h3 (by rw[show e.push=some p from hp];simp),(h5 p hp).1⟩,?_⟩,by omega,?_,?_,?_,?_⟩
 ·cases hp:e.push<;>simp
 ·intro τ hτ sl hsl
  unfold Rec.on
  simp only at hsl ⊢
  cases hp:e.push with
  |none=>
   rw[hp]at hsl
   exact(h6 τ hτ.1 sl).1 hp hsl
  |some p=>
   rw[hp]at hsl
   refine(h6 τ hτ.1 sl).2 p _ hp hsl (hτ.2 _ ?_)
   simp only[hp]
 ·intro k hk
  simp only at hk
  cases hp:e.push with
  |none=>rw[hp]at hk;cases hk
  |some p=>
   rw[hp]at hk hlen
   cases hk
   exact⟨rfl,by simp only at hlen;omega⟩
 ·intro t ht
  rw[h1]
  unfold eC
  exact kE λx hx e=>ht (by rw[hx,e])
 ·intro d v hd hv
  rw[h1,jQ,hd]at hv
  simp only[qa0]at hv
  split at hv
  ·split at hv
   ·cases hv
    unfold Rec.val
    simp only[HEff.val]
    cases hp:e.push<;>rfl
   ·cases hv
  next hne=>exact absurd trivial hne
 ·intro m hm
  have hD:(St.padTo σ m).heap=σ.heap++List.replicate (m - σ.heap.length) .dead:=rfl
  have hset:∀p∈e.set.toList,p.1<σ.heap.length:=λp hp=>by
   obtain⟨_,x,hx,_⟩:=h4 p (by simpa using hp)
   exact(qaN.1 hx).1
  refine⟨⟨⟨λt _=>rfl,?_,λr _ x hx _=>?_⟩,λk hk=>?_⟩,?_⟩
  ·cases az N pts o with
   |none=>trivial
   |some mc=>cases mc<;>first|trivial|rfl
  ·rw[hD,qah (qaN.1 hx).1]
   exact hx
  ·simp only at hk
   cases hp:e.push with
   |none=>rw[hp]at hk;cases hk
   |some p=>
    rw[hp]at hk hlen
    cases hk
    simp only at hlen ⊢
    rw[ei,hD,jB hset,qaq (by rw[eK];exact qaf _),eK,qbC,qa3,qdy (by omega)]
  · -- the same state
   have e1:(St.padTo σ₁ m).tmps=((⟨σ,e,rw,match e.push with|some _=>some σ.heap.length|none=>none⟩ : Rec).on o (St.padTo σ m)).tmps:=by
    show σ₁.tmps=_
    unfold Rec.on
    rw[h1,jQ,jQ]
    show _=(match o.dst with|some d=>σ.tmps.set d _|none=>σ.tmps)
    cases o.dst with
    |none=>rfl
    |some d=>
     simp only[HEff.val]
     cases hp:e.push<;>rfl
   have e2:(St.padTo σ₁ m).loc=((⟨σ,e,rw,match e.push with|some _=>some σ.heap.length|none=>none⟩ : Rec).on o (St.padTo σ m)).loc:=by
    show σ₁.loc=_
    unfold Rec.on
    rw[h1]
    unfold eC
    rw[rn,rn]
    rfl
   have e3:(St.padTo σ₁ m).heap=((⟨σ,e,rw,match e.push with|some _=>some σ.heap.length|none=>none⟩ : Rec).on o (St.padTo σ m)).heap:=by
    show σ₁.heap++List.replicate (m - σ₁.heap.length) .dead=_
    unfold Rec.on
    have hh:σ₁.heap=e.heap σ.heap:=by rw[h1];unfold eC;rw[eh]
    unfold eC
    rw[eh,hD]
    cases hp:e.push with
    |none=>
     rw[hp]at hlen
     simp only[hp,HEff.heap,ei]at hh ⊢
     rw[jB hset,hh]
     simp only[eK]
    |some p=>
     rw[hp]at hlen
     simp only at hlen
     simp only[hp,HEff.heap,ei]at hh ⊢
     rw[jB hset,hh]
     have hn:m - σ.heap.length=(m - σ.heap.length - 1)+1:=by omega
     rw[hn,qcl]
     rw[qb1 _ _ (by rw[eK];exact qaf _),eK,qbC,qc9]
     simp only[qaP,qaC,eK,qaG,qbG,qa2,qaS]
     rw[show m - (σ.heap.length+(0+1))=m - σ.heap.length - 1 by omega]
   generalize hX:(⟨σ,e,rw,match e.push with|some _=>some σ.heap.length|none=>none⟩ : Rec).on o (St.padTo σ m)=X at *
   generalize St.padTo σ₁ m=Y at *
   cases X;cases Y
   simp only at e1 e2 e3
   subst e1;subst e2;subst e3
   rfl
def pE{S S':Nat->St->St->Prop}:∀ {l:TA},(∀i∈l,∀σ σ',S i σ σ'->S' i σ σ')->∀ {σ σ':St},runR S l σ σ'->runR S' l σ σ'
 | [],_,_,_,h=>h
 |i :: l,hs,σ,σ',⟨σ₁,h1,h2⟩=>⟨σ₁,hs i (by simp) _ _ h1,pE (λj hj=>hs j (qan _ hj)) h2⟩
def recs_of(hN:NeuB N B):∀(l:TA) (σ σ':St),l.Pairwise (· < ·)->(∀i∈l,∃o,ops[i]?=some o/\okS N pts o=true)->bn C B pts ops l σ σ'->∃rc:Nat->Rec,RunOk C B N pts ops l σ σ' rc
 | [],σ,σ',_,_,h=>by
  have:σ'=σ:=h
  subst this
  exact⟨λ_=>⟨σ',⟨none,none,undef⟩,none,none⟩,qaf _,λ_ h=>(by cases h),λ_ h=>(by cases h),λ_ h=>(by cases h),λ_ _=>rfl,λ_ h=>(by cases h),λ_ h=>(by cases h),λ_ _=>rfl⟩
 |i :: l,σ,σ',hp,hok,⟨σ₁,h1,h2⟩=>by
  obtain⟨o,hi,hc⟩:=hok i (by simp)
  obtain⟨r,rfl,r1,r2,r3,r4,r5,r6⟩:=rec_one hN hi hc h1
  rw[qcG]at hp
  obtain⟨rc,R⟩:=recs_of hN l σ₁ σ' hp.2 (λj hj=>hok j (qan _ hj)) h2
  have hne:∀j∈l,j≠i:=λj hj e=>by have:=hp.1 j hj;omega
  have hat:∀j∈l,(if j=i then r else rc j)=rc j:=λj hj=>qdz (hne j hj)
  refine⟨λj=>if j=i then r else rc j,qbj r2 R.len,?_,?_,?_,?_,?_,?_,?_⟩
  ·intro j hj o' ho'
   rcases qal.1 hj with rfl|hj
   ·simp only[if_true]
    rw[hi]at ho';cases ho';exact r1
   ·simp only[hat j hj];exact R.ok j hj o' ho'
  ·intro j hj k hk
   rcases qal.1 hj with rfl|hj
   ·simp only[if_true]at hk
    obtain⟨e1,e2⟩:=r3 k hk
    have:=R.len
    omega
   ·simp only[hat j hj]at hk
    have:=R.slot j hj k hk
    omega
  ·intro j hj j' hj' k hk hk'
   rcases qal.1 hj with q1|q1<;>rcases qal.1 hj' with q2|q2
   ·rw[q1,q2]
   ·simp only[q1,if_true]at hk
    simp only[hat j' q2]at hk'
    have e1:=r3 k hk
    have e2:=R.slot j' q2 k hk'
    omega
   ·simp only[q2,if_true]at hk'
    simp only[hat j q1]at hk
    have e1:=r3 k hk'
    have e2:=R.slot j q1 k hk
    omega
   ·simp only[hat j q1]at hk
    simp only[hat j' q2]at hk'
    exact R.inj j q1 j' q2 k hk hk'
  ·intro t ht
   rw[R.keep t λj hj=>ht j (qan _ hj)]
   exact r4 t (ht i (by simp) o hi)
  ·intro j hj t ht
   rcases qal.1 hj with rfl|hj
   ·simp only[if_true]
    have hall:∀j'∈l,∀o',ops[j']?=some o'->o'.dst≠some t:=λj' hj'=>ht j' (qan _ hj') (Nat.le_of_lt (hp.1 j' hj'))
    rw[R.keep t hall]
    exact r4 t (ht j (by simp) (qaf _) o hi)
   ·simp only[hat j hj]
    exact R.args j hj t λj' hj'=>ht j' (qan _ hj')
  ·intro j hj o' d v ho' hd hlt hv
   rcases qal.1 hj with rfl|hj
   ·simp only[if_true]
    rw[hi]at ho';cases ho'
    refine r5 d v hd ?_
    rw[←R.keep d λj' hj'=>hlt j' (qan _ hj') (hp.1 j' hj')]
    exact hv
   ·simp only[hat j hj]
    exact R.res j hj o' d v ho' hd (λj' hj'=>hlt j' (qan _ hj')) hv
  ·intro m hm
   obtain⟨s1,s2⟩:=r6 m (qbj R.len hm)
   refine⟨St.padTo σ₁ m,⟨o,hi,?_,?_⟩,?_⟩
   ·simp only[if_true];exact s1
   ·simp only[if_true];exact s2
   ·refine pE (λj hj τ τ' h=>?_) (R.run m hm)
    obtain⟨o',q1,q2,q3⟩:=h
    exact⟨o',q1,by simp only[hat j hj];exact q2,by simp only[hat j hj];exact q3⟩
end
end Sx
namespace Sx
section
variable [Val] {C:Cfg} {B:Below} {N:Tb} {pts:TA} {ops:Tm}
def sees_refl(o:Oper)(σ:St):Sees N pts ops o σ σ:=by
 refine⟨λ_ _=>rfl,?_⟩
 cases az N pts o with
 |none=>trivial
 |some m=>cases m<;>first|trivial|rfl
def sees_symm{o:Oper}{σ τ:St}(h:Sees N pts ops o σ τ):Sees N pts ops o τ σ:=by
 refine⟨λt ht=>(h.1 t ht).symm,?_⟩
 have h:=h.2
 cases hm:az N pts o with
 |none=>trivial
 |some m=>rw[hm]at h;cases m<;>first|trivial|exact h.symm
def fv{o:Oper}{σ τ ρ:St}(h:Sees N pts ops o σ τ)(h':Sees N pts ops o τ ρ):Sees N pts ops o σ ρ:=by
 refine⟨λt ht=>(h'.1 t ht).trans (h.1 t ht),?_⟩
 have h:=h.2
 have h':=h'.2
 cases hm:az N pts o with
 |none=>trivial
 |some m=>rw[hm]at h h';cases m<;>first|trivial|exact h'.trans h
structure Loc(C:Cfg)(B:Below)(N:Tb)(pts:TA)(ops:Tm)(j:Nat)(b:Oper)(f:Ef)(τ τ':St):Prop where
 is:τ'=f.on b.dst τ
 tc:tS (az N pts b) f
 st:∀ρ,Sees N pts ops b τ ρ->ai C B pts ops j ρ (f.on b.dst ρ)
def comm1(N:Tb)(pts:TA)(ops:Tm)(a b:Oper):Bool:=
 match az N pts a,az N pts b with
 |some m,some n=>m.ok2 n&&bI a.dst (bz ops b)&&bI b.dst (bz ops a)&&bK a.dst b.dst
 |_,_=>false
def swap_loc{i j:Nat}{a b:Oper}{e f:Ef}(hc:comm1 N pts ops a b=true){τ τ₁ τ':St}(h1:Loc C B N pts ops i a e τ τ₁)(h2:Loc C B N pts ops j b f τ₁ τ') :
  Loc C B N pts ops j b f τ (f.on b.dst τ)/\Loc C B N pts ops i a e (f.on b.dst τ) τ'/\Sees N pts ops b τ₁ τ:=by
 unfold comm1 at hc
 split at hc
 next m n hm hn=>
  simp only[qaa]at hc
  obtain⟨⟨⟨c1,c2⟩,c3⟩,c4⟩:=hc
  have s1:Sees N pts ops b τ₁ τ:=by
   rw[h1.is]
   exact sees_symm (wH hm hn (.inl c1) c2 h1.tc τ)
  have s2:Sees N pts ops a τ (f.on b.dst τ):=wH hn hm (.inr c1) c3 h2.tc τ
  refine⟨⟨rfl,h2.tc,λρ hρ=>h2.st ρ (fv s1 hρ)⟩,⟨?_,h1.tc,λρ hρ=>h1.st ρ (fv s2 hρ)⟩,s1⟩
  rw[h2.is,h1.is]
  exact on_comm hm hn c1 c4 h1.tc h2.tc τ
 ·cases hc
def reOk(N:Tb)(pts:TA)(ops:Tm)(a b:Oper):Bool:=
 (match az N pts a with
 |some .hr=>true
 |_=>false)&&((match az N pts b with
 |some .hw=>true
 |_=>false)&&(bI a.dst (bz ops b)&&(bI b.dst (bz ops a)&&(bI a.dst (bz ops a)&&bK a.dst b.dst))))
def ue{o:Oper}(hm:az N pts o=some .hr){e:Ef}(ht:tS (az N pts o) e):e.rw=none/\e.hp=none:=by
 rw[hm]at ht
 constructor
 ·cases h:e.rw with
  |none=>rfl
  |some p=>have:=ht.1 p h;cases this
 ·cases h:e.hp with
  |none=>rfl
  |some p=>have:=ht.2 (by rw[h];simp);cases this
def on_get{e:Ef}{d:Tn}{σ:St}{t:Nat}(h:∀x,d=some x->x≠t):(e.on d σ).tmps[t]?=σ.tmps[t]?:=by
 unfold Ef.on
 exact kE h
def iG{d:Tn}{l:TA}(h:bI d l=true){t:Nat}(ht:t∈l):∀x,d=some x->x≠t:=by
 intro x hx e
 subst e
 rw[hx]at h
 simp only[bI,qbY,qcd,decide_eq_false_iff_not]at h
 exact h ht
def swap_re{k i:Nat}{a b:Oper}{e f:Ef}(hc:reOk N pts ops a b=true){τ τ₁ τ':St}(h1:Loc C B N pts ops k a e τ τ₁)(h2:Loc C B N pts ops i b f τ₁ τ')(h3:∀ρ,Sees N pts ops a τ' ρ->ai C B pts ops k ρ (e.on a.dst ρ)) :
  Loc C B N pts ops i b f τ (f.on b.dst τ)/\Loc C B N pts ops k a e (f.on b.dst τ) τ'/\Sees N pts ops a τ' (f.on b.dst τ):=by
 unfold reOk at hc
 simp only[qaa]at hc
 obtain⟨c1,c2,c3,c4,c5,c6⟩:=hc
 have hm:az N pts a=some .hr:=by
  split at c1
  ·assumption
  ·cases c1
 have hn:az N pts b=some .hw:=by
  split at c2
  ·assumption
  ·cases c2
 obtain⟨e1,e2⟩:=ue hm h1.tc
 have heap:∀σ:St,(e.on a.dst σ).heap=σ.heap:=λσ=>by rw[iO,e2];rfl
 have s1:Sees N pts ops b τ₁ τ:=by
  refine⟨λt ht=>?_,?_⟩
  ·rw[h1.is];exact(on_get (iG c3 ht)).symm
  ·rw[hn];show τ.heap=τ₁.heap;rw[h1.is,heap]
 have hx:τ'=e.on a.dst (f.on b.dst τ):=by
  rw[h2.is,h1.is]
  have g1:(f.on b.dst (e.on a.dst τ)).tmps=(e.on a.dst (f.on b.dst τ)).tmps:=by
   simp only[qZ]
   cases hx:a.dst with
   |none=>rfl
   |some x=>
    cases hy:b.dst with
    |none=>rfl
    |some y=>
     rw[hx,hy]at c6
     have:x≠y:=by intro he;subst he;simp[bK]at c6
     exact set_comm _ _ _ this
  have g2:(f.on b.dst (e.on a.dst τ)).loc=(e.on a.dst (f.on b.dst τ)).loc:=by
   simp only[on_loc,e1]
  have g3:(f.on b.dst (e.on a.dst τ)).heap=(e.on a.dst (f.on b.dst τ)).heap:=by
   simp only[iO,e2,qdk]
  generalize f.on b.dst (e.on a.dst τ)=x at *
  generalize e.on a.dst (f.on b.dst τ)=y at *
  cases x;cases y
  simp only at g1 g2 g3
  subst g1;subst g2;subst g3
  rfl
 have s3:Sees N pts ops a τ' (f.on b.dst τ):=by
  rw[hx]
  refine⟨λt ht=>(on_get (iG c5 ht)).symm,?_⟩
  rw[hm];exact(heap _).symm
 exact⟨⟨rfl,h2.tc,λρ hρ=>h2.st ρ (fv s1 hρ)⟩,⟨hx,h1.tc,λρ hρ=>h3 ρ (fv s3 hρ)⟩,s3⟩
def rowX(q:Nat->Nat->Oper->Oper->Bool)(j:Nat)(b:Oper)(m:Nat):Tv->Nat->Bool
 | [],_=>true
 |a :: l,n=>(Nat.testBit m n||q n j a b)&&rowX q j b m l (n+1)
def pairX(q:Nat->Nat->Oper->Oper->Bool)(ms:TA):Tv->Tv->Nat->Bool
 |_,[],_=>true
 |pre,b :: l,i=>rowX q i b (ms.getD i 0) pre 0&&pairX q ms (pre++[b]) l (i+1)
def rowX_ok{q:Nat->Nat->Oper->Oper->Bool}{i:Nat}{b:Oper}{m:Nat}:∀ {l:Tv} {k:Nat},rowX q i b m l k=true->∀(j:Nat) a,l[j]?=some a->m.testBit (k+j)=true∨q (k+j) i a b=true
 | [],k,_,j,a,h=>by simp at h
 |a :: l,k,h,j,c,hj=>by
  simp only[rowX,qaa,qbr]at h
  cases j with
  |zero=>simp at hj;subst hj;exact h.1
  |succ j=>
   have:=rowX_ok h.2 j c (by simpa using hj)
   rwa [show k+1+j=k+(j+1)by omega]at this
def vS{q:Nat->Nat->Oper->Oper->Bool}{ms:TA}:∀ {l pre:Tv} {i:Nat},pre.length=i->pairX q ms pre l i=true->∀(j:Nat) b,l[j]?=some b->∀(k:Nat) a,k<i+j->(pre++l)[k]?=some a->(ms.getD (i+j) 0).testBit k=true∨q k (i+j) a b=true
 | [],pre,i,_,_,j,b,h,_,_,_,_=>by simp at h
 |b :: l,pre,i,hp,h,j,c,hj,k,a,hk,ha=>by
  simp only[pairX,qaa]at h
  cases j with
  |zero=>
   simp at hj
   subst hj
   rw[qah (by omega)]at ha
   have:=rowX_ok h.1 k a ha
   simpa using this
  |succ j=>
   have:=vS (pre:=pre++[b]) (i:=i+1) (by simp[hp]) h.2 j c (by simpa using hj) k a (by omega) (by simpa using ha)
   rwa [show i+1+j=i+(j+1)by omega]at this
def allX(q:Nat->Oper->Bool):Tv->Nat->Bool
 | [],_=>true
 |b :: l,i=>q i b&&allX q l (i+1)
def allX_ok{q:Nat->Oper->Bool}:∀ {l:Tv} {i:Nat},allX q l i=true->∀(j:Nat) b,l[j]?=some b->q (i+j) b=true
 | [],i,_,j,b,h=>by simp at h
 |a :: l,i,h,j,b,hj=>by
  simp only[allX,qaa]at h
  cases j with
  |zero=>simp at hj;subst hj;exact h.1
  |succ j=>
   have:=allX_ok h.2 j b (by simpa using hj)
   rwa [show i+1+j=i+(j+1)by omega]at this
def splQ(N:Tb)(pts:TA)(ops:Tm)(k i n j:Nat)(a b:Oper):Bool:=
 match Nat.beq j i,Nat.beq n i with
 |true,_=>Nat.beq n k
 |_,true=>false
 |_,_=>comm1 N pts ops a b
def tM(N:Tb)(pts:TA)(ops:Tm)(k i:Nat):Bool:=
 fk ops.toList 0&&(Nat.blt k i&&(ops.toList.all (λo=>(az N pts o).isSome)&&(pairX (splQ N pts ops k i) (ancs ops.toList []) [] ops.toList 0 &&
  match ops[k]?,ops[i]? with
  |some a,some b=>reOk N pts ops a b&&(a.dst.isSome&&allX (λj o=>Nat.beq j k||bI o.dst a.dst.toList) ops.toList 0)
  |_,_=>false)))
def sV(hN:NeuB N B)(hall:∀(j:Nat) b,ops[j]?=some b->az N pts b≠none){j:Nat}{b:Oper}(hj:ops[j]?=some b){τ τ':St}(h:ai C B pts ops j τ τ'):∃f,Loc C B N pts ops j b f τ τ':=by
 obtain⟨f,h1,h2,h3⟩:=fO hN hj (hall j b hj) h
 exact⟨f,h1,h2,h3⟩
def splS(C:Cfg)(B:Below)(N:Tb)(pts:TA)(ops:Tm)(k i:Nat)(a:Oper)(e:Ef)(j:Nat)(τ τ':St):Prop:=
 ∃b f,ops[j]?=some b/\Loc C B N pts ops j b f τ τ'/\(j=k->f=e)/\(j=i->∀ρ,Sees N pts ops a τ' ρ->ai C B pts ops k ρ (e.on a.dst ρ))
def spl_pair{k i:Nat}{a b:Oper}{e:Ef}(ha:ops[k]?=some a)(hb:ops[i]?=some b)(hre:reOk N pts ops a b=true)(hp:pairX (splQ N pts ops k i) (ancs ops.toList []) [] ops.toList 0=true)(j n:Nat)(hj:j<ops.size)(hn:n<j) :
  Anc ops n j∨∀τ τ₁ τ':St,splS C B N pts ops k i a e n τ τ₁->splS C B N pts ops k i a e j τ₁ τ'->∃ρ,splS C B N pts ops k i a e j τ ρ/\splS C B N pts ops k i a e n ρ τ':=by
 have e1:ops[j]?=some ops[j]:=by simp[hj]
 have e2:ops[n]?=some (ops[n]'(by omega)):=by simp[show n<ops.size by omega]
 generalize ops[j]=y at e1
 generalize ops[n]'(by omega)=x at e2
 have hq:=vS (pre:=[]) (i:=0) rfl hp j y (by simpa using e1) n x (by omega) (by simpa using e2)
 rw[qaL]at hq
 rcases hq with hq|hq
 ·exact .inl (pY ops.toList [] rfl (λi k h=>by simp at h) j n hq)
 right
 rintro τ τ₁ τ' ⟨x',f,h1,h2,h3,h4⟩ ⟨y',g,h5,h6,h7,h8⟩
 rw[e2]at h1;cases h1
 rw[e1]at h5;cases h5
 unfold splQ at hq
 cases hji:Nat.beq j i with
 |true=>
  rw[hji]at hq
  have hji:=qad hji
  have hnk:=qad hq
  subst hji hnk
  rw[ha]at e2;cases e2
  rw[hb]at e1;cases e1
  obtain rfl:=h3 rfl
  obtain⟨w1,w2,w3⟩:=swap_re hre h2 h6 (h8 rfl)
  exact⟨_,⟨_,g,hb,w1,h7,λ_ ρ hρ=>h8 rfl ρ (fv w3 hρ)⟩,_,f,ha,w2,λ_=>rfl,λhh=>absurd hh (by omega)⟩
 |false=>
  rw[hji]at hq
  cases hni:Nat.beq n i with
  |true=>rw[hni]at hq;cases hq
  |false=>
   rw[hni]at hq
   have hq:comm1 N pts ops x y=true:=hq
   have hji:j≠i:=λh=>by subst h;rw[show Nat.beq j j=true from qcu j]at hji;cases hji
   have hni:n≠i:=λh=>by subst h;rw[show Nat.beq n n=true from qcu n]at hni;cases hni
   obtain⟨w1,w2,_⟩:=swap_loc hq h2 h6
   exact⟨_,⟨y,g,e1,w1,h7,λh=>absurd h hji⟩,x,f,e2,w2,h3,λh=>absurd h hni⟩
def ops_app{l₁ l₂:TA}:∀ {σ σ':St},bn C B pts ops (l₁++l₂) σ σ'->∃σ₁,bn C B pts ops l₁ σ σ₁/\bn C B pts ops l₂ σ₁ σ':=by
 induction l₁ with
 |nil=>intro σ σ' h;exact⟨σ,rfl,h⟩
 |cons x l ih=>
  rintro σ σ' ⟨σ₁,h1,h2⟩
  obtain⟨σ₂,h3,h4⟩:=ih h2
  exact⟨σ₂,⟨σ₁,h1,h3⟩,h4⟩
def uH{S:Nat->St->St->Prop}{l₁ l₂:TA}:∀ {σ σ₁ σ':St},runR S l₁ σ σ₁->runR S l₂ σ₁ σ'->runR S (l₁++l₂) σ σ':=by
 induction l₁ with
 |nil=>intro σ σ₁ σ' h1 h2;cases h1;exact h2
 |cons x l ih=>
  rintro σ σ₁ σ' ⟨σ₂,h1,h3⟩ h2
  exact⟨σ₂,h1,ih h3 h2⟩
def pg{S:Nat->St->St->Prop}(hS:∀i σ σ',S i σ σ'->ai C B pts ops i σ σ'):∀ {l:TA} {σ σ':St},runR S l σ σ'->bn C B pts ops l σ σ'
 | [],_,_,h=>h
 |_ :: _,_,_,⟨σ₁,h1,h2⟩=>⟨σ₁,hS _ _ _ h1,pg hS h2⟩
def ie{S:Nat->St->St->Prop}:∀ {l:TA},(∀i∈l,∀σ σ',ai C B pts ops i σ σ'->S i σ σ')->∀ {σ σ':St},bn C B pts ops l σ σ'->runR S l σ σ'
 | [],_,_,_,h=>h
 |_ :: _,hS,_,_,⟨σ₁,h1,h2⟩=>⟨σ₁,hS _ (by simp) _ _ h1,ie (λi hi=>hS i (qan _ hi)) h2⟩
def vO(hN:NeuB N B)(hall:∀(j:Nat) b,ops[j]?=some b->az N pts b≠none){d:Nat}:∀ {l:TA},(∀j∈l,∀b,ops[j]?=some b->∀x,b.dst=some x->x≠d)->∀ {σ σ':St},bn C B pts ops l σ σ'->σ'.tmps[d]?=σ.tmps[d]?
 | [],_,_,_,h=>by cases h;rfl
 |j :: l,hd,σ,σ',⟨σ₁,h1,h2⟩=>by
  rw[vO hN hall (λi hi=>hd i (qan _ hi)) h2]
  cases hj:ops[j]? with
  |none=>
   have:σ₁=σ:=by simpa[ai,hj]using h1
   rw[this]
  |some b=>
   obtain⟨f,h3⟩:=sV hN hall hj h1
   rw[h3.is]
   exact on_get (hd j (by simp) b hj)
def any_spl(hN:NeuB N B){k i:Nat}(hreg:tM N pts ops k i=true){σ σ₁ σ₂ σ':St}(h1:bn C B pts ops (List.range' 0 (ops.toList.take (i+1)).length) σ σ₁)(h2:ai C B pts ops k σ₁ σ₂)(hs:SameAt ops k σ₁ σ₂)
  (h3:bn C B pts ops (List.range' (i+1) (ops.toList.drop (i+1)).length) σ₁ σ'):eQ C B pts ops σ σ':=by
 unfold tM at hreg
 simp only[qaa]at hreg
 obtain⟨g1,g2,g3,g4,g5⟩:=hreg
 have hki:k<i:=by simpa[qbc]using g2
 have hall:∀(j:Nat) b,ops[j]?=some b->az N pts b≠none:=by
  intro j b hj he
  have hm:b∈ops.toList:=by have:=qcS hj;simpa using this
  have:=qag.1 g3 b hm
  rw[he]at this;cases this
 split at g5
 case h_2=>cases g5
 rename_i a b ha hb
 simp only[qaa]at g5
 obtain⟨hre,hds,g6⟩:=g5
 obtain⟨d,hd⟩:=qbg.1 hds
 have hi:i<ops.size:=(qat.1 hb).1
 have ht:(ops.toList.take (i+1)).length=i+1:=by simp;omega
 rw[ht]at h1
 have hsp:List.range' 0 (i+1)=List.range' 0 k++(k :: (List.range' (k+1) (i - k - 1)++[i])):=by
  have e1:List.range' 0 (i+1)=List.range' 0 k++List.range' (0+k) (i+1 - k):=by rw[qcZ];congr 1;omega
  have e2:List.range' (0+k) (i+1 - k)=k :: List.range' (k+1) (i - k):=by
   rw[show i+1 - k=(i - k)+1 by omega,qdj,qaL]
  have e3:List.range' (k+1) (i - k)=List.range' (k+1) (i - k - 1)++[i]:=by
   have:List.range' (k+1) (i - k)=List.range' (k+1) (i - k - 1)++List.range' (k+1+(i - k - 1)) 1:=by rw[qcZ];congr 1;omega
   rw[this,show k+1+(i - k - 1)=i by omega];rfl
  rw[e1,e2,e3]
 rw[hsp]at h1
 obtain⟨τ0,p1,τ1,p2,p3⟩:=ops_app h1
 obtain⟨τ2,p4,τ3,p5,p6⟩:=ops_app p3
 cases p6
 obtain⟨e,he⟩:=sV hN hall ha p2
 have hm:az N pts a=some .hr:=by
  have hre:=hre
  unfold reOk at hre
  simp only[qaa]at hre
  have c1:=hre.1
  split at c1
  ·assumption
  ·cases c1
 obtain⟨e1,e2⟩:=ue hm he.tc
 have hother:∀j,j≠k->∀b,ops[j]?=some b->∀x,b.dst=some x->x≠d:=by
  intro j hjk b hj x hx
  have:=allX_ok g6 j b (by simpa using hj)
  rw[qaL]at this
  cases hjb:Nat.beq j k with
  |true=>exact absurd (qad hjb) hjk
  |false=>
   rw[hjb,qc1,hd]at this
   exact iG this (by simp) x hx
 have hkeep:σ₁.tmps[d]?=τ1.tmps[d]?:=by
  have:bn C B pts ops (List.range' (k+1) (i - k - 1)++[i]) τ1 σ₁:=p3
  refine vO hN hall (λj hj=>hother j ?_) this
  rw[qao,qcM,qap]at hj
  omega
 obtain⟨g,hg⟩:=sV hN hall ha h2
 obtain⟨f1,f2⟩:=ue hm hg.tc
 have hge:g=e:=by
  obtain⟨a',d',x,q1,q2,q3,q4⟩:=hs
  rw[ha]at q1;cases q1
  rw[hd]at q2;cases q2
  rw[hg.is,qZ,hd]at q4
  simp only[qa0]at q4
  rw[qdy trivial,qdy (qaN.1 q3).1]at q4
  rw[hkeep,he.is,qZ,hd]at q3
  simp only[qa0]at q3
  rw[qdy trivial]at q3
  split at q3
  ·cases g;cases e
   simp only at *
   cases q3;cases q4
   simp_all
  ·cases q3
 subst hge
 have hrest:∀j,j≠k->j≠i->j<ops.size->∀τ τ',ai C B pts ops j τ τ'->splS C B N pts ops k i a g j τ τ':=by
  intro j hk hji hj τ τ' h
  have hj':ops[j]?=some ops[j]:=by simp[hj]
  obtain⟨f,hf⟩:=sV hN hall hj' h
  exact⟨_,f,hj',hf,λh=>absurd h hk,λh=>absurd h hji⟩
 have hrun:runR (splS C B N pts ops k i a g) (List.range ops.size) σ σ':=by
  have e0:List.range ops.size=List.range' 0 (i+1)++List.range' (i+1) (ops.toList.drop (i+1)).length:=by
   have:(ops.toList.drop (i+1)).length=ops.size - (i+1):=by simp
   rw[this,qce]
   have:=qcZ (s:=0) (m:=i+1) (n:=ops.size - (i+1))
   rw[qaL]at this
   rw[this];congr 1;omega
  rw[e0,hsp]
  refine uH (uH (σ₁:=τ0) (ie (λj hj=>?_) p1) ⟨τ1,⟨a,g,ha,he,λ_=>rfl,λh=>absurd h (by omega)⟩,uH (σ₁:=τ2) (ie (λj hj=>?_) p4) ⟨σ₁,?_,rfl⟩⟩) (ie (λj hj=>?_) h3)
  ·rw[qcM]at hj
   exact hrest j (by omega) (by omega) (by omega)
  ·rw[qcM]at hj
   exact hrest j (by omega) (by omega) (by omega)
  ·obtain⟨f,hf⟩:=sV hN hall hb p5
   exact⟨b,f,hb,hf,λh=>absurd h (by omega),λ_=>hg.st⟩
  ·rw[qcM]at hj
   have:(ops.toList.drop (i+1)).length=ops.size - (i+1):=by simp
   exact hrest j (by omega) (by omega) (by omega)
 have hback:∀(i:Nat) o,ops[i]?=some o->∀e∈o.after.toList,Region.binds .any e=true->e.on<i:=by
  intro i o ho e he hb
  have:=eT g1 i o (by simpa using ho) e he hb
  omega
 have hz:unl ops.size (Array.replicate ops.size false)=List.range ops.size:=by
  unfold unl
  rw[qc3]
  intro i hi
  rw[qaD]at hi
  rw[qaw,qbQ,qdy hi]
  rfl
 refine .inl λt=>?_
 obtain⟨r1,_,_⟩:=go_okR (S:=splS C B N pts ops k i a g) hback (λj n hj hn=>spl_pair ha hb hre g4 j n hj hn) ops.size t (Array.replicate ops.size false) (by simp) (by rw[hz];simp) (λx o hx ho=>by
  have hlt:x<ops.size:=(qat.1 ho).1
  rw[qaw,qbQ,qdy hlt]at hx
  cases hx) σ σ' (by rw[hz];exact hrun)
 refine pg (λj τ τ' hS=>?_) r1
 obtain⟨b',f,q1,q2,_,_⟩:=hS
 rw[q2.is]
 exact q2.st τ (sees_refl b' τ)
end
end Sx
namespace Sx
section
variable [Val] {C:Cfg} {B:Below} {N:Tb} {pts:TA} {ops:Tm}
def wm(q:Oper->Oper->Bool)(b:Oper)(m:Nat):Tv->Nat->Bool
 | [],_=>true
 |a :: l,k=>(Nat.testBit m k||q a b)&&wm q b m l (k+1)
def rh(q:Oper->Oper->Bool)(ms:TA):Tv->Tv->Nat->Bool
 |_,[],_=>true
 |pre,b :: l,i=>wm q b (ms.getD i 0) pre 0&&rh q ms (pre++[b]) l (i+1)
def tD{q:Oper->Oper->Bool}{b:Oper}{m:Nat}:∀ {l:Tv} {k:Nat},wm q b m l k=true->∀(j:Nat) a,l[j]?=some a->m.testBit (k+j)=true∨q a b=true
 | [],k,_,j,a,h=>by simp at h
 |a :: l,k,h,j,c,hj=>by
  simp only[wm,qaa,qbr]at h
  cases j with
  |zero=>simp at hj;subst hj;exact h.1
  |succ j=>
   have:=tD h.2 j c (by simpa using hj)
   rwa [show k+1+j=k+(j+1)by omega]at this
def px{q:Oper->Oper->Bool}{ms:TA}:∀ {l pre:Tv} {i:Nat},pre.length=i->rh q ms pre l i=true->∀(j:Nat) b,l[j]?=some b->∀(k:Nat) a,k<i+j->(pre++l)[k]?=some a->(ms.getD (i+j) 0).testBit k=true∨q a b=true
 | [],pre,i,_,_,j,b,h,_,_,_,_=>by simp at h
 |b :: l,pre,i,hp,h,j,c,hj,k,a,hk,ha=>by
  simp only[rh,qaa]at h
  cases j with
  |zero=>
   simp at hj
   subst hj
   rw[qah (by omega)]at ha
   have:=tD h.1 k a ha
   simpa using this
  |succ j=>
   have:=px (pre:=pre++[b]) (i:=i+1) (by simp[hp]) h.2 j c (by simpa using hj) k a (by omega) (by simpa using ha)
   rwa [show i+1+j=i+(j+1)by omega]at this
def sw{b:Oper}{m i:Nat}:∀ {l:Tv} {k:Nat} (j:Nat) a,l[j]?=some a->m.testBit (k+j)=false->conf pts a b=true->(k+j,i)∈su pts b m i l k
 | [],k,j,a,h,_,_=>by simp at h
 |a :: l,k,j,c,hj,hb,hc=>by
  unfold su
  cases j with
  |zero=>
   simp at hj
   subst hj
   simp only[qcb]at hb ⊢
   rw[hb,hc]
   simp
  |succ j=>
   have:=sw (i:=i) (k:=k+1) j c (by simpa using hj) (by rwa [show k+1+j=k+(j+1)by omega]) hc
   rw[show k+1+j=k+(j+1)by omega]at this
   split
   ·exact this
   ·exact qan _ this
def ss{ms:TA}:∀ {l pre:Tv} {i:Nat},pre.length=i->∀(j:Nat) b,l[j]?=some b->∀(k:Nat) a,k<i+j->(pre++l)[k]?=some a->(ms.getD (i+j) 0).testBit k=false->conf pts a b=true->(k,i+j)∈vj pts ms pre l i
 | [],pre,i,_,j,b,h,_,_,_,_,_,_=>by simp at h
 |b :: l,pre,i,hp,j,c,hj,k,a,hk,ha,ht,hc=>by
  unfold vj
  rw[qao]
  cases j with
  |zero=>
   simp at hj
   subst hj
   rw[qah (by omega)]at ha
   have:=sw (pts:=pts) (i:=i) (k:=0) k a ha (by simpa using ht) hc
   left
   simpa using this
  |succ j=>
   right
   have:=ss (pre:=pre++[b]) (i:=i+1) (by simp[hp]) j c (by simpa using hj) k a (by omega) (by simpa using ha) (by rwa [show i+1+j=i+(j+1)by omega]) hc
   rwa [show i+1+j=i+(j+1)by omega]at this
def opT(pts:TA)(o:Oper):TA:=((cV pts o).1++eo pts o).filterMap λx=>match x with
 | .tmp t=>some t
 |_=>none
def ssaB(pts:TA):Tv->Tv->Bool
 |_,[]=>true
 |pre,b :: l=>bI b.dst (opT pts b)&&(pre.all λa=>bI b.dst (opT pts a)&&bK a.dst b.dst)&&ssaB pts (pre++[b]) l
def uP:∀ {l pre:Tv},ssaB pts pre l=true->∀(j:Nat) b,l[j]?=some b->∀(k:Nat) a,(pre++l)[k]?=some a->(k<=pre.length+j->bI b.dst (opT pts a)=true)/\(k<pre.length+j->bK a.dst b.dst=true)
 | [],pre,_,j,b,h,_,_,_=>by simp at h
 |b :: l,pre,h,j,c,hj,k,a,ha=>by
  simp only[ssaB,qaa,qag]at h
  obtain⟨⟨h1,h2⟩,h3⟩:=h
  cases j with
  |zero=>
   simp at hj
   subst hj
   refine⟨λhk=>?_,λhk=>?_⟩
   ·rcases qaO k pre.length with hlt|hge
    ·rw[qah hlt]at ha
     exact(h2 a (qab ha)).1
    ·obtain rfl:k=pre.length:=by omega
     rw[qaq (qaf _),qbC]at ha
     simp at ha
     subst ha
     exact h1
   ·rw[qah (by omega)]at ha
    exact(h2 a (qab ha)).2
  |succ j=>
   have:=uP h3 j c (by simpa using hj) k a (by simpa using ha)
   simp only[qaC,qaG,qbG]at this
   exact⟨λhk=>this.1 (by omega),λhk=>this.2 (by omega)⟩
def sepReg(N:Tb)(pts:TA)(ops:Tm):Bool:=
 fk ops.toList 0&&(ops.toList.all (okS N pts)&&(ops.toList.any (de pts)&&(ops.toList.all (λo=>!de pts o||o.dst.isSome)&&(ssaB pts [] ops.toList&&rh (λa b=>stat2 N pts ops a b && !fl a b) (ancs ops.toList []) [] ops.toList 0))))
def splK(N:Tb)(pts:TA)(ops:Tm)(i:Nat):Nat->Option Nat
 |0=>none
 |k+1=>match ops[k]?,ops[i]? with
  |some a,some b=>match reOk N pts ops a b&&tM N pts ops k i with
   |true=>some k
   |false=>splK N pts ops i k
  |_,_=>none
def splI(N:Tb)(pts:TA)(ops:Tm):Nat->Option (List (Nat×Nat))
 |0=>none
 |i+1=>match splK N pts ops i i with
  |some k=>some [(k+1000,i)]
  |none=>splI N pts ops i
def drOf(N:Tb):Dr:=λpts ops=>match vk pts ops with
 | []=>match tB N pts ops with
  |true=>some []
  |false=>splI N pts ops ops.size
 |p :: ps=>match splOf (p :: ps),sepReg N pts ops with
  |none,true=>some (p :: ps)
  |_,_=>none
def splK_ok{i:Nat}:∀ {n k:Nat},splK N pts ops i n=some k->tM N pts ops k i=true
 |0,k,h=>by cases h
 |n+1,k,h=>by
  unfold splK at h
  split at h
  ·split at h
   next hq=>
    cases h
    simp only[qaa]at hq
    exact hq.2
   ·exact splK_ok h
  ·cases h
def splI_ok:∀ {n:Nat} {ps:List (Nat×Nat)},splI N pts ops n=some ps->∃k i,ps=[(k+1000,i)]/\tM N pts ops k i=true
 |0,ps,h=>by cases h
 |n+1,ps,h=>by
  unfold splI at h
  split at h
  next k hk=>
   cases h
   exact⟨k,n,rfl,splK_ok hk⟩
  ·exact splI_ok h
def hcls0{o:Oper}(h:hCls pts o=0):(cV pts o).1=[]/\eo pts o=[]/\de pts o=false:=by
 obtain⟨dst,op,ty,pos,after,guard⟩:=o
 cases op<;>simp only[hCls]at h<;>first|(exact⟨rfl,rfl,rfl⟩)|(exact absurd h (by decide))|skip
 case alloc t=>cases hn:de pts ⟨dst,.alloc t,ty,pos,after,guard⟩with
  |true=>rw[hn]at h;cases h
  |false=>exact⟨rfl,rfl,rfl⟩
 case box t x=>cases hn:de pts ⟨dst,.box t x,ty,pos,after,guard⟩with
  |true=>rw[hn]at h;cases h
  |false=>exact⟨rfl,rfl,rfl⟩
 case load t a=>
  split at h
  ·cases h
  next hk=>
   refine⟨?_,rfl,rfl⟩
   simp only[cV]
 case store t a x=>
  split at h
  ·cases h
  next hk=>
   refine⟨?_,?_,rfl⟩
   ·simp only[cV]
   ·simp only[eo]
 case call c=>
  cases hc:c.callee with
  |builtin b=>
   rw[hc]at h
   simp only[cV,eo,de,hc]
   cases b<;>first|(exact⟨rfl,rfl,rfl⟩)|(exact absurd h (by simp))
  |value f=>simp only[cV,eo,de,hc];exact⟨trivial,trivial,trivial⟩
  |invoke r m=>simp only[cV,eo,de,hc];exact⟨trivial,trivial,trivial⟩
def hcls1{o:Oper}(h:hCls pts o=1):eo pts o=[]/\de pts o=false:=by
 obtain⟨dst,op,ty,pos,after,guard⟩:=o
 cases op<;>simp only[hCls]at h<;>first|(exact⟨rfl,rfl⟩)|(exact absurd h (by decide))|skip
 case alloc t=>cases hn:de pts ⟨dst,.alloc t,ty,pos,after,guard⟩with
  |true=>rw[hn]at h;cases h
  |false=>exact⟨rfl,rfl⟩
 case box t x=>cases hn:de pts ⟨dst,.box t x,ty,pos,after,guard⟩with
  |true=>rw[hn]at h;cases h
  |false=>exact⟨rfl,rfl⟩
 case store t a x=>split at h<;>cases h
 case call c=>
  cases hc:c.callee with
  |builtin b=>
   rw[hc]at h
   simp only[eo,de,hc]
   cases b<;>first|(exact⟨rfl,rfl⟩)|(exact absurd h (by simp))
  |value f=>simp only[eo,de,hc];exact⟨trivial,trivial⟩
  |invoke r m=>simp only[eo,de,hc];exact⟨trivial,trivial⟩
def qH(o:Oper):hCls pts o=0∨hCls pts o=1∨hCls pts o=2:=by
 obtain⟨dst,op,ty,pos,after,guard⟩:=o
 cases op<;>simp only[hCls]<;>first|(exact .inl trivial)|(exact .inr (.inl trivial))|(exact .inr (.inr trivial))|skip
 case alloc t=>split<;>simp
 case box t x=>split<;>simp
 case load t a=>split<;>simp
 case store t a x=>split<;>simp
 case call c=>split<;>first|(split<;>simp)|simp
end
end Sx
namespace Sx
section
variable [Val] {C:Cfg} {B:Below} {N:Tb} {pts:TA} {ops:Tm}
def fresh_adr{mk:Nat->Value}(h:Fresh mk)(k:Nat):adr (mk k)=[k]:=by
 cases h<;>simp[adr,tag]
def wv{S:Nat->St->St->Prop}{sl:Nat->Tp}(hS:∀i σ σ',S i σ σ'->dJ C B pts ops sl i σ σ'):∀ {l:TA},l.Nodup->∀ {σ σ':St},runR S l σ σ'->ij C B pts ops sl l σ σ'
 | [],_,_,_,h=>h
 |i :: l,hn,σ,σ',⟨σ₁,h1,h2⟩=>by
  rw[qcg]at hn
  exact⟨hn.1,σ₁,hS i _ _ h1,wv hS hn.2 h2⟩
def opT_mem{o:Oper}{t:Nat}(h:Operand.tmp t∈(cV pts o).1++eo pts o):t∈opT pts o:=by
 unfold opT
 exact qbA.2 ⟨.tmp t,h,rfl⟩
def any_okS [Kno](hN:NeuB N B)(hreg:sepReg N pts ops=true){σ σ':St}(h:bn C B pts ops (List.range ops.size) σ σ')(hsep:SepAt pts ops σ'.tmps (vk pts ops)):eQ C B pts ops σ σ':=by
 simp only[sepReg,qaa]at hreg
 obtain⟨g1,g2,g3,g4,g5,g6⟩:=hreg
 have hok:∀i∈List.range ops.size,∃o,ops[i]?=some o/\okS N pts o=true:=by
  intro i hi
  rw[qaD]at hi
  exact⟨ops[i],by simp[hi],qag.1 g2 _ (by simp)⟩
 obtain⟨rc,R⟩:=recs_of hN (List.range ops.size) σ σ' qcp hok h
 have hsz:∀ {i:Nat} {o:Oper},ops[i]?=some o->i<ops.size:=λhi=>(qat.1 hi).1
 have hrg:∀ {i:Nat} {o:Oper},ops[i]?=some o->i∈List.range ops.size:=λhi=>qaD.2 (hsz hi)
 have hl:∀ {i:Nat} {o:Oper},ops[i]?=some o->ops.toList[i]?=some o:=λhi=>by simpa using hi
 have hop:∀ {i:Nat} {o:Oper},ops[i]?=some o->∀x∈(cV pts o).1++eo pts o,oval σ'.tmps x=oval (rc i).σ.tmps x:=by
  intro i o hi x hx
  refine kB λt ht=>?_
  subst ht
  refine R.args i (hrg hi) t λj hj hij o' ho' hd=>?_
  have:=(uP g5 j o' (hl ho') i o (by simpa using hi)).1 (by simpa using hij)
  exact oF this t (opT_mem hx) t hd rfl
 have hF:∀ {i:Nat} {o:Oper},ops[i]?=some o->∀r∈fpo pts (oval (rc i).σ.tmps) o,r∈fAt pts σ'.tmps o:=by
  intro i o hi r hr
  unfold fpo at hr
  unfold fAt
  obtain⟨x,hx,hr⟩:=qbH.1 hr
  exact qbH.2 ⟨x,hx,by rw[hop hi x (qaH _ hx)];exact hr⟩
 have hW:∀ {i:Nat} {o:Oper},ops[i]?=some o->dstIn pts σ'.tmps o->∀p∈(rc i).ws,p.1∈wAt pts σ'.tmps o:=by
  intro i o hi hdi p hp
  have K:=R.ok i (hrg hi) o hi
  unfold Rec.ws at hp
  unfold wAt
  rw[qbH]
  rcases qao.1 hp with hp|hp
  ·have:=K.wr p (by simpa using hp)
   unfold wpo at this
   obtain⟨x,hx,hr⟩:=qbH.1 this
   exact⟨x,qaH _ hx,by rw[hop hi x (qaK _ hx)];exact hr⟩
  ·unfold Rec.slot at hp
   split at hp
   next k q hk hq=>
    have hp:p=(k,q.1):=by simpa using hp
    subst hp
    obtain⟨f1,f2,f3⟩:=K.fr q hq
    have hc2:hCls pts o=2:=by
     rcases qH (pts:=pts) o with h0|h0|h0
     ·rw[(hcls0 h0).2.2]at f3;cases f3
     ·rw[(hcls1 h0).2]at f3;cases f3
     ·exact h0
    have hds:o.dst.isSome=true:=by
     have:=qag.1 g4 o (qab (hl hi))
     rw[f3]at this
     simpa using this
    obtain⟨d,hd⟩:=qbg.1 hds
    obtain⟨v,hv⟩:=hdi d hd hc2
    have hval:=R.res i (hrg hi) o d v hi hd (λj hj hij o' ho' hd'=>by
     have:=(uP g5 j o' (hl ho') i o (by simpa using hi)).2 (by simpa using hij)
     rw[hd,hd']at this
     simp[bK]at this) hv
    refine⟨.tmp d,rJ hd hc2,?_⟩
    have ho:oval σ'.tmps (.tmp d)=v:=by simp[oval,List.getD_eq_getElem?_getD,hv]
    rw[ho,hval]
    unfold Rec.val HEff.val
    rw[hk]
    simp only[hq]
    rw[fresh_adr f1]
    exact qap.2 rfl
   ·cases hp
 have hno:∀ {i:Nat} {o:Oper},ops[i]?=some o->hCls pts o≠2->(rc i).ws=[]:=by
  intro i o hi hc
  have K:=R.ok i (hrg hi) o hi
  have hw:eo pts o=[]/\de pts o=false:=by
   rcases qH (pts:=pts) o with h0|h0|h0
   ·exact(hcls0 h0).2
   ·exact hcls1 h0
   ·exact absurd h0 hc
  have e1:(rc i).e.set=none:=by
   cases hs:(rc i).e.set with
   |none=>rfl
   |some p=>
    have:=K.wr p hs
    unfold wpo at this
    rw[hw.1]at this
    cases this
  have e2:(rc i).e.push=none:=by
   cases hs:(rc i).e.push with
   |none=>rfl
   |some p=>have:=(K.fr p hs).2.2;rw[hw.2]at this;cases this
  unfold Rec.ws Rec.slot
  rw[e1,e2]
  cases (rc i).k<;>rfl
 have hno2:∀ {i:Nat} {o:Oper},hCls pts o=0->fpo pts (oval (rc i).σ.tmps) o=[]:=by
  intro i o hc
  unfold fpo
  rw[(hcls0 hc).1]
  rfl
 refine .inr ⟨λi=>if i<ops.size then(rc i).k else none,σ'.heap.length - σ.heap.length,g3,?_,?_,λt=>?_⟩
 ·intro i k hk
  simp only at hk
  split at hk
  next hi=>
   have:=R.slot i (qaD.2 hi) k hk
   omega
  ·cases hk
 ·intro i j k hk hk'
  simp only at hk hk'
  split at hk
  next hi=>
   split at hk'
   next hj=>
    exact R.inj i (qaD.2 hi) j (qaD.2 hj) k hk hk'
   ·cases hk'
  ·cases hk
 have hback:∀(i:Nat) o,ops[i]?=some o->∀e∈o.after.toList,Region.binds .any e=true->e.on<i:=by
  intro i o ho e he hb
  have:=eT g1 i o (by simpa using ho) e he hb
  omega
 have hpair:∀i k:Nat,i<ops.size->k<i->Anc ops k i∨∀τ τ₁ τ':St,recS N pts ops rc k τ τ₁->recS N pts ops rc i τ₁ τ'->∃ρ,recS N pts ops rc i τ ρ/\recS N pts ops rc k ρ τ':=by
  intro i k hi hki
  have hb:ops[i]?=some ops[i]:=by simp[hi]
  have ha:ops[k]?=some (ops[k]'(by omega)):=by simp[show k<ops.size by omega]
  generalize ops[i]=b at hb
  generalize ops[k]'(by omega)=a at ha
  have hq:=px (pre:=[]) (i:=0) rfl g6 i b (by simpa using hb) k a (by omega) (by simpa using ha)
  rw[qaL]at hq
  cases htb:(List.getD (ancs ops.toList []) i 0).testBit k with
  |true=>exact .inl (pY ops.toList [] rfl (λi k h=>by simp at h) i k htb)
  |false=>
   right
   rw[htb]at hq
   have hq:=hq.resolve_left (by simp)
   simp only[qaa]at hq
   obtain⟨q1,q2⟩:=hq
   have d:(∀p∈(rc k).ws,p.1∉fpo pts (oval (rc i).σ.tmps) b)/\(∀p∈(rc i).ws,p.1∉fpo pts (oval (rc k).σ.tmps) a)/\(∀p∈(rc k).ws,∀q∈(rc i).ws,p.1≠q.1):=by
    cases hcf:conf pts a b with
    |true=>
     have hm:=ss (pts:=pts) (ms:=ancs ops.toList []) (l:=ops.toList) (pre:=[]) (i:=0) rfl i b (by simpa using hb) k a (by omega) (by simpa using ha) (by rw[qaL];exact htb) hcf
     rw[qaL]at hm
     obtain⟨a',b',r1,r2,s1,s2,s3,s4,s5⟩:=hsep (k,i) hm
     have r1:ops[k]?=some a':=r1
     have r2:ops[i]?=some b':=r2
     rw[ha]at r1;rw[hb]at r2
     cases r1;cases r2
     exact⟨λp hp hf=>s1 _ (hW ha s4 p hp) (hF hb _ hf),λp hp hf=>s3 _ (hW hb s5 p hp) (hF ha _ hf),λp hp q hq e=>s2 _ (hW ha s4 p hp) (e▸hW hb s5 q hq)⟩
    |false=>
     have hcf:Nat.ble 3 (hCls pts a+hCls pts b)=false:=by
      unfold conf at hcf
      cases he:fl a b with
      |true=>rw[he]at q2;cases q2
      |false=>rw[he]at hcf;simpa using hcf
     have hlt:¬3<=hCls pts a+hCls pts b:=λh=>by rw[qa5 h]at hcf;cases hcf
     rcases qH (pts:=pts) a with e1|e1|e1<;>rcases qH (pts:=pts) b with e2|e2|e2
     ·rw[hno ha (by omega),hno hb (by omega)];exact⟨λ_ h=>(by cases h),λ_ h=>(by cases h),λ_ h=>(by cases h)⟩
     ·rw[hno ha (by omega),hno hb (by omega)];exact⟨λ_ h=>(by cases h),λ_ h=>(by cases h),λ_ h=>(by cases h)⟩
     ·rw[hno ha (by omega),hno2 e1];exact⟨λ_ h=>(by cases h),λ_ _ h=>(by cases h),λ_ h=>(by cases h)⟩
     ·rw[hno ha (by omega),hno hb (by omega)];exact⟨λ_ h=>(by cases h),λ_ h=>(by cases h),λ_ h=>(by cases h)⟩
     ·rw[hno ha (by omega),hno hb (by omega)];exact⟨λ_ h=>(by cases h),λ_ h=>(by cases h),λ_ h=>(by cases h)⟩
     ·omega
     ·rw[hno hb (by omega),hno2 e2];exact⟨λ_ _ h=>(by cases h),λ_ h=>(by cases h),λ_ _ _ h=>(by cases h)⟩
     ·omega
     ·omega
   rintro τ τ₁ τ' ⟨a1,h1,h2,rfl⟩ ⟨b1,h3,h4,rfl⟩
   rw[ha]at h1;rw[hb]at h3
   cases h1;cases h3
   obtain⟨w1,w2,w3⟩:=swapR (R.ok k (hrg ha) a ha) (R.ok i (hrg hb) b hb) q1 d.1 d.2.1 d.2.2 h2 h4
   exact⟨_,⟨b,hb,w1,rfl⟩,⟨a,ha,w2,w3⟩⟩
 have hz:unl ops.size (Array.replicate ops.size false)=List.range ops.size:=by
  unfold unl
  rw[qc3]
  intro i hi
  rw[qaD]at hi
  rw[qaw,qbQ,qdy hi]
  rfl
 have hrun:=R.run σ'.heap.length (qaf _)
 have hend:St.padTo σ' σ'.heap.length=σ':=by
  unfold St.padTo St.pad
  rw[qbC]
  simp
 rw[hend]at hrun
 obtain⟨r1,r2,_⟩:=go_okR (S:=recS N pts ops rc) hback hpair ops.size t (Array.replicate ops.size false) (by simp) (by rw[hz];simp) (λx o hx ho=>by
  have hlt:x<ops.size:=hsz ho
  rw[qaw,qbQ,qdy hlt]at hx
  cases hx) _ _ (by rw[hz];exact hrun)
 refine wv (λi τ τ' hS=>?_) r2 r1
 obtain⟨o,h1,h2,rfl⟩:=hS
 exact(R.ok i (hrg h1) o h1).step τ h2 _ (by simp only[hsz h1,if_true])
def splOf_one(k i:Nat):splOf [(k+1000,i)]=some (k,i):=by
 have hb:Nat.ble 1000 (k+1000)=true:=qa5 (Nat.le_add_left 1000 k)
 generalize hm:k+1000=m at *
 have hk:m - 1000=k:=by omega
 unfold splOf
 simp only[hb,hk]
def drOf_ok [Kno]{C:Cfg}(hN:∀f n,N f=some n->neuF N C f n=true)(hk:∀f args H r H',Kno.kh f args H r H'->N f=none∨(N f=some (2*args.length+1)/\H'=H)):DrOk C (drOf N):=by
 intro pts ops ps h
 unfold drOf at h
 split at h
 ·split at h
  next hr=>
   cases h
   exact λn σ σ' hx hs=>dr_ok hN hk pts ops hr n σ σ' hx
  ·obtain⟨k,i,hps,hr⟩:=splI_ok h
   have e:splOf ps=some (k,i):=hps▸splOf_one k i
   rw[e]
   exact λn σ σ₁ σ₂ σ' h1 h2 h3 h4=>any_spl (vJ hN hk n).1.1 hr h1 h2 h3 h4
 next p qs he=>
  split at h
  next hn hr=>
   cases h
   rw[hn]
   exact λn σ σ' hx hs=>any_okS (vJ hN hk n).1.1 hr hx (by rw[he];exact hs)
  ·cases h
end
end Sx
end Go.Am
namespace Go.Am
open Sx Go.Proofs
def neuT:List (Nat×Nat):=[(22,4),(48,0),(70,2),(73,4),(99,2),(101,2),(109,6),(110,2),(111,2),(112,4),(40,3),(28,3)]
def lookN(l:List (Nat×Nat))(f:Nat):Tp:=match l with
 | []=>none
 |p :: l=>match Nat.beq p.1 f with
  |true=>some p.2
  |false=>lookN l f
def neuN(f:TM):Tp:=lookN neuT f
def sW{f n:Nat}:∀ {l:List (Nat×Nat)},lookN l f=some n->(f,n)∈l
 |p :: l,h=>by
  unfold lookN at h
  split at h
  next e=>
   cases h
   have:=qad e
   subst this
   exact qaB
  ·exact qan _ (sW h)
def neuT_ok:(neuT.all λp=>neuF neuN cc p.1 p.2)=true:=by kernel_rfl
def neuN_ok(f n:Nat)(h:neuN f=some n):neuF neuN cc f n=true:=qag.1 neuT_ok (f,n) (sW h)
def drN:Dr:=drOf neuN
def nF(k:Nat)(an:List An):Fn1:=fn1 cc.P k ((ab k).getD ⟨[],[]⟩) an
def iF {k:Nat} {g:Func} {an:List An} (h0:(xc k).C.P.funcs[k]?=some g) (h:(g.body,((g.name == "runtime.NumGoroutine")||(xc k).C.opq k),g.ntmps,g.results.toList,ab k)=(some (er (xc k) (nF k an).code),false,(nF k an).nt,(nF k an).rvs,some (nF k an).sg)):FnIs (xc k) ab k (nF k an):=by
 simp only[qb6]at h
 exact⟨⟨g,h0,h.1,h.2.1,h.2.2.1,h.2.2.2.1⟩,rfl,h.2.2.2.2⟩
abbrev e_f(k:Nat)(a:List An):(R HT:Type)->Alg R HT->TD->HT->(TD->HT->R)->R:=λR HT A ls h K=>av A (xc k) ab drN (nF k a) ls h K
abbrev i_i(k:Nat)(a:List An):Prop:=FnIs (xc k) ab k (nF k a)
def i3:i_i 3 an3:=iF Tryz.func3 (by kernel_rfl)
def i5:i_i 5 an5:=iF Tryz.func5 (by kernel_rfl)
def i6:i_i 6 an6:=iF Tryz.func6 (by kernel_rfl)
def i7:i_i 7 an7:=iF Tryz.func7 (by kernel_rfl)
def i8:i_i 8 an8:=iF Tryz.func8 (by kernel_rfl)
def i9:i_i 9 an9:=iF Tryz.func9 (by kernel_rfl)
def i10:i_i 10 an10:=iF Tryz.func10 (by kernel_rfl)
def i11:i_i 11 an11:=iF Tryz.func11 (by kernel_rfl)
def i12:i_i 12 an12:=iF Tryz.func12 (by kernel_rfl)
def i13:i_i 13 an13:=iF Tryz.func13 (by kernel_rfl)
def i15:i_i 15 an15:=iF Tryz.func15 (by kernel_rfl)
def i16:i_i 16 an16:=iF Tryz.func16 (by kernel_rfl)
def i17:i_i 17 an17:=iF Tryz.func17 (by kernel_rfl)
def i18:i_i 18 an18:=iF Tryz.func18 (by kernel_rfl)
def i19:i_i 19 an19:=iF Tryz.func19 (by kernel_rfl)
def i20:i_i 20 an20:=iF Tryz.func20 (by kernel_rfl)
def i21:i_i 21 an21:=iF Tryz.func21 (by kernel_rfl)
def i22:i_i 22 an22:=iF Tryz.func22 (by kernel_rfl)
def i23:i_i 23 an23:=iF Tryz.func23 (by kernel_rfl)
def i24:i_i 24 an24:=iF Tryz.func24 (by kernel_rfl)
def i25:i_i 25 an25:=iF Tryz.func25 (by kernel_rfl)
def i26:i_i 26 an26:=iF Tryz.func26 (by kernel_rfl)
def i27:i_i 27 an27:=iF Tryz.func27 (by kernel_rfl)
def i28:i_i 28 an28:=iF Tryz.func28 (by kernel_rfl)
def i29:i_i 29 an29:=iF Tryz.func29 (by kernel_rfl)
def i30:i_i 30 an30:=iF Tryz.func30 (by kernel_rfl)
def i31:i_i 31 an31:=iF Tryz.func31 (by kernel_rfl)
def i32:i_i 32 an32:=iF Tryz.func32 (by kernel_rfl)
def i33:i_i 33 an33:=iF Tryz.func33 (by kernel_rfl)
def i34:i_i 34 an34:=iF Tryz.func34 (by kernel_rfl)
def i35:i_i 35 an35:=iF Tryz.func35 (by kernel_rfl)
def i36:i_i 36 an36:=iF Tryz.func36 (by kernel_rfl)
def i37:i_i 37 an37:=iF Tryz.func37 (by kernel_rfl)
def i38:i_i 38 an38:=iF Tryz.func38 (by kernel_rfl)
def i39:i_i 39 an39:=iF Tryz.func39 (by kernel_rfl)
def i41:i_i 41 an41:=iF Tryz.func41 (by kernel_rfl)
def i42:i_i 42 an42:=iF Tryz.func42 (by kernel_rfl)
def i43:i_i 43 an43:=iF Tryz.func43 (by kernel_rfl)
def i44:i_i 44 an44:=iF Tryz.func44 (by kernel_rfl)
def i45:i_i 45 an45:=iF Tryz.func45 (by kernel_rfl)
def i46:i_i 46 an46:=iF Tryz.func46 (by kernel_rfl)
def i47:i_i 47 an47:=iF Tryz.func47 (by kernel_rfl)
def i48:i_i 48 an48:=iF Tryz.func48 (by kernel_rfl)
def i49:i_i 49 an49:=iF Tryz.func49 (by kernel_rfl)
def i50:i_i 50 an50:=iF Tryz.func50 (by kernel_rfl)
def i51:i_i 51 an51:=iF Tryz.func51 (by kernel_rfl)
def i52:i_i 52 an52:=iF Tryz.func52 (by kernel_rfl)
def i53:i_i 53 an53:=iF Tryz.func53 (by kernel_rfl)
def i54:i_i 54 an54:=iF Tryz.func54 (by kernel_rfl)
def i57:i_i 57 an57:=iF Tryz.func57 (by kernel_rfl)
def i58:i_i 58 an58:=iF Tryz.func58 (by kernel_rfl)
def i59:i_i 59 an59:=iF Tryz.func59 (by kernel_rfl)
def i60:i_i 60 an60:=iF Tryz.func60 (by kernel_rfl)
def i61:i_i 61 an61:=iF Tryz.func61 (by kernel_rfl)
def i62:i_i 62 an62:=iF Tryz.func62 (by kernel_rfl)
def i63:i_i 63 an63:=iF Tryz.func63 (by kernel_rfl)
def i64:i_i 64 an64:=iF Tryz.func64 (by kernel_rfl)
def i65:i_i 65 an65:=iF Tryz.func65 (by kernel_rfl)
def i67:i_i 67 an67:=iF Tryz.func67 (by kernel_rfl)
def i68:i_i 68 an68:=iF Tryz.func68 (by kernel_rfl)
def i69:i_i 69 an69:=iF Tryz.func69 (by kernel_rfl)
def i70:i_i 70 an70:=iF Tryz.func70 (by kernel_rfl)
def i71:i_i 71 an71:=iF Tryz.func71 (by kernel_rfl)
def i72:i_i 72 an72:=iF Tryz.func72 (by kernel_rfl)
def i73:i_i 73 an73:=iF Tryz.func73 (by kernel_rfl)
def i74:i_i 74 an74:=iF Tryz.func74 (by kernel_rfl)
def i75:i_i 75 an75:=iF Tryz.func75 (by kernel_rfl)
def i77:i_i 77 an77:=iF Tryz.func77 (by kernel_rfl)
def i78:i_i 78 an78:=iF Tryz.func78 (by kernel_rfl)
def i79:i_i 79 an79:=iF Tryz.func79 (by kernel_rfl)
def i80:i_i 80 an80:=iF Tryz.func80 (by kernel_rfl)
def i81:i_i 81 an81:=iF Tryz.func81 (by kernel_rfl)
def i82:i_i 82 an82:=iF Tryz.func82 (by kernel_rfl)
def i84:i_i 84 an84:=iF Tryz.func84 (by kernel_rfl)
def i86:i_i 86 an86:=iF Tryz.func86 (by kernel_rfl)
def i88:i_i 88 an88:=iF Tryz.func88 (by kernel_rfl)
def i89:i_i 89 an89:=iF Tryz.func89 (by kernel_rfl)
def i90:i_i 90 an90:=iF Tryz.func90 (by kernel_rfl)
def i91:i_i 91 an91:=iF Tryz.func91 (by kernel_rfl)
def i92:i_i 92 an92:=iF Tryz.func92 (by kernel_rfl)
def i93:i_i 93 an93:=iF Tryz.func93 (by kernel_rfl)
def i94:i_i 94 an94:=iF Tryz.func94 (by kernel_rfl)
def i95:i_i 95 an95:=iF Tryz.func95 (by kernel_rfl)
def i96:i_i 96 an96:=iF Tryz.func96 (by kernel_rfl)
def i97:i_i 97 an97:=iF Tryz.func97 (by kernel_rfl)
def i98:i_i 98 an98:=iF Tryz.func98 (by kernel_rfl)
def i99:i_i 99 an99:=iF Tryz.func99 (by kernel_rfl)
def i100:i_i 100 an100:=iF Tryz.func100 (by kernel_rfl)
def i101:i_i 101 an101:=iF Tryz.func101 (by kernel_rfl)
def i102:i_i 102 an102:=iF Tryz.func102 (by kernel_rfl)
def i103:i_i 103 an103:=iF Tryz.func103 (by kernel_rfl)
def i104:i_i 104 an104:=iF Tryz.func104 (by kernel_rfl)
def i105:i_i 105 an105:=iF Tryz.func105 (by kernel_rfl)
def i106:i_i 106 an106:=iF Tryz.func106 (by kernel_rfl)
def i107:i_i 107 an107:=iF Tryz.func107 (by kernel_rfl)
def i108:i_i 108 an108:=iF Tryz.func108 (by kernel_rfl)
def i109:i_i 109 an109:=iF Tryz.func109 (by kernel_rfl)
def i110:i_i 110 an110:=iF Tryz.func110 (by kernel_rfl)
def i111:i_i 111 an111:=iF Tryz.func111 (by kernel_rfl)
def i112:i_i 112 an112:=iF Tryz.func112 (by kernel_rfl)
def i113:i_i 113 an113:=iF Tryz.func113 (by kernel_rfl)
def i115:i_i 115 an115:=iF Tryz.func115 (by kernel_rfl)
def i116:i_i 116 an116:=iF Tryz.func116 (by kernel_rfl)
def i117:i_i 117 an117:=iF Tryz.func117 (by kernel_rfl)
def i118:i_i 118 an118:=iF Tryz.func118 (by kernel_rfl)
def i120:i_i 120 an120:=iF Tryz.func120 (by kernel_rfl)
def i121:i_i 121 an121:=iF Tryz.func121 (by kernel_rfl)
def i122:i_i 122 an122:=iF Tryz.func122 (by kernel_rfl)
def i123:i_i 123 an123:=iF Tryz.func123 (by kernel_rfl)
def i124:i_i 124 an124:=iF Tryz.func124 (by kernel_rfl)
def i125:i_i 125 an125:=iF Tryz.func125 (by kernel_rfl)
def i126:i_i 126 an126:=iF Tryz.func126 (by kernel_rfl)
def i127:i_i 127 an127:=iF Tryz.func127 (by kernel_rfl)
def i128:i_i 128 an128:=iF Tryz.func128 (by kernel_rfl)
def i129:i_i 129 an129:=iF Tryz.func129 (by kernel_rfl)
def i130:i_i 130 an130:=iF Tryz.func130 (by kernel_rfl)
def i131:i_i 131 an131:=iF Tryz.func131 (by kernel_rfl)
def e11:@f11=e_f 11 an11:=by kernel_rfl
def e13:@f13=e_f 13 an13:=by kernel_rfl
def e16:@f16=e_f 16 an16:=by kernel_rfl
def e18:@f18=e_f 18 an18:=by kernel_rfl
def e21:@f21=e_f 21 an21:=by kernel_rfl
def e27:@f27=e_f 27 an27:=by kernel_rfl
def e32:@f32=e_f 32 an32:=by kernel_rfl
def e39:@f39=e_f 39 an39:=by kernel_rfl
def e42:@f42=e_f 42 an42:=by kernel_rfl
def e43:@f43=e_f 43 an43:=by kernel_rfl
def e44:@f44=e_f 44 an44:=by kernel_rfl
def e50:@f50=e_f 50 an50:=by kernel_rfl
def e67:@f67=e_f 67 an67:=by kernel_rfl
def e73:@f73=e_f 73 an73:=by kernel_rfl
def e75:@f75=e_f 75 an75:=by kernel_rfl
def e103:@f103=e_f 103 an103:=by kernel_rfl
def e107:@f107=e_f 107 an107:=by kernel_rfl
def e129:@f129=e_f 129 an129:=by kernel_rfl
def e10:@f10=e_f 10 an10:=by kernel_rfl
def e20:@f20=e_f 20 an20:=by kernel_rfl
def e24:@f24=e_f 24 an24:=by kernel_rfl
def e37:@f37=e_f 37 an37:=by kernel_rfl
def e47:@f47=e_f 47 an47:=by kernel_rfl
def e48:@f48=e_f 48 an48:=by kernel_rfl
def e53:@f53=e_f 53 an53:=by kernel_rfl
def e61:@f61=e_f 61 an61:=by kernel_rfl
def e64:@f64=e_f 64 an64:=by kernel_rfl
def e69:@f69=e_f 69 an69:=by kernel_rfl
def e70:@f70=e_f 70 an70:=by kernel_rfl
def e74:@f74=e_f 74 an74:=by kernel_rfl
def e81:@f81=e_f 81 an81:=by kernel_rfl
def e91:@f91=e_f 91 an91:=by kernel_rfl
def e94:@f94=e_f 94 an94:=by kernel_rfl
def e95:@f95=e_f 95 an95:=by kernel_rfl
def e104:@f104=e_f 104 an104:=by kernel_rfl
def e109:@f109=e_f 109 an109:=by kernel_rfl
def e117:@f117=e_f 117 an117:=by kernel_rfl
def e123:@f123=e_f 123 an123:=by kernel_rfl
def e127:@f127=e_f 127 an127:=by kernel_rfl
def e5:@f5=e_f 5 an5:=by kernel_rfl
def e12:@f12=e_f 12 an12:=by kernel_rfl
def e17:@f17=e_f 17 an17:=by kernel_rfl
def e19:@f19=e_f 19 an19:=by kernel_rfl
def e23:@f23=e_f 23 an23:=by kernel_rfl
def e26:@f26=e_f 26 an26:=by kernel_rfl
def e28:@f28=e_f 28 an28:=by kernel_rfl
def e31:@f31=e_f 31 an31:=by kernel_rfl
def e33:@f33=e_f 33 an33:=by kernel_rfl
def e38:@f38=e_f 38 an38:=by kernel_rfl
def e45:@f45=e_f 45 an45:=by kernel_rfl
def e62:@f62=e_f 62 an62:=by kernel_rfl
def e63:@f63=e_f 63 an63:=by kernel_rfl
def e68:@f68=e_f 68 an68:=by kernel_rfl
def e79:@f79=e_f 79 an79:=by kernel_rfl
def e102:@f102=e_f 102 an102:=by kernel_rfl
def e105:@f105=e_f 105 an105:=by kernel_rfl
def e108:@f108=e_f 108 an108:=by kernel_rfl
def e111:@f111=e_f 111 an111:=by kernel_rfl
def e130:@f130=e_f 130 an130:=by kernel_rfl
def e15:@f15=e_f 15 an15:=by kernel_rfl
def e25:@f25=e_f 25 an25:=by kernel_rfl
def e34:@f34=e_f 34 an34:=by kernel_rfl
def e35:@f35=e_f 35 an35:=by kernel_rfl
def e49:@f49=e_f 49 an49:=by kernel_rfl
def e52:@f52=e_f 52 an52:=by kernel_rfl
def e57:@f57=e_f 57 an57:=by kernel_rfl
def e58:@f58=e_f 58 an58:=by kernel_rfl
def e80:@f80=e_f 80 an80:=by kernel_rfl
def e84:@f84=e_f 84 an84:=by kernel_rfl
def e88:@f88=e_f 88 an88:=by kernel_rfl
def e89:@f89=e_f 89 an89:=by kernel_rfl
def e98:@f98=e_f 98 an98:=by kernel_rfl
def e99:@f99=e_f 99 an99:=by kernel_rfl
def e101:@f101=e_f 101 an101:=by kernel_rfl
def e112:@f112=e_f 112 an112:=by kernel_rfl
def e118:@f118=e_f 118 an118:=by kernel_rfl
def e124:@f124=e_f 124 an124:=by kernel_rfl
def e128:@f128=e_f 128 an128:=by kernel_rfl
def e6:@f6=e_f 6 an6:=by kernel_rfl
def e7:@f7=e_f 7 an7:=by kernel_rfl
def e8:@f8=e_f 8 an8:=by kernel_rfl
def e22:@f22=e_f 22 an22:=by kernel_rfl
def e29:@f29=e_f 29 an29:=by kernel_rfl
def e41:@f41=e_f 41 an41:=by kernel_rfl
def e46:@f46=e_f 46 an46:=by kernel_rfl
def e60:@f60=e_f 60 an60:=by kernel_rfl
def e65:@f65=e_f 65 an65:=by kernel_rfl
def e71:@f71=e_f 71 an71:=by kernel_rfl
def e72:@f72=e_f 72 an72:=by kernel_rfl
def e77:@f77=e_f 77 an77:=by kernel_rfl
def e78:@f78=e_f 78 an78:=by kernel_rfl
def e90:@f90=e_f 90 an90:=by kernel_rfl
def e100:@f100=e_f 100 an100:=by kernel_rfl
def e106:@f106=e_f 106 an106:=by kernel_rfl
def e110:@f110=e_f 110 an110:=by kernel_rfl
def e126:@f126=e_f 126 an126:=by kernel_rfl
def e131:@f131=e_f 131 an131:=by kernel_rfl
def e3:@f3=e_f 3 an3:=by kernel_rfl
def e9:@f9=e_f 9 an9:=by kernel_rfl
def e30:@f30=e_f 30 an30:=by kernel_rfl
def e36:@f36=e_f 36 an36:=by kernel_rfl
def e51:@f51=e_f 51 an51:=by kernel_rfl
def e54:@f54=e_f 54 an54:=by kernel_rfl
def e59:@f59=e_f 59 an59:=by kernel_rfl
def e82:@f82=e_f 82 an82:=by kernel_rfl
def e86:@f86=e_f 86 an86:=by kernel_rfl
def e92:@f92=e_f 92 an92:=by kernel_rfl
def e93:@f93=e_f 93 an93:=by kernel_rfl
def e96:@f96=e_f 96 an96:=by kernel_rfl
def e97:@f97=e_f 97 an97:=by kernel_rfl
def e113:@f113=e_f 113 an113:=by kernel_rfl
def e115:@f115=e_f 115 an115:=by kernel_rfl
def e116:@f116=e_f 116 an116:=by kernel_rfl
def e120:@f120=e_f 120 an120:=by kernel_rfl
def e121:@f121=e_f 121 an121:=by kernel_rfl
def e122:@f122=e_f 122 an122:=by kernel_rfl
def e125:@f125=e_f 125 an125:=by kernel_rfl
end Go.Am
namespace Go.Am
namespace Sx
def unL(P:TE)(un:TK->DataW Unit->Option (Tl)):List (Nat×TypeId)->List (DataW Unit)->Nat->Option (Tl)
 | [],[],_=>some []
 |(o,t) :: l,d :: ds,off=>match Nat.beq o off,un t d with
  |true,some v=>match Nat.beq v.length (P.cellsOf t),unL P un l ds (off+v.length)with
   |true,some vs=>some (v++vs)
   |_,_=>none
  |_,_=>none
 |_,_,_=>none
def unD(P:TE):Nat->TK->DataW Unit->Option (Tl)
 |0,_,_=>none
 |fu+1,t,d=>match P.underlying t,d with
  |some .bool,.lit (.bool b)=>some [.bool b]
  |some (.int k),.lit (.int _ n)=>some [.int k n]
  |some (.struct fs),.agg ds=>match unL P (unD P fu) (fs.toList.map λf=>(f.offset,f.type)) ds 0 with
   |some vs=>if vs.length=P.cellsOf t then some vs else none
   |none=>none
  |some (.array n e),.agg ds=>match unL P (unD P fu) ((List.range n).map λi=>(i*P.cellsOf e,e)) ds 0 with
   |some vs=>if vs.length=P.cellsOf t then some vs else none
   |none=>none
  |_,_=>none
section
variable {P:TE} {w:World} {base:Nat} {spare:Ty} {held:Bool} {enc:TypeId×Value->Unit}
def seg_ok{un:TK->DataW Unit->Option (Tl)}{fuel:Nat}(hun:∀t d vs,un t d=some vs->∀cs p,DataW.trod enc P w base spare held fuel t cs=some (d,p)->cs=vs){α:Type}(o:α->Nat)(ty:α->TK)(cs:Tl) :
  ∀(l:List α) (xs:List (DataW Unit×List MemPlace)) (off:Nat) (vs:Tl),l.mapM (λa=>DataW.trod enc P w base spare held fuel (ty a) ((cs.drop (o a)).take (P.cellsOf (ty a))))=some xs->
   unL P un (l.map λa=>(o a,ty a)) (xs.map (·.1)) off=some vs->(cs.drop off).take vs.length=vs
 | [],xs,off,vs,h1,h2=>by
  simp only[qdh,qc6,qas]at h1
  subst h1
  simp only[qbs,unL,qas]at h2
  subst h2
  simp
 |a :: l,xs,off,vs,h1,h2=>by
  rw[qbT]at h1
  obtain⟨x,h3,h1⟩:=qar.1 h1
  obtain⟨ys,h4,h1⟩:=qar.1 h1
  cases h1
  simp only[qau,unL]at h2
  split at h2
  next v e1 e2=>
   split at h2
   next ws e3 e4=>
    cases h2
    have e1:=qad e1
    have e3:=qad e3
    have hv:=hun _ _ _ e2 _ _ h3
    have ih:=seg_ok hun o ty cs l ys _ _ h4 e4
    rw[e1,←e3]at hv
    rw[qaC,qdi,hv,qbS]
    rw[ih]
   ·cases h2
  ·cases h2
def unD_ok:∀(fu:Nat) (t:TK) (d:DataW Unit) (vs:Tl),unD P fu t d=some vs->∀(fuel:Nat) (cs:Tl) (p:List MemPlace),DataW.trod enc P w base spare held fuel t cs=some (d,p)->cs=vs
 |0,_,_,_,h=>by cases h
 |fu+1,t,d,vs,h=>by
  intro fuel cs p hp
  cases fuel with
  |zero=>simp[DataW.trod]at hp
  |succ fuel=>
   have hun:∀t d vs,unD P fu t d=some vs->∀cs p,DataW.trod enc P w base spare held fuel t cs=some (d,p)->cs=vs:=λt d vs h cs p=>unD_ok fu t d vs h fuel cs p
   simp only[unD]at h
   split at h
   next b e=>
    cases h
    simp only[DataW.trod,e]at hp
    split at hp<;>simp_all
   next k k' n e=>
    cases h
    simp only[DataW.trod,e]at hp
    split at hp<;>first|cases hp|skip
    all_goals first
     |(split at hp<;>first|(rename_i hh;simp at hp;obtain⟨⟨rfl,rfl⟩,_⟩:=hp;rw[hh.1];done)|(cases hp;done))
     |simp_all
   next fs ds e=>
    split at h
    next ws e2=>
     split at h
     next e3=>
      cases h
      simp only[DataW.trod,e]at hp
      split at hp
      next e4=>
       obtain⟨xs,h5,h6⟩:=qac.1 hp
       simp only[qb6,DataW.agg.injEq]at h6
       rw[←h6.1]at e2
       have:=seg_ok hun (λf:Field=>f.offset) (λf:Field=>f.type) cs _ xs 0 _ h5 e2
       rw[qa1,qaQ (by omega)]at this
       exact this
      ·cases hp
     ·cases h
    ·cases h
   next n el ds e=>
    split at h
    next ws e2=>
     split at h
     next e3=>
      cases h
      simp only[DataW.trod,e]at hp
      split at hp
      next e4=>
       obtain⟨xs,h5,h6⟩:=qac.1 hp
       simp only[qb6,DataW.agg.injEq]at h6
       rw[←h6.1]at e2
       have:=seg_ok hun (λi=>i*P.cellsOf el) (λ_=>el) cs _ xs 0 _ h5 e2
       rw[qa1,qaQ (by omega)]at this
       exact this
      ·cases hp
     ·cases h
    ·cases h
   ·cases h
end
section
variable [Val]
def mQ [Glo]{W:World}{g:Nat}{vs:Tl}(h0:Nat.blt g gB=true)(h1:vs.all aX=true)(h2:vs.all flat=true)(h:∃c e fr,W.heap[g]?=some (.cells c e fr)/\c.toList=vs) :
  gBlk g<W.heap.size/\vs.all aX=true/\∃c e fr,W.heap[gBlk g]?=some (.cells c e fr)/\bL (λ_=>none) vs c (gOff g):=by
 obtain⟨c,e,fr,h3,h4⟩:=h
 rw[ul h0,um h0]
 refine⟨(qat.1 h3).1,h1,c,e,fr,h3,.of_list ?_⟩
 rw[h4]
 exact⟨rfl,λi x y hx hy=>by rw[hx]at hy;cases hy;exact .of_flat (qag.1 h2 x (qab hx))⟩
end
end Sx
namespace Sx
open Go.ChangeShapes Go.WideShapes Go.ChangeAt Go.WideMaps Go.WideElems Go.RowKit
def kept_of{W W':World}(h1:W'.os=W.os)(h2:W'.output=W.output)(h3:∀b,b<W.heap.size->W'.heap[b]?=W.heap[b]?)(may:MemPlace->Prop):W.keptBut W' may:=by
 refine⟨h1,h2,λi hi=>?_⟩
 rw[h3 i hi]
 exact(World.keptBut_refl W may).2.2 i hi
def kj{P:TE}{w:World}{laid:List (String×DataW Unit)}{ps:List MemPlace}(h:DataW.LaidVars P w laid ps):∀n d,(n,d)∈laid->∀g t fu vs,P.globalNamed n=some g->(P.globals[g]?).map (·.type)=some t->unD P fu t d=some vs->
  ∃c e fr,w.heap[g]?=some (.cells c e fr)/\c.toList=vs:=by
 induction laid generalizing ps with
 |nil=>intro n d h;cases h
 |cons x l ih=>
  obtain⟨n0,d0⟩:=x
  obtain⟨g0,t0,cs,fuel,p,q,a1,a2,a3,a4,a5,a6⟩:=h
  intro n d hm g t fu vs b1 b2 b3
  rcases qal.1 hm with e|hm
  ·cases e
   rw[a1]at b1;cases b1
   rw[a2]at b2;cases b2
   have hc:=unD_ok fu _ _ vs b3 _ _ _ a4
   unfold World.var? at a3
   rw[a1]at a3
   simp only[qak]at a3
   split at a3
   next c ty fr e=>
    cases a3
    exact⟨_,_,_,e,hc⟩
   ·cases a3
  ·exact ih a5 n d hm g t fu vs b1 b2 b3
section
variable [Val] [Kno]
def ans_yes{t:Bool}(h:ans t=yes):t=true:=by cases t;cases h;rfl
end
end Sx
namespace Sx
section
variable [Val] [Kno]
def condP(b:Bool)(x y:Prop):Prop:=(b=true->x)/\(b=false->y)
abbrev _root_.Tu:=Int->Prop
def ariP(op:BinOp)(k:TH)(a b:Int)(K:Tu):Prop:=
 match op with
 | .add=>K (k.wrap (a+b))
 | .sub=>K (k.wrap (a - b))
 | .mul=>K (k.wrap (a*b))
 | .quo=>b≠0/\K (k.wrap (a.tdiv b))
 | .rem=>b≠0/\K (a.tmod b)
 | .and=>(b=1/\K (a%2))∨(b≠1/\∃n,pR .and k a b n/\K n)
 |op=>∃n,pR op k a b n/\K n
abbrev _root_.To:=Bool->Prop
def cmpP(op:BinOp)(a b:Int)(K:To):Prop:=
 match op with
 | .eql=>K (a==b)
 | .neq=>K (a != b)
 | .lss=>K (decide (a<b))
 | .leq=>K (decide (a<=b))
 | .gtr=>K (decide (a > b))
 | .geq=>K (decide (a ≥ b))
 |_=>False
def optP{α:Type}(o:Option α)(K:α->Prop):Prop:=∃x,o=some x/\K x
def unIP(ls:TD)(K:Int->TD->Prop):Prop:=match ls with | .i n :: r=>K n r|_=>False
def unBP(ls:TD)(K:Bool->TD->Prop):Prop:=match ls with | .b n :: r=>K n r|_=>False
def unVP(ls:TD)(K:Value->TD->Prop):Prop:=match ls with | .v n :: r=>K n r|_=>False
def un0P(ls:TD)(K:Prop):Prop:=match ls with | []=>K|_=>False
def ucIP(k:TH)(ls:Tl)(K:Int->Tl->Prop):Prop:=match ls with | .int k' n :: r=>k=k'/\K n r|_=>False
def ucBP(ls:Tl)(K:Bool->Tl->Prop):Prop:=match ls with | .bool n :: r=>K n r|_=>False
def ucVP(ls:Tl)(K:Value->Tl->Prop):Prop:=match ls with|n :: r=>K n r|_=>False
def uc0P(ls:Tl)(K:Prop):Prop:=match ls with | []=>K|_=>False
def getL(h:Ts):bV:=λi=>h[i]?
abbrev _root_.Te:=List Value->Prop
def peekP(f:Pk)(h:Ts)(K:Te):Prop:=∃cs,f.run (getL h)=some cs/\K cs
def heapP(f:Hp)(h:Ts)(K:Tl->Ts->Prop):Prop:=∃acts cs,f.run (getL h) h.length=some (acts,cs)/\K cs (fY h acts)
def callP(C:Cfg)(Sg:Tc)(g:TM)(ls:TD)(h:Ts)(K:TD->Ts->Prop):Prop:=∃rs h',aK C Sg g ls h rs h'/\K rs h'
def callvP(C:Cfg)(v:Value)(args:Tl)(hs:TI)(h:Ts)(K:TD->Ts->Prop):Prop:=∃rs h',tR C v args hs h rs h'/\K rs h'
def itP(F:(TD->Ts->Prop)->TD->Ts->Prop)(n:Nat):TD->Ts->Prop:=
 match n with
 |0=>λ_ _=>False
 |n+1=>F (itP F n)
def loopP(F:(TD->Ts->Prop)->TD->Ts->Prop)(ls:TD)(h:Ts):Prop:=∃n,itP F n ls h
def rfunP(C:Cfg)(T:Tt)(κ:Nat)(v:Value)(vals:Tl)(h:Ts)(K:Tk->Ts->Prop):Prop:=
 ∃g first cap r H1 lp,v = .func (.func g) first cap/\
  ip C g (first.toList++[.func (.yield h.length) #[] #[]]++cap.toList) (h++[.loop (lpOf (T κ) κ vals)]) r H1/\
  ed H1 h.length=some lp/\lp.state≠.busy/\K lp.pending (H1.set h.length (.loop { lp with state:=.exhausted }))
def pendP(pd:Tk)(kn kr:Prop)(ks:List (Nat×Prop)):Prop:=
 match pd with
 |none=>kn
 |some .ret=>kr
 |some (.exit id)=>∃x,(id,x)∈ks/\x
 |_=>False
def lp1P(l:Nat)(h:Ts)(K:Ts->Prop):Prop:=∃lp,ed h l=some lp/\lp.state = .ready/\K (h.set l (.loop { lp with state:=.busy }))
def lp2P(l:Nat)(j:Tk)(h:Ts)(K:Ts->Prop):Prop:=∃lp,ed h l=some lp/\K (h.set l (.loop { lp with state:=if j.isNone then .ready else .done,pending:=j }))
def PA(C:Cfg)(Sg:Tc)(T:Tt):Alg Prop (Ts) where
 fail:=False
 cond:=condP
 ari:=ariP
 shf:=λop k a k' b K=>∃n,ShRun op k a k' b n/\K n
 cmp:=cmpP
 eqs:=λl K=>K (cp l)
 conv:=λk a K=>K (k.wrap a)
 sel:=λt a b K=>K (if t then a else b)
 opt:=optP
 chk:=λv K=>aW v=true/\K
 unI:=unIP
 unB:=unBP
 unV:=unVP
 un0:=un0P
 ucI:=ucIP
 ucB:=ucBP
 ucV:=ucVP
 uc0:=uc0P
 peek:=peekP
 heap:=heapP
 new:=λo h K=>K h.length (h++[o])
 call:=callP C Sg
 callv:=callvP C
 join:=λb m=>m b
 loop:=loopP
 rfun:=rfunP C T
 pend:=pendP
 lp1:=lp1P
 lp2:=lp2P
def fA(C:Cfg)(Sg:Tc)(T:Tt):AlgOk (PA C Sg T) C Sg T id id where
 fail:=λh=>h
 cond:=by
  intro b x y h
  cases b
  ·exact .inr ⟨rfl,h.2 rfl⟩
  ·exact .inl ⟨rfl,h.1 rfl⟩
 ari:=by
  intro op k a b K h
  have h:ariP op k a b K:=h
  cases op<;>simp only[ariP]at h
  ·exact⟨_,λP t w=>by simp[binOp,Op.intArith],h⟩
  ·exact⟨_,λP t w=>by simp[binOp,Op.intArith],h⟩
  ·exact⟨_,λP t w=>by simp[binOp,Op.intArith],h⟩
  ·obtain⟨hb,h⟩:=h
   exact⟨_,λP t w=>by simp[binOp,Op.intDiv,hb],h⟩
  ·obtain⟨hb,h⟩:=h
   exact⟨_,λP t w=>by simp[binOp,Op.intDiv,hb],h⟩
  ·rcases h with⟨rfl,h'⟩|⟨_,n,h1,h2⟩
   ·exact⟨_,nE rfl,h'⟩
   ·exact⟨n,h1,h2⟩
  all_goals exact h
 shf:=λop k a k' b K h=>h
 cmp:=by
  intro op a b K h
  have h:cmpP op a b K:=h
  cases op<;>simp only[cmpP]at h<;>exact⟨_,rfl,h⟩
 eqs:=λl K h=>h
 conv:=λk a K h=>h
 sel:=λt a b K h=>h
 opt:=λo K h=>h
 chk:=λv K h=>h
 unI:=by
  intro ls K h
  match ls,h with
  | .i n :: r,h=>exact⟨n,r,rfl,h⟩
 unB:=by
  intro ls K h
  match ls,h with
  | .b n :: r,h=>exact⟨n,r,rfl,h⟩
 unV:=by
  intro ls K h
  match ls,h with
  | .v n :: r,h=>exact⟨n,r,rfl,h⟩
 un0:=by
  intro ls K h
  match ls,h with
  | [],h=>exact⟨rfl,h⟩
 ucI:=by
  intro k ls K h
  match ls,h with
  | .int k' n :: r,h=>
   obtain⟨rfl,h⟩ : k=k'/\K n r:=h
   exact⟨n,r,rfl,h⟩
 ucB:=by
  intro ls K h
  match ls,h with
  | .bool n :: r,h=>exact⟨n,r,rfl,h⟩
 ucV:=by
  intro ls K h
  match ls,h with
  |n :: r,h=>exact⟨n,r,rfl,h⟩
 uc0:=by
  intro ls K h
  match ls,h with
  | [],h=>exact⟨rfl,h⟩
 peek:=λf h K hk=>hk
 heap:=by
  intro f h K hk
  obtain⟨acts,cs,h1,h2⟩:=hk
  exact⟨acts,cs,_,h1,rfl,h2⟩
 new:=λo h K hk=>⟨_,rfl,hk⟩
 call:=λg ls h K hk=>hk
 callv:=λv args hs h K hk=>hk
 join:=λb m h=>h
 loop:=by
  intro F ls h hk
  obtain⟨n,hk⟩:=hk
  exact⟨itP F,λls h=>(id:False->False),λn ls h=>rfl,n,hk⟩
 rfun:=by
  intro κ v vals h K hk
  obtain⟨g,first,cap,r,H1,lp,h1,h2,h3,h4,h5⟩:=hk
  exact⟨g,first,cap,r,H1,lp,_,h1,h2,h3,h4,rfl,h5⟩
 pend:=by
  intro pd kn kr ks h
  have h:pendP pd kn kr ks:=h
  unfold pendP at h
  split at h
  ·exact .inl ⟨rfl,h⟩
  ·exact .inr (.inl ⟨rfl,h⟩)
  ·obtain⟨x,h1,h2⟩:=h
   exact .inr (.inr ⟨_,x,rfl,h1,h2⟩)
  ·exact h.elim
 lp1:=by
  intro l h K hk
  obtain⟨lp,h1,h2,h3⟩:=hk
  exact⟨lp,_,h1,h2,rfl,h3⟩
 lp2:=by
  intro l j h K hk
  obtain⟨lp,h1,h2⟩:=hk
  exact⟨lp,_,h1,rfl,h2⟩
def SL.plain_scalar{l:SL}{k:LK}(h:l.is k=true)(hk:k.plain=true):scalar l.val=true:=by
 cases l<;>cases k<;>first|(cases hk;done)|(cases h;done)|rfl
def kQ:∀ {cs:List SL} {ks:TG},aT cs ks=true->ks.all LK.plain=true->(cs.map SL.val).all scalar=true
 | [],[],_,_=>rfl
 |c :: cs,k :: ks,h,hk=>by
  simp only[aT,qaa]at h
  simp only[qbU,qaa]at hk
  simp only[qau,qbU,qaa]
  exact⟨SL.plain_scalar h.1 hk.1,kQ h.2 hk.2⟩
 | [],_ :: _,h,_=>by cases h
 |_ :: _,[],h,_=>by cases h
def S0.plain_flat1{x:S0}{k:SK}(h:x.is k=true)(hk:k.plain=true):eM x.val=true:=by
 cases x with
 |leaf l=>
  cases k with
  |leaf k=>
   have:=SL.plain_scalar h hk
   show eM l.val=true
   cases hv:l.val<;>rw[hv]at this<;>first|exact this|cases this
  |agg _=>cases h
 |agg cs=>
  cases k with
  |leaf k=>cases h
  |agg ks=>exact kQ h hk
def ji{v:Value}(h:eM v=true):flat v=true:=by
 cases v<;>first|exact h|cases h
def fD:∀ {xs:List S0} {sks:TI},ca xs sks=true->sks.all SK.plain=true->(ah xs).all eM=true
 | [],[],_,_=>rfl
 |x :: xs,k :: ks,h,hk=>by
  simp only[ca,qaa]at h
  simp only[qbU,qaa]at hk
  simp only[ah,qau,qbU,qaa]
  exact⟨S0.plain_flat1 h.1 hk.1,fD h.2 hk.2⟩
 | [],_ :: _,h,_=>by cases h
 |_ :: _,[],h,_=>by cases h
def wO{xs:List S0}{sks:TI}(h:ca xs sks=true)(hk:sks.all SK.plain=true):(ah xs).all flat=true:=by
 have:=fD h hk
 rw[qag]at this ⊢
 exact λv hv=>ji (this v hv)
def pn{vs:Tl}(h:vs.all eM=true):flat (fq vs)=true:=by
 match vs,h with
 | [],_=>rfl
 | [v],h=>
  simp only[qbU,List.all_nil,qdu]at h
  exact ji h
 |a :: b :: l,h=>
  show flat (.tuple (a :: b :: l).toArray)=true
  simp only[flat,qaa]
  exact⟨by simp,h⟩
end
@[reducible] def KnoC (C:Cfg) (N:Tb) [Val]:Kno:=⟨λf args r=>∀H,cO C f args H r H,λf args H r H'=>(N f=none∨(N f=some (2*args.length+1)/\H'=H))/\cO C f args H r H'⟩
section
variable [Val]
def Ct(C:Cfg)(N:Tb)(Sg:Tc)(g:TM)(ls rs:TD):Prop:=let _:Kno:=KnoC C N;∀H,aK C Sg g ls H rs H
def jG{C:Cfg}{N:Tb}(hm:C.P.follows .mixedOrders=true){f:TM}{args:Tl}{H:Ts}{r:Value}{H':Ts}(h:let _:Kno:=KnoC C N;ip C f args H r H'):cO C f args H r H':=
 @uCall_ok _ _ (KnoC C N) hm (λ_ _ _ h=>h) (λ_ _ _ _ _ h=>h.2) _ _ _ _ _ h
def ct_of{C:Cfg}{N:Tb}{Sg:Tc}(hm:C.P.follows .mixedOrders=true)(hG:∀g vs,C.G g=some vs->vs.all gfl=true){g:TM}{sg:Sig}(hs:Sg g=some sg)(hp:sg.plain=true){ls rs:TD}{H':Ts}
  (h:let _:Kno:=KnoC C N;aK C Sg g ls [] rs H'):Ct C N Sg g ls rs:=by
 let _:Kno:=KnoC C N
 obtain⟨sg',xs,ys,c1,c2,c3,c4⟩:=h
 rw[hs]at c1
 cases c1
 simp only[Sig.plain,qaa]at hp
 have ha:=wO c2.1 hp.1
 have hr:=pn (fD c3.1 hp.2)
 intro H
 exact⟨sg,xs,ys,hs,c2,c3,⟨0,.inl ⟨λH=>frame_ok hG (jG hm c4) ha hr H,rfl⟩⟩⟩
end
section
variable [Val] [Kno]
def cS{n:Int}(h1:-9223372036854775808<=n)(h2:n<=9223372036854775807):IntKind.wrap .i64 n=n:=by
 simp only[IntKind.wrap,IntKind.bits,IntKind.signed,qdf,ge_iff_le,qdv]
 split<;>omega
def rK{n:Int}(h1:0<=n)(h2:n<=255):IntKind.wrap .u8 n=n:=by
 simp only[IntKind.wrap,IntKind.bits,IntKind.signed,Bool.false_and,qam,if_false]
 omega
end
end Sx
namespace Sx
section
variable [Val]
def renV(σ:TB)(v:Value):Value:=match v with
 | .slice (some a) len cx=>.slice (some ⟨σ a.block,a.off,a.spot⟩) len cx
 |v=>v
def oe(σ:TB):SL->SL
 | .v x=>.v (renV σ x)
 |s=>s
def renS(σ:TB):S0->S0
 | .leaf l=>.leaf (oe σ l)
 | .agg cs=>.agg (cs.map (oe σ))
def renL(σ:TB):Lf->Lf
 | .v x=>.v (renV σ x)
 |l=>l
def OkV(n:Nat)(v:Value):Prop:=(flat v=true/\∀σ,renV σ v=v)∨∃j off len cx e,j<n/\v = .slice (some ⟨j,off,tag e⟩) len cx
def OkL(n:Nat):Lf->Prop
 | .v x=>OkV n x
 |_=>True
def vr_ren [Glo]{n:Nat}{σ:TB}{mu mu0:HMap}(hmu:∀j,j<n->mu0 j=mu (σ j)){v c:Value}(hv:OkV n v)(h:VR noL mu (renV σ v) c):VR noL mu0 v c:=by
 rcases hv with⟨h1,h2⟩|⟨j,off,len,cx,e,hj,rfl⟩
 ·rw[h2]at h
  rw[fg h1 h]
  exact .of_flat h1
 ·have h:VR noL mu (.slice (some ⟨σ j,off,tag e⟩) len cx) c:=h
  generalize ht:tag e=t at h ⊢
  cases h with
  |hslice q1 q2 q3 q4=>exact .hslice ((hmu j hj).trans q1) q2 q3 q4
  |hslice0 q1=>exact .hslice0 q1
  |gslice _=>simp[tag]at ht
  |gslice0=>simp[tag]at ht
  |scalar q=>simp[scalar]at q
def tL{σ:TB}(l:SL)(k:LK):(oe σ l).is k=l.is k:=by cases l<;>cases k<;>rfl
def rU{σ:TB}:∀(cs:List SL) (ks:TG),aT (cs.map (oe σ)) ks=aT cs ks
 | [],[]=>rfl
 | [],_ :: _=>rfl
 |_ :: _,[]=>rfl
 |c :: cs,k :: ks=>by simp only[qau,aT,tL,rU cs ks]
def is_ren{σ:TB}(x:S0)(k:SK):(renS σ x).is k=x.is k:=by
 cases x<;>cases k<;>first|rfl|exact tL _ _|exact rU _ _
def rW{σ:TB}:∀(xs:List S0) (ks:TI),ca (xs.map (renS σ)) ks=ca xs ks
 | [],[]=>rfl
 | [],_ :: _=>rfl
 |_ :: _,[]=>rfl
 |x :: xs,k :: ks=>by simp only[qau,ca,is_ren,rW xs ks]
def lf_ren{σ:TB}(l:SL):(oe σ l).lf=renL σ l.lf:=by cases l<;>rfl
def sf{σ:TB}(x:S0):(renS σ x).cells=x.cells.map (oe σ):=by cases x<;>rfl
def sS{σ:TB}:∀(xs:List S0),cg (xs.map (renS σ))=(cg xs).map (renL σ)
 | []=>rfl
 |x :: xs=>by
  simp only[qau,cg,qbL,sS xs,sf,qcC]
  congr 1
  exact qbD λl _=>lf_ren l
def sI{σ:TB}(x:Value):aW (renV σ x)=aW x:=by
 unfold renV
 split
 ·simp[aW,noLoc,bj,bB,bu,aS,aJ]
 ·rfl
def good_ren{σ:TB}{l:SL}(h:l.good):(oe σ l).good:=by
 cases l with
 |v x=>
  show aW (renV σ x)=true
  have h:aW x=true:=h
  unfold renV
  split
  ·simpa[aW,noLoc,bj,bB,bu,aS,aJ]using h
  ·exact h
 |_=>exact h
def vr_sl [Glo]{n:Nat}{σ:TB}{mu mu0:HMap}(hmu:∀j,j<n->mu0 j=mu (σ j)){l:SL}{c:Value}(hl:OkL n l.lf)(h:VR noL mu (oe σ l).val c):VR noL mu0 l.val c:=by
 cases l with
 |v x=>exact vr_ren hmu hl h
 |i k m=>
  have hf:flat (Value.int k m)=true:=rfl
  have h:VR noL mu (.int k m) c:=h
  rw[fg hf h];exact .of_flat hf
 |b t=>
  have hf:flat (Value.bool t)=true:=rfl
  have h:VR noL mu (.bool t) c:=h
  rw[fg hf h];exact .of_flat hf
 |l t=>
  have hf:flat (Value.bool t)=true:=rfl
  have h:VR noL mu (.bool t) c:=h
  rw[fg hf h];exact .of_flat hf
def vr_s0 [Glo]{n:Nat}{σ:TB}{mu mu0:HMap}(hmu:∀j,j<n->mu0 j=mu (σ j)){x:S0}{c:Value}(hx:∀l∈x.cells,OkL n l.lf)(h:VR noL mu (renS σ x).val c):VR noL mu0 x.val c:=by
 cases x with
 |leaf l=>exact vr_sl hmu (hx l (by simp[S0.cells])) h
 |agg cs=>
  have h:VR noL mu (.agg ⟨(cs.map (oe σ)).map SL.val⟩) c:=h
  generalize ha:(⟨(cs.map (oe σ)).map SL.val⟩ : Array Value)=a at h
  cases h with
  |scalar q=>simp[scalar]at q
  |agg hs h=>
   subst ha
   refine .agg (by simpa using hs) λi x y hx' hy=>?_
   have hi:(cs.map SL.val)[i]?=some x:=by simpa using hx'
   rw[qax]at hi
   cases e:cs[i]? with
   |none=>rw[e]at hi;cases hi
   |some l=>
    rw[e]at hi
    cases hi
    exact vr_sl hmu (hx l (qab e)) (h i _ y (by simp[e]) hy)
def vrs_ren [Glo]{n:Nat}{σ:TB}{mu mu0:HMap}(hmu:∀j,j<n->mu0 j=mu (σ j)){xs:List S0}{cs:Tl}(hx:∀x∈xs,∀l∈x.cells,OkL n l.lf)(h:VRs noL mu (ah (xs.map (renS σ))) cs):VRs noL mu0 (ah xs) cs:=by
 refine⟨by simpa[ah]using h.1,λi x y hi hy=>?_⟩
 unfold ah at hi
 rw[qax]at hi
 cases e:xs[i]? with
 |none=>rw[e]at hi;cases hi
 |some s=>
  rw[e]at hi
  cases hi
  exact vr_s0 hmu (hx s (qab e)) (h.2 i _ y (by simp[ah,e]) hy)
def lfsOf_mem{xs:List S0}{x:S0}{l:SL}(hx:x∈xs)(hl:l∈x.cells):l.lf∈cg xs:=by
 induction xs with
 |nil=>cases hx
 |cons y ys ih=>
  show l.lf∈y.cells.map SL.lf++cg ys
  rcases qal.1 hx with rfl|hx
  ·exact qaH _ (qck hl)
  ·exact qaK _ (ih hx)
def tW{C:Cfg}{N:Tb}{Sg:Tc}(hm:C.P.follows .mixedOrders=true)(hG:∀g vs,C.G g=some vs->vs.all gfl=true){g:TM}{sg:Sig}(hs:Sg g=some sg)(hp:sg.rs.all SK.plain=true)(hn:N g=none){ls0 rs:TD}{H0 H' H:Ts}(σ:TB)
  (h:let _:Kno:=KnoC C N;aK C Sg g ls0 H0 rs H')
  (h0:∀(j:Nat) (o:HObj),H0[j]?=some o->∃vs e rw,o = .cells vs e false/\vs.all flat=true/\H[σ j]?=some (.cells vs e rw))
  (hl:∀l∈ls0,OkL H0.length l):let _:Kno:=KnoC C N;aK C Sg g (ls0.map (renL σ)) H rs H:=by
 let _:Kno:=KnoC C N
 obtain⟨sg',xs,ys,c1,c2,c3,c4⟩:=h
 rw[hs]at c1
 cases c1
 have hr:=pn (fD c3.1 hp)
 have hx:∀x∈xs,∀l∈x.cells,OkL H0.length l.lf:=λx hx l hl'=>hl _ (by rw[←c2.2.1];exact lfsOf_mem hx hl')
 refine⟨sg,xs.map (renS σ),ys,hs,⟨by rw[rW];exact c2.1,by rw[sS,c2.2.1],λx hx'=>?_⟩,c3,⟨0,?_⟩⟩
 ·obtain⟨y,hy,rfl⟩:=qaM.1 hx'
  intro l hl'
  rw[sf]at hl'
  obtain⟨l',hl'',rfl⟩:=qaM.1 hl'
  exact good_ren (c2.2.2 y hy l' hl'')
 ·exact .inr ⟨.inl hn,frame_ro hG σ (jG hm c4) hr h0 λmu mu0 cs hmu h=>vrs_ren hmu hx h⟩
end
end Sx
end Go.Am
namespace Go.Am
open Sx
abbrev FB:=List Lf->HTr->(TD->HTr->RT)->RT
def nf:FB:=λ_ _ _=>none
def tell(rs:TD)(_:HTr):RT:=rk rs λrs=>some rs
def memo(g:FB):FB:=λls h K=>rk ls λls=>@Option.rec _ (λ_=>RT) none (λrs=>K rs h) (g ls .empty tell)
def fB{R:Type}(b:Bool)(k:Bool->R):R:=Bool.rec (k false) (k true) b
def flatI(v:Value):Bool:=match v with
 | .int _ _=>true
 | .bool _=>true
 |_=>false
def allR(c:Tr Value)(n:Nat):Bool:=@Nat.rec (λ_=>Bool) true (λi ih=>@Bool.rec (λ_=>Bool) false ih (flatI ((bC i).get nilV c))) n
def ext(h:HTr)(d:RT)(ls:TD):HTr->(TD->HTr->RT)->RT:=
 @List.rec Lf (λ_=>HTr->(TD->HTr->RT)->RT) (λh0 k=>k [] h0) (λx _ ih h0 k=>match x with
  | .i n=>fI n λn=>ih h0 λl h1=>k (.i n :: l) h1
  | .b t=>fB t λt=>ih h0 λl h1=>k (.b t :: l) h1
  | .v v=>match v with
   | .slice (some a) len cx=>match h.at a.block with
    |some (.t n e _ c)=>match tagB a.spot e,allR c n with
     |true,true=>gN h0 (.t n e false c) λh1=>fN a.off λo=>fN len λlen=>fN cx λcx=>ih h1 λl h2=>k (.v (.slice (some ⟨h0.n,o,tag e⟩) len cx) :: l) h2
     |_,_=>d
    |_=>d
   |v=>match flat v with
    |true=>ih h0 λl h1=>k (.v v :: l) h1
    |false=>d) ls
def ku(g:FB):FB:=λls h K=>ext h (g ls h K) ls .empty λls0 h0=>@Option.rec _ (λ_=>RT) (g ls h K) (λrs=>K rs h) (g ls0 h0 tell)
def fx{K K':TD->HTr->RT}(h:∀rs h,K rs h=K' rs h):K=K':=funext λrs=>funext λx=>h rs x
def c2{A B Z:Sort _}{f g:A->B->Z}(h:f=g)(x0:A)(x1:B):f x0 x1=g x0 x1:=by rw[h]
def c3{A B C Z:Sort _}{f g:A->B->C->Z}(h:f=g)(x0:A)(x1:B)(x2:C):f x0 x1 x2=g x0 x1 x2:=by rw[h]
def c4{A B C D Z:Sort _}{f g:A->B->C->D->Z}(h:f=g)(x0:A)(x1:B)(x2:C)(x3:D):f x0 x1 x2 x3=g x0 x1 x2 x3:=by rw[h]
def c5{A B C D E Z:Sort _}{f g:A->B->C->D->E->Z}(h:f=g)(x0:A)(x1:B)(x2:C)(x3:D)(x4:E):f x0 x1 x2 x3 x4=g x0 x1 x2 x3 x4:=by rw[h]
def c6{A B C D E F Z:Sort _}{f g:A->B->C->D->E->F->Z}(h:f=g)(x0:A)(x1:B)(x2:C)(x3:D)(x4:E)(x5:F):f x0 x1 x2 x3 x4 x5=g x0 x1 x2 x3 x4 x5:=by rw[h]
def c7{A B C D E F G Z:Sort _}{f g:A->B->C->D->E->F->G->Z}(h:f=g)(x0:A)(x1:B)(x2:C)(x3:D)(x4:E)(x5:F)(x6:G):f x0 x1 x2 x3 x4 x5 x6=g x0 x1 x2 x3 x4 x5 x6:=by rw[h]
def c8{A B C D E F G H Z:Sort _}{f g:A->B->C->D->E->F->G->H->Z}(h:f=g)(x0:A)(x1:B)(x2:C)(x3:D)(x4:E)(x5:F)(x6:G)(x7:H):f x0 x1 x2 x3 x4 x5 x6 x7=g x0 x1 x2 x3 x4 x5 x6 x7:=by rw[h]
def c9{A B C D E F G H I Z:Sort _}{f g:A->B->C->D->E->F->G->H->I->Z}(h:f=g)(x0:A)(x1:B)(x2:C)(x3:D)(x4:E)(x5:F)(x6:G)(x7:H)(x8:I):f x0 x1 x2 x3 x4 x5 x6 x7 x8=g x0 x1 x2 x3 x4 x5 x6 x7 x8:=by rw[h]
def c10{A B C D E F G H I J Z:Sort _}{f g:A->B->C->D->E->F->G->H->I->J->Z}(h:f=g)(x0:A)(x1:B)(x2:C)(x3:D)(x4:E)(x5:F)(x6:G)(x7:H)(x8:I)(x9:J):f x0 x1 x2 x3 x4 x5 x6 x7 x8 x9=g x0 x1 x2 x3 x4 x5 x6 x7 x8 x9:=by rw[h]
abbrev r0(X:RT)(ls:TD):RT:=@List.rec Lf (λ_=>RT) X (λ_ _ _=>none) ls
def lookF(l:List (Nat×FB))(g:Nat)(d:FB):FB:=@List.rec _ (λ_=>FB) d (λp _ ih=>@Bool.rec (λ_=>FB) ih p.2 (Nat.beq p.1 g)) l
def tblF(l:List (Nat×FB))(c:ac):ac:=λck=>match ck with
 | .f g=>lookF l g (c (.f g))
 | .y κ vs i=>c (.y κ vs i)
section
variable {Sg:Tc} {T:Tt} {call:ac}
end
section
variable [Val] [Kno]
def eqLs(a:TD):TD->Bool:=@List.rec _ (λ_=>TD->Bool) (λb=>@List.rec _ (λ_=>Bool) true (λ_ _ _=>false) b) (λx _ ih b=>@List.rec _ (λ_=>Bool) false (λy m _=>@Bool.rec (λ_=>Bool) false (ih m) (eqLf x y)) b) a
def oI{x y:Lf}(h:eqLf x y=true):x=y:=by
 cases x<;>cases y<;>first|(cases h;done)|skip
 ·have h:eqZK _ _=true:=h
  rw[qw,beq_iff_eq]at h;rw[h]
 next a b=>cases a<;>cases b<;>first|rfl|cases h
def gV:∀ {a b:TD},eqLs a b=true->a=b
 | [],[],_=>rfl
 |x :: a,y :: b,h=>by
  have h:@Bool.rec (λ_=>Bool) false (eqLs a b) (eqLf x y)=true:=h
  cases e:eqLf x y with
  |true=>rw[e]at h;rw[oI e,gV h]
  |false=>rw[e]at h;cases h
 | [],_ :: _,h=>by cases h
 |_ :: _,[],h=>by cases h
abbrev KN1:=Nat×List Lf×List Lf
def nU(C:Cfg)(Sg:Tc)(T:Tt)(k:Nat)(g:FB):Prop:=∀ls h K w,dj ls->g ls h K=some w->∃rs h',aK C Sg k ls (absH T (toL h)) rs (absH T (toL h'))/\K rs h'=some w
def AllK(C:Cfg)(Sg:Tc)(l:List KN1):Prop:=∀p∈l,∀H,aK C Sg p.1 p.2.1 H p.2.2 H
def AllK.nil{C:Cfg}{Sg:Tc}:AllK C Sg []:=λ_ h=>by cases h
def AllK.cons{C:Cfg}{Sg:Tc}{f:Nat}{ls rs:TD}{l:List KN1}(h:∀H,aK C Sg f ls H rs H)(hl:AllK C Sg l):AllK C Sg ((f,ls,rs) :: l):=by
 intro p hp
 rcases qal.1 hp with rfl|hp
 ·exact h
 ·exact hl p hp
def AllK.app{C:Cfg}{Sg:Tc}{l m:List KN1}(h:AllK C Sg l)(hm:AllK C Sg m):AllK C Sg (l++m):=by
 intro p hp
 rcases qao.1 hp with hp|hp
 ·exact h p hp
 ·exact hm p hp
def vD{C:Cfg}{Sg:Tc}{T:Tt}{g:Nat}{d:FB}(hd:nU C Sg T g d):∀ {l:List (Nat×FB)},(∀p∈l,nU C Sg T p.1 p.2)->nU C Sg T g (lookF l g d)
 | [],_=>hd
 |p :: l,h=>by
  have e:lookF (p :: l) g d = @Bool.rec (λ_=>FB) (lookF l g d) p.2 (Nat.beq p.1 g):=rfl
  rw[e]
  cases hb:Nat.beq p.1 g with
  |true=>
   have:=qad hb
   subst this
   exact h p qaB
  |false=>exact vD hd (λq hq=>h q (qan _ hq))
def tblF_ok{C:Cfg}{Sg:Tc}{T:Tt}{c:ac}(hc:CallBOk C Sg T c){l:List (Nat×FB)}(h:∀p∈l,nU C Sg T p.1 p.2):CallBOk C Sg T (tblF l c):=
 ⟨λg ls hh K w hls hk=>vD (λls h K w=>hc.f g ls h K w) h ls hh K w hls hk,λκ vs l ls h K w st pd xs e hy hk=>hc.y κ vs l ls h K w st pd xs e hy hk⟩
def YOk(C:Cfg)(Sg:Tc)(T:Tt)(κ:Nat)(g:Tl->Nat->FB):Prop:=∀vs l ls h K w st pd xs,h.at l=some (.lp κ st pd vs)->Told ((T κ).params.map (·.2)) ls xs->g vs l ls h K=some w->
  ∃b h',jH C l (ah xs) (absH T (toL h)) (.bool b) (absH T (toL h'))/\K [.b b] h'=some w
def lookY(l:List (Nat×(Tl->Nat->FB)))(κ:Nat)(d:Tl->Nat->FB):Tl->Nat->FB:=@List.rec _ (λ_=>Tl->Nat->FB) d (λp _ ih=>@Bool.rec (λ_=>Tl->Nat->FB) ih p.2 (Nat.beq p.1 κ)) l
def vE{C:Cfg}{Sg:Tc}{T:Tt}{g:Nat}{d:Tl->Nat->FB}(hd:YOk C Sg T g d):∀ {l:List (Nat×(Tl->Nat->FB))},(∀p∈l,YOk C Sg T p.1 p.2)->YOk C Sg T g (lookY l g d)
 | [],_=>hd
 |p :: l,h=>by
  have e:lookY (p :: l) g d = @Bool.rec (λ_=>Tl->Nat->FB) (lookY l g d) p.2 (Nat.beq p.1 g):=rfl
  rw[e]
  cases hb:Nat.beq p.1 g with
  |true=>
   have:=qad hb
   subst this
   exact h p qaB
  |false=>exact vE hd (λq hq=>h q (qan _ hq))
def kN:tell=λrs _=>some rs:=by
 funext rs h
 exact ew rs _
def memo_ok{C:Cfg}{Sg:Tc}{T:Tt}(hpl:∀f sg ls rs H',Sg f=some sg->sg.plain=true->aK C Sg f ls [] rs H'->∀H,aK C Sg f ls H rs H)
  {k:Nat} {g:FB} {sg:Sig} (hg:nU C Sg T k g) (hs:Sg k=some sg) (hp:sg.plain=true):nU C Sg T k (memo g):=by
 intro ls h K w hls hk
 unfold memo at hk
 rw[ew,kN]at hk
 cases e:g ls .empty (λrs _=>some rs)with
 |none=>rw[e]at hk;cases hk
 |some rs=>
  rw[e]at hk
  obtain⟨rs',h',a1,a2⟩:=hg ls .empty _ rs hls e
  cases a2
  exact⟨rs,h,hpl k sg ls rs _ hs hp a1 _,hk⟩
def fB_eq{R:Type}(b:Bool)(k:Bool->R):fB b k=k b:=by cases b<;>rfl
def flatI_ok{v:Value}(h:flatI v=true):flat v=true:=by
 cases v<;>first|rfl|cases h
def allR_ok{c:Tr Value}:∀ {n:Nat},allR c n=true->(bT c n).all flat=true:=by
 intro n h
 have main:∀n,allR c n=true->∀i,i<n->flatI ((bC i).get nilV c)=true:=by
  intro n
  induction n with
  |zero=>intro _ i hi;cases hi
  |succ n ih=>
   intro h i hi
   have h:@Bool.rec (λ_=>Bool) false (allR c n) (flatI ((bC n).get nilV c))=true:=h
   cases e:flatI ((bC n).get nilV c)with
   |false=>rw[e]at h;cases h
   |true=>
    rw[e]at h
    rcases qaO i n with h1|h1
    ·exact ih h i h1
    ·obtain rfl:i=n:=by omega
     exact e
 rw[qag]
 intro v hv
 obtain⟨i,hi,rfl⟩:=qaM.1 hv
 exact flatI_ok (main n h i (qaD.1 hi))
def Blk(T:Tt)(h h0:HTr)(σ:TB):Prop:=∀(j:Nat) (o:HObj),(absH T (toL h0))[j]?=some o->∃vs e rw,o = .cells vs e false/\vs.all flat=true/\(absH T (toL h))[σ j]?=some (.cells vs e rw)
def mL{T:Tt}{h:HTr}{d:RT}{w:TD}:∀(ls:TD) (h0:HTr) (k:TD->HTr->RT) (σ:TB),Blk T h h0 σ->ext h d ls h0 k=some w->
  d=some w∨∃ls0 h1 σ',k ls0 h1=some w/\h0.n<=h1.n/\(∀j,j<h0.n->σ' j=σ j)/\Blk T h h1 σ'/\ls0.map (renL σ')=ls/\∀l∈ls0,OkL h1.n l
 | [],h0,k,σ,hb,hk=>.inr ⟨[],h0,σ,hk,qaf _,λ_ _=>rfl,hb,rfl,λ_ h=>by cases h⟩
 | .i n :: ls,h0,k,σ,hb,hk=>by
  have hk:(fI n λn=>ext h d ls h0 λl h1=>k (.i n :: l) h1)=some w:=hk
  rw[jf]at hk
  rcases mL ls h0 _ σ hb hk with h1|⟨l,h1,σ',a1,a2,a3,a4,a5,a6⟩
  ·exact .inl h1
  ·refine .inr ⟨.i n :: l,h1,σ',a1,a2,a3,a4,by rw[qau,a5];rfl,λx hx=>?_⟩
   rcases qal.1 hx with rfl|hx
   ·trivial
   ·exact a6 x hx
 | .b t :: ls,h0,k,σ,hb,hk=>by
  have hk:(fB t λt=>ext h d ls h0 λl h1=>k (.b t :: l) h1)=some w:=hk
  rw[fB_eq]at hk
  rcases mL ls h0 _ σ hb hk with h1|⟨l,h1,σ',a1,a2,a3,a4,a5,a6⟩
  ·exact .inl h1
  ·refine .inr ⟨.b t :: l,h1,σ',a1,a2,a3,a4,by rw[qau,a5];rfl,λx hx=>?_⟩
   rcases qal.1 hx with rfl|hx
   ·trivial
   ·exact a6 x hx
 | .v v :: ls,h0,k,σ,hb,hk=>by
  have hk:(match (motive:=Value->RT) v with
   | .slice (some a) len cx=>match h.at a.block with
    |some (.t n e _ c)=>match tagB a.spot e,allR c n with
     |true,true=>gN h0 (.t n e false c) λh1=>fN a.off λo=>fN len λlen=>fN cx λcx=>ext h d ls h1 λl h2=>k (.v (.slice (some ⟨h0.n,o,tag e⟩) len cx) :: l) h2
     |_,_=>d
    |_=>d
   |v=>match flat v with
    |true=>ext h d ls h0 λl h1=>k (.v v :: l) h1
    |false=>d)=some w:=hk
  split at hk
  next a len cx _=>
   split at hk
   next n e rw' c hat=>
    split at hk
    next q1 q2=>
     have q1:=rH.1 q1
     rw[eX,dq,dq,dq]at hk
     have hb1:Blk T h (h0.push (.t n e false c)) (λj=>if j=h0.n then a.block else σ j):=by
      intro j o hj
      rw[eZ,gg]at hj
      by_cases h1:j<h0.n
      ·rw[qah (by rw[dt,cU];exact h1)]at hj
       simp only[qdz (Nat.ne_of_lt h1)]
       exact hb j o hj
      ·rw[qaq (by rw[dt,cU];omega),dt,cU]at hj
       by_cases h2:j=h0.n
       ·subst h2
        rw[qbC]at hj
        cases hj
        refine⟨bT c n,e,rw',rfl,allR_ok q2,?_⟩
        simp only[if_true]
        have:=jW (T:=T) hat
        rw[jX]at this
        exact this
       ·rw[qaj (by simp;omega)]at hj;cases hj
     rcases mL ls _ _ _ hb1 hk with h1|⟨l,h1,σ',a1,a2,a3,a4,a5,a6⟩
     ·exact .inl h1
     ·have hn:(h0.push (.t n e false c)).n=h0.n+1:=rfl
      rw[hn]at a2 a3
      refine .inr ⟨_,h1,σ',a1,by omega,λj hj=>?_,a4,?_,λx hx=>?_⟩
      ·rw[a3 j (by omega)];simp only[qdz (Nat.ne_of_lt hj)]
      ·have hs:σ' h0.n=a.block:=by rw[a3 h0.n (by omega)];simp
       rw[qau,a5]
       show Lf.v (.slice (some ⟨σ' h0.n,a.off,tag e⟩) len cx) :: ls=_
       rw[hs,←q1]
      ·rcases qal.1 hx with rfl|hx
       ·exact .inr ⟨h0.n,a.off,len,cx,e,by omega,rfl⟩
       ·exact a6 x hx
    ·exact .inl hk
   ·exact .inl hk
  next hne=>
   split at hk
   next hf=>
    have hr:∀σ,renV σ v=v:=by
     intro σ
     unfold renV
     split
     next a len cx _=>exact absurd rfl (hne a len cx)
     ·rfl
    rcases mL ls h0 _ σ hb hk with h1|⟨l,h1,σ',a1,a2,a3,a4,a5,a6⟩
    ·exact .inl h1
    ·refine .inr ⟨.v v :: l,h1,σ',a1,a2,a3,a4,by rw[qau,a5];show Lf.v (renV σ' v) :: ls=_;rw[hr],λx hx=>?_⟩
     rcases qal.1 hx with rfl|hx
     ·exact .inl ⟨hf,hr⟩
     ·exact a6 x hx
   ·exact .inl hk
def memoR_ok{C:Cfg}{Sg:Tc}{T:Tt}{k:Nat}{g:FB}
  (hro:∀(ls0 rs:TD) (H0 H' H:Ts) (σ:TB),aK C Sg k ls0 H0 rs H'->(∀(j:Nat) (o:HObj),H0[j]?=some o->∃vs e rw,o = .cells vs e false/\vs.all flat=true/\H[σ j]?=some (.cells vs e rw))->(∀l∈ls0,OkL H0.length l)->aK C Sg k (ls0.map (renL σ)) H rs H)
  (hg:nU C Sg T k g):nU C Sg T k (ku g):=by
 intro ls h K w hls hk
 unfold ku at hk
 rcases mL (T:=T) ls .empty _ id (λj o hj=>by cases hj) hk with h1|⟨ls0,h1,σ,a1,_,_,a4,a5,a6⟩
 ·exact hg ls h K w hls h1
 ·cases e:g ls0 h1 tell with
  |none=>rw[e]at a1;exact hg ls h K w hls a1
  |some rs=>
   rw[e]at a1
   rw[kN]at e
   have hgood:dj ls0:=by
    intro l hl
    cases l with
    |v x=>
     have h2:=hls (.v (renV σ x)) (by rw[←a5];exact qck (f:=renL σ) hl)
     have h2:aW (renV σ x)=true:=h2
     rw[sI]at h2
     exact h2
    |_=>trivial
   obtain⟨rs',h',b1,b2⟩:=hg ls0 h1 _ rs hgood e
   cases b2
   have:=hro ls0 rs _ _ (absH T (toL h)) σ b1 a4 (λl hl=>by rw[dt,cU];exact a6 l hl)
   rw[a5]at this
   exact⟨rs,h,this,a1⟩
end
end Go.Am
namespace Go.Am
open Sx Go.Proofs
instance val0 : Val := ⟨λ_ => 0⟩
instance kno0:Kno:=KnoC cc neuN
def mixed:cc.P.follows .mixedOrders=true:=by kernel_rfl
def gH(g:Nat)(vs:Tl)(h:cc.G g=some vs):vs.all gfl=true:=by
 unfold cc at h
 simp only at h
 split at h<;>first|(cases h;done)|(obtain rfl:=qae h;kernel_rfl)|(unfold glx at h;split at h<;>first|(cases h;done)|(obtain rfl:=qae h;kernel_rfl))
def vi:DrOk cc drN:=drOf_ok neuN_ok (λ_ _ _ _ _ (h:_/\_)=>h.1)
abbrev Ent(k:Nat)(g:FB):Prop:=nU cc ab aa k g
abbrev Cok(c:ac):Prop:=CallBOk cc ab aa c
def rl(f:TM)(sg:Sig)(ls rs:TD)(H':Ts)(hs:ab f=some sg)(hp:sg.plain=true)(hc:aK cc ab f ls [] rs H'):∀H,aK cc ab f ls H rs H:=ct_of mixed gH hs hp hc
def oz{k:Nat}{F:(R HT:Type)->Alg R HT->TD->HT->(TD->HT->R)->R}{fn:Fn1}(h2:F=λR HT A ls h K=>av A (xc k) ab drN fn ls h K)(h3:FnIs (xc k) ab k fn){c:ac}(hc:Cok c){l:List (Nat×FB)}(hl:∀p∈l,Ent p.1 p.2):Ent k (F RT HTr (BA ab aa (tblF l c))):=by
 intro ls h K w hls hk
 rw[h2]at hk
 obtain⟨rs,h',a1,_,a3⟩:=qA (BA_ok (w:=w) (tblF_ok hc hl)) vi h3 hls hk
 exact⟨rs,h',a1,a3⟩
def aN:∀p∈([]:List (Nat×FB)),Ent p.1 p.2:=λ_ h=>by cases h
def aC{k:Nat}{g:FB}{l:List (Nat×FB)}(h:Ent k g)(t:∀p∈l,Ent p.1 p.2):∀p∈(k,g) :: l,Ent p.1 p.2:=λp hp=>by
 rcases qal.1 hp with rfl|hp
 ·exact h
 ·exact t p hp
def iu{k:Nat}{g:FB}{sg:Sig}(h:Ent k g)(h4:ab k=some sg)(h5:sg.rs.all SK.plain=true)(h6:neuN k=none):Ent k (ku g):=memoR_ok (λls0 rs H0 H' H σ hc hb hl=>tW mixed gH h4 h5 h6 σ hc hb hl) h
def aL{k:Nat}{g:FB}{sg:Sig}(h:Ent k g)(h4:ab k=some sg)(h5:sg.plain=true):Ent k (memo g):=memo_ok rl h h4 h5
end Go.Am
namespace Go.Proofs
open Go.Shelf Go.RowKit
def Tryz.lays169_ren:Go.Shelf.Ren:=⟨fun|169=>56|n=>n,fun|70=>104|9=>9|0=>0|72=>107|37=>105|127=>128|3=>3|5=>5|n=>n,fun|n=>n⟩
def Tryz.lays169:Go.Proofs.Lays.n169 Tryz.prog Tryz.lays169_ren:={
 mixed:=by kernel_rfl
 f169:=Tryz.func56.trans (congrArg some (by kernel_rfl))
 t0:=Tryz.underlying0
 a0:=Tryz.isAgg0
 z0:=Tryz.sizeOf0
 v0:=Tryz.zeroValue0
 t3:=Tryz.underlying3
 a3:=Tryz.isAgg3
 z3:=Tryz.sizeOf3
 v3:=Tryz.zeroValue3
 t9:=Tryz.underlying9
 a9:=Tryz.isAgg9
 z9:=Tryz.sizeOf9
 v9:=Tryz.zeroValue9
 t37:=Tryz.underlying105
 a37:=Tryz.isAgg105
 z37:=Tryz.sizeOf105
 v37:=Tryz.zeroValue105
 t70:=Tryz.underlying104
 a70:=Tryz.isAgg104
 z70:=Tryz.sizeOf104
 v70:=Tryz.zeroValue104
 t72:=Tryz.underlying107
 a72:=Tryz.isAgg107
 z72:=Tryz.sizeOf107
 v72:=Tryz.zeroValue107
 t127:=Tryz.underlying128
 a127:=Tryz.isAgg128
 z127:=Tryz.sizeOf128
 v127:=Tryz.zeroValue128 }
def Tryz.Builder_Extra_169:Builder.Extra Tryz.prog Tryz.lays169_ren:={
 sizeBuilder:=by kernel_rfl
 liesBuilder:=by kernel_rfl
 t5:=Tryz.underlying5
 a5:=Tryz.isAgg5
 z5:=Tryz.sizeOf5
 v5:=Tryz.zeroValue5
 infoByte:=by kernel_rfl
 cellsByte:=by kernel_rfl
 sizeByte:=by kernel_rfl
 neB5:=by decide }
def Tx.size:∃j,Tryz.prog.info? 107=some j/\j.size=2:=qac.1 (show(Tryz.prog.info? 107).map (·.size)=some 2 by kernel_rfl)
def Tx.lies:liesAt Tryz.prog Tryz.prog.depth 107 (2 / Tryz.prog.cellsOf 107) 0 107 1=true:=by kernel_rfl
set_option maxHeartbeats 1000000 in
set_option maxRecDepth 100000 in
def Tx.copy_used(b:Nat)(w:World)(h0:w.cell? ⟨b,0,none⟩=some (.pointer (some ⟨b,0,none⟩))) :
  Calls Tryz.prog 66 #[.pointer (some ⟨b,0,none⟩)] w λe w'=>e = .returned (.tuple #[])/\w'=w:=by
 obtain⟨j,hj,_⟩:=Tx.size
 go_enter Tryz.func66,Tryz.ntmps66
 go_wp2
 rw[Lib.run_neq_ptr_same w _ Tryz.underlying104 hj]
 go_wp2
 go_end0
 exact⟨rfl,rfl⟩
set_option maxHeartbeats 1000000 in
set_option maxRecDepth 100000 in
def Tx.copy_fresh(b:Nat)(w:World)(h0:w.cell? ⟨b,0,none⟩=some (.pointer none))(hsh:w.shape? b=some (107,2))(hfz:w.frozen? ⟨b,0,none⟩=false) :
  Calls Tryz.prog 66 #[.pointer (some ⟨b,0,none⟩)] w λe w'=>e = .returned (.tuple #[])/\w'=w.setCell ⟨b,0,none⟩ (.pointer (some ⟨b,0,none⟩)):=by
 obtain⟨j,hj,hjs⟩:=Tx.size
 go_enter Tryz.func66,Tryz.ntmps66
 go_wp2
 rw[Lib.run_to_unsafe w ⟨b,0,none⟩ Tryz.underlying104 Tryz.underlying151 hj (by rw[hjs];decide) hsh (Nat.zero_lt_succ 1)]
 simp only[Result.andThen]
 rw[Oper.upon_value]
 go_wp2
 rw[run_callFunc_extern Tryz.func85 (by kernel_rfl) (by kernel_rfl) (by kernel_rfl) (e:=Extern.AbiNoEscape.same) (by kernel_rfl)]
 rw[Lib.run_noEscape]
 simp only[Result.andThen]
 rw[Oper.upon_value]
 go_wp2
 rw[Lib.run_from_unsafe w ⟨b,0,none⟩ Tryz.underlying151 Tryz.underlying104 hj hsh Tx.lies]
 simp only[Result.andThen]
 rw[Oper.upon_value]
 go_wp2
 go_end0
 exact⟨rfl,rfl⟩
def Tx.copy(B b:Nat)(bs:Tl)(w:World)(h:Lib.IsBuilder 107 5 B b bs w) :
  Calls Tryz.prog 66 #[.pointer (some ⟨b,0,none⟩)] w λe w'=>e = .returned (.tuple #[])/\(Lib.BuilderAt 107 5 B b (.pointer (some ⟨b,0,none⟩)) bs w'/\Below B w w'/\w.drawn<=w'.drawn):=by
 rcases h with h|h
 ·refine(Tx.copy_fresh b w h.cell0 h.shape h.frozen0).mono ?_
  rintro e w' ⟨rfl,rfl⟩
  exact⟨rfl,h.used _,(Below.refl B w).setCell (p:=⟨b,0,none⟩) h.1 _,qaf _⟩
 ·refine(Tx.copy_used b w h.cell0).mono ?_
  rintro e w' ⟨rfl,rfl⟩
  exact⟨rfl,h,Below.refl B _,qaf _⟩
def Tx.app_drawn{P:TE}{w:World}(base:Nat)(t ty e:TK)(i:TypeInfo)(z:Value)(size bytes:Nat)(ht:P.underlying t=some (.slice e))(hi:P.info? e=some i)(hz:i.zero=some z)
  (hsize:i.size=size) (hby:i.bytes=bytes) (hzs:z.cells.size=size) (hsz:0<size)
  (v:Value) (n:Nat) (xs:Tl) (hown:w.ownsRow base e size v n xs)
  (a:Addr) (m c:Nat) (hm:0<m) (news:Tl) (hl:news.length=m*size) (hnews:∀j u,news[j]?=some u->w.cell? (a.add j)=some u) (h1:∀u∈news,u.oneCell'=true)
  (h63:n+m<=maxLen) (hbytes:(n+m)*bytes<=140737488355328) {v':Value} {w':World} (hr:(Builtin.append_ #[t,t] ty #[v,.slice (some a) m c]).run P w = .ok v' w'):w.drawn<=w'.drawn:=by
 subst hsize
 subst hby
 have hsmall:n+m<=9223372036854775807:=by simp only[maxLen]at h63;omega
 rcases hown.2 with⟨rfl,rfl⟩|⟨g,cap,cur,rfl,hbg,hg,hnc,hcm,hcs,htake⟩
 ·have hr2:=run_append_nil (P:=P) w t ty e i z ht hi hz a m c news hl hnews (by omega) (by omega) (by have hb:=hbytes;simp only[qaL]at hb;omega)
  rw[hr2]at hr
  cases hr
  simp
 ·by_cases hroom:n+m<=cap
  ·have hfit:n*i.size+news.length<=cur.size:=by rw[hl,hcs,←qbF];exact qbl _ hroom
   have hr2:=run_append_room (P:=P) w t ty e i ht hi g n cap cur hg a m c news hl hnews h1 hroom hfit
   rw[hr2]at hr
   cases hr
   simp
  ·have holds:∀j u,xs[j]?=some u->w.cell? ((⟨g,0,none⟩ : Addr).add j)=some u:=hown.cells (g:=g) rfl
   have hr2:=run_append_grow (P:=P) w t ty e i z ht hi hz ⟨g,0,none⟩ n cap xs hown.1 holds a m c news hl hnews (by omega) (by omega) (growslice_fits (by omega) hbytes)
   rw[hr2]at hr
   cases hr
   simp
def Tx.wp_app{P:TE}{w:World}{ops:Tm}{rest:Tv}{o:Oper}{a:Act}{Q:Exit->Act->World->Prop}(hgd:o.guard=none)(s x:TF)(t:TK)
  (ho:o.op = .call { callee:=.builtin .append,args:=#[s,x],argTypes:=#[t,t] })
  (base:Nat) (e:TK) (i:TypeInfo) (z:Value) (size bytes:Nat) (ht:P.underlying t=some (.slice e)) (hi:P.info? e=some i) (hz:i.zero=some z)
  (hsize:i.size=size) (hby:i.bytes=bytes) (hzs:z.cells.size=size) (hsz:0<size)
  (v:Value) (n:Nat) (xs:Tl) (hs:a.eval s=v) (hown:w.ownsRow base e size v n xs)
  (ad:Addr) (m c:Nat) (hm:0<m) (news:Tl) (hx:a.eval x = .slice (some ad) m c) (hl:news.length=m*size) (hnews:∀j u,news[j]?=some u->w.cell? (ad.add j)=some u) (h1:∀u∈news,u.oneCell'=true)
  (h63:n+m<=maxLen) (hbytes:(n+m)*bytes<=140737488355328) (hbase:base<=w.heap.size)
  (h:∀v' w',w'.ownsRow base e size v' (n+m) (xs++news)->w.grownBy w' v.ownBlock->w.drawn<=w'.drawn->wpList P ops Q rest (a.put o.dst v') w'):wpList P ops Q (o :: rest) a w:=
 wpList_plain hgd λ_ hK=>by
  obtain⟨v',w',hr,h2,h3,_⟩:=run_append_own (P:=P) w base t o.type e i z size bytes ht hi hz hsize hby hzs hsz v n xs hown ad m c news hl hnews h1 h63 hbytes hbase
  have hd:=Tx.app_drawn (P:=P) (w:=w) base t o.type e i z size bytes ht hi hz hsize hby hzs hsz v n xs hown ad m c hm news hl hnews h1 h63 hbytes hr
  have hgo:=hK _ _ (h v' w' h2 h3 hd)
  unfold Oper.wp execOp
  simp only[ho,resolve,invoke,builtin,Sem.run_bind,Sem.run_pure,Result.andThen_ok,List.map_toArray,qau,qbs,hs,hx,hr]
  exact hgo
set_option maxHeartbeats 2000000 in
set_option maxRecDepth 100000 in
def Tx.write(B b:Nat)(bs:Tl)(c:Int)(w:World)(h:Lib.IsBuilder 107 5 B b bs w)(hlen:bs.length+1<=140737488355328)(hBw:B<=w.heap.size) :
  Calls Tryz.prog 55 #[.pointer (some ⟨b,0,none⟩),.int .u8 c] w λe w'=>e = .returned .nilIface/\(Lib.BuilderAt 107 5 B b (.pointer (some ⟨b,0,none⟩)) (bs++[.int .u8 c]) w'/\Below B w w'/\w.drawn<=w'.drawn):=by
 obtain⟨i0,hi,hz0,hz1,hz2⟩:=info_parts Tryz.Builder_Extra_169.infoByte
 have e240:∀args w,(callFunc 66 args).run Tryz.prog w = .ok (.enter 66 args) w:=enters_of Tryz.func66 (by kernel_rfl) rfl
 go_enter Tryz.func55,Tryz.ntmps55
 go_wp2_with (go_at_fn 66;refine(Tx.copy B b bs _ h).mono ?_)
 rintro e w1 ⟨rfl,h1,hb1,hd1⟩
 obtain⟨hB,v,hbk,hown,hne⟩:=h1
 have c0:w1.cell? ⟨b,0,none⟩=some (.pointer (some ⟨b,0,none⟩)):=by rw[Lib.cell_of_heap hbk];rfl
 have c1:w1.cell? ⟨b,1,none⟩=some v:=by rw[Lib.cell_of_heap hbk];rfl
 go_wp2_with (at_builtin;refine Tx.wp_app rfl _ _ 105 rfl B 5 i0 (.int .u8 0) 1 1 Tryz.underlying105 hi hz0 hz1 hz2 rfl (by decide) _ _ _ rfl (hown.alloc _) ⟨w1.heap.size,0,none⟩ 1 1 (Nat.zero_lt_one) [.int .u8 c] rfl rfl ?c1 ?c2 ?c3 ?c4 ?c5 ?_)
 case c1=>
  intro j u hj
  match j,hj with
  |0,hj=>simp at hj;subst hj;simp[Addr.add]
 case c2=>intro u hu;simp at hu;subst hu;rfl
 case c3=>unfold maxLen;omega
 case c4=>omega
 case c5=>have:=hb1.size;simp;omega
 intro v' w2 hown' hgrow hd2
 have hlt:b<w1.heap.size:=by
  rcases qaO b w1.heap.size with h'|h'
  ·exact h'
  ·simp[qbb h']at hbk
 have hb2:w2.heap[b]?=some (.cells #[.pointer (some ⟨b,0,none⟩),v] 107 (0,0)):=by
  rw[hgrow.block b (by simp;omega) (λe=>hne e.symm),Lib.alloc_old w1 _ b hlt]
  exact hbk
 have d0:w2.cell? ⟨b,0,none⟩=some (.pointer (some ⟨b,0,none⟩)):=by rw[Lib.cell_of_heap hb2];rfl
 have d1:w2.cell? ⟨b,1,none⟩=some v:=by rw[Lib.cell_of_heap hb2];rfl
 have f1:w2.frozen? ⟨b,1,none⟩=false:=Lib.frozen_of_heap hb2 1
 obtain⟨g,cap,rfl⟩ : ∃g cap,v' = .slice (some ⟨g,0,none⟩) (bs.length+1) cap:=by
  rcases hown'.2 with⟨_,h0⟩|⟨g,cap,cur,hv,_⟩
  ·omega
  ·exact⟨g,cap,hv⟩
 go_wp2
 go_ret
 refine⟨rfl,?_,?_,?_⟩
 rotate_left 2
 ·have e1:(w1.alloc (.cells #[.int .u8 c] 5)).drawn<=w2.drawn:=hd2
  simp at e1 ⊢
  omega
 ·exact Lib.BuilderAt.put (T:=107) (e:=5) hB hb2 (bs':=bs++[.int .u8 c]) (by simpa using hown') (by decide)
 ·exact((hb1.alloc (by have:=hb1.size;omega) _).grown hgrow (by have:=hb1.size;simp;omega) (λk hk=>(hown.lt k hk).1)).setCell (p:=⟨b,1,none⟩) hB _
set_option maxHeartbeats 2000000 in
set_option maxRecDepth 100000 in
def Tx.str_some(B b:Nat)(l:List UInt8)(w:World)(h:Lib.IsBuilder 107 5 B b (Lib.byteCells l) w)(h0:l≠[]) :
  Calls Tryz.prog 56 #[.pointer (some ⟨b,0,none⟩)] w λe w'=>e = .returned (.string ⟨l.toArray⟩)/\Below B w w'/\w.drawn<=w'.drawn:=by
 obtain⟨p,hB,v,hbk,hown,hne⟩ : ∃p,Lib.BuilderAt 107 5 B b p (Lib.byteCells l) w:=by
  rcases h with h|h
  ·exact⟨_,h⟩
  ·exact⟨_,h⟩
 have hl0:l.length≠0:=by simpa using h0
 rw[Lib.byteCells_length]at hown
 obtain⟨g,cap,cur,rfl,hbg,hg,hnc,hcm,hcs,htake⟩ : ∃g cap cur,v = .slice (some ⟨g,0,none⟩) l.length cap/\B<=g/\w.heap[g]?=some (.cells cur 5 (0,0))/\l.length<=cap/\cap<=maxLen/\cur.size=cap*1/\_:=by
  rcases hown.2 with⟨_,hz⟩|⟨g,cap,cur,hv,r⟩
  ·exact absurd hz hl0
  ·exact⟨g,cap,cur,hv,r⟩
 have c1:w.drew.cell? ⟨b,1,none⟩=some (.slice (some ⟨g,0,none⟩) l.length cap):=by
  have:w.drew.heap[b]?=some (.cells #[p,.slice (some ⟨g,0,none⟩) l.length cap] 107 (0,0)):=hbk
  rw[Lib.cell_of_heap this];rfl
 have hSD:(Builtin.unsafeSliceData_ #[105] 128 #[.slice (some ⟨g,0,none⟩) l.length cap]).run Tryz.prog w.drew = .ok (.pointer (some ⟨g,0,none⟩)) w.drew:=
  Lib.run_unsafeSliceData_row _ _ _ _ _ _ (by omega)
 have hUS:(Builtin.unsafeString_ #[128,3] 9 #[.pointer (some ⟨g,0,none⟩),.int .i64 l.length]).run Tryz.prog w.drew = .ok (.string ⟨l.toArray⟩) (w.drew.freeze ⟨g,0,none⟩ l.length):=by
  refine Lib.run_unsafeString_row w.drew 128 3 9 5 Tryz.underlying128 Tryz.Builder_Extra_169.cellsByte g cur.size (by have hg':w.drew.heap[g]?=some (.cells cur 5 (0,0)):=hg;simp[World.shape?,hg']) l h0 (by omega) (by unfold maxLen at hcm;omega) ?_
  intro j x hx
  have:=hown.cells (g:=g) rfl j (.int .u8 x.toNat) (by simp[Lib.byteCells,hx])
  exact this
 have mixed:=Tryz.lays169.mixed
 have hdr:w.drawn<=(w.drew.freeze ⟨g,0,none⟩ l.length).drawn:=by
  unfold World.freeze
  split<;>exact qc5 _
 go_enter Tryz.func56,Tryz.ntmps56
 go_wp2
 go_region_o
 all_goals (go_wp2;go_ret;exact⟨rfl,Lib.below_freeze (Below.drew (Below.refl B w)) (p:=⟨g,0,none⟩) hbg _,hdr⟩)
def Tx.us_none(W:World)(q:Option Addr):(Builtin.unsafeString_ #[128,3] 9 #[.pointer q,.int .i64 0]).run Tryz.prog W = .ok (.string .empty) W:=
 Lib.run_unsafeString_none W _ _ _ q
set_option maxHeartbeats 2000000 in
set_option maxRecDepth 100000 in
def Tx.str_nil(B b:Nat)(p:Value)(w:World)(hbk:w.heap[b]?=some (.cells #[p,.slice none 0 0] 107 (0,0))) :
  Calls Tryz.prog 56 #[.pointer (some ⟨b,0,none⟩)] w λe w'=>e = .returned (.string ⟨#[]⟩)/\Below B w w'/\w.drawn<=w'.drawn:=by
 have hUS:=Tx.us_none
 have c1:w.drew.cell? ⟨b,1,none⟩=some (.slice none 0 0):=by
  have:w.drew.heap[b]?=some (.cells #[p,.slice none 0 0] 107 (0,0)):=hbk
  rw[Lib.cell_of_heap this];rfl
 have hSD:(Builtin.unsafeSliceData_ #[105] 128 #[.slice none 0 0]).run Tryz.prog w.drew = .ok (.pointer none) w.drew:=rfl
 have mixed:=Tryz.lays169.mixed
 go_enter Tryz.func56,Tryz.ntmps56
 go_wp2
 go_region_o
 all_goals (go_wp2;go_ret;exact⟨rfl,Below.drew (Below.refl B w),qc5 _⟩)
set_option maxHeartbeats 2000000 in
set_option maxRecDepth 100000 in
def Tx.str_noroom(B b g:Nat)(p:Value)(cur:Tj)(w:World)(hBw:B<=w.heap.size)(hbk:w.heap[b]?=some (.cells #[p,.slice (some ⟨g,0,none⟩) 0 0] 107 (0,0)))(hg:w.heap[g]?=some (.cells cur 5 (0,0))) :
  Calls Tryz.prog 56 #[.pointer (some ⟨b,0,none⟩)] w λe w'=>e = .returned (.string ⟨#[]⟩)/\Below B w w'/\w.drawn<=w'.drawn:=by
 have hUS:=Tx.us_none
 have hlt:b<w.heap.size:=by
  rcases qaO b w.heap.size with h'|h'
  ·exact h'
  ·simp[qbb h']at hbk
 have c1:w.drew.cell? ⟨b,1,none⟩=some (.slice (some ⟨g,0,none⟩) 0 0):=by
  have:w.drew.heap[b]?=some (.cells #[p,.slice (some ⟨g,0,none⟩) 0 0] 107 (0,0)):=hbk
  rw[Lib.cell_of_heap this];rfl
 have hSD:(Builtin.unsafeSliceData_ #[105] 128 #[.slice (some ⟨g,0,none⟩) 0 0]).run Tryz.prog w.drew = .ok (.pointer (some ⟨w.drew.heap.size,0,none⟩)) (w.drew.alloc (.view ⟨g,0,none⟩ 5)):=
  Lib.run_unsafeSliceData_zero w.drew _ _ 5 Tryz.underlying128 ⟨g,0,none⟩ 0 (5,cur.size) (by have hg':w.drew.heap[g]?=some (.cells cur 5 (0,0)):=hg;simp[World.shape?,hg'])
 have c2:(w.drew.alloc (.view ⟨g,0,none⟩ 5)).cell? ⟨b,1,none⟩=some (.slice (some ⟨g,0,none⟩) 0 0):=by
  have:(w.drew.alloc (.view ⟨g,0,none⟩ 5)).heap[b]?=_:=(Lib.alloc_old w.drew _ b hlt).trans hbk
  rw[Lib.cell_of_heap this];rfl
 have c3:(w.alloc (.view ⟨g,0,none⟩ 5)).drew.cell? ⟨b,1,none⟩=some (.slice (some ⟨g,0,none⟩) 0 0):=c2
 have c0:w.cell? ⟨b,1,none⟩=some (.slice (some ⟨g,0,none⟩) 0 0):=c1
 have mixed:=Tryz.lays169.mixed
 go_enter Tryz.func56,Tryz.ntmps56
 go_wp2
 go_region_o
 all_goals (go_wp2;go_ret;exact⟨rfl,(Below.drew (Below.refl B w)).alloc hBw _,qc5 _⟩)
set_option maxHeartbeats 2000000 in
set_option maxRecDepth 100000 in
def Tx.str_room(B b g cap:Nat)(p:Value)(w:World)(hc0:cap≠0)(hbk:w.heap[b]?=some (.cells #[p,.slice (some ⟨g,0,none⟩) 0 cap] 107 (0,0))) :
  Calls Tryz.prog 56 #[.pointer (some ⟨b,0,none⟩)] w λe w'=>e = .returned (.string ⟨#[]⟩)/\Below B w w'/\w.drawn<=w'.drawn:=by
 have hUS:=Tx.us_none
 have c1:w.drew.cell? ⟨b,1,none⟩=some (.slice (some ⟨g,0,none⟩) 0 cap):=by
  have:w.drew.heap[b]?=some (.cells #[p,.slice (some ⟨g,0,none⟩) 0 cap] 107 (0,0)):=hbk
  rw[Lib.cell_of_heap this];rfl
 have hSD:(Builtin.unsafeSliceData_ #[105] 128 #[.slice (some ⟨g,0,none⟩) 0 cap]).run Tryz.prog w.drew = .ok (.pointer (some ⟨g,0,none⟩)) w.drew:=
  Lib.run_unsafeSliceData_row _ _ _ _ _ _ hc0
 clear hc0
 have mixed:=Tryz.lays169.mixed
 go_enter Tryz.func56,Tryz.ntmps56
 go_wp2
 go_region_o
 all_goals (go_wp2;go_ret;exact⟨rfl,Below.drew (Below.refl B w),qc5 _⟩)
def Tx.str(B b:Nat)(l:List UInt8)(w:World)(h:Lib.IsBuilder 107 5 B b (Lib.byteCells l) w)(hBw:B<=w.heap.size) :
  Calls Tryz.prog 56 #[.pointer (some ⟨b,0,none⟩)] w λe w'=>e = .returned (.string ⟨l.toArray⟩)/\Below B w w'/\w.drawn<=w'.drawn:=by
 cases l with
 |cons x r=>exact Tx.str_some B b (x :: r) w h (by simp)
 |nil=>
  obtain⟨p,hB,v,hbk,hown,hne⟩ : ∃p,Lib.BuilderAt 107 5 B b p [] w:=by
   rcases h with h|h
   ·exact⟨_,h⟩
   ·exact⟨_,h⟩
  rcases hown.2 with⟨rfl,_⟩|⟨g,cap,cur,rfl,hbg,hg,_,_,_,_⟩
  ·exact Tx.str_nil B b p w hbk
  ·by_cases hc0:cap=0
   ·subst hc0
    exact Tx.str_noroom B b g p cur w hBw hbk hg
   ·exact Tx.str_room B b g cap p w hc0 hbk
end Go.Proofs
namespace Go.Proofs
open Go.Shelf Go.RowKit
def Tx.letter(z:Nat):UInt8:=match z with
 |1=>102
 |2=>98
 |3=>108
 |_=>114
set_option maxHeartbeats 4000000 in
set_option maxRecDepth 1000000 in
def Tx.text(ao:Option Addr)(n cap:Nat)(zs:TA)(hz:zs.length=n)(hn:n<=1048576)(hb:∀z∈zs,1<=z/\z<=4)(w:World)(R:World->Prop)
  (hc:Calls Tryz.prog 17 #[.slice ao n cap] w λe w1=>e = .returned (.int .i64 0)/\R w1)
  (hR:∀w1,R w1->∀(i z:Nat),zs[i]?=some z->∃b o,ao=some ⟨b,o,none⟩/\b<w1.heap.size/\w1.cell? ⟨b,o+i,none⟩=some (.int .u8 (z:Int))) :
  Calls Tryz.prog 40 #[.slice ao n cap] w λe w'=>e = .returned (.string ⟨(zs.map Tx.letter).toArray⟩)/\∃w1,R w1/\Below w1.heap.size w1 w'/\w1.drawn<=w'.drawn:=by
 go_enter Tryz.func40,Tryz.ntmps40
 go_wp2_with (go_at_call 17;refine hc.mono ?_)
 rintro e w1 ⟨rfl,hr⟩
 have dv:=hR w1 hr
 go_wp2
 go_loopw [11] (λi wr=>∃k:Nat,k<=n/\i = .int .i64 k/\Lib.IsBuilder 107 5 w1.heap.size w1.heap.size (Lib.byteCells ((zs.take k).map Tx.letter)) wr/\Below w1.heap.size w1 wr/\w1.drawn<=wr.drawn) (λi _=>n - (intOf i).toNat)
 case atStart=>
  exact⟨0,qaX _,rfl,by simpa[Lib.byteCells]using Lib.fresh_isBuilder 107 5 w1,(Below.refl _ w1).alloc (qaf _) _,qaf _⟩
 case round=>
  obtain⟨k,hk,rfl,hI,hbw,hdw⟩:=hrel
  have hsz2:w1.heap.size<=wr.heap.size:=hbw.size
  by_cases hlt:k<n
  ·obtain⟨z,hzk⟩ : ∃z,zs[k]?=some z:=⟨zs[k]'(by omega),qai _⟩
   obtain⟨b,o,rfl,hbs,hcell⟩:=dv k z hzk
   have hcr:wr.cell? ⟨b,o+k,none⟩=some (.int .u8 (z:Int)):=by rw[hbw.cell hbs];exact hcell
   have hz4:=hb z (qab hzk)
   have htk:(zs.take (k+1)).map Tx.letter=(zs.take k).map Tx.letter++[Tx.letter z]:=by
    rw[qby,hzk];simp
   have hlen:(Lib.byteCells ((zs.take k).map Tx.letter)).length+1<=140737488355328:=by
    rw[Lib.byteCells_length,qaF,qaI];omega
   have hz5:z=1∨z=2∨z=3∨z=4:=by omega
   rcases hz5 with rfl|rfl|rfl|rfl
   all_goals
    go_wp2_with (go_at_call 55;refine(Tx.write w1.heap.size w1.heap.size _ _ _ hI hlen hsz2).mono ?_)
    rintro e W1 ⟨rfl,h1,b1,d1⟩
    go_wp2
    go_roundw
    case rel=>
     refine⟨k+1,by omega,by simp,?_,hbw.trans b1,qbj hdw d1⟩
     rw[htk,Lib.byteCells_append]
     exact Or.inr h1
    case measure=>
     simp[intOf];omega
  ·have hkn:k=n:=by omega
   subst hkn
   go_wp2_with (go_at_call 56;refine(Tx.str w1.heap.size w1.heap.size _ _ hI hsz2).mono ?_)
   rintro e W1 ⟨rfl,b1,d1⟩
   go_wp2
   go_ret
   rw[qaQ (by simp;omega)]
   exact⟨rfl,w1,hr,hbw.trans b1,qbj hdw d1⟩
end Go.Proofs
namespace Go.Am
open Sx Go.Proofs
def mh [Val] [Glo]{C:Cfg}{f:TM}{args:Tl}{H:Ts}{r:Value}{H':Ts}(h:cO C f args H r H'){base:Nat}{mu:HMap}{w:World}{args':Tj}
  (hb:base<=w.heap.size) (hv:VRs noL mu args args'.toList) (hW:WR C base mu H w) :
  Calls C.P f args' w λe w'=>∃v mu',e = .returned v/\VR noL mu' r v/\WR C base mu' H' w'/\Evo H mu w H' mu' w':=by
 intro cs
 obtain⟨v,mu',w',a1,a2,a3,_,fr,b1,b2,b3⟩:=h _ base mu w args' hb hv hW cs
 exact⟨.returned v,w',fr,⟨v,mu',rfl,a1,a2,a3⟩,b1,b2,b3⟩
def tx_below [Val] [Glo]{C:Cfg}{base:Nat}{mu:HMap}{H:Ts}{w w':World}(h:WR C base mu H w)(hb:Go.RowKit.Below w.heap.size w w')(hd:w.drawn<=w'.drawn):WR C base mu H w'/\Evo H mu w H mu w':=by
 refine⟨⟨λid o h1 h2=>?_,h.inj,h.own,h.ro,h.dom,λg vs hg=>?_⟩,⟨qaf _,λ_ _=>rfl,hb.size,λb hb' _=>hb.block b hb',λb h=>.inr h,hb.os,hb.tape,hb.output,hd⟩⟩
 ·obtain⟨p,h3,h4⟩:=h.obj id o h1 h2
  exact⟨p,h3,by rw[hb.block _ (gL h2 h4)];exact h4⟩
 ·obtain⟨h1,h2,c,e,fr,h3,h4⟩:=h.glob g vs hg
  exact⟨h1,h2,c,e,fr,by rw[hb.block _ (qat.1 h3).1];exact h3,h4⟩
def rF:Tl->Option (TA)
 | []=>some []
 | .int .u8 (.ofNat n) :: l=>match Nat.ble 1 n&&Nat.ble n 4,rF l with
  |true,some r=>some (n :: r)
  |_,_=>none
 |_ :: _=>none
def pN:∀ {l:Tl} {zs:TA},rF l=some zs->l=zs.map (λ(z:Nat)=>Value.int .u8 z)/\∀z∈zs,1<=z/\z<=4
 | [],zs,h=>by
  cases h
  exact⟨rfl,λ_ h=>by cases h⟩
 |v :: l,zs,h=>by
  unfold rF at h
  split at h
  next e=>cases e
  next n l' e=>
   cases e
   split at h
   next r h1 h2=>
    cases h
    obtain⟨q1,q2⟩:=pN h2
    simp only[qaa]at h1
    refine⟨by rw[qau,←q1];rfl,λz hz=>?_⟩
    rcases qal.1 hz with rfl|hz
    ·exact⟨qcv h1.1,qcv h1.2⟩
    ·exact q2 z hz
   ·cases h
  ·cases h
def txG(x:Value)(g:bV):Option (Tl):=match lenS x,slG cc 1 g x with
 |some _,some p=>(match Nat.ble p.2 1048576,rF p.1 with
  |true,some zs=>some [.string ⟨(zs.map Tx.letter).toArray⟩]
  |_,_=>none)
 |_,_=>none
def uS{x s:Value}{H:Ts}(hcall:cO cc 17 [x] H (.int .i64 0) H)(ht:txG x (λi=>H[i]?)=some [s]):cO cc 40 [x] H s H:=by
 unfold txG at ht
 split at ht
 case h_2=>cases ht
 rename_i ln p hln hp
 split at ht
 case h_2=>cases ht
 rename_i zs hle hzs
 simp only[qas,qay,and_true]at ht
 subst ht
 obtain⟨hcs,hz4⟩:=pN hzs
 have hle:=qcv hle
 intro glo base mu w args' hb hargs hW cs
 obtain⟨v',vs,hav,hv,hvs⟩ : ∃v' vs,args'.toList=v' :: vs/\VR noL mu x v'/\vs=[]:=by
  obtain⟨v',vs,h1,h2,h3⟩:=hargs.uncons
  exact⟨v',vs,h1,h2,by have:=h3.1;simpa using this.symm⟩
 subst hvs
 have hargs':args' = #[v']:=qa6.1 hav
 subst hargs'
 obtain⟨ao,cap,rfl,hlen,hrd⟩ : ∃ao cap,v' = .slice ao zs.length cap/\p.2=zs.length/\∀(mu':HMap) (w1:World),(∀id,id<H.length->mu' id=mu id)->WR cc base mu' H w1->∀(i z:Nat),zs[i]?=some z->
   ∃b o,ao=some ⟨b,o,none⟩/\b<w1.heap.size/\w1.cell? ⟨b,o+i,none⟩=some (.int .u8 (z:Int)):=by
  unfold slG at hp
  split at hp
  ·cases hp
   have hz0:zs=[]:=by
    cases zs with
    |nil=>rfl
    |cons z l=>simp at hcs
   subst hz0
   cases hv with
   |scalar _=>exact⟨none,0,rfl,rfl,λ_ _ _ _ i z h=>by simp at h⟩
  next a len cx=>
   split at hp
   next hsp=>
    cases hG:cc.G a.block with
    |none=>rw[hG]at hp;cases hp
    |some gs=>
     rw[hG,qak]at hp
     obtain⟨xs,hcut,rfl⟩:=qac.1 hp
     have hcs:xs=zs.map (λ(z:Nat)=>Value.int .u8 z):=hcs
     have hl:xs.length=len:=by
      have:=hcut
      unfold Am.cut at this
      split at this
      ·cases this;simp;omega
      ·cases this
     have hzl:zs.length=len:=by rw[←hl,hcs];simp
     have dv:∀(mu':HMap) (w1:World),WR cc base mu' H w1->∀(i z:Nat),zs[i]?=some z->gBlk a.block<w1.heap.size/\w1.cell? ⟨gBlk a.block,gOff a.block+a.off+i,none⟩=some (.int .u8 (z:Int)):=by
      intro mu' w1 hW1 i z hz
      obtain⟨g1,g2,c,e,fr,g3,g4⟩:=hW1.glob _ _ hG
      obtain⟨ys,y1,y2,y3⟩:=g4.cut hcut
      have hx:xs[i]?=some (.int .u8 (z:Int)):=by rw[hcs,qax,hz];rfl
      obtain⟨y,hy1,hy2⟩:=y2.get hx
      have:=bq (a:=.int .u8 (z:Int)) rfl hy2
      subst this
      refine⟨(qat.1 g3).1,?_⟩
      have:=y3 i _ hy1
      simp[World.cell?,g3,this]
     cases hv with
     |scalar h=>simp[Am.scalar]at h
     |hslice h hr hl hx=>simp[tag]at hsp
     |hslice0 hx=>simp[tag]at hsp
     |gslice hl' hx=>
      rename_i g off cap
      exact⟨_,cap,by rw[hzl],hzl.symm,λmu' w1 _ hW1 i z hz=>⟨_,_,rfl,dv mu' w1 hW1 i z hz⟩⟩
     |gslice0 hx=>
      refine⟨_,0,by rw[hzl],hzl.symm,λmu' w1 _ hW1 i z hz=>?_⟩
      have:i<zs.length:=(qaN.1 hz).1
      omega
   ·split at hp
    next hsp=>
     split at hp
     next vs e rw0 hid=>
      split at hp
      next he=>
       obtain⟨xs,hcut,rfl⟩:=qac.1 hp
       have hcs:xs=zs.map (λ(z:Nat)=>Value.int .u8 z):=hcs
       have hl:xs.length=len:=by
        have:=hcut
        unfold Am.cut at this
        split at this
        ·cases this;simp;omega
        ·cases this
       have hzl:zs.length=len:=by rw[←hl,hcs];simp
       cases hv with
       |scalar h=>simp[Am.scalar]at h
       | @hslice id off _ cap _ p hmm hr0 hl' hx=>
        refine⟨_,cap,by rw[hzl],hzl.symm,λmu' w1 hmu hW1 i z hz=>?_⟩
        have hidlt:id<H.length:=by
         rcases qaO id H.length with h|h
         ·exact h
         ·have hid:H[id]?=some (.cells vs e rw0):=hid
          rw[qaj h]at hid;cases hid
        have hp':mu' id=some p:=by rw[hmu id hidlt];exact hmm
        obtain⟨q,hq,hr⟩:=hW1.obj id _ hid rfl
        obtain rfl:q=p:=by rw[hp']at hq;exact(qae hq).symm
        obtain⟨o1,o2,o3,c,e',fr,o4,o5,o6,o7⟩:=hr
        have hcr:bL mu' vs c q.o:=o7
        obtain⟨ys,y1,y2,y3⟩:=hcr.cut hcut
        have hx:xs[i]?=some (.int .u8 (z:Int)):=by rw[hcs,qax,hz];rfl
        obtain⟨y,hy1,hy2⟩:=y2.get hx
        have:=bq (a:=.int .u8 (z:Int)) rfl hy2
        subst this
        refine⟨q.b,q.o+off,rfl,(qat.1 o4).1,?_⟩
        have:=y3 i _ hy1
        simp[World.cell?,o4,this]
       |hslice0 hx=>
        refine⟨_,0,by rw[hzl],hzl.symm,λmu' w1 _ hW1 i z hz=>?_⟩
        have:i<zs.length:=(qaN.1 hz).1
        omega
       |gslice hl hx=>simp[tag]at hsp
       |gslice0 hx=>simp[tag]at hsp
      ·cases hp
     ·cases hp
    ·cases hp
  ·cases hln
  ·cases hp
 have h21:=mh hcall hb hargs hW
 have key:=Tx.text ao zs.length cap zs rfl (by omega) hz4 w (λw1=>∃v mu',VR noL mu' (.int .i64 0) v/\WR cc base mu' H w1/\Evo H mu w H mu' w1)
  (h21.mono λe w1 ⟨v,mu',h1,h2,h3,h4⟩=>⟨by rw[h1,bq (a:=.int .i64 0) rfl h2],v,mu',h2,h3,h4⟩)
  (λw1 ⟨v,mu',_,h3,h4⟩ i z hz=>hrd mu' w1 h4.same h3 i z hz)
 obtain⟨e,w',fr,⟨rfl,w1,⟨_,mu',_,h3,h4⟩,hbel,hdr⟩,b1,b2,b3⟩:=key cs
 obtain⟨k1,k2⟩:=tx_below h3 hbel hdr
 exact⟨.string ⟨(zs.map Tx.letter).toArray⟩,mu',w',.scalar rfl,k1,h4.trans k2,by kernel_rfl,fr,b1,b2,b3⟩
def memoS(g:FB):FB:=λls h K=>ext h none ls .empty λls0 h0=>@Option.rec _ (λ_=>RT) none (λrs=>K rs h) (g ls0 h0 tell)
def memoS_ok{C:Cfg}{Sg:Tc}{T:Tt}{k:Nat}{g:FB} [Val] [Kno]
  (hro:∀(ls0 rs:TD) (H0 H' H:Ts) (σ:TB),aK C Sg k ls0 H0 rs H'->(∀(j:Nat) (o:HObj),H0[j]?=some o->∃vs e rw,o = .cells vs e false/\vs.all flat=true/\H[σ j]?=some (.cells vs e rw))->(∀l∈ls0,OkL H0.length l)->aK C Sg k (ls0.map (renL σ)) H rs H)
  (hg:nU C Sg T k g) {ls:TD} {h:HTr} {K:TD->HTr->RT} {w:TD} (hls:dj ls) (hk:memoS g ls h K=some w):∃rs,aK C Sg k ls (absH T (toL h)) rs (absH T (toL h))/\K rs h=some w:=by
 unfold memoS at hk
 rcases mL (T:=T) ls .empty _ id (λj o hj=>by cases hj) hk with h1|⟨ls0,h1,σ,a1,_,_,a4,a5,a6⟩
 ·cases h1
 ·cases e:g ls0 h1 tell with
  |none=>rw[e]at a1;cases a1
  |some rs=>
   rw[e]at a1
   rw[kN]at e
   have hgood:dj ls0:=by
    intro l hl
    cases l with
    |v x=>
     have h2:=hls (.v (renV σ x)) (by rw[←a5];exact qck (f:=renL σ) hl)
     have h2:aW (renV σ x)=true:=h2
     rw[sI]at h2
     exact h2
    |_=>trivial
   obtain⟨rs',h',b1,b2⟩:=hg ls0 h1 _ rs hgood e
   cases b2
   have:=hro ls0 rs _ _ (absH T (toL h)) σ b1 a4 (λl hl=>by rw[dt,cU];exact a6 l hl)
   rw[a5]at this
   exact⟨rs,this,a1⟩
def oneV(cs:Tl)(k:Value->RT):RT:=match cs with
 | [v]=>k v
 |_=>none
def oneV_ok{cs:Tl}{k:Value->RT}{w:TD}(h:oneV cs k=some w):∃v,cs=[v]/\k v=some w:=by
 unfold oneV at h
 split at h
 ·exact⟨_,rfl,h⟩
 ·cases h
def txG_str{x s:Value}{g:bV}(h:txG x g=some [s]):∃b,s = .string b:=by
 unfold txG at h
 split at h
 ·split at h
  ·simp only[qas,qay,and_true]at h
   exact⟨_,h.symm⟩
  ·cases h
 ·cases h
abbrev o_k(k:Nat)(w:ac->FB):Prop:=∀{c:ac},Cok c->Ent k (w c)
def w40(c:ac):FB:=λls h K=>memoS (c (.f 17)) ls h λrs h=>match rs with
 | [.i n]=>(match eqZ n 0,ls with
  |true,[.v x]=>peekB aa (.fn (txG x)) h λcs=>oneV cs λs=>K [.v s] h
  |_,_=>none)
 |_=>none
def eqZ_zero{n:Int}(h:eqZ n 0=true):n=0:=by
 cases n with
 |ofNat a=>exact congrArg Int.ofNat (qad h)
 |negSucc a=>cases h
def ok40:o_k 40 w40:=λhc=>by
 intro ls h K w hls hk
 obtain⟨rs,h1,h2⟩:=memoS_ok (k:=17) (λls0 rs H0 H' H σ hc hb hl=>tW mixed gH (g:=17) (sg:=⟨[lv],[li]⟩) rfl (by kernel_rfl) (by kernel_rfl) σ hc hb hl) (λls h K w h1 h2=>hc.f 17 ls h K w h1 h2) hls hk
 split at h2
 case h_2=>cases h2
 rename_i n
 split at h2
 case h_2=>cases h2
 rename_i x he
 have hn:=eqZ_zero he
 subst hn
 obtain⟨cs,h3,h4⟩:=(BA_ok (w:=w) hc).peek (.fn (txG x)) h _ h2
 obtain⟨s',rfl,h4⟩:=oneV_ok h4
 have h3:txG x (λi=>(absH aa (toL h))[i]?)=some [s']:=h3
 obtain⟨s,rfl⟩:=txG_str h3
 refine⟨[.v (.string s)],h,?_,h4⟩
 obtain⟨sg,xs,ys,c1,c2,c3,c4⟩:=h1
 have c1':ab 17=some ⟨[lv],[li]⟩:=rfl
 rw[c1']at c1
 cases c1
 have hgx:aW x=true:=hls (.v x) (by simp)
 have hx:ah xs=[x]:=(cH (b:=[.leaf (.v x)]) c2.1 rfl c2.2.1).1
 have hy:ah ys=[.int .i64 0]:=(cH (b:=[.leaf (.i .i64 0)]) c3.1 rfl c3.2.1).1
 rw[hx,hy]at c4
 have hck:=jG mixed c4
 have ht:=uS hck h3
 exact⟨⟨[lv],[lv]⟩,[.leaf (.v x)],[.leaf (.v (.string s))],rfl,⟨rfl,rfl,λy hy=>by
   simp only[qap]at hy
   subst hy
   exact au hgx⟩,⟨rfl,rfl,λy hy=>by
   simp only[qap]at hy
   subst hy
   exact au rfl⟩,⟨0,.inr ⟨.inr ⟨by kernel_rfl,rfl⟩,ht⟩⟩⟩
end Go.Am
end

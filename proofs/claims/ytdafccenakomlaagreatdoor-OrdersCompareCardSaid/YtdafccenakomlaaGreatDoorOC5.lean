/-
  PART 5 OF THE PROOF: Sx10 Sx11 Sy1 Sy2 Sy3 Sy4 Sy5 Sx9d Sy6 Sy7 Ge0 Ge1 Ge2 Ge3 Ge4 Ge5 Ge6 Gq Sx12 Sx13 Px1 Sx14 Bx1 Gy Gb Ph1 (no conditions).
-/
import Derived.Test.YtdafccenakomlaaGreatDoorOC4
import Derived.Calls
import Derived.LaidMore
import Derived.MakeChecks
import Derived.OpenShut
import Derived.ProofKit
import Derived.Stop.Joined
import Derived.Test.YtdafccenakomlaaGreatDoorRows
import GoSem.ClaimJoined
set_option linter.unusedSectionVars false
set_option linter.unusedSimpArgs false
set_option linter.unusedVariables false
set_option linter.constructorNameAsVariable false
set_option linter.defProp false
noncomputable section
/-
 THE ALGEBRA OF RUNS TELLS THE TRUTH;whole runs.
-/
namespace Go.Am
def LK.plain:LK->Bool
 | .v=>false
 |_=>true
def SK.plain:SK->Bool
 | .leaf k=>k.plain
 | .agg ks=>ks.all LK.plain
def Sig.plain(s:Sig):Bool:=s.ps.all SK.plain&&s.rs.all SK.plain
namespace Sx
section
variable [Val] [Kno]
variable {w:List Lf}
theorem qg(k:IntKind)(c:Int)(K:Int->RT):outG k c K=K (k.wrap c):=by
 unfold outG
 cases e:fits k c with
 |true=>rw[oF e]
 |false=>exact gW _ _
theorem out64_eq(c:Int)(K:Int->RT):out64 c K=K (IntKind.wrap .i64 c):=by
 refine Eq.trans ?_ (qg .i64 c K)
 cases c<;>rfl
theorem outU8_eq(c:Int)(K:Int->RT):outU8 c K=K (IntKind.wrap .u8 c):=by
 refine Eq.trans ?_ (qg .u8 c K)
 cases c<;>rfl
theorem kC(k:IntKind)(c:Int)(K:Int->RT):outK k c K=K (k.wrap c):=by
 cases k<;>first|exact qg _ _ _|exact out64_eq _ _|exact outU8_eq _ _
theorem addK_eq(a b:Int)(K:Int->RT):addK a b K=K (a+b):=by
 unfold addK
 cases a with
 |ofNat m=>
  cases b with
  |ofNat n=>exact congrArg K rfl
  |negSucc n=>
   simp only[fS]
   cases e:Nat.blt n m with
   |true=>rw[qaN]at e;exact congrArg K (show Int.ofNat (m - (n+1))=Int.ofNat m+Int.negSucc n by simp only[qaQ,qbi];omega)
   |false=>
    have e:¬n<m:=λh=>by rw[←qaN,e]at h;cases h
    exact congrArg K (show Int.negSucc (n - m)=Int.ofNat m+Int.negSucc n by simp only[qaQ,qbi];omega)
 |negSucc m=>
  cases b with
  |ofNat n=>
   simp only[fS]
   cases e:Nat.blt m n with
   |true=>rw[qaN]at e;exact congrArg K (show Int.ofNat (n - (m+1))=Int.negSucc m+Int.ofNat n by simp only[qaQ,qbi];omega)
   |false=>
    have e:¬m<n:=λh=>by rw[←qaN,e]at h;cases h
    exact congrArg K (show Int.negSucc (m - n)=Int.negSucc m+Int.ofNat n by simp only[qaQ,qbi];omega)
  |negSucc n=>exact congrArg K (show Int.negSucc (m+n+1)=Int.negSucc m+Int.negSucc n by simp only[qbi];omega)
theorem subK_eq(a b:Int)(K:Int->RT):subK a b K=K (a - b):=by
 unfold subK
 cases a with
 |ofNat m=>
  cases b with
  |ofNat n=>
   simp only[fS]
   cases e:Nat.ble n m with
   |true=>rw[qbr]at e;exact congrArg K (show Int.ofNat (m - n)=Int.ofNat m - Int.ofNat n by simp only[qaQ];omega)
   |false=>
    have e:¬n<=m:=λh=>by rw[←qbr,e]at h;cases h
    exact congrArg K (show Int.negSucc (n - (m+1))=Int.ofNat m - Int.ofNat n by simp only[qaQ,qbi];omega)
  |negSucc n=>exact congrArg K (show Int.ofNat (m+n+1)=Int.ofNat m - Int.negSucc n by simp only[qaQ,qbi];omega)
 |negSucc m=>
  cases b with
  |ofNat n=>exact congrArg K (show Int.negSucc (m+n)=Int.negSucc m - Int.ofNat n by simp only[qaQ,qbi];omega)
  |negSucc n=>
   simp only[fS]
   cases e:Nat.ble m n with
   |true=>rw[qbr]at e;exact congrArg K (show Int.ofNat (n - m)=Int.negSucc m - Int.negSucc n by simp only[qaQ,qbi];omega)
   |false=>
    have e:¬m<=n:=λh=>by rw[←qbr,e]at h;cases h
    exact congrArg K (show Int.negSucc (m - (n+1))=Int.negSucc m - Int.negSucc n by simp only[qbi];omega)
theorem mulK_eq(a b:Int)(K:Int->RT):mulK a b K=K (a*b):=by
 unfold mulK
 cases a with
 |ofNat m=>
  cases b with
  |ofNat n=>exact congrArg K rfl
  |negSucc n=>
   cases m with
   |zero=>exact congrArg K (show Int.ofNat 0=Int.ofNat 0*Int.negSucc n by simp)
   |succ m=>
    refine congrArg K (show Int.negSucc ((m+1)*n+m)=Int.ofNat (m+1)*Int.negSucc n from ?_)
    simp only[qaQ,qbi,qcQ,qcT]
    simp only[qcS,Int.mul_neg,Int.mul_add,Int.add_mul]
    omega
 |negSucc m=>
  cases b with
  |ofNat n=>
   cases n with
   |zero=>exact congrArg K (show Int.ofNat 0=Int.negSucc m*Int.ofNat 0 by simp)
   |succ n=>
    refine congrArg K (show Int.negSucc (m*(n+1)+n)=Int.negSucc m*Int.ofNat (n+1)from ?_)
    simp only[qaQ,qbi,qcQ,qcT]
    simp only[qcS,Int.neg_mul,Int.mul_add,Int.add_mul]
    omega
  |negSucc n=>
   refine congrArg K (show Int.ofNat ((m+1)*(n+1))=Int.negSucc m*Int.negSucc n from ?_)
   simp only[qaQ,qbi,qcQ,qcT]
   simp only[qcS,Int.neg_mul_neg]
theorem quoK_eq(a b:Int)(K:Int->RT):quoK a b K=K (Int.tdiv a b):=by
 unfold quoK
 cases a with
 |ofNat m=>
  cases b with
  |ofNat n=>exact congrArg K rfl
  |negSucc n=>exact gW _ _
 |negSucc m=>exact gW _ _
theorem remK_eq(a b:Int)(K:Int->RT):remK a b K=K (Int.tmod a b):=by
 unfold remK
 cases a with
 |ofNat m=>
  cases b with
  |ofNat n=>exact congrArg K rfl
  |negSucc n=>exact gW _ _
 |negSucc m=>exact gW _ _
theorem oM{b:Int}(h:isZ b=false):b≠0:=by
 intro e;subst e;cases h
theorem fitsK{k:IntKind}{c:Int}{K:Int->RT}(h:outK k c K=some w):K (k.wrap c)=some w:=(kC k c K).symm.trans h
theorem ariB_ok{op:BinOp}{k:IntKind}{a b:Int}{K:Int->RT}(h:ariB op k a b K=some w):∃n,mF op k a b n/\K n=some w:=by
 cases op<;>simp only[ariB,reduceCtorEq]at h
 ·rw[addK_eq,kC]at h
  exact⟨_,λP t w=>by simp[binOp,Op.intArith],h⟩
 ·rw[subK_eq,kC]at h
  exact⟨_,λP t w=>by simp[binOp,Op.intArith],h⟩
 ·rw[mulK_eq,kC]at h
  exact⟨_,λP t w=>by simp[binOp,Op.intArith],h⟩
 ·cases hb:isZ b with
  |true=>rw[hb]at h;cases h
  |false=>
   rw[hb]at h
   simp only[quoK_eq,kC]at h
   have hb:=oM hb
   exact⟨_,λP t w=>by simp[binOp,Op.intDiv,hb],h⟩
 ·cases hb:isZ b with
  |true=>rw[hb]at h;cases h
  |false=>
   rw[hb]at h
   simp only[remK_eq]at h
   have hb:=oM hb
   exact⟨_,λP t w=>by simp[binOp,Op.intDiv,hb],h⟩
 ·split at h
  ·rename_i hb
   have hb:=eqI_iff.1 hb
   subst hb
   rw[gW]at h
   exact⟨_,kM rfl,h⟩
  ·split at h
   ·rw[gW]at h
    exact⟨_,qj _ _,fitsK h⟩
   ·cases h
 ·split at h
  ·rw[gW]at h
   exact⟨_,sM _ _,fitsK h⟩
  ·cases h
 ·split at h
  ·rw[gW]at h
   exact⟨_,qm _ _,fitsK h⟩
  ·cases h
theorem eqI_eq(x y:Int):eqI x y=(x==y):=by rw[qbI,eqI_iff,beq_iff_eq]
theorem pP(x y:Int):eqZK x y=(x==y):=by
 rw[←eqI_eq]
 cases x<;>cases y<;>rfl
theorem leZ_eq(x y:Int):leZ x y=decide (x<=y):=by rw[qbI,leZ_iff,decide_eq_true_iff]
theorem notK_eq(b:Bool):notK b = !b:=by cases b<;>rfl
theorem cmpB_ok{op:BinOp}{a b:Int}{K:Bool->RT}(h:cmpB op a b K=some w):∃t,lF op a b=some t/\K t=some w:=by
 cases op<;>simp only[cmpB,reduceCtorEq,pP,leZ_eq,notK_eq]at h
 ·exact⟨_,rfl,h⟩
 ·exact⟨_,rfl,h⟩
 ·exact⟨_,rfl,by rw[show decide (a<b) = !decide (b<=a)by rw[qbI];simp];exact h⟩
 ·exact⟨_,rfl,h⟩
 ·exact⟨_,rfl,by rw[show decide (a > b) = !decide (a<=b)by rw[qbI];simp];exact h⟩
 ·exact⟨_,rfl,h⟩
theorem eqLf_eq(a b:Lf):eqLf a b=gp a b:=by
 cases a<;>cases b<;>try rfl
 ·exact pP _ _
 ·rename_i x y;cases x<;>cases y<;>rfl
theorem eqsV_eq(l:List (Lf×Lf)):eqsV l=cb l:=by
 unfold cb
 induction l with
 |nil=>rfl
 |cons p l ih=>
  show(Bool.rec false (eqsV l) (eqLf p.1 p.2):Bool)=_
  rw[eqLf_eq,qbv,ih]
  cases gp p.1 p.2<;>rfl
theorem eqsB_ok{l:List (Lf×Lf)}{K:Bool->RT}(h:eqsB l K=some w):K (cb l)=some w:=by
 rw[←eqsV_eq];exact h
structure CallBOk(C:Cfg)(Sg:FuncId->Option Sig)(T:Nat->Site)(call:aa):Prop where
 f:∀g ls h K w,cL ls->call (.f g) ls h K=some w->∃rs h',bG C Sg g ls (absH T (toL h)) rs (absH T (toL h'))/\K rs h'=some w
 y:∀κ vs l ls h K w st pd xs,h.at l=some (.lp κ st pd vs)->Told ((T κ).params.map (·.2)) ls xs->call (.y κ vs l) ls h K=some w->
  ∃b h',gN C l (af xs) (absH T (toL h)) (.bool b) (absH T (toL h'))/\K [.b b] h'=some w
theorem jV(T:Nat->Site)(h:HL):getH T h=λi=>(absH T h)[i]?:=by
 funext i
 simp only[getH,absH,qaF]
 cases h[i]?<;>rfl
theorem getT_eq(T:Nat->Site)(h:HTr):getT T h=λi=>(absH T (toL h))[i]?:=by
 funext i
 simp only[getT,absH,qaF,iy,Option.map_map]
 cases h.at i<;>rfl
theorem jk(T:Nat->Site)(h:HTr):getT T h=getH T (toL h):=(getT_eq T h).trans (jV T (toL h)).symm
theorem jU{T:Nat->Site}{h:HTr}{i:Nat}{x:HOT}(e:h.at i=some x):getH T (toL h) i=some (absO T x.ho):=by
 rw[←jk];unfold getT;rw[e]
theorem gg(T:Nat->Site)(h:HL):(absH T h).length=h.length:=by simp[absH]
theorem gi(T:Nat->Site)(h:HL)(i:Nat)(o:HO):absH T (h.set i o)=(absH T h).set i (absO T o):=by simp[absH,List.map_set]
theorem gh(T:Nat->Site)(h:HL)(o:HO):absH T (h++[o])=absH T h++[absO T o]:=by simp[absH]
theorem gS(T:Nat->Site):∀(l:List Act1) (h:HL),absH T (bO h l)=eF (absH T h) l
 | [],h=>rfl
 |a :: l,h=>by
  have ih:=gS T l (a.onH h)
  show absH T (bO (a.onH h) l)=eF (a.on (absH T h)) l
  rw[ih]
  congr 1
  cases a with
  |set i o=>exact gi T h i _
  |push o=>exact gh T h _
theorem mH:∀ {l:List Act1} {h:HTr} {k:HTr->RT},rT l h k=some w->∃h',toL h'=bO (toL h) l/\k h'=some w
 | [],h,k,hk=>⟨h,rfl,hk⟩
 | .set i o :: l,h,k,hk=>by
  have hk:(oO o λo=>putK h i o λh=>rT l h k)=some w:=hk
  obtain⟨x,e1,e2⟩:=gz (o:=o) (k:=λo=>putK h i o λh=>rT l h k)
  rw[e2,fe]at hk
  obtain⟨h',e,hk⟩:=mH hk
  exact⟨h',by rw[e,fj,e1];rfl,hk⟩
 | .push o :: l,h,k,hk=>by
  have hk:(oO o λo=>il h o λh=>rT l h k)=some w:=hk
  obtain⟨x,e1,e2⟩:=gz (o:=o) (k:=λo=>il h o λh=>rT l h k)
  rw[e2,fq]at hk
  obtain⟨h',e,hk⟩:=mH hk
  exact⟨h',by rw[e,fz,e1];rfl,hk⟩
theorem rL(s:Option Nat):spot0 s=(s != some 0):=by
 cases s with
 |none=>rfl
 |some k=>cases k<;>rfl
theorem qR(v:Value):goodF v=bk v:=by
 unfold goodF
 split
 ·rename_i a
  rw[rL]
  simp[bk,noLoc,aR,bL,bb,aQ,az]
 ·rename_i a _ _
  rw[rL]
  simp[bk,noLoc,aR,bL,bb,aQ,az]
 ·rfl
theorem pY{α:Type}(l:List α):lenR l=l.length:=by
 induction l with
 |nil=>rfl
 |cons a l ih=>exact congrArg Nat.succ ih
theorem ldB_ok{T:Nat->Site}{n:Nat}{p:Value}{h:HTr}{K:List Value->RT}(hk:ldB n p h K=some w):∃cs,ldP n p (getH T (toL h))=some cs/\K cs=some w:=by
 unfold ldB at hk
 split at hk
 ·rename_i a
  split at hk
  ·rename_i hs
   split at hk
   ·rename_i m e rw' c hat
    split at hk
    ·rename_i hle
     rw[qbr]at hle
     refine⟨_,?_,hk⟩
     unfold ldP
     simp only[hs,eN,jU hat,HOT.ho,absO,qae,cut]
     rw[if_pos (by rw[aK];exact hle),gI c n a.off m hle]
    ·cases hk
   ·cases hk
  ·cases hk
 ·cases hk
theorem lgB_ok{T:Nat->Site}{C:Cfg}{n:Nat}{p:Value}{h:HTr}{K:List Value->RT}(hk:lgB C n p h K=some w):∃cs,lgP C n p (getH T (toL h))=some cs/\K cs=some w:=by
 unfold lgB at hk
 split at hk
 ·rename_i a
  split at hk
  ·rename_i hs
   split at hk
   ·rename_i m e rw' c hat
    split at hk
    ·rename_i hle
     rw[qbr]at hle
     refine⟨_,?_,hk⟩
     unfold lgP
     simp only[hs,eN,jU hat,HOT.ho,absO,qae,cut]
     rw[if_pos (by rw[aK];exact hle),gI c n a.off m hle]
    ·cases hk
   ·cases hk
  ·rename_i k hs
   split at hk
   ·rename_i hb
    split at hk
    ·rename_i vs hg
     split at hk
     ·rename_i cs hc
      refine⟨cs,?_,hk⟩
      unfold lgP
      simp only[hs,hb,hg,qae]
      rw[jI]at hc
      exact hc
     ·cases hk
    ·cases hk
   ·cases hk
 ·cases hk
theorem stB_ok{T:Nat->Site}{p:Value}{new:List Value}{h:HTr}{K:List Value->HTr->RT}{n0:Nat}(hk:stB p new h K=some w) :
  ∃acts cs h',stP p new (getH T (toL h)) n0=some (acts,cs)/\toL h'=bO (toL h) acts/\K cs h'=some w:=by
 unfold stB at hk
 split at hk
 ·rename_i a
  split at hk
  ·rename_i hs
   split at hk
   ·rename_i m e c hat
    split at hk
    ·rename_i hle
     rw[qbr,pY]at hle
     rw[jY,fe]at hk
     refine⟨[.set a.block (.cells (bB (insT new a.off c) m) e true)],[],_,?_,?_,hk⟩
     ·unfold stP
      simp only[hs,jU hat,HOT.ho,absO,splice]
      rw[if_pos (by rw[aK];exact hle),lC hle]
      rfl
     ·rw[fj];rfl
    ·cases hk
   ·cases hk
  ·cases hk
 ·cases hk
theorem rN{s:Option Nat}{esz:Nat}:tagB s esz=true↔s=tag esz:=by
 unfold tagB tag
 cases s with
 |none=>simp
 |some k=>simp only[Nat.beq_eq,qam];try rfl
theorem slB_ok{C:Cfg}{T:Nat->Site}{esz:Nat}{x:Value}{h:HTr}{K:List Value->Nat->RT}(hk:slB C T esz x h K=some w) :
  ∃l n,slG C esz (getH T (toL h)) x=some (l,n)/\K l n=some w:=by
 have gen:∀ {x:Value},(match slG C esz (getT T h) x with|some p=>K p.1 p.2|none=>none)=some w->∃l n,slG C esz (getH T (toL h)) x=some (l,n)/\K l n=some w:=by
  intro x hk
  split at hk
  ·rename_i p e
   rw[jk]at e
   exact⟨p.1,p.2,e,hk⟩
  ·cases hk
 unfold slB at hk
 split at hk
 ·rename_i a len cx
  split at hk
  ·rename_i ht
   have ht:=rN.1 ht
   split at hk
   ·rename_i m e rw' c hat
    split at hk
    ·rename_i h1 h2
     have h1:=qac h1
     rw[qbr]at h2
     subst h1
     refine⟨_,_,?_,hk⟩
     unfold slG
     simp only[jU hat,HOT.ho,absO]
     rw[if_neg (by rw[ht];simp[tag]),if_pos ht]
     first|rw[if_pos rfl]|rw[if_pos trivial]
     rw[cut,if_pos (by rw[aK];exact h2),gI c _ a.off m h2]
     rfl
    ·cases hk
   ·cases hk
  ·exact gen hk
 ·exact gen hk
theorem qS{c:Tr Value}{m off wd esz:Nat}{new:List Value}{k:HOT->RT}(hle:off+wd<=m)(hk:growB c m off wd esz new k=some w) :
  ∃x:HOT,x.ho = .o (.cells (((bB c m).drop off).take wd++new) esz true)/\k x=some w:=by
 unfold growB at hk
 split at hk
 ·rename_i h1 h2
  have h1:=qac h1
  have h2:=qac h2
  subst h1 h2
  rw[jY,fS,pY]at hk
  refine⟨_,?_,hk⟩
  show HO.o (.cells (bB (insT new wd c) (wd+new.length)) esz true)=_
  rw[jD,qbb,qaO (by rw[aK];exact qaA _)]
 ·rw[gI c wd off m hle]at hk
  obtain⟨x,e1,e2⟩:=gz (o:=.cells (((bB c m).drop off).take wd++new) esz true) (k:=k)
  rw[e2]at hk
  exact⟨x,e1,hk⟩
theorem apB_ok{C:Cfg}{T:Nat->Site}{esz bytes:Nat}{s x:Value}{h:HTr}{K:List Value->HTr->RT}(hk:apB T C esz bytes s x h K=some w) :
  ∃acts cs h',apG C esz bytes s x (getH T (toL h)) (toL h).length=some (acts,cs)/\toL h'=bO (toL h) acts/\K cs h'=some w:=by
 obtain⟨new,n,hsl,hk⟩:=slB_ok hk
 unfold apG
 rw[hsl,eD]
 simp only at hk ⊢
 split at hk
 ·cases n with
  |zero=>exact⟨_,_,h,rfl,rfl,hk⟩
  |succ n=>
   simp only at hk
   split at hk
   ·rename_i hz
    obtain⟨y,e1,e2⟩:=gz (o:=.cells new esz true) (k:=λo=>il h o λh'=>fN (n+1) λn=>K [.slice (some ⟨h.n,0,tag esz⟩) n 0] h')
    rw[e2,fq,fS]at hk
    refine⟨[.push (.cells new esz true)],_,_,?_,?_,hk⟩
    ·show(if n+1=0 then some ([],[Value.slice none 0 0])else if bP (n+1) bytes then _ else none)=_
     rw[if_neg (by omega),if_pos hz]
    ·rw[fz,e1];rfl
   ·cases hk
 ·rename_i a len cx _
  split at hk
  ·cases hk
  ·rename_i ht
   have ht:=rN.1 ht
   split at hk
   ·rename_i m e rw' c hat
    split at hk
    ·rename_i h1 h2
     have h1:=qac h1
     rw[qbr]at h2
     subst h1
     have hb:a.off+len*e<=m:=h2
     have hcut:cut (bB c m) a.off (len*e)=some (((bB c m).drop a.off).take (len*e)):=by rw[cut,if_pos (by rw[aK];exact hb)]
     simp only[ht,ne_eq,not_true_eq_false,if_false,jU hat,HOT.ho,absO,hcut]
     cases cx with
     |zero=>
      simp only at hk ⊢
      cases n with
      |zero=>exact⟨[],_,h,by first|rw[if_pos rfl]|rw[if_pos trivial],rfl,hk⟩
      |succ n=>
       simp only at hk
       split at hk
       ·rename_i q1 q2
        obtain⟨y,e1,hk⟩:=qS hb hk
        rw[fe,fq,fS]at hk
        refine⟨[.set a.block .dead,.push (.cells (((bB c m).drop a.off).take (len*e)++new) e true)],_,_,by rw[if_neg (by omega),if_pos (by rw[q2];rfl)],?_,hk⟩
        rw[fz,fj,e1];rfl
       ·cases hk
     |succ cap=>
      simp only at hk ⊢
      split at hk
      ·rename_i q0
       rw[qbr]at q0
       split at hk
       ·rename_i q1 q2
        rw[qbr,pY]at q2
        have q2:a.off+len*e+new.length<=m:=q2
        rw[jY,fe,fS]at hk
        refine⟨[.set a.block (.cells ((bB c m).take (a.off+len*e)++new++(bB c m).drop (a.off+len*e+new.length)) e true)],_,_,by rw[if_pos q0,if_pos rfl,splice,if_pos (by rw[aK];exact q2)];rfl,?_,hk⟩
        rw[fj]
        show(toL h).set a.block (.o (.cells (bB (insT new (a.off+len*e) c) m) e true))=_
        rw[lC q2];rfl
       ·cases hk
      ·rename_i q0
       have q0:¬len+n<=cap:=λh=>by rw[←qbr,q0]at h;cases h
       split at hk
       ·rename_i q1
        obtain⟨y,e1,hk⟩:=qS hb hk
        rw[fq,fS]at hk
        refine⟨[.push (.cells (((bB c m).drop a.off).take (len*e)++new) e true)],_,_,by rw[if_neg q0,if_pos q1],?_,hk⟩
        rw[fz,e1];rfl
       ·cases hk
    ·cases hk
   ·cases hk
 ·cases hk
theorem heapB_ok{T:Nat->Site}{f:Hp}{h:HTr}{K:List Value->HTr->RT}(hk:heapB T f h K=some w) :
  ∃acts cs h',f.run (getH T (toL h)) (toL h).length=some (acts,cs)/\toL h'=bO (toL h) acts/\K cs h'=some w:=by
 unfold heapB at hk
 cases f with
 |st p new=>exact stB_ok (n0:=(toL h).length) hk
 |ap C esz bytes s x=>exact apB_ok hk
 |fn f=>
  simp only at hk
  rw[jk]at hk
  split at hk
  ·rename_i p e
   rw[kE]at hk
   obtain⟨h',e2,hk⟩:=mH hk
   exact⟨p.1,p.2,h',by rw[eD];exact e,e2,hk⟩
  ·cases hk
theorem toSL_ok{k:LK}{v:Value}{l:SL}(h:toSL k v=some l):l.is k=true/\l.val=v/\l.good:=by
 cases k with
 |i k=>
  cases v<;>simp only[toSL]at h<;>first|cases h|skip
  split at h
  ·rename_i e;cases h;exact⟨e,rfl,trivial⟩
  ·cases h
 |b=>
  cases v<;>simp only[toSL]at h<;>cases h
  exact⟨rfl,rfl,trivial⟩
 |v=>
  simp only[toSL]at h
  split at h
  ·rename_i e;cases h;exact⟨rfl,rfl,e⟩
  ·cases h
theorem rP:∀ {ks:List LK} {vs:List Value} {xs:List SL},toSLs ks vs=some xs->aD xs ks=true/\xs.map SL.val=vs/\∀x∈xs,x.good
 | [],[],xs,h=>by cases h;exact⟨rfl,rfl,λ_ h=>by cases h⟩
 |k :: ks,v :: vs,xs,h=>by
  simp only[toSLs]at h
  split at h
  ·rename_i x e
   split at h
   ·rename_i ys e2
    cases h
    obtain⟨a1,a2,a3⟩:=toSL_ok e
    obtain⟨b1,b2,b3⟩:=rP e2
    refine⟨by simp[aD,a1,b1],by simp[a2,b2],λy hy=>?_⟩
    rcases qao.1 hy with rfl|hy
    ·exact a3
    ·exact b3 y hy
   ·cases h
  ·cases h
 | [],_ :: _,_,h=>by cases h
 |_ :: _,[],_,h=>by cases h
theorem toS0_ok{sk:SK}{v:Value}{x:S0}(h:toS0 sk v=some x):x.is sk=true/\x.val=v/\x.good:=by
 cases sk with
 |leaf k=>
  obtain⟨l,e,rfl⟩:=qab.1 h
  obtain⟨a1,a2,a3⟩:=toSL_ok e
  refine⟨a1,a2,λy hy=>?_⟩
  simp only[S0.cells,qat]at hy
  subst hy;exact a3
 |agg ks=>
  cases v<;>simp only[toS0]at h<;>first|cases h|skip
  obtain⟨l,e,rfl⟩:=qab.1 h
  obtain⟨a1,a2,a3⟩:=rP e
  exact⟨a1,by simp[S0.val,a2],a3⟩
theorem nR:∀ {sks:List SK} {vs:List Value} {xs:List S0},toS0s sks vs=some xs->bD xs sks=true/\af xs=vs/\∀x∈xs,x.good
 | [],[],xs,h=>by cases h;exact⟨rfl,rfl,λ_ h=>by cases h⟩
 |k :: ks,v :: vs,xs,h=>by
  simp only[toS0s]at h
  split at h
  ·rename_i x e
   split at h
   ·rename_i ys e2
    cases h
    obtain⟨a1,a2,a3⟩:=toS0_ok e
    obtain⟨b1,b2,b3⟩:=nR e2
    refine⟨by simp[bD,a1,b1],by simp only[af,qau,a2]at b2 ⊢;rw[b2],λy hy=>?_⟩
    rcases qao.1 hy with rfl|hy
    ·exact a3
    ·exact b3 y hy
   ·cases h
  ·cases h
 | [],_ :: _,_,h=>by cases h
 |_ :: _,[],_,h=>by cases h
theorem eqLK_ok{a b:LK}(h:eqLK a b=true):a=b:=by
 cases a<;>cases b<;>simp only[eqLK]at h<;>first|rfl|cases h|skip
 rw[cA h]
theorem qM:∀ {a b:List LK},eqLKs a b=true->a=b
 | [],[],_=>rfl
 |a :: l,b :: m,h=>by
  simp only[eqLKs,qaa]at h
  rw[eqLK_ok h.1,qM h.2]
 | [],_ :: _,h=>by cases h
 |_ :: _,[],h=>by cases h
theorem eqSK_ok{a b:SK}(h:eqSK a b=true):a=b:=by
 cases a<;>cases b<;>simp only[eqSK]at h<;>first|cases h|skip
 ·rw[eqLK_ok h]
 ·rw[qM h]
theorem mW:∀ {a b:List SK},eqSKs a b=true->a=b
 | [],[],_=>rfl
 |a :: l,b :: m,h=>by
  simp only[eqSKs,qaa]at h
  rw[eqSK_ok h.1,mW h.2]
 | [],_ :: _,h=>by cases h
 |_ :: _,[],h=>by cases h
theorem dV:∀ {ls:List Lf},gw ls=true->cL ls
 | [],_=>λ_ h=>by cases h
 | .i n :: ls,h=>λl hl=>by
  rcases qao.1 hl with rfl|hl
  ·trivial
  ·exact dV (ls:=ls) h l hl
 | .b n :: ls,h=>λl hl=>by
  rcases qao.1 hl with rfl|hl
  ·trivial
  ·exact dV (ls:=ls) h l hl
 | .v n :: ls,h=>λl hl=>by
  have h:(match goodF n with|true=>gw ls|false=>false)=true:=h
  split at h
  ·rename_i e
   rw[qR]at e
   rcases qao.1 hl with rfl|hl
   ·exact e
   ·exact dV (ls:=ls) h l hl
  ·cases h
theorem qB{C:Cfg}{Sg:FuncId->Option Sig}{T:Nat->Site}{call:aa}(hc:CallBOk C Sg T call){g:FuncId}{ls:List Lf}{h:HTr}{K:List Lf->HTr->RT}(hk:callB call g ls h K=some w) :
  ∃rs h',bG C Sg g ls (absH T (toL h)) rs (absH T (toL h'))/\K rs h'=some w:=by
 unfold callB at hk
 split at hk
 ·rename_i e;exact hc.f g ls h K w (dV e) hk
 ·cases hk
theorem jz{C:Cfg}{Sg:FuncId->Option Sig}{T:Nat->Site}{call:aa}(hc:CallBOk C Sg T call){g:FuncId}{hs:Option (List SK)}{vals:List Value}{h:HTr}{K:List Lf->HTr->RT}(hk:je Sg call g hs vals h K=some w) :
  ∃sg rs ys h',Sg g=some sg/\(∀x,hs=some x->sg.rs=x)/\Told sg.rs rs ys/\fD C g vals (absH T (toL h)) (dZ (af ys)) (absH T (toL h'))/\K rs h'=some w:=by
 unfold je at hk
 split at hk
 ·cases hk
 ·rename_i sg e
  split at hk
  ·cases hk
  ·rename_i e2
   split at hk
   ·cases hk
   ·rename_i xs e3
    obtain⟨rs,h',⟨sg',xs',ys,c1,c2,c3,c4⟩,hk⟩:=qB hc hk
    rw[e]at c1
    cases c1
    obtain⟨d1,d2,d3⟩:=nR e3
    obtain⟨w1,_⟩:=cp c2.1 d1 c2.2.1
    rw[w1,d2]at c4
    refine⟨sg,rs,ys,h',e,λx hx=>?_,c3,c4,hk⟩
    subst hx
    exact mW e2
theorem gy{T:Nat->Site}{h:HTr}{l κ:Nat}{st:LoopState}{pd:Option Code}{vs:List Value}(e:h.at l=some (.lp κ st pd vs)):cW (absH T (toL h)) l=some { lpOf (T κ) κ vs with state:=st,pending:=pd }:=by
 unfold cW absH
 rw[qaF,iy,e]
 rfl
theorem callvB_ok{C:Cfg}{Sg:FuncId->Option Sig}{T:Nat->Site}{call:aa}(hc:CallBOk C Sg T call){v:Value}{args:List Value}{hs:List SK}{h:HTr}{K:List Lf->HTr->RT}(hk:callvB Sg T call v args hs h K=some w) :
  ∃rs h',rS C v args hs (absH T (toL h)) rs (absH T (toL h'))/\K rs h'=some w:=by
 unfold callvB at hk
 split at hk
 ·rename_i fn first cap
  split at hk
  ·rename_i g
   obtain⟨sg,rs,ys,h',c1,c2,c3,c4,c5⟩:=jz hc hk
   rw[c2 _ rfl]at c3
   exact⟨rs,h',⟨ys,c3,.inl ⟨g,first,cap,rfl,c4⟩⟩,c5⟩
  ·rename_i l
   split at hk
   ·rename_i e1 e2
    have e1:first = #[]:=qaP.1 e1
    have e2:cap = #[]:=qaP.1 e2
    subst e1 e2
    split at hk
    ·rename_i κ st pd vs e
     split at hk
     ·cases hk
     ·rename_i e3
      have e3:=mW e3
      subst e3
      split at hk
      ·cases hk
      ·rename_i xs e4
       split at hk
       ·rename_i e5
        obtain⟨d1,d2,d3⟩:=nR e4
        obtain⟨b,h',y1,y2⟩:=hc.y κ vs l _ h K w st pd xs e ⟨d1,rfl,d3⟩ hk
        rw[d2]at y1
        refine⟨[.b b],h',⟨[.leaf (.b b)],⟨rfl,rfl,λx hx=>?_⟩,.inr ⟨l,rfl,y1⟩⟩,y2⟩
        simp only[qat]at hx
        subst hx
        intro y hy
        simp only[S0.cells,qat]at hy
        subst hy;trivial
       ·cases hk
    ·cases hk
   ·cases hk
  ·cases hk
 ·cases hk
theorem rfunB_ok{C:Cfg}{Sg:FuncId->Option Sig}{T:Nat->Site}{call:aa}(hc:CallBOk C Sg T call){κ:Nat}{v:Value}{vals:List Value}{h:HTr}{K:Option Code->HTr->RT}(hk:rfunB Sg call κ v vals h K=some w) :
  ∃g first cap r H1 lp h2,v = .func (.func g) first cap/\fD C g (first.toList++[.func (.yield (absH T (toL h)).length) #[] #[]]++cap.toList) (absH T (toL h)++[.loop (lpOf (T κ) κ vals)]) r H1/\
   cW H1 (absH T (toL h)).length=some lp/\lp.state≠.busy/\absH T (toL h2)=H1.set (absH T (toL h)).length (.loop { lp with state:=.exhausted })/\K lp.pending h2=some w:=by
 unfold rfunB at hk
 split at hk
 ·rename_i fn first cap
  split at hk
  ·rename_i g
   rw[fq]at hk
   obtain⟨sg,rs,ys,h',_,_,c3,c4,c5⟩:=jz hc hk
   have hlen:(absH T (toL h)).length=h.n:=by rw[gg,eD]
   split at c5
   ·rename_i κ' st pd vs e
    have hl:=gy (T:=T) e
    rw[fz,gh]at c4
    have fin:∀(hst:st≠.busy),(putK h' h.n (.lp κ' .exhausted pd vs) λh2=>K pd h2)=some w->∃g' first' cap' r H1 lp h2,(Value.func (.func g) first cap) = .func (.func g') first' cap'/\fD C g' (first'.toList++[.func (.yield (absH T (toL h)).length) #[] #[]]++cap'.toList) (absH T (toL h)++[.loop (lpOf (T κ) κ vals)]) r H1/\
      cW H1 (absH T (toL h)).length=some lp/\lp.state≠.busy/\absH T (toL h2)=H1.set (absH T (toL h)).length (.loop { lp with state:=.exhausted })/\K lp.pending h2=some w:=by
     intro hst hk
     rw[fe]at hk
     refine⟨g,first,cap,dZ (af ys),absH T (toL h'),{ lpOf (T κ') κ' vs with state:=st,pending:=pd },h'.put h.n (.lp κ' .exhausted pd vs),rfl,?_,?_,hst,?_,hk⟩
     ·rw[hlen];exact c4
     ·rw[hlen];exact hl
     ·rw[fj,gi,hlen];rfl
    cases st with
    |busy=>cases c5
    |_=>exact fin (by simp) c5
   ·cases c5
  ·cases hk
 ·cases hk
theorem pg{id:Nat}:∀ {ks:List (Nat×RT)},(List.rec none (λp _ ih=>match Nat.beq p.1 id with|true=>p.2|false=>ih) ks:RT)=some w->
  ∃id' x,some (Code.exit id)=some (Code.exit id')/\(id',x)∈ks/\x=some w
 | [],h=>by cases h
 |p :: ks,h=>by
  have h:(match Nat.beq p.1 id with|true=>p.2|false=>(List.rec none (λp _ ih=>match Nat.beq p.1 id with|true=>p.2|false=>ih) ks:RT))=some w:=h
  split at h
  ·rename_i e
   exact⟨id,p.2,rfl,by rw[←qac e];exact qaM,h⟩
  ·obtain⟨id',x,a,b,c⟩:=pg h
   exact⟨id',x,a,qas _ b,c⟩
theorem shfB_ok{op:BinOp}{k k':IntKind}{a b:Int}{K:Int->RT}(h:shfB op k a k' b K=some w):∃n,ShRun op k a k' b n/\K n=some w:=by
 unfold shfB at h
 split at h
 ·rename_i hb
  have hb:¬b<0:=by have:=leZ_iff.1 hb;omega
  split at h
  ·rw[gW]at h
   exact⟨_,λP t w=>by simp[binOp,Op.shift,hb],h⟩
  ·rw[gW]at h
   exact⟨_,λP t w=>by simp[binOp,Op.shift,hb],h⟩
  ·cases h
 ·cases h
theorem BA_ok{C:Cfg}{Sg:FuncId->Option Sig}{T:Nat->Site}{call:aa}(hc:CallBOk C Sg T call):AlgOk (BA Sg T call) C Sg T (λb=>b=some w) (λh=>absH T (toL h)) where
 fail:=by intro h;cases h
 cond:=by
  intro b x y h
  cases b
  ·exact .inr ⟨rfl,h⟩
  ·exact .inl ⟨rfl,h⟩
 ari:=λop k a b K h=>ariB_ok h
 shf:=λop k a k' b K h=>shfB_ok h
 cmp:=λop a b K h=>cmpB_ok h
 eqs:=λl K h=>eqsB_ok h
 conv:=λk a K h=>fitsK h
 sel:=by intro t a b K h;cases t<;>exact h
 opt:=by
  intro α o K h
  cases o with
  |none=>cases h
  |some x=>exact⟨x,rfl,h⟩
 chk:=by
  intro v K h
  have h:chkB v K=some w:=h
  unfold chkB at h
  split at h
  ·rename_i e;rw[qR]at e;exact⟨e,h⟩
  ·cases h
 unI:=by
  intro ls K h
  match ls,h with
  | .i n :: r,h=>exact⟨n,r,rfl,h⟩
 unB:=by
  intro ls K h
  match ls,h with
  | .b n :: r,h=>exact⟨n,r,rfl,h⟩
 unV:=by
  intro ls K h
  match ls,h with
  | .v n :: r,h=>exact⟨n,r,rfl,h⟩
 un0:=by
  intro ls K h
  match ls,h with
  | [],h=>exact⟨rfl,h⟩
 ucI:=by
  intro k ls K h
  match ls,h with
  | .int k' n :: r,h=>
   have h:(match dX k k' with|true=>K n r|false=>none)=some w:=h
   split at h
   ·rename_i e;rw[cA e];exact⟨n,r,rfl,h⟩
   ·cases h
 ucB:=by
  intro ls K h
  match ls,h with
  | .bool n :: r,h=>exact⟨n,r,rfl,h⟩
 ucV:=by
  intro ls K h
  match ls,h with
  |n :: r,h=>exact⟨n,r,rfl,h⟩
 uc0:=by
  intro ls K h
  match ls,h with
  | [],h=>exact⟨rfl,h⟩
 peek:=by
  intro f h K hk
  have hk:peekB T f h K=some w:=hk
  unfold peekB at hk
  rw[←jV]
  cases f with
  |ld n p=>exact ldB_ok hk
  |lg C n p=>exact lgB_ok hk
  |fn f=>
   simp only at hk
   rw[jk]at hk
   split at hk
   ·rename_i x e;exact⟨x,e,hk⟩
   ·cases hk
 heap:=by
  intro f h K hk
  have hk:heapB T f h K=some w:=hk
  obtain⟨acts,cs,h',a1,a2,a3⟩:=heapB_ok hk
  exact⟨acts,cs,h',by rw[←jV,gg];exact a1,by rw[a2];exact gS T acts (toL h),a3⟩
 new:=by
  intro o h K hk
  have hk:newB o h K=some w:=hk
  unfold newB at hk
  obtain⟨x,e1,e2⟩:=gz (o:=o) (k:=λo=>il h o λh'=>K h.n h')
  rw[e2,fq]at hk
  exact⟨h.push x,by rw[fz,e1];exact gh T (toL h) _,by rw[gg,eD];exact hk⟩
 call:=λg ls h K hk=>qB hc hk
 callv:=λv args hs h K hk=>callvB_ok hc hk
 join:=λb m h=>h
 loop:=by
  intro F ls h hk
  refine⟨λn=>Nat.rec (motive:=λ_=>List Lf->HTr->RT) (λ_ _=>none) (λ_ ih ls h=>F ih ls h) n,λls h=>(by simp),λn ls h=>rfl,1000000,hk⟩
 rfun:=λκ v vals h K hk=>rfunB_ok hc hk
 pend:=by
  intro pd kn kr ks h
  cases pd with
  |none=>exact .inl ⟨rfl,h⟩
  |some c=>
   cases c<;>first|exact .inr (.inl ⟨rfl,h⟩)|skip
   case exit id=>
    exact .inr (.inr (pg h))
   all_goals cases h
 lp1:=by
  intro l h K hk
  have hk:lp1B l h K=some w:=hk
  unfold lp1B at hk
  split at hk
  ·rename_i κ st pd vs e
   split at hk
   ·rw[fe]at hk
    exact⟨_,_,gy e,rfl,by rw[fj];exact gi T (toL h) l _,hk⟩
   ·cases hk
  ·cases hk
 lp2:=by
  intro l j h K hk
  have hk:lp2B l j h K=some w:=hk
  unfold lp2B at hk
  split at hk
  ·rename_i κ st pd vs e
   cases j with
   |none=>
    have hk:putK h l (.lp κ .ready none vs) K=some w:=hk
    rw[fe]at hk
    exact⟨_,h.put l (.lp κ .ready none vs),gy e,(congrArg (absH T) (fj h l (.lp κ .ready none vs))).trans (gi T (toL h) l (.lp κ .ready none vs)),hk⟩
   |some c=>
    have hk:putK h l (.lp κ .done (some c) vs) K=some w:=hk
    rw[fe]at hk
    exact⟨_,h.put l (.lp κ .done (some c) vs),gy e,(congrArg (absH T) (fj h l (.lp κ .done (some c) vs))).trans (gi T (toL h) l (.lp κ .done (some c) vs)),hk⟩
  ·cases hk
inductive TabOk(C:Cfg)(Sg:FuncId->Option Sig)(X:Ctxt)(dr:Dr)(A:Alg RT HTr)(f:FuncId)(ls:List Lf)(h:HTr)(K:List Lf->HTr->RT)(w:List Lf):Prop
 |run (fn:Fn1) (hi:FnIs X Sg f fn) (he:ao A X Sg dr fn ls h K=some w)
 |known (rs:List Lf) (hc:∀H,bG C Sg f ls H rs H) (hk:K rs h=some w)
 |alone (fn:Fn1) (rs:List Lf) (sg:Sig) (hi:FnIs X Sg f fn) (hs:Sg f=some sg) (hp:sg.plain=true) (he:ao A X Sg dr fn ls .empty (λrs _=>some rs)=some rs) (hk:K rs h=some w)
end
end Sx
end Go.Am

/-
 CALLS THAT LEAVE NOTHING BEHIND: a run that begins with an empty heap is a run over any heap.
-/
namespace Go.Am
namespace Sx
def gfl(v:Value):Bool:=match v with
 | .pointer (some a)=>a.spot==some 1
 | .slice (some a) _ _=>a.spot==some 1
 |v=>scalar v
section
variable [Val]
theorem objR_keep [Glo]{mu:HMap}{p:Pl}{x y:Option Obj}{o:HObj}(hxy:∀a,x=some a->y=some a)(h:objR mu p x o):objR mu p y o:=by
 cases o with
 |cells vs esz rw=>
  obtain⟨h1,h2,h3,c,e,fr,h4,h5⟩:=h
  exact⟨h1,h2,h3,c,e,fr,hxy _ h4,h5⟩
 |map es clock=>
  obtain⟨es',h1,h2⟩:=h
  exact⟨es',hxy _ h1,h2⟩
 |loop r=>
  obtain⟨L,h1,h2⟩:=h
  exact⟨L,hxy _ h1,h2⟩
 |siter s pos=>exact hxy _ h
 |dead=>trivial
theorem flatVRs [Glo]{la:LMap}{mu mu':HMap}{vs cs:List Value}(hf:vs.all flat=true)(h:VRs la mu vs cs):VRs la mu' vs cs:=by
 refine⟨h.1,λi x y hx hy=>?_⟩
 have h1:=h.2 i x y hx hy
 have h2:flat x=true:=qad.1 hf x (qar hx)
 rw[nc h2 h1]
 exact .of_flat h2
theorem gflVR [Glo]{la la':LMap}{mu mu':HMap}{v c:Value}(hf:gfl v=true)(h:VR la mu v c):VR la' mu' v c:=by
 cases h with
 |poison c=>cases hf
 |sym h=>cases hf
 |scalar h=>exact .scalar h
 |agg _ _=>cases hf
 |tuple _ _ _=>cases hf
 |func _ _ _ _ _=>cases hf
 |yield _=>cases hf
 |lptr _=>cases hf
 |hptr _=>cases hf
 |gptr=>exact .gptr
 |hslice _ _ _ _=>simp[gfl,tag]at hf
 |hslice0 _=>simp[gfl,tag]at hf
 |gslice hl hx=>exact .gslice hl hx
 |gslice0 hx=>exact .gslice0 hx
 |map _=>cases hf
theorem qQ [Glo]{mu mu':HMap}{vs:List Value}{c:Array Value}{o:Nat}(hf:vs.all gfl=true)(h:bo mu vs c o):bo mu' vs c o:=by
 intro i v hv
 obtain⟨v',h1,h2⟩:=h i v hv
 exact⟨v',h1,gflVR (qad.1 hf v (qar hv)) h2⟩
theorem no_own{mu:HMap}{b:Nat}:¬Own mu [] b:=by
 rintro⟨id,o,p,h,_⟩
 simp at h
theorem frame_ok{C:Cfg}(hG:∀g vs,C.G g=some vs->vs.all gfl=true){f:FuncId}{args:List Value}{r:Value}{H':List HObj}(h:dP C f args [] r H')(ha:args.all flat=true)(hr:flat r=true)(H:List HObj):dP C f args H r H:=by
 intro _ base mu w args' hb hargs hW cs
 have hW0:WR C w.heap.size (λ_=>none) [] w:=by
  refine⟨λid o h=>by simp at h,λi j oi oj pi pj h=>by simp at h,λi o p h=>by simp at h,λi o p h=>by simp at h,λ_ _=>rfl,λg vs hg=>?_⟩
  obtain⟨h1,h2,c,e,fr,h3,h4⟩:=hW.glob g vs hg
  exact⟨by omega,h2,c,e,fr,h3,qQ (hG g vs hg) h4⟩
 obtain⟨v,mu',w',a1,a2,a3,a4,a5⟩:=h _ w.heap.size (λ_=>none) w args' (qaA _) (flatVRs ha hargs) hW0 cs
 have hkeep:∀(b:Nat) x,w.heap[b]? = some x->w'.heap[b]? = some x:=by
  intro b x hx
  have hlt:b<w.heap.size:=by
   rcases qaz b w.heap.size with h|h
   ·exact h
   ·rw[qbe h]at hx;cases hx
  rw[a3.keep b hlt no_own];exact hx
 refine⟨v,mu,w',?_,?_,?_,a4,a5⟩
 ·rw[nc hr a1];exact .of_flat hr
 ·refine⟨λid o h1 h2=>?_,hW.inj,hW.own,hW.ro,hW.dom,λg vs hg=>?_⟩
  ·obtain⟨p,h3,h4⟩:=hW.obj id o h1 h2
   exact⟨p,h3,objR_keep (hkeep p.b) h4⟩
  ·obtain⟨h1,h2,c,e,fr,h3,h4⟩:=hW.glob g vs hg
   exact⟨h1,h2,c,e,fr,hkeep _ _ h3,h4⟩
 ·exact⟨qaA _,λ_ _=>rfl,a3.size,λb hb _=>a3.keep b hb no_own,λb h=>.inr h,a3.os,a3.tape,a3.output⟩
end
section
variable [Val] [Kno]
end
end Sx
end Go.Am

/-
 WHERE AN OPERATION TOUCHES THE HEAP: at the addresses of its operands alone;a new block goes to the end.
-/
namespace Go.Am
namespace Sx
def eI(F:List Nat)(H H2:List HObj):Prop:=∀r∈F,∀x,H[r]? = some x->x.alive=true->H2[r]? = some x
structure HEff where
 set:Option (Nat×HObj)
 push:Option (HObj×(Nat->Value))
 v:Value
def HEff.put(e:HEff)(H:List HObj):List HObj:=match e.set with
 |some p=>H.set p.1 p.2
 |none=>H
def HEff.heap(e:HEff)(H:List HObj):List HObj:=match e.push with
 |some p=>e.put H++[p.1]
 |none=>e.put H
def HEff.val(e:HEff)(n:Nat):Value:=match e.push with
 |some p=>p.2 n
 |none=>e.v
def LocF(nw:Prop)(F W:List Nat)(f:List HObj->Option (List HObj×Value))(H:List HObj):Prop:=
 ∀H' v,f H=some (H',v)->∃e:HEff,H'=e.heap H/\v=e.val H.length/\(∀p,e.set=some p->p.1∈W/\∃x,H[p.1]? = some x/\x.alive=true)/\(∀p,e.push=some p->nw/\Fresh p.2/\p.1.alive=true)/\
  ∀H2,eI F H H2->f H2=some (e.heap H2,e.val H2.length)
def LocG(F:List Nat)(f:List HObj->Option Value)(H:List HObj):Prop:=∀v,f H=some v->∀H2,eI F H H2->f H2=some v
theorem bZ{F:List Nat}{H H2:List HObj}(h:eI F H H2){r:Nat}(hr:r∈F){vs:List Value}{e:Nat}{b:Bool}(hx:H[r]? = some (.cells vs e b)):H2[r]? = some (.cells vs e b):=h r hr _ hx rfl
theorem bq{F:List Nat}{H H2:List HObj}(h:eI F H H2){r:Nat}(hr:r∈F){es:List MapEntry}{c:Nat}(hx:hmap H r=some (es,c)):H[r]? = some (.map es c)/\hmap H2 r=some (es,c):=by
 unfold hmap at hx
 split at hx
 ·rename_i e
  cases hx
  exact⟨e,by unfold hmap;rw[h r hr _ e rfl]⟩
 ·cases hx
theorem fO{C:Cfg}{H H2:List HObj}{esz:Nat}{x:Value}{p:List Value×Nat}(hc:bJ C H esz x=some p){F:List Nat}(hF:∀r∈adr x,r∈F)(h:eI F H H2):bJ C H2 esz x=some p:=by
 unfold bJ at hc ⊢
 split at hc
 ·exact hc
 ·rename_i a len cx
  split at hc
  ·rename_i hs;simp only[hs,if_true];exact hc
  ·rename_i hs
   split at hc
   ·rename_i ht
    simp only[hs,if_false,ht,if_true]
    split at hc
    ·rename_i vs e b hid
     have hm:a.block∈adr (.slice (some a) len cx):=by
      simp[adr,ht,tag]
     rw[bZ h (hF _ hm) hid]
     exact hc
    ·cases hc
   ·cases hc
 ·exact hc
 ·cases hc
theorem pZ{nw:Prop}{F W:List Nat}{H:List HObj}(hnw:nw)(x:HObj)(mk:Nat->Value)(hx:x.alive=true)(hm:Fresh mk):LocF nw F W (λH=>some (H++[x],mk H.length)) H:=by
 intro H' v h
 cases h
 exact⟨⟨none,some (x,mk),undef⟩,rfl,rfl,λp hp=>(by cases hp),λp hp=>by cases hp;exact⟨hnw,hm,hx⟩,λH2 _=>rfl⟩
theorem eo{nw:Prop}{F W:List Nat}{f:List HObj->Option (List HObj×Value)}{H:List HObj}{v:Value}(h:f H=some (H,v))(h2:∀H2,eI F H H2->f H2=some (H2,v)) :
  ∃e:HEff,H=e.heap H/\v=e.val H.length/\(∀p,e.set=some p->p.1∈W/\∃x,H[p.1]? = some x/\x.alive=true)/\(∀p,e.push=some p->nw/\Fresh p.2/\p.1.alive=true)/\∀H2,eI F H H2->f H2=some (e.heap H2,e.val H2.length):=
 ⟨⟨none,none,v⟩,rfl,rfl,λp hp=>(by cases hp),λp hp=>(by cases hp),h2⟩
theorem nn{nw:Prop}{F W:List Nat}{f:List HObj->Option (List HObj×Value)}{H:List HObj}{x:HObj}{mk:Nat->Value}(hnw:nw)(hx:x.alive=true)(hm:Fresh mk)(h2:∀H2,eI F H H2->f H2=some (H2++[x],mk H2.length)) :
  ∃e:HEff,H++[x]=e.heap H/\mk H.length=e.val H.length/\(∀p,e.set=some p->p.1∈W/\∃x,H[p.1]? = some x/\x.alive=true)/\(∀p,e.push=some p->nw/\Fresh p.2/\p.1.alive=true)/\∀H2,eI F H H2->f H2=some (e.heap H2,e.val H2.length):=
 ⟨⟨none,some (x,mk),undef⟩,rfl,rfl,λp hp=>(by cases hp),λp hp=>by cases hp;exact⟨hnw,hm,hx⟩,h2⟩
theorem dL{nw:Prop}{F W:List Nat}{f:List HObj->Option (List HObj×Value)}{H:List HObj}{i:Nat}{x y:HObj}{v:Value}(hi:i∈W)(hy:H[i]? = some y)(ha:y.alive=true)(h2:∀H2,eI F H H2->f H2=some (H2.set i x,v)) :
  ∃e:HEff,H.set i x=e.heap H/\v=e.val H.length/\(∀p,e.set=some p->p.1∈W/\∃x,H[p.1]? = some x/\x.alive=true)/\(∀p,e.push=some p->nw/\Fresh p.2/\p.1.alive=true)/\∀H2,eI F H H2->f H2=some (e.heap H2,e.val H2.length):=
 ⟨⟨some (i,x),none,v⟩,rfl,rfl,λp hp=>by cases hp;exact⟨hi,y,hy,ha⟩,λp hp=>(by cases hp),h2⟩
theorem sw{nw:Prop}{C:Cfg}{t:TypeId}{s x:Value}{H:List HObj}{F W:List Nat}(hnw:nw)(hs:∀r∈adr s,r∈F/\r∈W)(hx:∀r∈adr x,r∈F):LocF nw F W (dJ C t s x) H:=by
 intro H' v hf
 unfold dJ at hf
 split at hf
 case h_2=>cases hf
 rename_i elem hu
 split at hf
 ·cases hf
 rename_i info hi
 split at hf
 ·cases hf
 rename_i hsz
 split at hf
 ·cases hf
 rename_i hz
 split at hf
 ·cases hf
 rename_i new n hcv
 have base:∀H2,eI F H H2->dJ C t s x H2=(match (motive:=Value->Option (List HObj×Value)) s with
   | .slice none 0 0=>
    if n=0 then some (H2,.slice none 0 0)
    else if bP n info.bytes then some (H2++[.cells new info.size true],.slice (some ⟨H2.length,0,tag info.size⟩) n 0)else none
   | .slice (some a) len cx=>
    if a.spot≠tag info.size then none else
    match H2[a.block]? with
    |some (.cells vs e rw)=>
     if e≠info.size then none else
     match cut vs a.off (len*info.size)with
     |none=>none
     |some old=>
      match cx with
      |0=>
       if n=0 then some (H2,.slice (some a) len 0)
       else if rw&&bP (len+n) info.bytes then
        some (H2.set a.block .dead++[.cells (old++new) info.size true],.slice (some ⟨H2.length,0,tag info.size⟩) (len+n) 0)
       else none
      |cap+1=>
       if len+n<=cap then
        if rw then(splice vs (a.off+len*info.size) new).map λvs'=>(H2.set a.block (.cells vs' e true),.slice (some a) (len+n) (cap+1))
        else if n=0 then some (H2,.slice (some a) len (cap+1))else none
       else if bP (len+n) info.bytes then
        some (H2++[.cells (old++new) info.size true],.slice (some ⟨H2.length,0,tag info.size⟩) (len+n) 0)
       else none
    |_=>none
   |_=>none):=by
  intro H2 h2
  unfold dJ
  simp only[hu,hi,hsz,if_false,hz,fO hcv hx h2]
  rfl
 split at hf
 ·split at hf
  ·rename_i hn
   cases hf
   exact eo (by rw[base H λ_ _ _ h _=>h];simp only[hn,if_true]) λH2 h2=>by rw[base H2 h2];simp only[hn,if_true]
  ·rename_i hn
   split at hf
   ·rename_i hok
    cases hf
    exact nn (mk:=λk=>.slice (some ⟨k,0,tag info.size⟩) n 0) hnw rfl (.slice _ _ _) λH2 h2=>by rw[base H2 h2];simp only[hn,if_false,hok,if_true]
   ·cases hf
 ·rename_i a len cx
  split at hf
  ·cases hf
  rename_i hsp
  have hm:a.block∈adr (.slice (some a) len cx):=by
   simp only[ne_eq,Classical.not_not]at hsp
   simp[adr,hsp,tag]
  split at hf
  case h_2=>cases hf
  rename_i vs e rw0 hid
  split at hf
  ·cases hf
  rename_i he
  split at hf
  ·cases hf
  rename_i old hcut
  have hid2:∀ {H2},eI F H H2->H2[a.block]? = some (.cells vs e rw0):=λh2=>bZ h2 (hs _ hm).1 hid
  split at hf
  ·split at hf
   ·rename_i hn
    cases hf
    exact eo (by rw[base H λ_ _ _ h _=>h];simp only[hsp,hid,he,hcut,hn,if_true,if_false]) λH2 h2=>by rw[base H2 h2];simp only[hsp,hid2 h2,he,hcut,hn,if_true,if_false]
   ·rename_i hn
    split at hf
    ·rename_i hok
     cases hf
     refine⟨⟨some (a.block,.dead),some (.cells (old++new) info.size true,λk=>.slice (some ⟨k,0,tag info.size⟩) (len+n) 0),undef⟩,rfl,rfl,λp hp=>by cases hp;exact⟨(hs _ hm).2,_,hid,rfl⟩,λp hp=>by cases hp;exact⟨hnw,.slice _ _ _,rfl⟩,λH2 h2=>?_⟩
     rw[base H2 h2];simp only[hsp,hid2 h2,he,hcut,hn,hok,if_true,if_false];rfl
    ·cases hf
  ·split at hf
   ·rename_i cap hle
    split at hf
    ·rename_i hrw
     obtain⟨vs',hspl,hq⟩:=qab.1 hf
     cases hq
     exact dL (hs _ hm).2 hid rfl λH2 h2=>by rw[base H2 h2];simp only[hsp,hid2 h2,he,hcut,hle,hrw,if_true,if_false,hspl,qap]
    ·rename_i hrw
     split at hf
     ·rename_i hn
      cases hf
      exact eo (by rw[base H λ_ _ _ h _=>h];simp only[hsp,hid,he,hcut,hle,hn,hrw,if_true,if_false];simp[hn];omega) λH2 h2=>by rw[base H2 h2];simp only[hsp,hid2 h2,he,hcut,hle,hrw,hn,if_true,if_false];simp[hn];omega
     ·cases hf
   ·rename_i cap hle
    split at hf
    ·rename_i hok
     cases hf
     exact nn (mk:=λk=>.slice (some ⟨k,0,tag info.size⟩) (len+n) 0) hnw rfl (.slice _ _ _) λH2 h2=>by rw[base H2 h2];simp only[hsp,hid2 h2,he,hcut,hle,hok,if_true,if_false]
    ·cases hf
 ·cases hf
theorem loc_copy{nw:Prop}{C:Cfg}{t:TypeId}{d x:Value}{H:List HObj}{F W:List Nat}(hs:∀r∈adr d,r∈F/\r∈W)(hx:∀r∈adr x,r∈F):LocF nw F W (jG C t d x) H:=by
 intro H' v hf
 unfold jG at hf
 split at hf
 ·rename_i elem hu
  split at hf
  ·cases hf
  rename_i hsz
  obtain⟨p,hp,hq⟩:=qab.1 hf
  cases hq
  exact eo (by unfold jG;simp only[hu,hsz,if_false,hp,qap]) λH2 h2=>by unfold jG;simp only[hu,hsz,if_false,fO hp hx h2,qap]
 ·rename_i elem a dlen cx hu
  split at hf
  ·cases hf
  rename_i hsz
  split at hf
  ·cases hf
  rename_i hsp
  split at hf
  case h_2=>cases hf
  rename_i new n vs e hcv hid
  split at hf
  ·cases hf
  rename_i he
  obtain⟨vs',hspl,hq⟩:=qab.1 hf
  cases hq
  have hm:a.block∈adr (.slice (some a) dlen cx):=by
   simp only[ne_eq,Classical.not_not]at hsp
   simp[adr,hsp,tag]
  refine dL (hs _ hm).2 hid rfl λH2 h2=>?_
  unfold jG
  simp only[hu,hsz,hsp,he,if_false,fO hcv hx h2,bZ h2 (hs _ hm).1 hid,hspl,qap]
 ·cases hf
theorem loc_clear{nw:Prop}{C:Cfg}{t:TypeId}{x:Value}{H:List HObj}{F W:List Nat}(hs:∀r∈adr x,r∈F/\r∈W):LocF nw F W (eP C t x) H:=by
 intro H' v hf
 unfold eP at hf
 split at hf
 ·rename_i elem hu
  cases hf
  exact eo (by unfold eP;simp only[hu]) λH2 h2=>by unfold eP;simp only[hu]
 ·rename_i elem a n cx hu
  split at hf
  ·cases hf
  rename_i hsz
  split at hf
  ·cases hf
  rename_i hsp
  split at hf
  case h_2=>cases hf
  rename_i z vs e hz hid
  split at hf
  ·cases hf
  rename_i he
  obtain⟨vs',hspl,hq⟩:=qab.1 hf
  cases hq
  have hm:a.block∈adr (.slice (some a) n cx):=by
   simp only[ne_eq,Classical.not_not]at hsp
   simp[adr,hsp,tag]
  refine dL (hs _ hm).2 hid rfl λH2 h2=>?_
  unfold eP
  simp only[hu,hsz,hsp,he,if_false,hz,bZ h2 (hs _ hm).1 hid,hspl,qap]
 ·cases hf
theorem loc_store{nw:Prop}{C:Cfg}{t:TypeId}{id off:Nat}{x:Value}{H:List HObj}{F W:List Nat}(h1:id∈F)(h2:id∈W):LocF nw F W (fU C t id off x) H:=by
 intro H' v hf
 unfold fU at hf
 split at hf
 ·rename_i vs e hid
  obtain⟨vs',hw,hq⟩:=qab.1 hf
  cases hq
  refine dL h2 hid rfl λH2 h3=>?_
  unfold fU
  simp only[bZ h3 h1 hid,hw,qap]
 ·cases hf
theorem lU{nw:Prop}{C:Cfg}{t:TypeId}{m k x:Value}{H:List HObj}{F W:List Nat}(hs:∀r∈adr m,r∈F/\r∈W):LocF nw F W (bu C t m k x) H:=by
 intro H' v hf
 unfold bu at hf
 split at hf
 case h_2=>cases hf
 rename_i kt et id hu
 split at hf
 ·cases hf
 rename_i hok
 split at hf
 ·cases hf
 rename_i es c hm
 obtain⟨f1,w1⟩:=hs id (by simp[adr])
 have g1:=(bq (λ_ _ _ h _=>h:eI F H H) f1 hm).1
 split at hf
 ·cases hf
 ·rename_i hfi
  cases hf
  refine dL w1 g1 rfl λH2 h2=>?_
  unfold bu
  simp only[hu,hok,(bq h2 f1 hm).2,hfi]
  rfl
 ·rename_i i hfi
  split at hf
  ·rename_i hb
   cases hf
   refine dL w1 g1 rfl λH2 h2=>?_
   unfold bu
   simp only[hu,hok,(bq h2 f1 hm).2,hfi,hb]
   rfl
  ·cases hf
theorem loc_entry{nw:Prop}{C:Cfg}{t:TypeId}{m k:Value}{H:List HObj}{F W:List Nat}(hs:∀r∈adr m,r∈F/\r∈W):LocF nw F W (bt C t m k) H:=by
 intro H' v hf
 unfold bt at hf
 split at hf
 case h_2=>cases hf
 rename_i kt et id hu
 split at hf
 ·cases hf
 rename_i hok
 split at hf
 ·cases hf
 rename_i es c hm
 obtain⟨f1,w1⟩:=hs id (by simp[adr])
 have g1:=(bq (λ_ _ _ h _=>h:eI F H H) f1 hm).1
 split at hf
 ·cases hf
 ·rename_i hfi
  split at hf
  ·cases hf
  rename_i z hz
  cases hf
  refine dL w1 g1 rfl λH2 h2=>?_
  unfold bt
  simp only[hu,hok,(bq h2 f1 hm).2,hfi,hz]
  rfl
 ·rename_i i hfi
  split at hf
  ·cases hf
  rename_i e hei
  split at hf
  ·rename_i hb
   cases hf
   refine dL w1 g1 rfl λH2 h2=>?_
   unfold bt
   simp only[hu,hok,(bq h2 f1 hm).2,hfi,hei,hb]
   rfl
  ·cases hf
theorem sy{nw:Prop}{m s x:Value}{H:List HObj}{F W:List Nat}(hs:∀r∈adr m,r∈F/\r∈W):LocF nw F W (bE m s x) H:=by
 intro H' v hf
 unfold bE at hf
 split at hf
 case h_2=>cases hf
 rename_i id b hb
 split at hf
 ·cases hf
 rename_i hok
 split at hf
 ·cases hf
 rename_i es c hm
 obtain⟨f1,w1⟩:=hs id (by simp[adr])
 have g1:=(bq (λ_ _ _ h _=>h:eI F H H) f1 hm).1
 split at hf
 ·rename_i i hfi
  cases hf
  refine dL w1 g1 rfl λH2 h2=>?_
  unfold bE
  simp only[hb,hok,(bq h2 f1 hm).2,hfi]
  rfl
 ·cases hf
theorem sx{nw:Prop}{C:Cfg}{t:TypeId}{m k:Value}{H:List HObj}{F W:List Nat}(hs:∀r∈adr m,r∈F/\r∈W):LocF nw F W (cz C t m k) H:=by
 intro H' v hf
 unfold cz at hf
 split at hf
 case h_2=>cases hf
 rename_i kt et hu
 split at hf
 ·cases hf
 rename_i hok
 split at hf
 ·cases hf
  exact eo (by unfold cz;simp only[hu,hok];rfl) λH2 h2=>by unfold cz;simp only[hu,hok];rfl
 ·rename_i id
  obtain⟨f1,w1⟩:=hs id (by simp[adr])
  split at hf
  ·cases hf
  rename_i es c hm
  have g1:=(bq (λ_ _ _ h _=>h:eI F H H) f1 hm).1
  split at hf
  ·cases hf
  ·rename_i hfi
   cases hf
   exact eo (by unfold cz;simp only[hu,hok,hm,hfi];rfl) λH2 h2=>by unfold cz;simp only[hu,hok,(bq h2 f1 hm).2,hfi];rfl
  ·rename_i i hfi
   cases hf
   refine dL w1 g1 rfl λH2 h2=>?_
   unfold cz
   simp only[hu,hok,(bq h2 f1 hm).2,hfi]
   rfl
 ·cases hf
theorem loc_make{nw:Prop}{C:Cfg}{t:TypeId}{l c:Value}{H:List HObj}{F W:List Nat}(hnw:nw):LocF nw F W (cm C t l c) H:=by
 intro H' v hf
 unfold cm at hf
 split at hf
 case h_2=>cases hf
 rename_i ln cn e h1 h2 hu
 split at hf
 case h_2=>cases hf
 rename_i info hi
 split at hf
 ·cases hf
 rename_i hsz
 split at hf
 case h_2=>cases hf
 rename_i z hz
 split at hf
 ·rename_i hb
  cases hf
  refine nn (mk:=λk=>.slice (some ⟨k,0,tag info.size⟩) ln.toNat (cn.toNat+1)) hnw rfl (.slice _ _ _) λH2 _=>?_
  unfold cm
  simp only[h1,h2,hu,hi,hsz,hz,hb,and_self,if_true,if_false]
 ·cases hf
theorem sz{C:Cfg}{t:TypeId}{m k:Value}{ok:Bool}{H:List HObj}{F:List Nat}(hs:∀r∈adr m,r∈F):LocG F (bF C t m k ok) H:=by
 intro v hf H2 h2
 unfold bF at hf
 unfold bF
 split at hf
 case h_2=>cases hf
 rename_i kt et hu
 split at hf
 ·cases hf
 rename_i hok
 simp only[hok]
 split at hf
 ·cases hf
 rename_i z hz
 split at hf
 ·exact hf
 ·rename_i id
  have f1:=hs id (by simp[adr])
  split at hf
  ·cases hf
  rename_i es c hm
  simp only[(bq h2 f1 hm).2]
  exact hf
 ·cases hf
theorem loc_arr{C:Cfg}{t:TypeId}{a:Addr}{lo hi mx:Option Value}{H:List HObj}{F:List Nat}(hs:∀r∈adr (.pointer (some a)),r∈F):LocG F (bM C t a lo hi mx) H:=by
 intro v hf H2 h2
 unfold bM at hf
 unfold bM
 split at hf
 case h_2=>cases hf
 rename_i n elem hu
 split at hf
 ·cases hf
 rename_i hsz
 simp only[hsz,if_false]
 split at hf
 ·cases hf
 rename_i l h m hb
 split at hf
 ·rename_i hsp
  simp only[hsp,if_true];exact hf
 ·rename_i hsp
  simp only[hsp,if_false]
  split at hf
  ·rename_i hn
   simp only[hn,if_true]
   split at hf
   ·rename_i vs e b hid
    rw[bZ h2 (hs _ (by simp[adr,hn])) hid]
    exact hf
   ·cases hf
  ·cases hf
end Sx
end Go.Am

/-
 WHAT AN OPERATION DOES WHEREVER IT STANDS,told of the blocks that it touches.
-/
namespace Go.Am
namespace Sx
def fpo(pts:List Nat)(ρ:Operand->Value)(o:Oper):List Nat:=(bV pts o).1.flatMap λx=>adrK (bV pts o).2 (ρ x)
def wpo(pts:List Nat)(ρ:Operand->Value)(o:Oper):List Nat:=(db pts o).flatMap λx=>adr (ρ x)
def okS(N:FuncId->Option Nat)(pts:List Nat)(o:Oper):Bool:=
 match aj N pts o with
 |some .hw=>(match o.op with
  | .call c=>(match c.callee with
   | .builtin _=>true
   |_=>false)
  |_=>true)
 |some .hr=>(match o.op with
  | .call c=>(match c.callee with
   | .builtin _=>true
   |_=>false)
  |_=>true)
 |some _=>true
 |none=>false
theorem co{C:Cfg}{ρ:Operand->Value}{o:Oper}{e:Eff}(h:bw C ρ o=some e):∃v,e = .val v:=by
 unfold bw at h
 split at h
 ·split at h
  ·split at h
   ·cases h;exact⟨_,rfl⟩
   ·cases h
  ·cases h
 ·cases h
theorem cr{x:Option Value}{e:Eff}(h:x.map Eff.val=some e):∃v,e = .val v:=by
 obtain⟨v,_,rfl⟩:=qab.1 h
 exact⟨v,rfl⟩
theorem nohop_or{a:Option Value}{b:Option Eff}{e:Eff}(hb:b=some e->∃v,e = .val v)(h:kB a b=some e):∃v,e = .val v:=by
 unfold kB at h
 split at h
 ·cases h;exact⟨_,rfl⟩
 ·exact hb h
def LocE(Q nw:Prop)(F W:List Nat):Eff->Prop
 | .hop f=>∀H,LocF nw F W f H
 | .hget f=>∀H,LocG F f H
 | .call _ _=>Q
 | .yield _ _=>Q
 |_=>True
theorem ba{Q nw:Prop}{F W:List Nat}{e:Eff}(h:∃v,e = .val v):LocE Q nw F W e:=by
 obtain⟨v,rfl⟩:=h;trivial
theorem fT{v:Value}{p:Nat×Nat}(h:eY v=some p):adr v=[p.1]:=by
 unfold eY at h
 split at h
 ·rename_i a
  split at h
  ·rename_i hs
   cases h
   cases hsp:a.spot with
   |none=>simp[adr,hsp]
   |some k=>rw[hsp]at hs;cases hs
  ·cases h
 ·cases h
theorem qY{Q nw:Prop}{C:Cfg}{pts:List Nat}{d:Option Tmp}{t:TypeId}{v:Value}{e:Eff}{F W:List Nat}(hnw:∀x,d=some x->pts.getD x 0≠x+2->nw)(h:bv C pts d t v=some e):LocE Q nw F W e:=by
 unfold bv at h
 split at h
 ·cases h
 ·split at h
  ·cases h
  ·split at h
   ·cases h
   ·split at h
    ·cases h;trivial
    ·rename_i hpt
     cases h
     exact λH=>pZ (hnw _ rfl hpt) (.cells v.cells.toList (ir C.P t) true) (λn=>.pointer (some ⟨n,0,none⟩)) rfl .ptr
theorem effOf_loc{C:Cfg}{pts:List Nat}{ρ:Operand->Value}{o:Oper}{e:Eff}(he:ai C pts ρ o=some e):LocE (∃c f,o.op = .call c/\c.callee = .value f) (cd pts o=true) (fpo pts ρ o) (wpo pts ρ o) e:=by
 unfold ai at he
 split at he
 ·cases he;trivial
 ·cases he;trivial
 ·split at he
  ·cases he;trivial
  ·cases he
 ·rename_i t ho
  obtain⟨z,_,he⟩:=qah.1 he
  exact qY (λx hx hp=>by simp only[cd,ho,hx];cases hb:Nat.beq (pts.getD x 0) (x+2)with
   |false=>rfl
   |true=>exact absurd (qac hb) hp) he
 ·rename_i t x ho
  exact qY (λx hx hp=>by simp only[cd,ho,hx];cases hb:Nat.beq (pts.getD x 0) (x+2)with
   |false=>rfl
   |true=>exact absurd (qac hb) hp) he
 ·split at he
  ·exact ba (cr he)
  ·cases he
 ·rename_i t n ps ho
  split at he
  ·obtain⟨r,_,rfl⟩:=qab.1 he
   exact λH=>pZ (by simp only[cd,ho]) (.cells r.2 r.1 true) (λk=>.slice (some ⟨k,0,tag r.1⟩) n (n+1)) rfl (.slice _ _ _)
  ·cases he
 ·rename_i t a ho
  unfold cD at he
  split at he
  ·rename_i hk
   split at he
   ·rename_i p hp
    cases he
    intro H v hv H2 h2
    obtain⟨vs,h3,h4⟩:=qah.1 hv
    have hm:p.1∈fpo pts ρ o:=by simp[fpo,bV,adrK,ho,hk,fT hp]
    refine qah.2 ⟨vs,?_,h4⟩
    unfold dn at h3 ⊢
    split at h3
    ·rename_i hid;cases h3;rw[bZ h2 hm hid]
    ·cases h3
   ·obtain⟨p,_,rfl⟩:=qab.1 he
    exact λH v hv H2 _=>hv
  ·obtain⟨p,_,he⟩:=qah.1 he
   exact ba (cr he)
  ·obtain⟨p,_,rfl⟩:=qab.1 he
   trivial
 ·rename_i t a x ho
  unfold da at he
  split at he
  ·cases he
  ·split at he
   ·rename_i hk
    obtain⟨p,hp,rfl⟩:=qab.1 he
    exact λH=>loc_store (by simp[fpo,bV,adrK,ho,hk,fT hp]) (by simp[wpo,db,ho,hk,fT hp])
   ·cases he
   ·obtain⟨p,_,rfl⟩:=qab.1 he
    trivial
 ·split at he<;>cases he<;>trivial
 ·split at he
  ·split at he
   ·split at he
    ·cases he;trivial
    ·cases he
   ·exact ba (co he)
  ·split at he
   ·split at he
    ·cases he;trivial
    ·cases he
   ·exact ba (co he)
  ·exact ba (co he)
 ·split at he
  ·cases he
  ·cases he;trivial
 ·rename_i t r ho
  split at he
  ·cases he
   exact λH=>pZ (by simp only[cd,ho]) (.map [] 0) (λn=>.map (some n)) rfl .map
  ·cases he
 ·rename_i t l c ho
  cases he
  exact λH=>loc_make (by simp only[cd,ho])
 ·rename_i t x lo hi mx ho
  split at he
  ·rename_i a hx
   split at he
   ·exact ba (cr he)
   ·cases he
    exact λH=>loc_arr λr hr=>by simp[fpo,bV,adrK,adrP,ho,hx];exact hr
  ·exact ba (nohop_or co he)
 ·exact ba (cr he)
 ·exact ba (cr he)
 ·exact ba (cr he)
 ·exact ba (cr he)
 ·rename_i t m k ok ho
  split at he
  ·exact ba (cr he)
  ·cases he
   exact λH=>sz λr hr=>by simp[fpo,bV,adrK,ho];exact hr
 ·rename_i t m k v ho
  cases he
  exact λH=>lU λr hr=>⟨by simp[fpo,bV,adrK,ho];exact hr,by simp[wpo,db,ho];exact hr⟩
 ·rename_i t m k v ho
  cases he
  exact λH=>lU λr hr=>⟨by simp[fpo,bV,adrK,ho];exact hr,by simp[wpo,db,ho];exact hr⟩
 ·rename_i t m k ho
  cases he
  exact λH=>loc_entry λr hr=>⟨by simp[fpo,bV,adrK,ho];exact hr,by simp[wpo,db,ho];exact hr⟩
 ·rename_i t m s v ho
  cases he
  exact λH=>sy λr hr=>⟨by simp[fpo,bV,adrK,ho];exact hr,by simp[wpo,db,ho];exact hr⟩
 ·split at he
  ·split at he
   ·cases he
   ·exact ba (cr he)
  ·cases he
 ·rename_i c ho
  unfold ej at he
  simp only at he
  cases hc:c.callee with
  |invoke r m=>simp only[hc]at he;cases he
  |builtin b=>
   simp only[hc]at he
   unfold aF at he
   split at he
   ·rename_i s x t ha ht
    split at he
    ·cases he
    ·cases he
     have two:∃a b,c.args.toList=[a,b]/\ρ a=s/\ρ b=x:=by
      match c.args.toList,ha with
      | [a,b],ha=>simp at ha;exact⟨a,b,rfl,ha.1,ha.2⟩
     obtain⟨a,b,e1,rfl,rfl⟩:=two
     exact λH=>sw (by simp only[cd,ho,hc]) (λr hr=>⟨by simp[fpo,bV,adrK,ho,hc,e1,hr],by simp[wpo,db,ho,hc,e1,hr]⟩) λr hr=>by simp[fpo,bV,adrK,ho,hc,e1,hr]
   ·rename_i x t ha ht
    split at he
    ·cases he;trivial
    ·rename_i id hu
     cases he
     have one:∃a,c.args.toList=[a]/\ρ a = .map (some id):=by
      cases hl:c.args.toList with
      |nil=>rw[hl]at ha;cases ha
      |cons a l=>
       rw[hl]at ha
       cases l with
       |nil=>exact⟨a,rfl,by simpa using ha⟩
       |cons b l=>simp at ha
     obtain⟨a,e1,e2⟩:=one
     intro H v hv H2 h2
     obtain⟨p,h3,h4⟩:=qab.1 hv
     have hm:id∈fpo pts ρ o:=by simp[fpo,bV,adrK,adrM,ho,hc,e1,e2]
     exact qab.2 ⟨p,(bq h2 hm h3).2,h4⟩
    ·cases he;trivial
    ·exact ba (co he)
   ·split at he
    ·cases he;trivial
    ·cases he;trivial
    ·cases he;trivial
    ·cases he
   ·rename_i d x t ha ht
    cases he
    have two:∃a b,c.args.toList=[a,b]/\ρ a=d/\ρ b=x:=by
     match c.args.toList,ha with
     | [a,b],ha=>simp at ha;exact⟨a,b,rfl,ha.1,ha.2⟩
    obtain⟨a,b,e1,rfl,rfl⟩:=two
    exact λH=>loc_copy (λr hr=>⟨by simp[fpo,bV,adrK,ho,hc,e1,hr],by simp[wpo,db,ho,hc,e1,hr]⟩) λr hr=>by simp[fpo,bV,adrK,ho,hc,e1,hr]
   ·rename_i m k t ha ht
    cases he
    have two:∃a b,c.args.toList=[a,b]/\ρ a=m/\ρ b=k:=by
     match c.args.toList,ha with
     | [a,b],ha=>simp at ha;exact⟨a,b,rfl,ha.1,ha.2⟩
    obtain⟨a,b,e1,rfl,rfl⟩:=two
    exact λH=>sx λr hr=>⟨by simp[fpo,bV,adrK,ho,hc,e1,hr],by simp[wpo,db,ho,hc,e1,hr]⟩
   ·rename_i x t ha ht
    cases he
    have one:∃a,c.args.toList=[a]/\ρ a=x:=by
     match c.args.toList,ha with
     | [a],ha=>simp at ha;exact⟨a,rfl,ha⟩
    obtain⟨a,e1,rfl⟩:=one
    exact λH=>loc_clear λr hr=>⟨by simp[fpo,bV,adrK,ho,hc,e1,hr],by simp[wpo,db,ho,hc,e1,hr]⟩
   ·exact ba (co he)
  |value f=>
   simp only[hc]at he
   split at he
   ·cases he
   ·split at he
    ·split at he
     ·cases he;exact⟨c,f,ho,hc⟩
     ·cases he
    ·split at he
     ·cases he;exact⟨c,f,ho,hc⟩
     ·cases he
    ·cases he
 ·exact ba (co he)
 ·exact ba (co he)
 ·cases he
section
variable [Val] {C:Cfg} {B:Below} {N:FuncId->Option Nat} {pts:List Nat} {ops:Array Oper}
def mG(N:FuncId->Option Nat)(pts:List Nat)(ops:Array Oper)(o:Oper)(σ τ:St):Prop:=
 (∀t∈aS ops o,τ.tmps[t]? = σ.tmps[t]?)/\(match aj N pts o with
 |some (.row s _)=>τ.loc[s]? = σ.loc[s]?
 |_=>True)/\eI (fpo pts (oval σ.tmps) o) σ.heap τ.heap
def dl(dst:Option Tmp)(e:HEff)(rw:Option (Nat×Option (List Value)))(k:Option Nat)(τ:St):St:=
 ({ tmps:=τ.tmps,loc:=(match rw with|some p=>τ.loc.set p.1 p.2|none=>τ.loc),heap:=(match k with
  |none=>e.heap τ.heap
  |some k=>match e.push with
   |some p=>(e.put τ.heap).set k p.1
   |none=>e.put τ.heap) }:St).put dst (match k with
  |none=>e.val τ.heap.length
  |some k=>e.val k)
theorem local_okS(hN:NeuB N B){i:Nat}{o:Oper}(hi:ops[i]? = some o)(hc:okS N pts o=true){σ σ':St}(hs:ah C B pts ops i σ σ') :
  ∃(e:HEff) (rw:Option (Nat×Option (List Value))),σ'=dl o.dst e rw none σ/\(∀p,rw=some p->aj N pts o=some (.row p.1 true))/\(e.push≠none->aj N pts o=some .hw)/\
   (∀p,e.set=some p->p.1∈wpo pts (oval σ.tmps) o/\∃x,σ.heap[p.1]? = some x/\x.alive=true)/\(∀p,e.push=some p->cd pts o=true/\Fresh p.2/\p.1.alive=true)/\
   ∀τ,mG N pts ops o σ τ->∀sl:Nat->Option Nat,
    (e.push=none->sl i=none->cJ C B pts ops sl i τ (dl o.dst e rw none τ))/\
    (∀p k,e.push=some p->sl i=some k->(e.put τ.heap)[k]? = some .dead->cJ C B pts ops sl i τ (dl o.dst e rw (some k) τ)):=by
 have hm:aj N pts o≠none:=by intro h;unfold okS at hc;rw[h]at hc;cases hc
 by_cases hcl:aj N pts o=some .hr∨aj N pts o=some .hw
 case neg=>
  obtain⟨e,h1,h2,h3⟩:=ep hN hi hm hs
  have hh:e.hp=none:=by
   cases he:e.hp with
   |none=>rfl
   |some x=>exact absurd (.inr (h2.2 (by rw[he];simp))) hcl
  have hon:∀τ,e.on o.dst τ=dl o.dst ⟨none,none,e.v⟩ e.rw none τ:=λτ=>by
   unfold Ef.on dl
   rw[hh]
   rfl
  refine⟨⟨none,none,e.v⟩,e.rw,by rw[h1,hon],h2.1,λh=>absurd rfl h,λp hp=>(by cases hp),λp hp=>(by cases hp),λτ hτ sl=>⟨λ_ hsl=>?_,λp k hp=>(by cases hp)⟩⟩
  unfold cJ
  rw[hsl]
  rw[←hon]
  refine h3 τ ⟨hτ.1,?_⟩
  have:=hτ.2.1
  cases hmm:aj N pts o with
  |none=>exact absurd hmm hm
  |some m=>
   rw[hmm]at this hcl
   cases m with
   |hr=>exact absurd (.inl rfl) hcl
   |hw=>exact absurd (.inr rfl) hcl
   |row s w=>exact this
   |_=>trivial
 case pos=>
  unfold ah at hs
  simp only[hi]at hs
  have hwτ:∀τ,mG N pts ops o σ τ->bn ops τ.tmps o=bn ops σ.tmps o:=λτ hτ=>gc hτ.1
  have val:∀v:Value,σ'=σ.put o.dst v->(∀τ,mG N pts ops o σ τ->ah C B pts ops i τ (τ.put o.dst v))->
    ∃(e:HEff) (rw:Option (Nat×Option (List Value))),σ'=dl o.dst e rw none σ/\(∀p,rw=some p->aj N pts o=some (.row p.1 true))/\(e.push≠none->aj N pts o=some .hw)/\
     (∀p,e.set=some p->p.1∈wpo pts (oval σ.tmps) o/\∃x,σ.heap[p.1]? = some x/\x.alive=true)/\(∀p,e.push=some p->cd pts o=true/\Fresh p.2/\p.1.alive=true)/\
     ∀τ,mG N pts ops o σ τ->∀sl:Nat->Option Nat,
      (e.push=none->sl i=none->cJ C B pts ops sl i τ (dl o.dst e rw none τ))/\
      (∀p k,e.push=some p->sl i=some k->(e.put τ.heap)[k]? = some .dead->cJ C B pts ops sl i τ (dl o.dst e rw (some k) τ)):=by
   intro v hv h
   refine⟨⟨none,none,v⟩,none,hv,λp hp=>(by cases hp),λh=>absurd rfl h,λp hp=>(by cases hp),λp hp=>(by cases hp),λτ hτ sl=>⟨λ_ hsl=>?_,λp k hp=>(by cases hp)⟩⟩
   unfold cJ
   rw[hsl]
   exact h τ hτ
  split at hs
  ·exact hs.elim
  ·rename_i hw
   refine val undef hs λτ hτ=>?_
   unfold ah
   simp only[hi,hwτ τ hτ,hw]
  ·rename_i hw
   have step:∀ {τ τ':St},mG N pts ops o σ τ->((∃e,ai C pts (oval τ.tmps) o=some e/\gm B e o.dst τ τ')∨(∃v,fK C τ.tmps o v/\τ'=τ.put o.dst v))->ah C B pts ops i τ τ':=by
    intro τ τ' hτ h
    unfold ah
    simp only[hi,hwτ τ hτ,hw]
    exact h
   rcases hs with⟨e,he,hr⟩|⟨v,hv,rfl⟩
   ·have heτ:∀τ,mG N pts ops o σ τ->ai C pts (oval τ.tmps) o=some e:=λτ hτ=>by
     rw[fQ N pts hm (jq hτ.1)];exact he
    have hfit:=eX (N:=N) (λ_=>rfl) hm he
    have hloc:=effOf_loc he
    cases e with
    |val v=>
     obtain⟨p,hp,rfl⟩:=hr
     cases hp
     exact val v rfl λτ hτ=>step hτ (.inl ⟨_,heτ τ hτ,_,rfl,rfl⟩)
    |lnew s vs=>
     have hfit:aj N pts o=some (.row s true):=hfit
     rw[hfit]at hcl;rcases hcl with h|h<;>cases h
    |lget s f=>
     have hfit:aj N pts o=some (.row s false):=hfit
     rw[hfit]at hcl;rcases hcl with h|h<;>cases h
    |lset s f=>
     have hfit:aj N pts o=some (.row s true):=hfit
     rw[hfit]at hcl;rcases hcl with h|h<;>cases h
    |hget f=>
     obtain⟨p,hp,rfl⟩:=hr
     simp only[aB]at hp
     obtain⟨v,hv,rfl⟩:=qab.1 hp
     refine val v rfl λτ hτ=>step hτ (.inl ⟨_,heτ τ hτ,(τ,v),?_,rfl⟩)
     simp only[aB,hloc _ _ hv _ hτ.2.2,qap]
    |hop f=>
     obtain⟨p,hp,rfl⟩:=hr
     simp only[aB]at hp
     obtain⟨q,hv,rfl⟩:=qab.1 hp
     obtain⟨e,l1,l2,l3,l4,l5⟩:=hloc σ.heap q.1 q.2 hv
     refine⟨e,none,?_,λp hp=>(by cases hp),λ_=>hfit,l3,l4,λτ hτ sl=>⟨λhp hsl=>?_,λp k hp hsl hd=>?_⟩⟩
     ·unfold dl
      rw[l1,l2]
     ·unfold cJ
      rw[hsl]
      exact step hτ (.inl ⟨_,heτ τ hτ,({ τ with heap:=e.heap τ.heap },e.val τ.heap.length),by simp only[aB,l5 _ hτ.2.2,qap],rfl⟩)
     ·unfold cJ
      rw[hsl]
      refine⟨o,f,e.put τ.heap,p.1,p.2,hi,by rw[hwτ τ hτ];exact hw,heτ τ hτ,?_,?_,hd,(l4 p hp).2.1,?_⟩
      ·rw[l5 _ hτ.2.2]
       unfold HEff.heap HEff.val
       rw[hp]
      ·unfold HEff.put
       split<;>simp
      ·unfold dl HEff.val
       rw[hp]
    |call f args=>
     exfalso
     have hfit:(aj N pts o=some (.neu f)/\N f=some (2*args.length))∨(aj N pts o=some .hr/\N f=some (2*args.length+1))∨aj N pts o=some .hw:=hfit
     rcases hfit with⟨h,_⟩|⟨h,_⟩|h
     ·rw[h]at hcl;rcases hcl with h|h<;>cases h
     ·obtain⟨c,g,q1,q2⟩:=hloc
      unfold okS at hc
      simp only[h,q1,q2]at hc
      cases hc
     ·obtain⟨c,g,q1,q2⟩:=hloc
      unfold okS at hc
      simp only[h,q1,q2]at hc
      cases hc
    |yield l args=>
     exfalso
     have hfit:aj N pts o=some .hw:=hfit
     obtain⟨c,g,q1,q2⟩:=hloc
     unfold okS at hc
     simp only[hfit,q1,q2]at hc
     cases hc
   ·refine val v rfl λτ hτ=>step hτ (.inr ⟨v,?_,rfl⟩)
    obtain⟨h1,h2,h3,h4⟩:=hv
    have hops:=jq hτ.1
    refine⟨h1,?_,h3,λw=>?_⟩
    ·rw[qad]at h2 ⊢
     intro x hx
     rw[hops x hx];exact h2 x hx
    ·rw[execOp_congr N pts hm (ρ':=λx=>den (oval σ.tmps x)) λx hx=>by rw[hops x hx]]
     exact h4 w
end
end Sx
end Go.Am

/-
 REGIONS THAT DRAW THEIR ORDER,where several operations make blocks: the blocks that they touch are told apart by the values behind them.
-/
namespace Go.Am
namespace Sx
section
variable [Val] {C:Cfg} {B:Below} {N:FuncId->Option Nat} {pts:List Nat} {ops:Array Oper}
def runR(S:Nat->St->St->Prop):List Nat->St->St->Prop
 | [],σ,σ'=>σ'=σ
 |i :: l,σ,σ'=>∃σ₁,S i σ σ₁/\runR S l σ₁ σ'
theorem kq{S:Nat->St->St->Prop}{i:Nat}{post:List Nat}:∀(pre:List Nat),(∀k∈pre,∀σ σ₁ σ':St,S k σ σ₁->S i σ₁ σ'->∃τ,S i σ τ/\S k τ σ')->
  ∀σ σ':St,runR S (pre++i :: post) σ σ'->runR S (i :: (pre++post)) σ σ'
 | [],_,σ,σ',h=>h
 |k :: pre,hc,σ,σ',⟨σ₁,h1,h2⟩=>by
  obtain⟨σ₂,h3,h4⟩:=kq pre (λk hk=>hc k (by simp[hk])) σ₁ σ' h2
  obtain⟨τ,h5,h6⟩:=hc k (by simp) σ σ₁ σ₂ h1 h3
  exact⟨τ,h5,σ₂,h6,h4⟩
theorem go_okR{S:Nat->St->St->Prop}(hback:∀(i:Nat) o,ops[i]? = some o->∀e∈o.after.toList,Region.binds .any e=true->e.on<i)
  (hpair:∀i k:Nat,i<ops.size->k<i->Anc ops k i∨∀σ σ₁ σ':St,S k σ σ₁->S i σ₁ σ'->∃τ,S i σ τ/\S k τ σ'):∀(fuel t:Nat) (listed:Array Bool),listed.size=ops.size->(unl ops.size listed).length=fuel->
  (∀(x:Nat) o,listed.getD x true=true->ops[x]? = some o->∀e∈o.after.toList,Region.binds .any e=true->listed.getD e.on false=true)->
  ∀σ σ':St,runR S (unl ops.size listed) σ σ'->runR S (Region.linearise.go .any ops fuel t listed []) σ σ'/\(Region.linearise.go .any ops fuel t listed []).Nodup/\∀x∈Region.linearise.go .any ops fuel t listed [],listed.getD x true=false
 |0,t,listed,_,hl,_,σ,σ',h=>by
  have:unl ops.size listed=[]:=qbj.1 hl
  rw[this]at h
  simpa[Region.linearise.go]using h
 |fuel+1,t,listed,hsz,hl,hcl,σ,σ',h=>by
  simp only[Region.linearise.go]
  generalize hrs:((List.range ops.size).filter λi=>!listed.getD i true&&((ops[i]?).map (·.after.all λe=>!Region.binds .any e||listed.getD e.on false)).getD false)=rs
  have hready:∀i∈rs,i<ops.size/\listed.getD i true=false/\∀o,ops[i]? = some o->∀e∈o.after.toList,Region.binds .any e=true->listed.getD e.on false=true:=by
   intro i hi
   rw[←hrs,qaT,qaB]at hi
   obtain⟨h1,h2⟩:=hi
   simp only[qaa,qbx]at h2
   refine⟨h1,h2.1,λo ho e he hb=>?_⟩
   have h3:=h2.2
   rw[ho]at h3
   simp only[qap,qa8]at h3
   rw[qcb]at h3
   have:=h3 e (by simpa using he)
   rw[hb]at this
   simpa using this
  have hne:rs≠[]:=by
   have hu:unl ops.size listed≠[]:=by intro e;rw[e]at hl;cases hl
   obtain⟨i0,tl,hu0⟩:=qcw hu
   have hi0:i0∈unl ops.size listed:=by rw[hu0];simp
   have hi1:=hi0
   rw[unl,qaT,qaB]at hi1
   have hmem:i0∈rs:=by
    rw[←hrs,qaT,qaB]
    refine⟨hi1.1,?_⟩
    simp only[qaa]
    refine⟨hi1.2,?_⟩
    have ho:ops[i0]? = some ops[i0]:=by simp[hi1.1]
    rw[ho]
    simp only[qap,qa8]
    rw[qcb]
    intro e he
    cases hb:Region.binds .any e with
    |false=>simp
    |true=>
     have hlt:=hback i0 _ ho e (by simpa using he) hb
     simp only[qbQ,qcp]
     by_cases hlis:listed.getD e.on true=true
     ·have hs:e.on<listed.size:=by omega
      rw[qal]at hlis ⊢
      rw[qbc hs]at hlis ⊢
      exact hlis
     ·exfalso
      have hm:e.on∈unl ops.size listed:=by
       rw[unl,qaT,qaB]
       exact⟨by omega,by simpa using hlis⟩
      rw[hu0]at hm
      rcases qao.1 hm with hm|hm
      ·omega
      ·have hs:(unl ops.size listed).Pairwise (· < ·):=qcl _ qbV
       rw[hu0,qcz]at hs
       have:=hs.1 _ hm
       omega
   intro e;rw[e]at hmem;cases hmem
  have hlen:0<rs.length:=List.length_pos_iff.2 hne
  have hget:rs[t%rs.length]? = some (rs[t%rs.length]'(qbU _ hlen)):=qaj (qbU _ hlen)
  rw[hget]
  simp only
  generalize hi:rs[t%rs.length]'(qbU _ hlen)=i
  have hmem:i∈rs:=by rw[←hi];exact qcJ _
  obtain⟨i1,i2,i3⟩:=hready i hmem
  rw[linearise_go_acc,List.reverse_singleton,List.singleton_append]
  have hiu:i∈(List.range ops.size).filter λj=>!listed.getD j true:=by
   rw[qaT,qaB];exact⟨i1,by simp[i2]⟩
  obtain⟨pre,post,e1,e2,e3⟩:=eU List.nodup_range hiu
  have hord:=iH e1
  have hnew:unl ops.size (listed.setIfInBounds i true)=pre++post:=by
   rw[←e2]
   unfold unl
   refine qcF λj hj=>?_
   rw[qal,qal,qa2]
   by_cases hji:i=j
   ·subst hji
    rw[if_pos rfl,if_pos (by omega)]
    simp
   ·rw[if_neg hji]
    have:(j != i)=true:=by simpa using λe=>hji e.symm
    simp[this]
  have hmf:=kq (S:=S) (i:=i) (post:=post) pre (λk hk σ σ₁ σ' s1 s2=>by
   obtain⟨m1,m2⟩:=e3 k hk
   rw[qaT,qaB]at m1
   rcases hpair i k i1 (hord k hk)with hanc|hcm
   ·exfalso
    have:=lz hcl hanc i3
    have m3:=m1.2
    rw[qal]at this m3
    rw[qbc (by omega)]at this m3
    simp only[qa8]at this m3
    rw[this]at m3
    cases m3
   ·exact hcm _ _ _ s1 s2) σ σ'
  obtain⟨σ₁,s1,s2⟩:=hmf (by rw[←e1];exact h)
  obtain⟨r1,r2,r3⟩:=go_okR hback hpair fuel (t / rs.length) (listed.setIfInBounds i true) (by simp[hsz]) (by
    rw[hnew]
    have:(unl ops.size listed).length=(pre++post).length+1:=by
     show(List.filter _ _).length=_
     rw[e1];simp;omega
    omega) (by
    intro x o hx ho e he hb
    have keep:∀y,listed.getD y false=true->(listed.setIfInBounds i true).getD y false=true:=by
     intro y hy
     rw[qal]at hy ⊢
     rw[qa2]
     split
     ·rename_i h1
      subst h1
      rw[if_pos (by omega)];rfl
     ·exact hy
    by_cases hxi:x=i
    ·subst hxi;exact keep _ (i3 o ho e he hb)
    ·refine keep _ (hcl x o ?_ ho e he hb)
     rw[qal,qa2,if_neg (λe=>hxi e.symm)]at hx
     rw[qal];exact hx) σ₁ σ' (by rw[hnew];exact s2)
  have hout:∀x∈Region.linearise.go .any ops fuel (t / rs.length) (listed.setIfInBounds i true) [],x≠i/\listed.getD x true=false:=by
   intro x hx
   have:=r3 x hx
   rw[qal,qa2]at this
   by_cases hxi:i=x
   ·subst hxi
    rw[if_pos rfl,if_pos (by omega)]at this
    cases this
   ·rw[if_neg hxi]at this
    exact⟨qcj hxi,by rw[qal];exact this⟩
  refine⟨⟨σ₁,s1,r1⟩,qcc.2 ⟨λhm=>(hout i hm).1 rfl,r2⟩,λx hx=>?_⟩
  rcases qao.1 hx with rfl|hx
  ·exact i2
  ·exact(hout x hx).2
end
end Sx
end Go.Am

/-
 REGIONS THAT DRAW THEIR ORDER: what each operation has done,as a record;two records change places;whatever the order.
-/
namespace Go.Am
namespace Sx
def cZ(ws:List (Nat×HObj))(H:List HObj):List HObj:=ws.foldl (λH p=>H.set p.1 p.2) H
theorem dy:∀(ws:List (Nat×HObj)) (H:List HObj),(cZ ws H).length=H.length
 | [],H=>rfl
 |p :: ws,H=>by
  show(cZ ws (H.set p.1 p.2)).length=_
  rw[dy ws];simp
theorem gL{r:Nat}:∀ {ws:List (Nat×HObj)} {H:List HObj},(∀p∈ws,p.1≠r)->(cZ ws H)[r]? = H[r]?
 | [],H,_=>rfl
 |p :: ws,H,h=>by
  show(cZ ws (H.set p.1 p.2))[r]? = _
  rw[gL λq hq=>h q (qas _ hq),qaE (h p (by simp))]
theorem pA{i:Nat}{x:HObj}:∀ {ws:List (Nat×HObj)} {H:List HObj},(∀p∈ws,p.1≠i)->cZ ws (H.set i x)=(cZ ws H).set i x
 | [],H,_=>rfl
 |p :: ws,H,h=>by
  show cZ ws ((H.set i x).set p.1 p.2)=(cZ ws (H.set p.1 p.2)).set i x
  rw[List.set_comm _ _ (qcj (h p (by simp))),pA λq hq=>h q (qas _ hq)]
theorem fx:∀ {a b:List (Nat×HObj)} {H:List HObj},(∀p∈a,∀q∈b,p.1≠q.1)->cZ a (cZ b H)=cZ b (cZ a H)
 | [],b,H,_=>rfl
 |p :: a,b,H,h=>by
  show cZ a ((cZ b H).set p.1 p.2)=cZ b (cZ a (H.set p.1 p.2))
  rw[←pA λq hq=>qcj (h p (by simp) q hq)]
  exact fx λq hq=>h q (qas _ hq)
section
variable [Val] {C:Cfg} {B:Below} {N:FuncId->Option Nat} {pts:List Nat} {ops:Array Oper}
structure Rec where
 σ:St
 e:HEff
 rw:Option (Nat×Option (List Value))
 k:Option Nat
def Rec.on(r:Rec)(o:Oper)(τ:St):St:=dl o.dst r.e r.rw r.k τ
def Rec.sees(N:FuncId->Option Nat)(pts:List Nat)(ops:Array Oper)(r:Rec)(o:Oper)(τ:St):Prop:=
 mG N pts ops o r.σ τ/\∀k,r.k=some k->(r.e.put τ.heap)[k]? = some .dead
def Rec.slot(r:Rec):List (Nat×HObj):=match r.k,r.e.push with
 |some k,some p=>[(k,p.1)]
 |_,_=>[]
def Rec.ws(r:Rec):List (Nat×HObj):=r.e.set.toList++r.slot
structure Rec.Ok(C:Cfg)(B:Below)(N:FuncId->Option Nat)(pts:List Nat)(ops:Array Oper)(i:Nat)(o:Oper)(r:Rec):Prop where
 row:∀p,r.rw=some p->aj N pts o=some (.row p.1 true)
 wr:∀p,r.e.set=some p->p.1∈wpo pts (oval r.σ.tmps) o
 kp:r.k=none↔r.e.push=none
 fr:∀p,r.e.push=some p->Fresh p.2/\aj N pts o=some .hw/\cd pts o=true
 step:∀τ,r.sees N pts ops o τ->∀sl:Nat->Option Nat,sl i=r.k->cJ C B pts ops sl i τ (r.on o τ)
theorem cY(e:HEff)(H:List HObj):e.put H=cZ e.set.toList H:=by
 unfold HEff.put
 cases e.set<;>rfl
theorem eu{r:Rec}{o:Oper}{τ:St}(h:r.k=none↔r.e.push=none):(r.on o τ).heap=cZ r.ws τ.heap:=by
 unfold Rec.on dl
 rw[cX]
 unfold Rec.ws Rec.slot
 cases hk:r.k with
 |none=>
  simp only[HEff.heap,h.1 hk,cY,qaL]
 |some k=>
  cases hp:r.e.push with
  |none=>rw[h.2 hp]at hk;cases hk
  |some p=>
   simp only[cY]
   show(cZ r.e.set.toList τ.heap).set k p.1=_
   unfold cZ
   rw[List.foldl_append]
   rfl
theorem kA{r:Rec}{o:Oper}{τ:St}:(r.on o τ).loc=(match r.rw with|some p=>τ.loc.set p.1 p.2|none=>τ.loc):=by
 unfold Rec.on dl
 rw[nF]
 all_goals (cases r.rw<;>rfl)
def Rec.val(r:Rec):Value:=match r.k with
 |some k=>r.e.val k
 |none=>r.e.v
theorem jo{r:Rec}{o:Oper}{τ:St}(h:r.k=none↔r.e.push=none):(r.on o τ).tmps=(match o.dst with|some d=>τ.tmps.set d r.val|none=>τ.tmps):=by
 unfold Rec.on dl
 rw[nG]
 unfold Rec.val
 cases hk:r.k with
 |none=>simp only[HEff.val,h.1 hk];all_goals (cases o.dst<;>rfl)
 |some k=>cases o.dst<;>rfl
def rowOk:MC->MC->Bool
 | .row s w,.row s' w'=>!Nat.beq s s'||(!w && !w')
 |_,_=>true
def stat2(N:FuncId->Option Nat)(pts:List Nat)(ops:Array Oper)(a b:Oper):Bool:=
 match aj N pts a,aj N pts b with
 |some m,some n=>rowOk m n&&aV a.dst (aS ops b)&&aV b.dst (aS ops a)&&aX a.dst b.dst
 |_,_=>false
theorem lI{d:Option Tmp}{l:List Nat}(hd:aV d l=true):∀t∈l,∀x,d=some x->x≠t:=by
 intro t ht x hx he
 subst hx he
 simp only[aV,qbx,qbM,decide_eq_false_iff_not]at hd
 exact hd ht
theorem unseenR{a b:Oper}{m n:MC}{ra rb:Rec}{ia:Nat}(ha:aj N pts a=some m)(hb:aj N pts b=some n)(oka:ra.Ok C B N pts ops ia a)(hrow:rowOk m n=true∨rowOk n m=true)(hd:aV a.dst (aS ops b)=true)
  (d1:∀p∈ra.ws,p.1∉fpo pts (oval rb.σ.tmps) b) {τ:St}:mG N pts ops b rb.σ (ra.on a τ)↔mG N pts ops b rb.σ τ:=by
 have ht:∀t∈aS ops b,(ra.on a τ).tmps[t]? = τ.tmps[t]?:=λt ht=>by
  unfold Rec.on dl
  exact im λx hx=>lI hd t ht x hx
 have hl:∀s w,aj N pts b=some (.row s w)->(ra.on a τ).loc[s]? = τ.loc[s]?:=λs w hm=>by
  rw[kA]
  cases hrw:ra.rw with
  |none=>rfl
  |some p=>
   have h1:=oka.row p hrw
   rw[ha]at h1
   rw[hb]at hm
   cases h1;cases hm
   have:p.1≠s:=by
    intro he
    subst he
    rcases hrow with h|h<;>simp[rowOk]at h
   show(τ.loc.set p.1 p.2)[s]? = _
   rw[qaE this]
 have hh:∀r∈fpo pts (oval rb.σ.tmps) b,(ra.on a τ).heap[r]? = τ.heap[r]?:=λr hr=>by
  rw[eu oka.kp]
  exact gL λp hp e=>d1 p hp (e▸hr)
 constructor
 ·rintro⟨q1,q2,q3⟩
  refine⟨λt h=>by rw[←ht t h];exact q1 t h,?_,λr hr x hx hal=>by rw[←hh r hr];exact q3 r hr x hx hal⟩
  rw[hb]at q2 ⊢
  cases n<;>first|trivial|(rename_i s w;exact(hl s w hb).symm.trans q2)
 ·rintro⟨q1,q2,q3⟩
  refine⟨λt h=>by rw[ht t h];exact q1 t h,?_,λr hr x hx hal=>by rw[hh r hr];exact q3 r hr x hx hal⟩
  rw[hb]at q2 ⊢
  cases n<;>first|trivial|(rename_i s w;exact(hl s w hb).trans q2)
theorem swapR{a b:Oper}{ra rb:Rec}{ia ib:Nat}(oka:ra.Ok C B N pts ops ia a)(okb:rb.Ok C B N pts ops ib b)(hs:stat2 N pts ops a b=true)
  (d1:∀p∈ra.ws,p.1∉fpo pts (oval rb.σ.tmps) b) (d2:∀p∈rb.ws,p.1∉fpo pts (oval ra.σ.tmps) a) (d3:∀p∈ra.ws,∀q∈rb.ws,p.1≠q.1) {τ:St} (ha:ra.sees N pts ops a τ) (hb:rb.sees N pts ops b (ra.on a τ)) :
  rb.sees N pts ops b τ/\ra.sees N pts ops a (rb.on b τ)/\rb.on b (ra.on a τ)=ra.on a (rb.on b τ):=by
 unfold stat2 at hs
 split at hs
 case h_2=>cases hs
 rename_i m n hm hn
 simp only[qaa]at hs
 obtain⟨⟨⟨c1,c2⟩,c3⟩,c4⟩:=hs
 have ub:=unseenR (rb:=rb) hm hn oka (.inl c1) c2 d1 (τ:=τ)
 have ua:=unseenR (rb:=ra) hn hm okb (.inr c1) c3 d2 (τ:=τ)
 refine⟨⟨ub.1 hb.1,λk hk=>?_⟩,⟨ua.2 ha.1,λk hk=>?_⟩,?_⟩
 ·have h1:=hb.2 k hk
  have hkb:∃p,rb.e.push=some p:=by
   cases hp:rb.e.push with
   |none=>rw[okb.kp.2 hp]at hk;cases hk
   |some p=>exact⟨p,rfl⟩
  obtain⟨p,hp⟩:=hkb
  have hmem:(k,p.1)∈rb.ws:=by simp[Rec.ws,Rec.slot,hk,hp]
  rw[eu oka.kp,cY,←fx (λq hq s hs e=>d3 q hq s (qaH _ hs) e),gL (λq hq e=>d3 q hq _ hmem e)]at h1
  rw[cY];exact h1
 ·have h1:=ha.2 k hk
  have hka:∃p,ra.e.push=some p:=by
   cases hp:ra.e.push with
   |none=>rw[oka.kp.2 hp]at hk;cases hk
   |some p=>exact⟨p,rfl⟩
  obtain⟨p,hp⟩:=hka
  have hmem:(k,p.1)∈ra.ws:=by simp[Rec.ws,Rec.slot,hk,hp]
  rw[eu okb.kp,cY,fx (λq hq s hs e=>d3 q (qaH _ hq) s hs e),gL (λq hq e=>d3 _ hmem q hq e.symm)]
  rw[cY]at h1;exact h1
 ·have h1:(rb.on b (ra.on a τ)).tmps=(ra.on a (rb.on b τ)).tmps:=by
   rw[jo okb.kp,jo oka.kp,jo oka.kp,jo okb.kp]
   cases hx:a.dst with
   |none=>rfl
   |some x=>
    cases hy:b.dst with
    |none=>rfl
    |some y=>
     rw[hx,hy]at c4
     have:x≠y:=by
      intro he;subst he;simp[aX]at c4
     exact set_comm _ _ _ this
  have h2:(rb.on b (ra.on a τ)).loc=(ra.on a (rb.on b τ)).loc:=by
   rw[kA,kA,kA,kA]
   cases hx:ra.rw with
   |none=>rfl
   |some p=>
    cases hy:rb.rw with
    |none=>rfl
    |some q=>
     have e1:=oka.row p hx
     have e2:=okb.row q hy
     rw[hm]at e1
     rw[hn]at e2
     cases e1;cases e2
     have:p.1≠q.1:=by
      intro he
      rw[he]at c1
      simp[rowOk]at c1
     exact set_comm _ _ _ this
  have h3:(rb.on b (ra.on a τ)).heap=(ra.on a (rb.on b τ)).heap:=by
   rw[eu okb.kp,eu oka.kp,eu oka.kp,eu okb.kp]
   exact(fx d3).symm
  generalize rb.on b (ra.on a τ)=x at *
  generalize ra.on a (rb.on b τ)=y at *
  cases x;cases y
  simp only at h1 h2 h3
  subst h1;subst h2;subst h3
  rfl
end
end Sx
end Go.Am

/-
 REGIONS THAT DRAW THEIR ORDER: the run in the text's order,as records,with room kept for the blocks.
-/
namespace Go.Am
namespace Sx
section
variable [Val] {C:Cfg} {B:Below} {N:FuncId->Option Nat} {pts:List Nat} {ops:Array Oper}
def St.padTo(σ:St)(m:Nat):St:=σ.pad (m - σ.heap.length)
def recS(N:FuncId->Option Nat)(pts:List Nat)(ops:Array Oper)(rc:Nat->Rec)(i:Nat)(τ τ':St):Prop:=∃o,ops[i]? = some o/\(rc i).sees N pts ops o τ/\τ'=(rc i).on o τ
theorem gK{D:List HObj}:∀ {ws:List (Nat×HObj)} {H:List HObj},(∀p∈ws,p.1<H.length)->cZ ws (H++D)=cZ ws H++D
 | [],H,_=>rfl
 |p :: ws,H,h=>by
  show cZ ws ((H++D).set p.1 p.2)=cZ ws (H.set p.1 p.2)++D
  rw[qco _ _ (h p (by simp)),gK λq hq=>by
   have:=h q (qas _ hq)
   simpa using this]
structure RunOk(C:Cfg)(B:Below)(N:FuncId->Option Nat)(pts:List Nat)(ops:Array Oper)(l:List Nat)(σ σ':St)(rc:Nat->Rec):Prop where
 len:σ.heap.length<=σ'.heap.length
 ok:∀i∈l,∀o,ops[i]? = some o->(rc i).Ok C B N pts ops i o
 slot:∀i∈l,∀k,(rc i).k=some k->σ.heap.length<=k/\k<σ'.heap.length
 inj:∀i∈l,∀j∈l,∀k,(rc i).k=some k->(rc j).k=some k->i=j
 keep:∀t,(∀j∈l,∀o,ops[j]? = some o->o.dst≠some t)->σ'.tmps[t]? = σ.tmps[t]?
 args:∀i∈l,∀t,(∀j∈l,i<=j->∀o,ops[j]? = some o->o.dst≠some t)->σ'.tmps[t]? = (rc i).σ.tmps[t]?
 res:∀i∈l,∀o d v,ops[i]? = some o->o.dst=some d->(∀j∈l,i<j->∀o,ops[j]? = some o->o.dst≠some d)->σ'.tmps[d]? = some v->v=(rc i).val
 run:∀m,σ'.heap.length<=m->runR (recS N pts ops rc) l (St.padTo σ m) (St.padTo σ' m)
theorem effOn_len{dst:Option Tmp}{e:HEff}{rw:Option (Nat×Option (List Value))}{σ:St}:(dl dst e rw none σ).heap.length=σ.heap.length+(match e.push with|some _=>1|none=>0):=by
 unfold dl
 rw[cX]
 simp only[HEff.heap,HEff.put]
 cases e.push<;>cases e.set<;>simp
theorem gV{dst:Option Tmp}{e:HEff}{rw:Option (Nat×Option (List Value))}{k:Option Nat}{σ:St}:(dl dst e rw k σ).tmps=(match dst with|some d=>σ.tmps.set d (match k with|none=>e.val σ.heap.length|some k=>e.val k)|none=>σ.tmps):=by
 unfold dl
 rw[nG]
 all_goals (cases dst<;>rfl)
theorem rec_one(hN:NeuB N B){i:Nat}{o:Oper}(hi:ops[i]? = some o)(hc:okS N pts o=true){σ σ₁:St}(hs:ah C B pts ops i σ σ₁) :
  ∃r:Rec,r.σ=σ/\r.Ok C B N pts ops i o/\σ.heap.length<=σ₁.heap.length/\(∀k,r.k=some k->k=σ.heap.length/\k<σ₁.heap.length)/\
   (∀t,o.dst≠some t->σ₁.tmps[t]? = σ.tmps[t]?)/\(∀d v,o.dst=some d->σ₁.tmps[d]? = some v->v=r.val)/\
   ∀m,σ₁.heap.length<=m->r.sees N pts ops o (St.padTo σ m)/\St.padTo σ₁ m=r.on o (St.padTo σ m):=by
 obtain⟨e,rw,h1,h2,h3,h4,h5,h6⟩:=local_okS (N:=N) hN hi hc hs
 have hlen:σ₁.heap.length=σ.heap.length+(match e.push with|some _=>1|none=>0):=by rw[h1];exact effOn_len
 refine⟨⟨σ,e,rw,match e.push with|some _=>some σ.heap.length|none=>none⟩,rfl,⟨h2,λp hp=>(h4 p hp).1,?_,λp hp=>⟨(h5 p hp).2.1,h3 (by rw[show e.push=some p from hp];simp),(h5 p hp).1⟩,?_⟩,by omega,?_,?_,?_,?_⟩
 ·cases hp:e.push<;>simp
 ·intro τ hτ sl hsl
  unfold Rec.on
  simp only at hsl ⊢
  cases hp:e.push with
  |none=>
   rw[hp]at hsl
   exact(h6 τ hτ.1 sl).1 hp hsl
  |some p=>
   rw[hp]at hsl
   refine(h6 τ hτ.1 sl).2 p _ hp hsl (hτ.2 _ ?_)
   simp only[hp]
 ·intro k hk
  simp only at hk
  cases hp:e.push with
  |none=>rw[hp]at hk;cases hk
  |some p=>
   rw[hp]at hk hlen
   cases hk
   exact⟨rfl,by simp only at hlen;omega⟩
 ·intro t ht
  rw[h1]
  unfold dl
  exact im λx hx e=>ht (by rw[hx,e])
 ·intro d v hd hv
  rw[h1,gV,hd]at hv
  simp only[qaD]at hv
  split at hv
  ·split at hv
   ·cases hv
    unfold Rec.val
    simp only[HEff.val]
    cases hp:e.push<;>rfl
   ·cases hv
  ·rename_i hne;exact absurd trivial hne
 ·intro m hm
  have hD:(St.padTo σ m).heap=σ.heap++List.replicate (m - σ.heap.length) .dead:=rfl
  have hset:∀p∈e.set.toList,p.1<σ.heap.length:=λp hp=>by
   obtain⟨_,x,hx,_⟩:=h4 p (by simpa using hp)
   exact(qaK.1 hx).1
  refine⟨⟨⟨λt _=>rfl,?_,λr _ x hx _=>?_⟩,λk hk=>?_⟩,?_⟩
  ·cases aj N pts o with
   |none=>trivial
   |some mc=>cases mc<;>first|trivial|rfl
  ·rw[hD,qag (qaK.1 hx).1]
   exact hx
  ·simp only at hk
   cases hp:e.push with
   |none=>rw[hp]at hk;cases hk
   |some p=>
    rw[hp]at hk hlen
    cases hk
    simp only at hlen ⊢
    rw[cY,hD,gK hset,qak (by rw[dy];exact qaA _),dy,qbA,qa6,if_pos (by omega)]
  · -- the same state
   have e1:(St.padTo σ₁ m).tmps=((⟨σ,e,rw,match e.push with|some _=>some σ.heap.length|none=>none⟩ : Rec).on o (St.padTo σ m)).tmps:=by
    show σ₁.tmps=_
    unfold Rec.on
    rw[h1,gV,gV]
    show _=(match o.dst with|some d=>σ.tmps.set d _|none=>σ.tmps)
    cases o.dst with
    |none=>rfl
    |some d=>
     simp only[HEff.val]
     cases hp:e.push<;>rfl
   have e2:(St.padTo σ₁ m).loc=((⟨σ,e,rw,match e.push with|some _=>some σ.heap.length|none=>none⟩ : Rec).on o (St.padTo σ m)).loc:=by
    show σ₁.loc=_
    unfold Rec.on
    rw[h1]
    unfold dl
    rw[nF,nF]
    rfl
   have e3:(St.padTo σ₁ m).heap=((⟨σ,e,rw,match e.push with|some _=>some σ.heap.length|none=>none⟩ : Rec).on o (St.padTo σ m)).heap:=by
    show σ₁.heap++List.replicate (m - σ₁.heap.length) .dead=_
    unfold Rec.on
    have hh:σ₁.heap=e.heap σ.heap:=by rw[h1];unfold dl;rw[cX]
    unfold dl
    rw[cX,hD]
    cases hp:e.push with
    |none=>
     rw[hp]at hlen
     simp only[hp,HEff.heap,cY]at hh ⊢
     rw[gK hset,hh]
     simp only[dy]
    |some p=>
     rw[hp]at hlen
     simp only at hlen
     simp only[hp,HEff.heap,cY]at hh ⊢
     rw[gK hset,hh]
     have hn:m - σ.heap.length=(m - σ.heap.length - 1)+1:=by omega
     rw[hn,qbS]
     rw[qch _ _ (by rw[dy];exact qaA _),dy,qbA,List.set_cons_zero]
     simp only[qay,qaw,dy,qaW,qbn,qbD,qbg]
     rw[show m - (σ.heap.length+(0+1))=m - σ.heap.length - 1 by omega]
   generalize hX:(⟨σ,e,rw,match e.push with|some _=>some σ.heap.length|none=>none⟩ : Rec).on o (St.padTo σ m)=X at *
   generalize St.padTo σ₁ m=Y at *
   cases X;cases Y
   simp only at e1 e2 e3
   subst e1;subst e2;subst e3
   rfl
theorem mq{S S':Nat->St->St->Prop}:∀ {l:List Nat},(∀i∈l,∀σ σ',S i σ σ'->S' i σ σ')->∀ {σ σ':St},runR S l σ σ'->runR S' l σ σ'
 | [],_,_,_,h=>h
 |i :: l,hs,σ,σ',⟨σ₁,h1,h2⟩=>⟨σ₁,hs i (by simp) _ _ h1,mq (λj hj=>hs j (qas _ hj)) h2⟩
theorem recs_of(hN:NeuB N B):∀(l:List Nat) (σ σ':St),l.Pairwise (· < ·)->(∀i∈l,∃o,ops[i]? = some o/\okS N pts o=true)->aL C B pts ops l σ σ'->∃rc:Nat->Rec,RunOk C B N pts ops l σ σ' rc
 | [],σ,σ',_,_,h=>by
  have:σ'=σ:=h
  subst this
  exact⟨λ_=>⟨σ',⟨none,none,undef⟩,none,none⟩,qaA _,λ_ h=>(by cases h),λ_ h=>(by cases h),λ_ h=>(by cases h),λ_ _=>rfl,λ_ h=>(by cases h),λ_ h=>(by cases h),λ_ _=>rfl⟩
 |i :: l,σ,σ',hp,hok,⟨σ₁,h1,h2⟩=>by
  obtain⟨o,hi,hc⟩:=hok i (by simp)
  obtain⟨r,rfl,r1,r2,r3,r4,r5,r6⟩:=rec_one hN hi hc h1
  rw[qcz]at hp
  obtain⟨rc,R⟩:=recs_of hN l σ₁ σ' hp.2 (λj hj=>hok j (qas _ hj)) h2
  have hne:∀j∈l,j≠i:=λj hj e=>by have:=hp.1 j hj;omega
  have hat:∀j∈l,(if j=i then r else rc j)=rc j:=λj hj=>if_neg (hne j hj)
  refine⟨λj=>if j=i then r else rc j,qbL r2 R.len,?_,?_,?_,?_,?_,?_,?_⟩
  ·intro j hj o' ho'
   rcases qao.1 hj with rfl|hj
   ·simp only[if_true]
    rw[hi]at ho';cases ho';exact r1
   ·simp only[hat j hj];exact R.ok j hj o' ho'
  ·intro j hj k hk
   rcases qao.1 hj with rfl|hj
   ·simp only[if_true]at hk
    obtain⟨e1,e2⟩:=r3 k hk
    have:=R.len
    omega
   ·simp only[hat j hj]at hk
    have:=R.slot j hj k hk
    omega
  ·intro j hj j' hj' k hk hk'
   rcases qao.1 hj with q1|q1<;>rcases qao.1 hj' with q2|q2
   ·rw[q1,q2]
   ·simp only[q1,if_true]at hk
    simp only[hat j' q2]at hk'
    have e1:=r3 k hk
    have e2:=R.slot j' q2 k hk'
    omega
   ·simp only[q2,if_true]at hk'
    simp only[hat j q1]at hk
    have e1:=r3 k hk'
    have e2:=R.slot j q1 k hk
    omega
   ·simp only[hat j q1]at hk
    simp only[hat j' q2]at hk'
    exact R.inj j q1 j' q2 k hk hk'
  ·intro t ht
   rw[R.keep t λj hj=>ht j (qas _ hj)]
   exact r4 t (ht i (by simp) o hi)
  ·intro j hj t ht
   rcases qao.1 hj with rfl|hj
   ·simp only[if_true]
    have hall:∀j'∈l,∀o',ops[j']? = some o'->o'.dst≠some t:=λj' hj'=>ht j' (qas _ hj') (Nat.le_of_lt (hp.1 j' hj'))
    rw[R.keep t hall]
    exact r4 t (ht j (by simp) (qaA _) o hi)
   ·simp only[hat j hj]
    exact R.args j hj t λj' hj'=>ht j' (qas _ hj')
  ·intro j hj o' d v ho' hd hlt hv
   rcases qao.1 hj with rfl|hj
   ·simp only[if_true]
    rw[hi]at ho';cases ho'
    refine r5 d v hd ?_
    rw[←R.keep d λj' hj'=>hlt j' (qas _ hj') (hp.1 j' hj')]
    exact hv
   ·simp only[hat j hj]
    exact R.res j hj o' d v ho' hd (λj' hj'=>hlt j' (qas _ hj')) hv
  ·intro m hm
   obtain⟨s1,s2⟩:=r6 m (qbL R.len hm)
   refine⟨St.padTo σ₁ m,⟨o,hi,?_,?_⟩,?_⟩
   ·simp only[if_true];exact s1
   ·simp only[if_true];exact s2
   ·refine mq (λj hj τ τ' h=>?_) (R.run m hm)
    obtain⟨o',q1,q2,q3⟩:=h
    exact⟨o',q1,by simp only[hat j hj];exact q2,by simp only[hat j hj];exact q3⟩
end
end Sx
end Go.Am

/-
 REGIONS THAT DRAW THEIR ORDER,cut behind a call: one load that nothing orders with the call tells the same behind it.
-/
namespace Go.Am
namespace Sx
section
variable [Val] {C:Cfg} {B:Below} {N:FuncId->Option Nat} {pts:List Nat} {ops:Array Oper}
theorem sees_refl(o:Oper)(σ:St):Sees N pts ops o σ σ:=by
 refine⟨λ_ _=>rfl,?_⟩
 cases aj N pts o with
 |none=>trivial
 |some m=>cases m<;>first|trivial|rfl
theorem sees_symm{o:Oper}{σ τ:St}(h:Sees N pts ops o σ τ):Sees N pts ops o τ σ:=by
 refine⟨λt ht=>(h.1 t ht).symm,?_⟩
 have h:=h.2
 cases hm:aj N pts o with
 |none=>trivial
 |some m=>rw[hm]at h;cases m<;>first|trivial|exact h.symm
theorem ed{o:Oper}{σ τ ρ:St}(h:Sees N pts ops o σ τ)(h':Sees N pts ops o τ ρ):Sees N pts ops o σ ρ:=by
 refine⟨λt ht=>(h'.1 t ht).trans (h.1 t ht),?_⟩
 have h:=h.2
 have h':=h'.2
 cases hm:aj N pts o with
 |none=>trivial
 |some m=>rw[hm]at h h';cases m<;>first|trivial|exact h'.trans h
structure Loc(C:Cfg)(B:Below)(N:FuncId->Option Nat)(pts:List Nat)(ops:Array Oper)(j:Nat)(b:Oper)(f:Ef)(τ τ':St):Prop where
 is:τ'=f.on b.dst τ
 tc:pH (aj N pts b) f
 st:∀ρ,Sees N pts ops b τ ρ->ah C B pts ops j ρ (f.on b.dst ρ)
def comm1(N:FuncId->Option Nat)(pts:List Nat)(ops:Array Oper)(a b:Oper):Bool:=
 match aj N pts a,aj N pts b with
 |some m,some n=>m.ok2 n&&aV a.dst (aS ops b)&&aV b.dst (aS ops a)&&aX a.dst b.dst
 |_,_=>false
theorem swap_loc{i j:Nat}{a b:Oper}{e f:Ef}(hc:comm1 N pts ops a b=true){τ τ₁ τ':St}(h1:Loc C B N pts ops i a e τ τ₁)(h2:Loc C B N pts ops j b f τ₁ τ') :
  Loc C B N pts ops j b f τ (f.on b.dst τ)/\Loc C B N pts ops i a e (f.on b.dst τ) τ'/\Sees N pts ops b τ₁ τ:=by
 unfold comm1 at hc
 split at hc
 ·rename_i m n hm hn
  simp only[qaa]at hc
  obtain⟨⟨⟨c1,c2⟩,c3⟩,c4⟩:=hc
  have s1:Sees N pts ops b τ₁ τ:=by
   rw[h1.is]
   exact sees_symm (rR hm hn (.inl c1) c2 h1.tc τ)
  have s2:Sees N pts ops a τ (f.on b.dst τ):=rR hn hm (.inr c1) c3 h2.tc τ
  refine⟨⟨rfl,h2.tc,λρ hρ=>h2.st ρ (ed s1 hρ)⟩,⟨?_,h1.tc,λρ hρ=>h1.st ρ (ed s2 hρ)⟩,s1⟩
  rw[h2.is,h1.is]
  exact on_comm hm hn c1 c4 h1.tc h2.tc τ
 ·cases hc
def reOk(N:FuncId->Option Nat)(pts:List Nat)(ops:Array Oper)(a b:Oper):Bool:=
 (match aj N pts a with
 |some .hr=>true
 |_=>false)&&((match aj N pts b with
 |some .hw=>true
 |_=>false)&&(aV a.dst (aS ops b)&&(aV b.dst (aS ops a)&&(aV a.dst (aS ops a)&&aX a.dst b.dst))))
theorem pN{o:Oper}(hm:aj N pts o=some .hr){e:Ef}(ht:pH (aj N pts o) e):e.rw=none/\e.hp=none:=by
 rw[hm]at ht
 constructor
 ·cases h:e.rw with
  |none=>rfl
  |some p=>have:=ht.1 p h;cases this
 ·cases h:e.hp with
  |none=>rfl
  |some p=>have:=ht.2 (by rw[h];simp);cases this
theorem on_get{e:Ef}{d:Option Tmp}{σ:St}{t:Nat}(h:∀x,d=some x->x≠t):(e.on d σ).tmps[t]? = σ.tmps[t]?:=by
 unfold Ef.on
 exact im h
theorem fP{d:Option Tmp}{l:List Nat}(h:aV d l=true){t:Nat}(ht:t∈l):∀x,d=some x->x≠t:=by
 intro x hx e
 subst e
 rw[hx]at h
 simp only[aV,qbx,qbM,decide_eq_false_iff_not]at h
 exact h ht
theorem swap_re{k i:Nat}{a b:Oper}{e f:Ef}(hc:reOk N pts ops a b=true){τ τ₁ τ':St}(h1:Loc C B N pts ops k a e τ τ₁)(h2:Loc C B N pts ops i b f τ₁ τ')(h3:∀ρ,Sees N pts ops a τ' ρ->ah C B pts ops k ρ (e.on a.dst ρ)) :
  Loc C B N pts ops i b f τ (f.on b.dst τ)/\Loc C B N pts ops k a e (f.on b.dst τ) τ'/\Sees N pts ops a τ' (f.on b.dst τ):=by
 unfold reOk at hc
 simp only[qaa]at hc
 obtain⟨c1,c2,c3,c4,c5,c6⟩:=hc
 have hm:aj N pts a=some .hr:=by
  split at c1
  ·assumption
  ·cases c1
 have hn:aj N pts b=some .hw:=by
  split at c2
  ·assumption
  ·cases c2
 obtain⟨e1,e2⟩:=pN hm h1.tc
 have heap:∀σ:St,(e.on a.dst σ).heap=σ.heap:=λσ=>by rw[fV,e2];rfl
 have s1:Sees N pts ops b τ₁ τ:=by
  refine⟨λt ht=>?_,?_⟩
  ·rw[h1.is];exact(on_get (fP c3 ht)).symm
  ·rw[hn];show τ.heap=τ₁.heap;rw[h1.is,heap]
 have hx:τ'=e.on a.dst (f.on b.dst τ):=by
  rw[h2.is,h1.is]
  have g1:(f.on b.dst (e.on a.dst τ)).tmps=(e.on a.dst (f.on b.dst τ)).tmps:=by
   simp only[nz]
   cases hx:a.dst with
   |none=>rfl
   |some x=>
    cases hy:b.dst with
    |none=>rfl
    |some y=>
     rw[hx,hy]at c6
     have:x≠y:=by intro he;subst he;simp[aX]at c6
     exact set_comm _ _ _ this
  have g2:(f.on b.dst (e.on a.dst τ)).loc=(e.on a.dst (f.on b.dst τ)).loc:=by
   simp only[on_loc,e1]
  have g3:(f.on b.dst (e.on a.dst τ)).heap=(e.on a.dst (f.on b.dst τ)).heap:=by
   simp only[fV,e2,Option.getD_none]
  generalize f.on b.dst (e.on a.dst τ)=x at *
  generalize e.on a.dst (f.on b.dst τ)=y at *
  cases x;cases y
  simp only at g1 g2 g3
  subst g1;subst g2;subst g3
  rfl
 have s3:Sees N pts ops a τ' (f.on b.dst τ):=by
  rw[hx]
  refine⟨λt ht=>(on_get (fP c5 ht)).symm,?_⟩
  rw[hm];exact(heap _).symm
 exact⟨⟨rfl,h2.tc,λρ hρ=>h2.st ρ (ed s1 hρ)⟩,⟨hx,h1.tc,λρ hρ=>h3 ρ (ed s3 hρ)⟩,s3⟩
def rowX(q:Nat->Nat->Oper->Oper->Bool)(j:Nat)(b:Oper)(m:Nat):List Oper->Nat->Bool
 | [],_=>true
 |a :: l,n=>(Nat.testBit m n||q n j a b)&&rowX q j b m l (n+1)
def pairX(q:Nat->Nat->Oper->Oper->Bool)(ms:List Nat):List Oper->List Oper->Nat->Bool
 |_,[],_=>true
 |pre,b :: l,i=>rowX q i b (ms.getD i 0) pre 0&&pairX q ms (pre++[b]) l (i+1)
theorem rowX_ok{q:Nat->Nat->Oper->Oper->Bool}{i:Nat}{b:Oper}{m:Nat}:∀ {l:List Oper} {k:Nat},rowX q i b m l k=true->∀(j:Nat) a,l[j]? = some a->m.testBit (k+j)=true∨q (k+j) i a b=true
 | [],k,_,j,a,h=>by simp at h
 |a :: l,k,h,j,c,hj=>by
  simp only[rowX,qaa,qbh]at h
  cases j with
  |zero=>simp at hj;subst hj;exact h.1
  |succ j=>
   have:=rowX_ok h.2 j c (by simpa using hj)
   rwa [show k+1+j=k+(j+1)by omega]at this
theorem rn{q:Nat->Nat->Oper->Oper->Bool}{ms:List Nat}:∀ {l pre:List Oper} {i:Nat},pre.length=i->pairX q ms pre l i=true->∀(j:Nat) b,l[j]? = some b->∀(k:Nat) a,k<i+j->(pre++l)[k]? = some a->(ms.getD (i+j) 0).testBit k=true∨q k (i+j) a b=true
 | [],pre,i,_,_,j,b,h,_,_,_,_=>by simp at h
 |b :: l,pre,i,hp,h,j,c,hj,k,a,hk,ha=>by
  simp only[pairX,qaa]at h
  cases j with
  |zero=>
   simp at hj
   subst hj
   rw[qag (by omega)]at ha
   have:=rowX_ok h.1 k a ha
   simpa using this
  |succ j=>
   have:=rn (pre:=pre++[b]) (i:=i+1) (by simp[hp]) h.2 j c (by simpa using hj) k a (by omega) (by simpa using ha)
   rwa [show i+1+j=i+(j+1)by omega]at this
def allX(q:Nat->Oper->Bool):List Oper->Nat->Bool
 | [],_=>true
 |b :: l,i=>q i b&&allX q l (i+1)
theorem allX_ok{q:Nat->Oper->Bool}:∀ {l:List Oper} {i:Nat},allX q l i=true->∀(j:Nat) b,l[j]? = some b->q (i+j) b=true
 | [],i,_,j,b,h=>by simp at h
 |a :: l,i,h,j,b,hj=>by
  simp only[allX,qaa]at h
  cases j with
  |zero=>simp at hj;subst hj;exact h.1
  |succ j=>
   have:=allX_ok h.2 j b (by simpa using hj)
   rwa [show i+1+j=i+(j+1)by omega]at this
def splQ(N:FuncId->Option Nat)(pts:List Nat)(ops:Array Oper)(k i n j:Nat)(a b:Oper):Bool:=
 match Nat.beq j i,Nat.beq n i with
 |true,_=>Nat.beq n k
 |_,true=>false
 |_,_=>comm1 N pts ops a b
def pC(N:FuncId->Option Nat)(pts:List Nat)(ops:Array Oper)(k i:Nat):Bool:=
 dQ ops.toList 0&&(Nat.blt k i&&(ops.toList.all (λo=>(aj N pts o).isSome)&&(pairX (splQ N pts ops k i) (ancs ops.toList []) [] ops.toList 0 &&
  match ops[k]?,ops[i]? with
  |some a,some b=>reOk N pts ops a b&&(a.dst.isSome&&allX (λj o=>Nat.beq j k||aV o.dst a.dst.toList) ops.toList 0)
  |_,_=>false)))
theorem oT(hN:NeuB N B)(hall:∀(j:Nat) b,ops[j]? = some b->aj N pts b≠none){j:Nat}{b:Oper}(hj:ops[j]? = some b){τ τ':St}(h:ah C B pts ops j τ τ'):∃f,Loc C B N pts ops j b f τ τ':=by
 obtain⟨f,h1,h2,h3⟩:=ep hN hj (hall j b hj) h
 exact⟨f,h1,h2,h3⟩
def splS(C:Cfg)(B:Below)(N:FuncId->Option Nat)(pts:List Nat)(ops:Array Oper)(k i:Nat)(a:Oper)(e:Ef)(j:Nat)(τ τ':St):Prop:=
 ∃b f,ops[j]? = some b/\Loc C B N pts ops j b f τ τ'/\(j=k->f=e)/\(j=i->∀ρ,Sees N pts ops a τ' ρ->ah C B pts ops k ρ (e.on a.dst ρ))
theorem spl_pair{k i:Nat}{a b:Oper}{e:Ef}(ha:ops[k]? = some a)(hb:ops[i]? = some b)(hre:reOk N pts ops a b=true)(hp:pairX (splQ N pts ops k i) (ancs ops.toList []) [] ops.toList 0=true)(j n:Nat)(hj:j<ops.size)(hn:n<j) :
  Anc ops n j∨∀τ τ₁ τ':St,splS C B N pts ops k i a e n τ τ₁->splS C B N pts ops k i a e j τ₁ τ'->∃ρ,splS C B N pts ops k i a e j τ ρ/\splS C B N pts ops k i a e n ρ τ':=by
 have e1:ops[j]? = some ops[j]:=by simp[hj]
 have e2:ops[n]? = some (ops[n]'(by omega)):=by simp[show n<ops.size by omega]
 generalize ops[j]=y at e1
 generalize ops[n]'(by omega)=x at e2
 have hq:=rn (pre:=[]) (i:=0) rfl hp j y (by simpa using e1) n x (by omega) (by simpa using e2)
 rw[qaJ]at hq
 rcases hq with hq|hq
 ·exact .inl (mL ops.toList [] rfl (λi k h=>by simp at h) j n hq)
 right
 rintro τ τ₁ τ' ⟨x',f,h1,h2,h3,h4⟩ ⟨y',g,h5,h6,h7,h8⟩
 rw[e2]at h1;cases h1
 rw[e1]at h5;cases h5
 unfold splQ at hq
 cases hji:Nat.beq j i with
 |true=>
  rw[hji]at hq
  have hji:=qac hji
  have hnk:=qac hq
  subst hji hnk
  rw[ha]at e2;cases e2
  rw[hb]at e1;cases e1
  obtain rfl:=h3 rfl
  obtain⟨w1,w2,w3⟩:=swap_re hre h2 h6 (h8 rfl)
  exact⟨_,⟨_,g,hb,w1,h7,λ_ ρ hρ=>h8 rfl ρ (ed w3 hρ)⟩,_,f,ha,w2,λ_=>rfl,λhh=>absurd hh (by omega)⟩
 |false=>
  rw[hji]at hq
  cases hni:Nat.beq n i with
  |true=>rw[hni]at hq;cases hq
  |false=>
   rw[hni]at hq
   have hq:comm1 N pts ops x y=true:=hq
   have hji:j≠i:=λh=>by subst h;rw[show Nat.beq j j=true from qbY j]at hji;cases hji
   have hni:n≠i:=λh=>by subst h;rw[show Nat.beq n n=true from qbY n]at hni;cases hni
   obtain⟨w1,w2,_⟩:=swap_loc hq h2 h6
   exact⟨_,⟨y,g,e1,w1,h7,λh=>absurd h hji⟩,x,f,e2,w2,h3,λh=>absurd h hni⟩
theorem ops_app{l₁ l₂:List Nat}:∀ {σ σ':St},aL C B pts ops (l₁++l₂) σ σ'->∃σ₁,aL C B pts ops l₁ σ σ₁/\aL C B pts ops l₂ σ₁ σ':=by
 induction l₁ with
 |nil=>intro σ σ' h;exact⟨σ,rfl,h⟩
 |cons x l ih=>
  rintro σ σ' ⟨σ₁,h1,h2⟩
  obtain⟨σ₂,h3,h4⟩:=ih h2
  exact⟨σ₂,⟨σ₁,h1,h3⟩,h4⟩
theorem qk{S:Nat->St->St->Prop}{l₁ l₂:List Nat}:∀ {σ σ₁ σ':St},runR S l₁ σ σ₁->runR S l₂ σ₁ σ'->runR S (l₁++l₂) σ σ':=by
 induction l₁ with
 |nil=>intro σ σ₁ σ' h1 h2;cases h1;exact h2
 |cons x l ih=>
  rintro σ σ₁ σ' ⟨σ₂,h1,h3⟩ h2
  exact⟨σ₂,h1,ih h3 h2⟩
theorem mh{S:Nat->St->St->Prop}(hS:∀i σ σ',S i σ σ'->ah C B pts ops i σ σ'):∀ {l:List Nat} {σ σ':St},runR S l σ σ'->aL C B pts ops l σ σ'
 | [],_,_,h=>h
 |_ :: _,_,_,⟨σ₁,h1,h2⟩=>⟨σ₁,hS _ _ _ h1,mh hS h2⟩
theorem fv{S:Nat->St->St->Prop}:∀ {l:List Nat},(∀i∈l,∀σ σ',ah C B pts ops i σ σ'->S i σ σ')->∀ {σ σ':St},aL C B pts ops l σ σ'->runR S l σ σ'
 | [],_,_,_,h=>h
 |_ :: _,hS,_,_,⟨σ₁,h1,h2⟩=>⟨σ₁,hS _ (by simp) _ _ h1,fv (λi hi=>hS i (qas _ hi)) h2⟩
theorem rl(hN:NeuB N B)(hall:∀(j:Nat) b,ops[j]? = some b->aj N pts b≠none){d:Nat}:∀ {l:List Nat},(∀j∈l,∀b,ops[j]? = some b->∀x,b.dst=some x->x≠d)->∀ {σ σ':St},aL C B pts ops l σ σ'->σ'.tmps[d]? = σ.tmps[d]?
 | [],_,_,_,h=>by cases h;rfl
 |j :: l,hd,σ,σ',⟨σ₁,h1,h2⟩=>by
  rw[rl hN hall (λi hi=>hd i (qas _ hi)) h2]
  cases hj:ops[j]? with
  |none=>
   have:σ₁=σ:=by simpa[ah,hj]using h1
   rw[this]
  |some b=>
   obtain⟨f,h3⟩:=oT hN hall hj h1
   rw[h3.is]
   exact on_get (hd j (by simp) b hj)
theorem any_spl(hN:NeuB N B){k i:Nat}(hreg:pC N pts ops k i=true){σ σ₁ σ₂ σ':St}(h1:aL C B pts ops (List.range' 0 (ops.toList.take (i+1)).length) σ σ₁)(h2:ah C B pts ops k σ₁ σ₂)(hs:SameAt ops k σ₁ σ₂)
  (h3:aL C B pts ops (List.range' (i+1) (ops.toList.drop (i+1)).length) σ₁ σ'):dC C B pts ops σ σ':=by
 unfold pC at hreg
 simp only[qaa]at hreg
 obtain⟨g1,g2,g3,g4,g5⟩:=hreg
 have hki:k<i:=by simpa[qaN]using g2
 have hall:∀(j:Nat) b,ops[j]? = some b->aj N pts b≠none:=by
  intro j b hj he
  have hm:b∈ops.toList:=by have:=qcg hj;simpa using this
  have:=qad.1 g3 b hm
  rw[he]at this;cases this
 split at g5
 case h_2=>cases g5
 rename_i a b ha hb
 simp only[qaa]at g5
 obtain⟨hre,hds,g6⟩:=g5
 obtain⟨d,hd⟩:=qaR.1 hds
 have hi:i<ops.size:=(qav.1 hb).1
 have ht:(ops.toList.take (i+1)).length=i+1:=by simp;omega
 rw[ht]at h1
 have hsp:List.range' 0 (i+1)=List.range' 0 k++(k :: (List.range' (k+1) (i - k - 1)++[i])):=by
  have e1:List.range' 0 (i+1)=List.range' 0 k++List.range' (0+k) (i+1 - k):=by rw[qcm];congr 1;omega
  have e2:List.range' (0+k) (i+1 - k)=k :: List.range' (k+1) (i - k):=by
   rw[show i+1 - k=(i - k)+1 by omega,qcK,qaJ]
  have e3:List.range' (k+1) (i - k)=List.range' (k+1) (i - k - 1)++[i]:=by
   have:List.range' (k+1) (i - k)=List.range' (k+1) (i - k - 1)++List.range' (k+1+(i - k - 1)) 1:=by rw[qcm];congr 1;omega
   rw[this,show k+1+(i - k - 1)=i by omega];rfl
  rw[e1,e2,e3]
 rw[hsp]at h1
 obtain⟨τ0,p1,τ1,p2,p3⟩:=ops_app h1
 obtain⟨τ2,p4,τ3,p5,p6⟩:=ops_app p3
 cases p6
 obtain⟨e,he⟩:=oT hN hall ha p2
 have hm:aj N pts a=some .hr:=by
  have hre:=hre
  unfold reOk at hre
  simp only[qaa]at hre
  have c1:=hre.1
  split at c1
  ·assumption
  ·cases c1
 obtain⟨e1,e2⟩:=pN hm he.tc
 have hother:∀j,j≠k->∀b,ops[j]? = some b->∀x,b.dst=some x->x≠d:=by
  intro j hjk b hj x hx
  have:=allX_ok g6 j b (by simpa using hj)
  rw[qaJ]at this
  cases hjb:Nat.beq j k with
  |true=>exact absurd (qac hjb) hjk
  |false=>
   rw[hjb,qcp,hd]at this
   exact fP this (by simp) x hx
 have hkeep:σ₁.tmps[d]? = τ1.tmps[d]?:=by
  have:aL C B pts ops (List.range' (k+1) (i - k - 1)++[i]) τ1 σ₁:=p3
  refine rl hN hall (λj hj=>hother j ?_) this
  rw[qax,qcf,qat]at hj
  omega
 obtain⟨g,hg⟩:=oT hN hall ha h2
 obtain⟨f1,f2⟩:=pN hm hg.tc
 have hge:g=e:=by
  obtain⟨a',d',x,q1,q2,q3,q4⟩:=hs
  rw[ha]at q1;cases q1
  rw[hd]at q2;cases q2
  rw[hg.is,nz,hd]at q4
  simp only[qaD]at q4
  rw[if_pos trivial,if_pos (qaK.1 q3).1]at q4
  rw[hkeep,he.is,nz,hd]at q3
  simp only[qaD]at q3
  rw[if_pos trivial]at q3
  split at q3
  ·cases g;cases e
   simp only at *
   cases q3;cases q4
   simp_all
  ·cases q3
 subst hge
 have hrest:∀j,j≠k->j≠i->j<ops.size->∀τ τ',ah C B pts ops j τ τ'->splS C B N pts ops k i a g j τ τ':=by
  intro j hk hji hj τ τ' h
  have hj':ops[j]? = some ops[j]:=by simp[hj]
  obtain⟨f,hf⟩:=oT hN hall hj' h
  exact⟨_,f,hj',hf,λh=>absurd h hk,λh=>absurd h hji⟩
 have hrun:runR (splS C B N pts ops k i a g) (List.range ops.size) σ σ':=by
  have e0:List.range ops.size=List.range' 0 (i+1)++List.range' (i+1) (ops.toList.drop (i+1)).length:=by
   have:(ops.toList.drop (i+1)).length=ops.size - (i+1):=by simp
   rw[this,qbO]
   have:=qcm (s:=0) (m:=i+1) (n:=ops.size - (i+1))
   rw[qaJ]at this
   rw[this];congr 1;omega
  rw[e0,hsp]
  refine qk (qk (σ₁:=τ0) (fv (λj hj=>?_) p1) ⟨τ1,⟨a,g,ha,he,λ_=>rfl,λh=>absurd h (by omega)⟩,qk (σ₁:=τ2) (fv (λj hj=>?_) p4) ⟨σ₁,?_,rfl⟩⟩) (fv (λj hj=>?_) h3)
  ·rw[qcf]at hj
   exact hrest j (by omega) (by omega) (by omega)
  ·rw[qcf]at hj
   exact hrest j (by omega) (by omega) (by omega)
  ·obtain⟨f,hf⟩:=oT hN hall hb p5
   exact⟨b,f,hb,hf,λh=>absurd h (by omega),λ_=>hg.st⟩
  ·rw[qcf]at hj
   have:(ops.toList.drop (i+1)).length=ops.size - (i+1):=by simp
   exact hrest j (by omega) (by omega) (by omega)
 have hback:∀(i:Nat) o,ops[i]? = some o->∀e∈o.after.toList,Region.binds .any e=true->e.on<i:=by
  intro i o ho e he hb
  have:=dE g1 i o (by simpa using ho) e he hb
  omega
 have hz:unl ops.size (Array.replicate ops.size false)=List.range ops.size:=by
  unfold unl
  rw[qct]
  intro i hi
  rw[qaB]at hi
  rw[qal,qbs,if_pos hi]
  rfl
 refine .inl λt=>?_
 obtain⟨r1,_,_⟩:=go_okR (S:=splS C B N pts ops k i a g) hback (λj n hj hn=>spl_pair ha hb hre g4 j n hj hn) ops.size t (Array.replicate ops.size false) (by simp) (by rw[hz];simp) (λx o hx ho=>by
  have hlt:x<ops.size:=(qav.1 ho).1
  rw[qal,qbs,if_pos hlt]at hx
  cases hx) σ σ' (by rw[hz];exact hrun)
 refine mh (λj τ τ' hS=>?_) r1
 obtain⟨b',f,q1,q2,_,_⟩:=hS
 rw[q2.is]
 exact q2.st τ (sees_refl b' τ)
end
end Sx
end Go.Am

/-
 REGIONS THAT DRAW THEIR ORDER,where several operations make blocks: whatever the order,if the values tell the blocks apart.
-/
namespace Go.Am
namespace Sx
section
variable [Val] {C:Cfg} {B:Below} {N:FuncId->Option Nat} {pts:List Nat} {ops:Array Oper}
def rF(q:Oper->Oper->Bool)(b:Oper)(m:Nat):List Oper->Nat->Bool
 | [],_=>true
 |a :: l,k=>(Nat.testBit m k||q a b)&&rF q b m l (k+1)
def nB(q:Oper->Oper->Bool)(ms:List Nat):List Oper->List Oper->Nat->Bool
 |_,[],_=>true
 |pre,b :: l,i=>rF q b (ms.getD i 0) pre 0&&nB q ms (pre++[b]) l (i+1)
theorem pt{q:Oper->Oper->Bool}{b:Oper}{m:Nat}:∀ {l:List Oper} {k:Nat},rF q b m l k=true->∀(j:Nat) a,l[j]? = some a->m.testBit (k+j)=true∨q a b=true
 | [],k,_,j,a,h=>by simp at h
 |a :: l,k,h,j,c,hj=>by
  simp only[rF,qaa,qbh]at h
  cases j with
  |zero=>simp at hj;subst hj;exact h.1
  |succ j=>
   have:=pt h.2 j c (by simpa using hj)
   rwa [show k+1+j=k+(j+1)by omega]at this
theorem mi{q:Oper->Oper->Bool}{ms:List Nat}:∀ {l pre:List Oper} {i:Nat},pre.length=i->nB q ms pre l i=true->∀(j:Nat) b,l[j]? = some b->∀(k:Nat) a,k<i+j->(pre++l)[k]? = some a->(ms.getD (i+j) 0).testBit k=true∨q a b=true
 | [],pre,i,_,_,j,b,h,_,_,_,_=>by simp at h
 |b :: l,pre,i,hp,h,j,c,hj,k,a,hk,ha=>by
  simp only[nB,qaa]at h
  cases j with
  |zero=>
   simp at hj
   subst hj
   rw[qag (by omega)]at ha
   have:=pt h.1 k a ha
   simpa using this
  |succ j=>
   have:=mi (pre:=pre++[b]) (i:=i+1) (by simp[hp]) h.2 j c (by simpa using hj) k a (by omega) (by simpa using ha)
   rwa [show i+1+j=i+(j+1)by omega]at this
theorem ow{b:Oper}{m i:Nat}:∀ {l:List Oper} {k:Nat} (j:Nat) a,l[j]? = some a->m.testBit (k+j)=false->conf pts a b=true->(k+j,i)∈ov pts b m i l k
 | [],k,j,a,h,_,_=>by simp at h
 |a :: l,k,j,c,hj,hb,hc=>by
  unfold ov
  cases j with
  |zero=>
   simp at hj
   subst hj
   simp only[qcB]at hb ⊢
   rw[hb,hc]
   simp
  |succ j=>
   have:=ow (i:=i) (k:=k+1) j c (by simpa using hj) (by rwa [show k+1+j=k+(j+1)by omega]) hc
   rw[show k+1+j=k+(j+1)by omega]at this
   split
   ·exact this
   ·exact qas _ this
theorem ou{ms:List Nat}:∀ {l pre:List Oper} {i:Nat},pre.length=i->∀(j:Nat) b,l[j]? = some b->∀(k:Nat) a,k<i+j->(pre++l)[k]? = some a->(ms.getD (i+j) 0).testBit k=false->conf pts a b=true->(k,i+j)∈qH pts ms pre l i
 | [],pre,i,_,j,b,h,_,_,_,_,_,_=>by simp at h
 |b :: l,pre,i,hp,j,c,hj,k,a,hk,ha,ht,hc=>by
  unfold qH
  rw[qax]
  cases j with
  |zero=>
   simp at hj
   subst hj
   rw[qag (by omega)]at ha
   have:=ow (pts:=pts) (i:=i) (k:=0) k a ha (by simpa using ht) hc
   left
   simpa using this
  |succ j=>
   right
   have:=ou (pre:=pre++[b]) (i:=i+1) (by simp[hp]) j c (by simpa using hj) k a (by omega) (by simpa using ha) (by rwa [show i+1+j=i+(j+1)by omega]) hc
   rwa [show i+1+j=i+(j+1)by omega]at this
def opT(pts:List Nat)(o:Oper):List Nat:=((bV pts o).1++db pts o).filterMap λx=>match x with
 | .tmp t=>some t
 |_=>none
def ssaB(pts:List Nat):List Oper->List Oper->Bool
 |_,[]=>true
 |pre,b :: l=>aV b.dst (opT pts b)&&(pre.all λa=>aV b.dst (opT pts a)&&aX a.dst b.dst)&&ssaB pts (pre++[b]) l
theorem qt:∀ {l pre:List Oper},ssaB pts pre l=true->∀(j:Nat) b,l[j]? = some b->∀(k:Nat) a,(pre++l)[k]? = some a->(k<=pre.length+j->aV b.dst (opT pts a)=true)/\(k<pre.length+j->aX a.dst b.dst=true)
 | [],pre,_,j,b,h,_,_,_=>by simp at h
 |b :: l,pre,h,j,c,hj,k,a,ha=>by
  simp only[ssaB,qaa,qad]at h
  obtain⟨⟨h1,h2⟩,h3⟩:=h
  cases j with
  |zero=>
   simp at hj
   subst hj
   refine⟨λhk=>?_,λhk=>?_⟩
   ·rcases qaz k pre.length with hlt|hge
    ·rw[qag hlt]at ha
     exact(h2 a (qar ha)).1
    ·obtain rfl:k=pre.length:=by omega
     rw[qak (qaA _),qbA]at ha
     simp at ha
     subst ha
     exact h1
   ·rw[qag (by omega)]at ha
    exact(h2 a (qar ha)).2
  |succ j=>
   have:=qt h3 j c (by simpa using hj) k a (by simpa using ha)
   simp only[qaw,qaW,qbn]at this
   exact⟨λhk=>this.1 (by omega),λhk=>this.2 (by omega)⟩
def sepReg(N:FuncId->Option Nat)(pts:List Nat)(ops:Array Oper):Bool:=
 dQ ops.toList 0&&(ops.toList.all (okS N pts)&&(ops.toList.any (cd pts)&&(ops.toList.all (λo=>!cd pts o||o.dst.isSome)&&(ssaB pts [] ops.toList&&nB (λa b=>stat2 N pts ops a b && !dR a b) (ancs ops.toList []) [] ops.toList 0))))
def splK(N:FuncId->Option Nat)(pts:List Nat)(ops:Array Oper)(i:Nat):Nat->Option Nat
 |0=>none
 |k+1=>match ops[k]?,ops[i]? with
  |some a,some b=>match reOk N pts ops a b&&pC N pts ops k i with
   |true=>some k
   |false=>splK N pts ops i k
  |_,_=>none
def splI(N:FuncId->Option Nat)(pts:List Nat)(ops:Array Oper):Nat->Option (List (Nat×Nat))
 |0=>none
 |i+1=>match splK N pts ops i i with
  |some k=>some [(k+1000,i)]
  |none=>splI N pts ops i
def drOf(N:FuncId->Option Nat):Dr:=λpts ops=>match qI pts ops with
 | []=>match pq N pts ops with
  |true=>some []
  |false=>splI N pts ops ops.size
 |p :: ps=>match splOf (p :: ps),sepReg N pts ops with
  |none,true=>some (p :: ps)
  |_,_=>none
theorem splK_ok{i:Nat}:∀ {n k:Nat},splK N pts ops i n=some k->pC N pts ops k i=true
 |0,k,h=>by cases h
 |n+1,k,h=>by
  unfold splK at h
  split at h
  ·split at h
   ·rename_i hq
    cases h
    simp only[qaa]at hq
    exact hq.2
   ·exact splK_ok h
  ·cases h
theorem splI_ok:∀ {n:Nat} {ps:List (Nat×Nat)},splI N pts ops n=some ps->∃k i,ps=[(k+1000,i)]/\pC N pts ops k i=true
 |0,ps,h=>by cases h
 |n+1,ps,h=>by
  unfold splI at h
  split at h
  ·rename_i k hk
   cases h
   exact⟨k,n,rfl,splK_ok hk⟩
  ·exact splI_ok h
theorem hcls0{o:Oper}(h:hCls pts o=0):(bV pts o).1=[]/\db pts o=[]/\cd pts o=false:=by
 obtain⟨dst,op,ty,pos,after,guard⟩:=o
 cases op<;>simp only[hCls]at h<;>first|(exact⟨rfl,rfl,rfl⟩)|(exact absurd h (by decide))|skip
 case alloc t=>cases hn:cd pts ⟨dst,.alloc t,ty,pos,after,guard⟩with
  |true=>rw[hn]at h;cases h
  |false=>exact⟨rfl,rfl,rfl⟩
 case box t x=>cases hn:cd pts ⟨dst,.box t x,ty,pos,after,guard⟩with
  |true=>rw[hn]at h;cases h
  |false=>exact⟨rfl,rfl,rfl⟩
 case load t a=>
  split at h
  ·cases h
  ·rename_i hk
   refine⟨?_,rfl,rfl⟩
   simp only[bV]
 case store t a x=>
  split at h
  ·cases h
  ·rename_i hk
   refine⟨?_,?_,rfl⟩
   ·simp only[bV]
   ·simp only[db]
 case call c=>
  cases hc:c.callee with
  |builtin b=>
   rw[hc]at h
   simp only[bV,db,cd,hc]
   cases b<;>first|(exact⟨rfl,rfl,rfl⟩)|(exact absurd h (by simp))
  |value f=>simp only[bV,db,cd,hc];exact⟨trivial,trivial,trivial⟩
  |invoke r m=>simp only[bV,db,cd,hc];exact⟨trivial,trivial,trivial⟩
theorem hcls1{o:Oper}(h:hCls pts o=1):db pts o=[]/\cd pts o=false:=by
 obtain⟨dst,op,ty,pos,after,guard⟩:=o
 cases op<;>simp only[hCls]at h<;>first|(exact⟨rfl,rfl⟩)|(exact absurd h (by decide))|skip
 case alloc t=>cases hn:cd pts ⟨dst,.alloc t,ty,pos,after,guard⟩with
  |true=>rw[hn]at h;cases h
  |false=>exact⟨rfl,rfl⟩
 case box t x=>cases hn:cd pts ⟨dst,.box t x,ty,pos,after,guard⟩with
  |true=>rw[hn]at h;cases h
  |false=>exact⟨rfl,rfl⟩
 case store t a x=>split at h<;>cases h
 case call c=>
  cases hc:c.callee with
  |builtin b=>
   rw[hc]at h
   simp only[db,cd,hc]
   cases b<;>first|(exact⟨rfl,rfl⟩)|(exact absurd h (by simp))
  |value f=>simp only[db,cd,hc];exact⟨trivial,trivial⟩
  |invoke r m=>simp only[db,cd,hc];exact⟨trivial,trivial⟩
theorem ng(o:Oper):hCls pts o=0∨hCls pts o=1∨hCls pts o=2:=by
 obtain⟨dst,op,ty,pos,after,guard⟩:=o
 cases op<;>simp only[hCls]<;>first|(exact .inl trivial)|(exact .inr (.inl trivial))|(exact .inr (.inr trivial))|skip
 case alloc t=>split<;>simp
 case box t x=>split<;>simp
 case load t a=>split<;>simp
 case store t a x=>split<;>simp
 case call c=>split<;>first|(split<;>simp)|simp
end
end Sx
end Go.Am

/-
 REGIONS THAT DRAW THEIR ORDER: whatever the order.
-/
namespace Go.Am
namespace Sx
section
variable [Val] {C:Cfg} {B:Below} {N:FuncId->Option Nat} {pts:List Nat} {ops:Array Oper}
theorem fresh_adr{mk:Nat->Value}(h:Fresh mk)(k:Nat):adr (mk k)=[k]:=by
 cases h<;>simp[adr,tag]
theorem rK{S:Nat->St->St->Prop}{sl:Nat->Option Nat}(hS:∀i σ σ',S i σ σ'->cJ C B pts ops sl i σ σ'):∀ {l:List Nat},l.Nodup->∀ {σ σ':St},runR S l σ σ'->fy C B pts ops sl l σ σ'
 | [],_,_,_,h=>h
 |i :: l,hn,σ,σ',⟨σ₁,h1,h2⟩=>by
  rw[qcc]at hn
  exact⟨hn.1,σ₁,hS i _ _ h1,rK hS hn.2 h2⟩
theorem opT_mem{o:Oper}{t:Nat}(h:Operand.tmp t∈(bV pts o).1++db pts o):t∈opT pts o:=by
 unfold opT
 exact qbm.2 ⟨.tmp t,h,rfl⟩
theorem any_okS [Kno](hN:NeuB N B)(hreg:sepReg N pts ops=true){σ σ':St}(h:aL C B pts ops (List.range ops.size) σ σ')(hsep:SepAt pts ops σ'.tmps (qI pts ops)):dC C B pts ops σ σ':=by
 simp only[sepReg,qaa]at hreg
 obtain⟨g1,g2,g3,g4,g5,g6⟩:=hreg
 have hok:∀i∈List.range ops.size,∃o,ops[i]? = some o/\okS N pts o=true:=by
  intro i hi
  rw[qaB]at hi
  exact⟨ops[i],by simp[hi],qad.1 g2 _ (by simp)⟩
 obtain⟨rc,R⟩:=recs_of hN (List.range ops.size) σ σ' qbV hok h
 have hsz:∀ {i:Nat} {o:Oper},ops[i]? = some o->i<ops.size:=λhi=>(qav.1 hi).1
 have hrg:∀ {i:Nat} {o:Oper},ops[i]? = some o->i∈List.range ops.size:=λhi=>qaB.2 (hsz hi)
 have hl:∀ {i:Nat} {o:Oper},ops[i]? = some o->ops.toList[i]? = some o:=λhi=>by simpa using hi
 have hop:∀ {i:Nat} {o:Oper},ops[i]? = some o->∀x∈(bV pts o).1++db pts o,oval σ'.tmps x=oval (rc i).σ.tmps x:=by
  intro i o hi x hx
  refine ii λt ht=>?_
  subst ht
  refine R.args i (hrg hi) t λj hj hij o' ho' hd=>?_
  have:=(qt g5 j o' (hl ho') i o (by simpa using hi)).1 (by simpa using hij)
  exact lI this t (opT_mem hx) t hd rfl
 have hF:∀ {i:Nat} {o:Oper},ops[i]? = some o->∀r∈fpo pts (oval (rc i).σ.tmps) o,r∈fAt pts σ'.tmps o:=by
  intro i o hi r hr
  unfold fpo at hr
  unfold fAt
  obtain⟨x,hx,hr⟩:=qb9.1 hr
  exact qb9.2 ⟨x,hx,by rw[hop hi x (qaH _ hx)];exact hr⟩
 have hW:∀ {i:Nat} {o:Oper},ops[i]? = some o->dstIn pts σ'.tmps o->∀p∈(rc i).ws,p.1∈wAt pts σ'.tmps o:=by
  intro i o hi hdi p hp
  have K:=R.ok i (hrg hi) o hi
  unfold Rec.ws at hp
  unfold wAt
  rw[qb9]
  rcases qax.1 hp with hp|hp
  ·have:=K.wr p (by simpa using hp)
   unfold wpo at this
   obtain⟨x,hx,hr⟩:=qb9.1 this
   exact⟨x,qaH _ hx,by rw[hop hi x (qaU _ hx)];exact hr⟩
  ·unfold Rec.slot at hp
   split at hp
   ·rename_i k q hk hq
    have hp:p=(k,q.1):=by simpa using hp
    subst hp
    obtain⟨f1,f2,f3⟩:=K.fr q hq
    have hc2:hCls pts o=2:=by
     rcases ng (pts:=pts) o with h0|h0|h0
     ·rw[(hcls0 h0).2.2]at f3;cases f3
     ·rw[(hcls1 h0).2]at f3;cases f3
     ·exact h0
    have hds:o.dst.isSome=true:=by
     have:=qad.1 g4 o (qar (hl hi))
     rw[f3]at this
     simpa using this
    obtain⟨d,hd⟩:=qaR.1 hds
    obtain⟨v,hv⟩:=hdi d hd hc2
    have hval:=R.res i (hrg hi) o d v hi hd (λj hj hij o' ho' hd'=>by
     have:=(qt g5 j o' (hl ho') i o (by simpa using hi)).2 (by simpa using hij)
     rw[hd,hd']at this
     simp[aX]at this) hv
    refine⟨.tmp d,nS hd hc2,?_⟩
    have ho:oval σ'.tmps (.tmp d)=v:=by simp[oval,List.getD_eq_getElem?_getD,hv]
    rw[ho,hval]
    unfold Rec.val HEff.val
    rw[hk]
    simp only[hq]
    rw[fresh_adr f1]
    exact qat.2 rfl
   ·cases hp
 have hno:∀ {i:Nat} {o:Oper},ops[i]? = some o->hCls pts o≠2->(rc i).ws=[]:=by
  intro i o hi hc
  have K:=R.ok i (hrg hi) o hi
  have hw:db pts o=[]/\cd pts o=false:=by
   rcases ng (pts:=pts) o with h0|h0|h0
   ·exact(hcls0 h0).2
   ·exact hcls1 h0
   ·exact absurd h0 hc
  have e1:(rc i).e.set=none:=by
   cases hs:(rc i).e.set with
   |none=>rfl
   |some p=>
    have:=K.wr p hs
    unfold wpo at this
    rw[hw.1]at this
    cases this
  have e2:(rc i).e.push=none:=by
   cases hs:(rc i).e.push with
   |none=>rfl
   |some p=>have:=(K.fr p hs).2.2;rw[hw.2]at this;cases this
  unfold Rec.ws Rec.slot
  rw[e1,e2]
  cases (rc i).k<;>rfl
 have hno2:∀ {i:Nat} {o:Oper},hCls pts o=0->fpo pts (oval (rc i).σ.tmps) o=[]:=by
  intro i o hc
  unfold fpo
  rw[(hcls0 hc).1]
  rfl
 refine .inr ⟨λi=>if i<ops.size then(rc i).k else none,σ'.heap.length - σ.heap.length,g3,?_,?_,λt=>?_⟩
 ·intro i k hk
  simp only at hk
  split at hk
  ·rename_i hi
   have:=R.slot i (qaB.2 hi) k hk
   omega
  ·cases hk
 ·intro i j k hk hk'
  simp only at hk hk'
  split at hk
  ·rename_i hi
   split at hk'
   ·rename_i hj
    exact R.inj i (qaB.2 hi) j (qaB.2 hj) k hk hk'
   ·cases hk'
  ·cases hk
 have hback:∀(i:Nat) o,ops[i]? = some o->∀e∈o.after.toList,Region.binds .any e=true->e.on<i:=by
  intro i o ho e he hb
  have:=dE g1 i o (by simpa using ho) e he hb
  omega
 have hpair:∀i k:Nat,i<ops.size->k<i->Anc ops k i∨∀τ τ₁ τ':St,recS N pts ops rc k τ τ₁->recS N pts ops rc i τ₁ τ'->∃ρ,recS N pts ops rc i τ ρ/\recS N pts ops rc k ρ τ':=by
  intro i k hi hki
  have hb:ops[i]? = some ops[i]:=by simp[hi]
  have ha:ops[k]? = some (ops[k]'(by omega)):=by simp[show k<ops.size by omega]
  generalize ops[i]=b at hb
  generalize ops[k]'(by omega)=a at ha
  have hq:=mi (pre:=[]) (i:=0) rfl g6 i b (by simpa using hb) k a (by omega) (by simpa using ha)
  rw[qaJ]at hq
  cases htb:(List.getD (ancs ops.toList []) i 0).testBit k with
  |true=>exact .inl (mL ops.toList [] rfl (λi k h=>by simp at h) i k htb)
  |false=>
   right
   rw[htb]at hq
   have hq:=hq.resolve_left (by simp)
   simp only[qaa]at hq
   obtain⟨q1,q2⟩:=hq
   have d:(∀p∈(rc k).ws,p.1∉fpo pts (oval (rc i).σ.tmps) b)/\(∀p∈(rc i).ws,p.1∉fpo pts (oval (rc k).σ.tmps) a)/\(∀p∈(rc k).ws,∀q∈(rc i).ws,p.1≠q.1):=by
    cases hcf:conf pts a b with
    |true=>
     have hm:=ou (pts:=pts) (ms:=ancs ops.toList []) (l:=ops.toList) (pre:=[]) (i:=0) rfl i b (by simpa using hb) k a (by omega) (by simpa using ha) (by rw[qaJ];exact htb) hcf
     rw[qaJ]at hm
     obtain⟨a',b',r1,r2,s1,s2,s3,s4,s5⟩:=hsep (k,i) hm
     have r1:ops[k]? = some a':=r1
     have r2:ops[i]? = some b':=r2
     rw[ha]at r1;rw[hb]at r2
     cases r1;cases r2
     exact⟨λp hp hf=>s1 _ (hW ha s4 p hp) (hF hb _ hf),λp hp hf=>s3 _ (hW hb s5 p hp) (hF ha _ hf),λp hp q hq e=>s2 _ (hW ha s4 p hp) (e▸hW hb s5 q hq)⟩
    |false=>
     have hcf:Nat.ble 3 (hCls pts a+hCls pts b)=false:=by
      unfold conf at hcf
      cases he:dR a b with
      |true=>rw[he]at q2;cases q2
      |false=>rw[he]at hcf;simpa using hcf
     have hlt:¬3<=hCls pts a+hCls pts b:=λh=>by rw[qbz h]at hcf;cases hcf
     rcases ng (pts:=pts) a with e1|e1|e1<;>rcases ng (pts:=pts) b with e2|e2|e2
     ·rw[hno ha (by omega),hno hb (by omega)];exact⟨λ_ h=>(by cases h),λ_ h=>(by cases h),λ_ h=>(by cases h)⟩
     ·rw[hno ha (by omega),hno hb (by omega)];exact⟨λ_ h=>(by cases h),λ_ h=>(by cases h),λ_ h=>(by cases h)⟩
     ·rw[hno ha (by omega),hno2 e1];exact⟨λ_ h=>(by cases h),λ_ _ h=>(by cases h),λ_ h=>(by cases h)⟩
     ·rw[hno ha (by omega),hno hb (by omega)];exact⟨λ_ h=>(by cases h),λ_ h=>(by cases h),λ_ h=>(by cases h)⟩
     ·rw[hno ha (by omega),hno hb (by omega)];exact⟨λ_ h=>(by cases h),λ_ h=>(by cases h),λ_ h=>(by cases h)⟩
     ·omega
     ·rw[hno hb (by omega),hno2 e2];exact⟨λ_ _ h=>(by cases h),λ_ h=>(by cases h),λ_ _ _ h=>(by cases h)⟩
     ·omega
     ·omega
   rintro τ τ₁ τ' ⟨a1,h1,h2,rfl⟩ ⟨b1,h3,h4,rfl⟩
   rw[ha]at h1;rw[hb]at h3
   cases h1;cases h3
   obtain⟨w1,w2,w3⟩:=swapR (R.ok k (hrg ha) a ha) (R.ok i (hrg hb) b hb) q1 d.1 d.2.1 d.2.2 h2 h4
   exact⟨_,⟨b,hb,w1,rfl⟩,⟨a,ha,w2,w3⟩⟩
 have hz:unl ops.size (Array.replicate ops.size false)=List.range ops.size:=by
  unfold unl
  rw[qct]
  intro i hi
  rw[qaB]at hi
  rw[qal,qbs,if_pos hi]
  rfl
 have hrun:=R.run σ'.heap.length (qaA _)
 have hend:St.padTo σ' σ'.heap.length=σ':=by
  unfold St.padTo St.pad
  rw[qbA]
  simp
 rw[hend]at hrun
 obtain⟨r1,r2,_⟩:=go_okR (S:=recS N pts ops rc) hback hpair ops.size t (Array.replicate ops.size false) (by simp) (by rw[hz];simp) (λx o hx ho=>by
  have hlt:x<ops.size:=hsz ho
  rw[qal,qbs,if_pos hlt]at hx
  cases hx) _ _ (by rw[hz];exact hrun)
 refine rK (λi τ τ' hS=>?_) r2 r1
 obtain⟨o,h1,h2,rfl⟩:=hS
 exact(R.ok i (hrg h1) o h1).step τ h2 _ (by simp only[hsz h1,if_true])
theorem splOf_one(k i:Nat):splOf [(k+1000,i)]=some (k,i):=by
 have hb:Nat.ble 1000 (k+1000)=true:=qbz (Nat.le_add_left 1000 k)
 generalize hm:k+1000=m at *
 have hk:m - 1000=k:=by omega
 unfold splOf
 simp only[hb,hk]
theorem drOf_ok [Kno]{C:Cfg}(hN:∀f n,N f=some n->neuF N C f n=true)(hk:∀f args H r H',Kno.kh f args H r H'->N f=none∨(N f=some (2*args.length+1)/\H'=H)):DrOk C (drOf N):=by
 intro pts ops ps h
 unfold drOf at h
 split at h
 ·split at h
  ·rename_i hr
   cases h
   exact λn σ σ' hx hs=>dr_ok hN hk pts ops hr n σ σ' hx
  ·obtain⟨k,i,hps,hr⟩:=splI_ok h
   have e:splOf ps=some (k,i):=hps▸splOf_one k i
   rw[e]
   exact λn σ σ₁ σ₂ σ' h1 h2 h3 h4=>any_spl (rh hN hk n).1.1 hr h1 h2 h3 h4
 ·rename_i p qs he
  split at h
  ·rename_i hn hr
   cases h
   rw[hn]
   exact λn σ σ' hx hs=>any_okS (rh hN hk n).1.1 hr hx (by rw[he];exact hs)
  ·cases h
end
end Sx
end Go.Am

/-
 THE FUNCTIONS OF THE PROGRAM ARE WHAT IS TOLD OF THEM,BY PROGRAM.
-/
set_option maxRecDepth 100000
namespace Go.Am
open Sx Go.Proofs
def neuT:List (Nat×Nat):=[(9,0),(52,2),(54,4),(78,2),(80,2),(86,6),(87,2),(88,2),(89,4),(44,7)]
def lookN(l:List (Nat×Nat))(f:Nat):Option Nat:=match l with
 | []=>none
 |p :: l=>match Nat.beq p.1 f with
  |true=>some p.2
  |false=>lookN l f
def neuN(f:FuncId):Option Nat:=lookN neuT f
theorem oU{f n:Nat}:∀ {l:List (Nat×Nat)},lookN l f=some n->(f,n)∈l
 |p :: l,h=>by
  unfold lookN at h
  split at h
  ·rename_i e
   cases h
   have:=qac e
   subst this
   exact qaM
  ·exact qas _ (oU h)
theorem neuT_ok:(neuT.all λp=>neuF neuN cc p.1 p.2)=true:=by kernel_rfl
theorem neuN_ok(f n:Nat)(h:neuN f=some n):neuF neuN cc f n=true:=qad.1 neuT_ok (f,n) (oU h)
def drN:Dr:=drOf neuN
def n3:Fn1:=fn1 cc.P 3 ((ab 3).getD ⟨[],[]⟩) an3
def n4:Fn1:=fn1 cc.P 4 ((ab 4).getD ⟨[],[]⟩) an4
def n5:Fn1:=fn1 cc.P 5 ((ab 5).getD ⟨[],[]⟩) an5
def n6:Fn1:=fn1 cc.P 6 ((ab 6).getD ⟨[],[]⟩) an6
def n7:Fn1:=fn1 cc.P 7 ((ab 7).getD ⟨[],[]⟩) an7
def n8:Fn1:=fn1 cc.P 8 ((ab 8).getD ⟨[],[]⟩) an8
def n9:Fn1:=fn1 cc.P 9 ((ab 9).getD ⟨[],[]⟩) an9
def n10:Fn1:=fn1 cc.P 10 ((ab 10).getD ⟨[],[]⟩) an10
def n11:Fn1:=fn1 cc.P 11 ((ab 11).getD ⟨[],[]⟩) an11
def n12:Fn1:=fn1 cc.P 12 ((ab 12).getD ⟨[],[]⟩) an12
def n13:Fn1:=fn1 cc.P 13 ((ab 13).getD ⟨[],[]⟩) an13
def n14:Fn1:=fn1 cc.P 14 ((ab 14).getD ⟨[],[]⟩) an14
def n15:Fn1:=fn1 cc.P 15 ((ab 15).getD ⟨[],[]⟩) an15
def n16:Fn1:=fn1 cc.P 16 ((ab 16).getD ⟨[],[]⟩) an16
def n17:Fn1:=fn1 cc.P 17 ((ab 17).getD ⟨[],[]⟩) an17
def n18:Fn1:=fn1 cc.P 18 ((ab 18).getD ⟨[],[]⟩) an18
def n19:Fn1:=fn1 cc.P 19 ((ab 19).getD ⟨[],[]⟩) an19
def n20:Fn1:=fn1 cc.P 20 ((ab 20).getD ⟨[],[]⟩) an20
def n21:Fn1:=fn1 cc.P 21 ((ab 21).getD ⟨[],[]⟩) an21
def n22:Fn1:=fn1 cc.P 22 ((ab 22).getD ⟨[],[]⟩) an22
def n23:Fn1:=fn1 cc.P 23 ((ab 23).getD ⟨[],[]⟩) an23
def n24:Fn1:=fn1 cc.P 24 ((ab 24).getD ⟨[],[]⟩) an24
def n25:Fn1:=fn1 cc.P 25 ((ab 25).getD ⟨[],[]⟩) an25
def n26:Fn1:=fn1 cc.P 26 ((ab 26).getD ⟨[],[]⟩) an26
def n27:Fn1:=fn1 cc.P 27 ((ab 27).getD ⟨[],[]⟩) an27
def n28:Fn1:=fn1 cc.P 28 ((ab 28).getD ⟨[],[]⟩) an28
def n29:Fn1:=fn1 cc.P 29 ((ab 29).getD ⟨[],[]⟩) an29
def n30:Fn1:=fn1 cc.P 30 ((ab 30).getD ⟨[],[]⟩) an30
def n31:Fn1:=fn1 cc.P 31 ((ab 31).getD ⟨[],[]⟩) an31
def n32:Fn1:=fn1 cc.P 32 ((ab 32).getD ⟨[],[]⟩) an32
def n33:Fn1:=fn1 cc.P 33 ((ab 33).getD ⟨[],[]⟩) an33
def n34:Fn1:=fn1 cc.P 34 ((ab 34).getD ⟨[],[]⟩) an34
def n35:Fn1:=fn1 cc.P 35 ((ab 35).getD ⟨[],[]⟩) an35
def n36:Fn1:=fn1 cc.P 36 ((ab 36).getD ⟨[],[]⟩) an36
def n37:Fn1:=fn1 cc.P 37 ((ab 37).getD ⟨[],[]⟩) an37
def n38:Fn1:=fn1 cc.P 38 ((ab 38).getD ⟨[],[]⟩) an38
def n39:Fn1:=fn1 cc.P 39 ((ab 39).getD ⟨[],[]⟩) an39
def n40:Fn1:=fn1 cc.P 40 ((ab 40).getD ⟨[],[]⟩) an40
def n41:Fn1:=fn1 cc.P 41 ((ab 41).getD ⟨[],[]⟩) an41
def n42:Fn1:=fn1 cc.P 42 ((ab 42).getD ⟨[],[]⟩) an42
def n43:Fn1:=fn1 cc.P 43 ((ab 43).getD ⟨[],[]⟩) an43
def n44:Fn1:=fn1 cc.P 44 ((ab 44).getD ⟨[],[]⟩) an44
def n45:Fn1:=fn1 cc.P 45 ((ab 45).getD ⟨[],[]⟩) an45
def n46:Fn1:=fn1 cc.P 46 ((ab 46).getD ⟨[],[]⟩) an46
def n47:Fn1:=fn1 cc.P 47 ((ab 47).getD ⟨[],[]⟩) an47
def n48:Fn1:=fn1 cc.P 48 ((ab 48).getD ⟨[],[]⟩) an48
def n49:Fn1:=fn1 cc.P 49 ((ab 49).getD ⟨[],[]⟩) an49
def n50:Fn1:=fn1 cc.P 50 ((ab 50).getD ⟨[],[]⟩) an50
def n51:Fn1:=fn1 cc.P 51 ((ab 51).getD ⟨[],[]⟩) an51
def n52:Fn1:=fn1 cc.P 52 ((ab 52).getD ⟨[],[]⟩) an52
def n53:Fn1:=fn1 cc.P 53 ((ab 53).getD ⟨[],[]⟩) an53
def n54:Fn1:=fn1 cc.P 54 ((ab 54).getD ⟨[],[]⟩) an54
def n55:Fn1:=fn1 cc.P 55 ((ab 55).getD ⟨[],[]⟩) an55
def n64:Fn1:=fn1 cc.P 64 ((ab 64).getD ⟨[],[]⟩) an64
def n65:Fn1:=fn1 cc.P 65 ((ab 65).getD ⟨[],[]⟩) an65
def n66:Fn1:=fn1 cc.P 66 ((ab 66).getD ⟨[],[]⟩) an66
def n67:Fn1:=fn1 cc.P 67 ((ab 67).getD ⟨[],[]⟩) an67
def n68:Fn1:=fn1 cc.P 68 ((ab 68).getD ⟨[],[]⟩) an68
def n69:Fn1:=fn1 cc.P 69 ((ab 69).getD ⟨[],[]⟩) an69
def n70:Fn1:=fn1 cc.P 70 ((ab 70).getD ⟨[],[]⟩) an70
def n71:Fn1:=fn1 cc.P 71 ((ab 71).getD ⟨[],[]⟩) an71
def n72:Fn1:=fn1 cc.P 72 ((ab 72).getD ⟨[],[]⟩) an72
def n73:Fn1:=fn1 cc.P 73 ((ab 73).getD ⟨[],[]⟩) an73
def n74:Fn1:=fn1 cc.P 74 ((ab 74).getD ⟨[],[]⟩) an74
def n75:Fn1:=fn1 cc.P 75 ((ab 75).getD ⟨[],[]⟩) an75
def n76:Fn1:=fn1 cc.P 76 ((ab 76).getD ⟨[],[]⟩) an76
def n77:Fn1:=fn1 cc.P 77 ((ab 77).getD ⟨[],[]⟩) an77
def n78:Fn1:=fn1 cc.P 78 ((ab 78).getD ⟨[],[]⟩) an78
def n79:Fn1:=fn1 cc.P 79 ((ab 79).getD ⟨[],[]⟩) an79
def n80:Fn1:=fn1 cc.P 80 ((ab 80).getD ⟨[],[]⟩) an80
def n81:Fn1:=fn1 cc.P 81 ((ab 81).getD ⟨[],[]⟩) an81
def n82:Fn1:=fn1 cc.P 82 ((ab 82).getD ⟨[],[]⟩) an82
def n83:Fn1:=fn1 cc.P 83 ((ab 83).getD ⟨[],[]⟩) an83
def n84:Fn1:=fn1 cc.P 84 ((ab 84).getD ⟨[],[]⟩) an84
def n85:Fn1:=fn1 cc.P 85 ((ab 85).getD ⟨[],[]⟩) an85
def n86:Fn1:=fn1 cc.P 86 ((ab 86).getD ⟨[],[]⟩) an86
def n87:Fn1:=fn1 cc.P 87 ((ab 87).getD ⟨[],[]⟩) an87
def n88:Fn1:=fn1 cc.P 88 ((ab 88).getD ⟨[],[]⟩) an88
def n89:Fn1:=fn1 cc.P 89 ((ab 89).getD ⟨[],[]⟩) an89
def n95:Fn1:=fn1 cc.P 95 ((ab 95).getD ⟨[],[]⟩) an95
def n96:Fn1:=fn1 cc.P 96 ((ab 96).getD ⟨[],[]⟩) an96
def n97:Fn1:=fn1 cc.P 97 ((ab 97).getD ⟨[],[]⟩) an97
def n98:Fn1:=fn1 cc.P 98 ((ab 98).getD ⟨[],[]⟩) an98
def n99:Fn1:=fn1 cc.P 99 ((ab 99).getD ⟨[],[]⟩) an99
def n100:Fn1:=fn1 cc.P 100 ((ab 100).getD ⟨[],[]⟩) an100
def n101:Fn1:=fn1 cc.P 101 ((ab 101).getD ⟨[],[]⟩) an101
def n103:Fn1:=fn1 cc.P 103 ((ab 103).getD ⟨[],[]⟩) an103
def n104:Fn1:=fn1 cc.P 104 ((ab 104).getD ⟨[],[]⟩) an104
def n105:Fn1:=fn1 cc.P 105 ((ab 105).getD ⟨[],[]⟩) an105
theorem i3:FnIs (xc 3) ab 3 n3:=⟨⟨Tryz.f3,Tryz.func3,by kernel_rfl,by kernel_rfl,by kernel_rfl,by kernel_rfl⟩,rfl,by kernel_rfl⟩
theorem i4:FnIs (xc 4) ab 4 n4:=⟨⟨Tryz.f4,Tryz.func4,by kernel_rfl,by kernel_rfl,by kernel_rfl,by kernel_rfl⟩,rfl,by kernel_rfl⟩
theorem i5:FnIs (xc 5) ab 5 n5:=⟨⟨Tryz.f5,Tryz.func5,by kernel_rfl,by kernel_rfl,by kernel_rfl,by kernel_rfl⟩,rfl,by kernel_rfl⟩
theorem i6:FnIs (xc 6) ab 6 n6:=⟨⟨Tryz.f6,Tryz.func6,by kernel_rfl,by kernel_rfl,by kernel_rfl,by kernel_rfl⟩,rfl,by kernel_rfl⟩
theorem i7:FnIs (xc 7) ab 7 n7:=⟨⟨Tryz.f7,Tryz.func7,by kernel_rfl,by kernel_rfl,by kernel_rfl,by kernel_rfl⟩,rfl,by kernel_rfl⟩
theorem i8:FnIs (xc 8) ab 8 n8:=⟨⟨Tryz.f8,Tryz.func8,by kernel_rfl,by kernel_rfl,by kernel_rfl,by kernel_rfl⟩,rfl,by kernel_rfl⟩
theorem i9:FnIs (xc 9) ab 9 n9:=⟨⟨Tryz.f9,Tryz.func9,by kernel_rfl,by kernel_rfl,by kernel_rfl,by kernel_rfl⟩,rfl,by kernel_rfl⟩
theorem i10:FnIs (xc 10) ab 10 n10:=⟨⟨Tryz.f10,Tryz.func10,by kernel_rfl,by kernel_rfl,by kernel_rfl,by kernel_rfl⟩,rfl,by kernel_rfl⟩
theorem i11:FnIs (xc 11) ab 11 n11:=⟨⟨Tryz.f11,Tryz.func11,by kernel_rfl,by kernel_rfl,by kernel_rfl,by kernel_rfl⟩,rfl,by kernel_rfl⟩
theorem i12:FnIs (xc 12) ab 12 n12:=⟨⟨Tryz.f12,Tryz.func12,by kernel_rfl,by kernel_rfl,by kernel_rfl,by kernel_rfl⟩,rfl,by kernel_rfl⟩
theorem i13:FnIs (xc 13) ab 13 n13:=⟨⟨Tryz.f13,Tryz.func13,by kernel_rfl,by kernel_rfl,by kernel_rfl,by kernel_rfl⟩,rfl,by kernel_rfl⟩
theorem i14:FnIs (xc 14) ab 14 n14:=⟨⟨Tryz.f14,Tryz.func14,by kernel_rfl,by kernel_rfl,by kernel_rfl,by kernel_rfl⟩,rfl,by kernel_rfl⟩
theorem i15:FnIs (xc 15) ab 15 n15:=⟨⟨Tryz.f15,Tryz.func15,by kernel_rfl,by kernel_rfl,by kernel_rfl,by kernel_rfl⟩,rfl,by kernel_rfl⟩
theorem i16:FnIs (xc 16) ab 16 n16:=⟨⟨Tryz.f16,Tryz.func16,by kernel_rfl,by kernel_rfl,by kernel_rfl,by kernel_rfl⟩,rfl,by kernel_rfl⟩
theorem i17:FnIs (xc 17) ab 17 n17:=⟨⟨Tryz.f17,Tryz.func17,by kernel_rfl,by kernel_rfl,by kernel_rfl,by kernel_rfl⟩,rfl,by kernel_rfl⟩
theorem i18:FnIs (xc 18) ab 18 n18:=⟨⟨Tryz.f18,Tryz.func18,by kernel_rfl,by kernel_rfl,by kernel_rfl,by kernel_rfl⟩,rfl,by kernel_rfl⟩
theorem i19:FnIs (xc 19) ab 19 n19:=⟨⟨Tryz.f19,Tryz.func19,by kernel_rfl,by kernel_rfl,by kernel_rfl,by kernel_rfl⟩,rfl,by kernel_rfl⟩
theorem i20:FnIs (xc 20) ab 20 n20:=⟨⟨Tryz.f20,Tryz.func20,by kernel_rfl,by kernel_rfl,by kernel_rfl,by kernel_rfl⟩,rfl,by kernel_rfl⟩
theorem i21:FnIs (xc 21) ab 21 n21:=⟨⟨Tryz.f21,Tryz.func21,by kernel_rfl,by kernel_rfl,by kernel_rfl,by kernel_rfl⟩,rfl,by kernel_rfl⟩
theorem i22:FnIs (xc 22) ab 22 n22:=⟨⟨Tryz.f22,Tryz.func22,by kernel_rfl,by kernel_rfl,by kernel_rfl,by kernel_rfl⟩,rfl,by kernel_rfl⟩
theorem i23:FnIs (xc 23) ab 23 n23:=⟨⟨Tryz.f23,Tryz.func23,by kernel_rfl,by kernel_rfl,by kernel_rfl,by kernel_rfl⟩,rfl,by kernel_rfl⟩
theorem i24:FnIs (xc 24) ab 24 n24:=⟨⟨Tryz.f24,Tryz.func24,by kernel_rfl,by kernel_rfl,by kernel_rfl,by kernel_rfl⟩,rfl,by kernel_rfl⟩
theorem i25:FnIs (xc 25) ab 25 n25:=⟨⟨Tryz.f25,Tryz.func25,by kernel_rfl,by kernel_rfl,by kernel_rfl,by kernel_rfl⟩,rfl,by kernel_rfl⟩
theorem i26:FnIs (xc 26) ab 26 n26:=⟨⟨Tryz.f26,Tryz.func26,by kernel_rfl,by kernel_rfl,by kernel_rfl,by kernel_rfl⟩,rfl,by kernel_rfl⟩
theorem i27:FnIs (xc 27) ab 27 n27:=⟨⟨Tryz.f27,Tryz.func27,by kernel_rfl,by kernel_rfl,by kernel_rfl,by kernel_rfl⟩,rfl,by kernel_rfl⟩
theorem i28:FnIs (xc 28) ab 28 n28:=⟨⟨Tryz.f28,Tryz.func28,by kernel_rfl,by kernel_rfl,by kernel_rfl,by kernel_rfl⟩,rfl,by kernel_rfl⟩
theorem i29:FnIs (xc 29) ab 29 n29:=⟨⟨Tryz.f29,Tryz.func29,by kernel_rfl,by kernel_rfl,by kernel_rfl,by kernel_rfl⟩,rfl,by kernel_rfl⟩
theorem i30:FnIs (xc 30) ab 30 n30:=⟨⟨Tryz.f30,Tryz.func30,by kernel_rfl,by kernel_rfl,by kernel_rfl,by kernel_rfl⟩,rfl,by kernel_rfl⟩
theorem i31:FnIs (xc 31) ab 31 n31:=⟨⟨Tryz.f31,Tryz.func31,by kernel_rfl,by kernel_rfl,by kernel_rfl,by kernel_rfl⟩,rfl,by kernel_rfl⟩
theorem i32:FnIs (xc 32) ab 32 n32:=⟨⟨Tryz.f32,Tryz.func32,by kernel_rfl,by kernel_rfl,by kernel_rfl,by kernel_rfl⟩,rfl,by kernel_rfl⟩
theorem i33:FnIs (xc 33) ab 33 n33:=⟨⟨Tryz.f33,Tryz.func33,by kernel_rfl,by kernel_rfl,by kernel_rfl,by kernel_rfl⟩,rfl,by kernel_rfl⟩
theorem i34:FnIs (xc 34) ab 34 n34:=⟨⟨Tryz.f34,Tryz.func34,by kernel_rfl,by kernel_rfl,by kernel_rfl,by kernel_rfl⟩,rfl,by kernel_rfl⟩
theorem i35:FnIs (xc 35) ab 35 n35:=⟨⟨Tryz.f35,Tryz.func35,by kernel_rfl,by kernel_rfl,by kernel_rfl,by kernel_rfl⟩,rfl,by kernel_rfl⟩
theorem i36:FnIs (xc 36) ab 36 n36:=⟨⟨Tryz.f36,Tryz.func36,by kernel_rfl,by kernel_rfl,by kernel_rfl,by kernel_rfl⟩,rfl,by kernel_rfl⟩
theorem i37:FnIs (xc 37) ab 37 n37:=⟨⟨Tryz.f37,Tryz.func37,by kernel_rfl,by kernel_rfl,by kernel_rfl,by kernel_rfl⟩,rfl,by kernel_rfl⟩
theorem i38:FnIs (xc 38) ab 38 n38:=⟨⟨Tryz.f38,Tryz.func38,by kernel_rfl,by kernel_rfl,by kernel_rfl,by kernel_rfl⟩,rfl,by kernel_rfl⟩
theorem i39:FnIs (xc 39) ab 39 n39:=⟨⟨Tryz.f39,Tryz.func39,by kernel_rfl,by kernel_rfl,by kernel_rfl,by kernel_rfl⟩,rfl,by kernel_rfl⟩
theorem i40:FnIs (xc 40) ab 40 n40:=⟨⟨Tryz.f40,Tryz.func40,by kernel_rfl,by kernel_rfl,by kernel_rfl,by kernel_rfl⟩,rfl,by kernel_rfl⟩
theorem i41:FnIs (xc 41) ab 41 n41:=⟨⟨Tryz.f41,Tryz.func41,by kernel_rfl,by kernel_rfl,by kernel_rfl,by kernel_rfl⟩,rfl,by kernel_rfl⟩
theorem i42:FnIs (xc 42) ab 42 n42:=⟨⟨Tryz.f42,Tryz.func42,by kernel_rfl,by kernel_rfl,by kernel_rfl,by kernel_rfl⟩,rfl,by kernel_rfl⟩
theorem i43:FnIs (xc 43) ab 43 n43:=⟨⟨Tryz.f43,Tryz.func43,by kernel_rfl,by kernel_rfl,by kernel_rfl,by kernel_rfl⟩,rfl,by kernel_rfl⟩
theorem i44:FnIs (xc 44) ab 44 n44:=⟨⟨Tryz.f44,Tryz.func44,by kernel_rfl,by kernel_rfl,by kernel_rfl,by kernel_rfl⟩,rfl,by kernel_rfl⟩
theorem i45:FnIs (xc 45) ab 45 n45:=⟨⟨Tryz.f45,Tryz.func45,by kernel_rfl,by kernel_rfl,by kernel_rfl,by kernel_rfl⟩,rfl,by kernel_rfl⟩
theorem i46:FnIs (xc 46) ab 46 n46:=⟨⟨Tryz.f46,Tryz.func46,by kernel_rfl,by kernel_rfl,by kernel_rfl,by kernel_rfl⟩,rfl,by kernel_rfl⟩
theorem i47:FnIs (xc 47) ab 47 n47:=⟨⟨Tryz.f47,Tryz.func47,by kernel_rfl,by kernel_rfl,by kernel_rfl,by kernel_rfl⟩,rfl,by kernel_rfl⟩
theorem i48:FnIs (xc 48) ab 48 n48:=⟨⟨Tryz.f48,Tryz.func48,by kernel_rfl,by kernel_rfl,by kernel_rfl,by kernel_rfl⟩,rfl,by kernel_rfl⟩
theorem i49:FnIs (xc 49) ab 49 n49:=⟨⟨Tryz.f49,Tryz.func49,by kernel_rfl,by kernel_rfl,by kernel_rfl,by kernel_rfl⟩,rfl,by kernel_rfl⟩
theorem i50:FnIs (xc 50) ab 50 n50:=⟨⟨Tryz.f50,Tryz.func50,by kernel_rfl,by kernel_rfl,by kernel_rfl,by kernel_rfl⟩,rfl,by kernel_rfl⟩
theorem i51:FnIs (xc 51) ab 51 n51:=⟨⟨Tryz.f51,Tryz.func51,by kernel_rfl,by kernel_rfl,by kernel_rfl,by kernel_rfl⟩,rfl,by kernel_rfl⟩
theorem i52:FnIs (xc 52) ab 52 n52:=⟨⟨Tryz.f52,Tryz.func52,by kernel_rfl,by kernel_rfl,by kernel_rfl,by kernel_rfl⟩,rfl,by kernel_rfl⟩
theorem i53:FnIs (xc 53) ab 53 n53:=⟨⟨Tryz.f53,Tryz.func53,by kernel_rfl,by kernel_rfl,by kernel_rfl,by kernel_rfl⟩,rfl,by kernel_rfl⟩
theorem i54:FnIs (xc 54) ab 54 n54:=⟨⟨Tryz.f54,Tryz.func54,by kernel_rfl,by kernel_rfl,by kernel_rfl,by kernel_rfl⟩,rfl,by kernel_rfl⟩
theorem i55:FnIs (xc 55) ab 55 n55:=⟨⟨Tryz.f55,Tryz.func55,by kernel_rfl,by kernel_rfl,by kernel_rfl,by kernel_rfl⟩,rfl,by kernel_rfl⟩
theorem i64:FnIs (xc 64) ab 64 n64:=⟨⟨Tryz.f64,Tryz.func64,by kernel_rfl,by kernel_rfl,by kernel_rfl,by kernel_rfl⟩,rfl,by kernel_rfl⟩
theorem i65:FnIs (xc 65) ab 65 n65:=⟨⟨Tryz.f65,Tryz.func65,by kernel_rfl,by kernel_rfl,by kernel_rfl,by kernel_rfl⟩,rfl,by kernel_rfl⟩
theorem i66:FnIs (xc 66) ab 66 n66:=⟨⟨Tryz.f66,Tryz.func66,by kernel_rfl,by kernel_rfl,by kernel_rfl,by kernel_rfl⟩,rfl,by kernel_rfl⟩
theorem i67:FnIs (xc 67) ab 67 n67:=⟨⟨Tryz.f67,Tryz.func67,by kernel_rfl,by kernel_rfl,by kernel_rfl,by kernel_rfl⟩,rfl,by kernel_rfl⟩
theorem i68:FnIs (xc 68) ab 68 n68:=⟨⟨Tryz.f68,Tryz.func68,by kernel_rfl,by kernel_rfl,by kernel_rfl,by kernel_rfl⟩,rfl,by kernel_rfl⟩
theorem i69:FnIs (xc 69) ab 69 n69:=⟨⟨Tryz.f69,Tryz.func69,by kernel_rfl,by kernel_rfl,by kernel_rfl,by kernel_rfl⟩,rfl,by kernel_rfl⟩
theorem i70:FnIs (xc 70) ab 70 n70:=⟨⟨Tryz.f70,Tryz.func70,by kernel_rfl,by kernel_rfl,by kernel_rfl,by kernel_rfl⟩,rfl,by kernel_rfl⟩
theorem i71:FnIs (xc 71) ab 71 n71:=⟨⟨Tryz.f71,Tryz.func71,by kernel_rfl,by kernel_rfl,by kernel_rfl,by kernel_rfl⟩,rfl,by kernel_rfl⟩
theorem i72:FnIs (xc 72) ab 72 n72:=⟨⟨Tryz.f72,Tryz.func72,by kernel_rfl,by kernel_rfl,by kernel_rfl,by kernel_rfl⟩,rfl,by kernel_rfl⟩
theorem i73:FnIs (xc 73) ab 73 n73:=⟨⟨Tryz.f73,Tryz.func73,by kernel_rfl,by kernel_rfl,by kernel_rfl,by kernel_rfl⟩,rfl,by kernel_rfl⟩
theorem i74:FnIs (xc 74) ab 74 n74:=⟨⟨Tryz.f74,Tryz.func74,by kernel_rfl,by kernel_rfl,by kernel_rfl,by kernel_rfl⟩,rfl,by kernel_rfl⟩
theorem i75:FnIs (xc 75) ab 75 n75:=⟨⟨Tryz.f75,Tryz.func75,by kernel_rfl,by kernel_rfl,by kernel_rfl,by kernel_rfl⟩,rfl,by kernel_rfl⟩
theorem i76:FnIs (xc 76) ab 76 n76:=⟨⟨Tryz.f76,Tryz.func76,by kernel_rfl,by kernel_rfl,by kernel_rfl,by kernel_rfl⟩,rfl,by kernel_rfl⟩
theorem i77:FnIs (xc 77) ab 77 n77:=⟨⟨Tryz.f77,Tryz.func77,by kernel_rfl,by kernel_rfl,by kernel_rfl,by kernel_rfl⟩,rfl,by kernel_rfl⟩
theorem i78:FnIs (xc 78) ab 78 n78:=⟨⟨Tryz.f78,Tryz.func78,by kernel_rfl,by kernel_rfl,by kernel_rfl,by kernel_rfl⟩,rfl,by kernel_rfl⟩
theorem i79:FnIs (xc 79) ab 79 n79:=⟨⟨Tryz.f79,Tryz.func79,by kernel_rfl,by kernel_rfl,by kernel_rfl,by kernel_rfl⟩,rfl,by kernel_rfl⟩
theorem i80:FnIs (xc 80) ab 80 n80:=⟨⟨Tryz.f80,Tryz.func80,by kernel_rfl,by kernel_rfl,by kernel_rfl,by kernel_rfl⟩,rfl,by kernel_rfl⟩
theorem i81:FnIs (xc 81) ab 81 n81:=⟨⟨Tryz.f81,Tryz.func81,by kernel_rfl,by kernel_rfl,by kernel_rfl,by kernel_rfl⟩,rfl,by kernel_rfl⟩
theorem i82:FnIs (xc 82) ab 82 n82:=⟨⟨Tryz.f82,Tryz.func82,by kernel_rfl,by kernel_rfl,by kernel_rfl,by kernel_rfl⟩,rfl,by kernel_rfl⟩
theorem i83:FnIs (xc 83) ab 83 n83:=⟨⟨Tryz.f83,Tryz.func83,by kernel_rfl,by kernel_rfl,by kernel_rfl,by kernel_rfl⟩,rfl,by kernel_rfl⟩
theorem i84:FnIs (xc 84) ab 84 n84:=⟨⟨Tryz.f84,Tryz.func84,by kernel_rfl,by kernel_rfl,by kernel_rfl,by kernel_rfl⟩,rfl,by kernel_rfl⟩
theorem i85:FnIs (xc 85) ab 85 n85:=⟨⟨Tryz.f85,Tryz.func85,by kernel_rfl,by kernel_rfl,by kernel_rfl,by kernel_rfl⟩,rfl,by kernel_rfl⟩
theorem i86:FnIs (xc 86) ab 86 n86:=⟨⟨Tryz.f86,Tryz.func86,by kernel_rfl,by kernel_rfl,by kernel_rfl,by kernel_rfl⟩,rfl,by kernel_rfl⟩
theorem i87:FnIs (xc 87) ab 87 n87:=⟨⟨Tryz.f87,Tryz.func87,by kernel_rfl,by kernel_rfl,by kernel_rfl,by kernel_rfl⟩,rfl,by kernel_rfl⟩
theorem i88:FnIs (xc 88) ab 88 n88:=⟨⟨Tryz.f88,Tryz.func88,by kernel_rfl,by kernel_rfl,by kernel_rfl,by kernel_rfl⟩,rfl,by kernel_rfl⟩
theorem i89:FnIs (xc 89) ab 89 n89:=⟨⟨Tryz.f89,Tryz.func89,by kernel_rfl,by kernel_rfl,by kernel_rfl,by kernel_rfl⟩,rfl,by kernel_rfl⟩
theorem i95:FnIs (xc 95) ab 95 n95:=⟨⟨Tryz.f95,Tryz.func95,by kernel_rfl,by kernel_rfl,by kernel_rfl,by kernel_rfl⟩,rfl,by kernel_rfl⟩
theorem i96:FnIs (xc 96) ab 96 n96:=⟨⟨Tryz.f96,Tryz.func96,by kernel_rfl,by kernel_rfl,by kernel_rfl,by kernel_rfl⟩,rfl,by kernel_rfl⟩
theorem i97:FnIs (xc 97) ab 97 n97:=⟨⟨Tryz.f97,Tryz.func97,by kernel_rfl,by kernel_rfl,by kernel_rfl,by kernel_rfl⟩,rfl,by kernel_rfl⟩
theorem i98:FnIs (xc 98) ab 98 n98:=⟨⟨Tryz.f98,Tryz.func98,by kernel_rfl,by kernel_rfl,by kernel_rfl,by kernel_rfl⟩,rfl,by kernel_rfl⟩
theorem i99:FnIs (xc 99) ab 99 n99:=⟨⟨Tryz.f99,Tryz.func99,by kernel_rfl,by kernel_rfl,by kernel_rfl,by kernel_rfl⟩,rfl,by kernel_rfl⟩
theorem i100:FnIs (xc 100) ab 100 n100:=⟨⟨Tryz.f100,Tryz.func100,by kernel_rfl,by kernel_rfl,by kernel_rfl,by kernel_rfl⟩,rfl,by kernel_rfl⟩
theorem i101:FnIs (xc 101) ab 101 n101:=⟨⟨Tryz.f101,Tryz.func101,by kernel_rfl,by kernel_rfl,by kernel_rfl,by kernel_rfl⟩,rfl,by kernel_rfl⟩
theorem i103:FnIs (xc 103) ab 103 n103:=⟨⟨Tryz.f103,Tryz.func103,by kernel_rfl,by kernel_rfl,by kernel_rfl,by kernel_rfl⟩,rfl,by kernel_rfl⟩
theorem i104:FnIs (xc 104) ab 104 n104:=⟨⟨Tryz.f104,Tryz.func104,by kernel_rfl,by kernel_rfl,by kernel_rfl,by kernel_rfl⟩,rfl,by kernel_rfl⟩
theorem i105:FnIs (xc 105) ab 105 n105:=⟨⟨Tryz.f105,Tryz.func105,by kernel_rfl,by kernel_rfl,by kernel_rfl,by kernel_rfl⟩,rfl,by kernel_rfl⟩
end Go.Am

/-
 THE FUNCTIONS OF THE PROGRAM ARE WHAT IS TOLD OF THEM,BY PROGRAM,part 1.
-/
set_option maxRecDepth 100000
namespace Go.Am
open Sx Go.Proofs
theorem e4:@f4=λR HT A ls h K=>ao A (xc 4) ab drN n4 ls h K:=by kernel_rfl
theorem e9:@f9=λR HT A ls h K=>ao A (xc 9) ab drN n9 ls h K:=by kernel_rfl
theorem e11:@f11=λR HT A ls h K=>ao A (xc 11) ab drN n11 ls h K:=by kernel_rfl
theorem e15:@f15=λR HT A ls h K=>ao A (xc 15) ab drN n15 ls h K:=by kernel_rfl
theorem e17:@f17=λR HT A ls h K=>ao A (xc 17) ab drN n17 ls h K:=by kernel_rfl
theorem e21:@f21=λR HT A ls h K=>ao A (xc 21) ab drN n21 ls h K:=by kernel_rfl
theorem e22:@f22=λR HT A ls h K=>ao A (xc 22) ab drN n22 ls h K:=by kernel_rfl
theorem e32:@f32=λR HT A ls h K=>ao A (xc 32) ab drN n32 ls h K:=by kernel_rfl
theorem e37:@f37=λR HT A ls h K=>ao A (xc 37) ab drN n37 ls h K:=by kernel_rfl
theorem e42:@f42=λR HT A ls h K=>ao A (xc 42) ab drN n42 ls h K:=by kernel_rfl
theorem e48:@f48=λR HT A ls h K=>ao A (xc 48) ab drN n48 ls h K:=by kernel_rfl
theorem e52:@f52=λR HT A ls h K=>ao A (xc 52) ab drN n52 ls h K:=by kernel_rfl
theorem e68:@f68=λR HT A ls h K=>ao A (xc 68) ab drN n68 ls h K:=by kernel_rfl
theorem e80:@f80=λR HT A ls h K=>ao A (xc 80) ab drN n80 ls h K:=by kernel_rfl
theorem e85:@f85=λR HT A ls h K=>ao A (xc 85) ab drN n85 ls h K:=by kernel_rfl
theorem e100:@f100=λR HT A ls h K=>ao A (xc 100) ab drN n100 ls h K:=by kernel_rfl
end Go.Am

/-
 THE FUNCTIONS OF THE PROGRAM ARE WHAT IS TOLD OF THEM,BY PROGRAM,part 2.
-/
set_option maxRecDepth 100000
namespace Go.Am
open Sx Go.Proofs
theorem e6:@f6=λR HT A ls h K=>ao A (xc 6) ab drN n6 ls h K:=by kernel_rfl
theorem e10:@f10=λR HT A ls h K=>ao A (xc 10) ab drN n10 ls h K:=by kernel_rfl
theorem e12:@f12=λR HT A ls h K=>ao A (xc 12) ab drN n12 ls h K:=by kernel_rfl
theorem e33:@f33=λR HT A ls h K=>ao A (xc 33) ab drN n33 ls h K:=by kernel_rfl
theorem e38:@f38=λR HT A ls h K=>ao A (xc 38) ab drN n38 ls h K:=by kernel_rfl
theorem e39:@f39=λR HT A ls h K=>ao A (xc 39) ab drN n39 ls h K:=by kernel_rfl
theorem e50:@f50=λR HT A ls h K=>ao A (xc 50) ab drN n50 ls h K:=by kernel_rfl
theorem e55:@f55=λR HT A ls h K=>ao A (xc 55) ab drN n55 ls h K:=by kernel_rfl
theorem e74:@f74=λR HT A ls h K=>ao A (xc 74) ab drN n74 ls h K:=by kernel_rfl
theorem e77:@f77=λR HT A ls h K=>ao A (xc 77) ab drN n77 ls h K:=by kernel_rfl
theorem e78:@f78=λR HT A ls h K=>ao A (xc 78) ab drN n78 ls h K:=by kernel_rfl
theorem e95:@f95=λR HT A ls h K=>ao A (xc 95) ab drN n95 ls h K:=by kernel_rfl
theorem e99:@f99=λR HT A ls h K=>ao A (xc 99) ab drN n99 ls h K:=by kernel_rfl
theorem e105:@f105=λR HT A ls h K=>ao A (xc 105) ab drN n105 ls h K:=by kernel_rfl
end Go.Am

/-
 THE FUNCTIONS OF THE PROGRAM ARE WHAT IS TOLD OF THEM,BY PROGRAM,part 3.
-/
set_option maxRecDepth 100000
namespace Go.Am
open Sx Go.Proofs
theorem e5:@f5=λR HT A ls h K=>ao A (xc 5) ab drN n5 ls h K:=by kernel_rfl
theorem e13:@f13=λR HT A ls h K=>ao A (xc 13) ab drN n13 ls h K:=by kernel_rfl
theorem e23:@f23=λR HT A ls h K=>ao A (xc 23) ab drN n23 ls h K:=by kernel_rfl
theorem e24:@f24=λR HT A ls h K=>ao A (xc 24) ab drN n24 ls h K:=by kernel_rfl
theorem e30:@f30=λR HT A ls h K=>ao A (xc 30) ab drN n30 ls h K:=by kernel_rfl
theorem e34:@f34=λR HT A ls h K=>ao A (xc 34) ab drN n34 ls h K:=by kernel_rfl
theorem e43:@f43=λR HT A ls h K=>ao A (xc 43) ab drN n43 ls h K:=by kernel_rfl
theorem e67:@f67=λR HT A ls h K=>ao A (xc 67) ab drN n67 ls h K:=by kernel_rfl
theorem e70:@f70=λR HT A ls h K=>ao A (xc 70) ab drN n70 ls h K:=by kernel_rfl
theorem e71:@f71=λR HT A ls h K=>ao A (xc 71) ab drN n71 ls h K:=by kernel_rfl
theorem e72:@f72=λR HT A ls h K=>ao A (xc 72) ab drN n72 ls h K:=by kernel_rfl
theorem e89:@f89=λR HT A ls h K=>ao A (xc 89) ab drN n89 ls h K:=by kernel_rfl
theorem e98:@f98=λR HT A ls h K=>ao A (xc 98) ab drN n98 ls h K:=by kernel_rfl
theorem e101:@f101=λR HT A ls h K=>ao A (xc 101) ab drN n101 ls h K:=by kernel_rfl
end Go.Am

/-
 THE FUNCTIONS OF THE PROGRAM ARE WHAT IS TOLD OF THEM,BY PROGRAM,part 4.
-/
set_option maxRecDepth 100000
namespace Go.Am
open Sx Go.Proofs
theorem e16:@f16=λR HT A ls h K=>ao A (xc 16) ab drN n16 ls h K:=by kernel_rfl
theorem e18:@f18=λR HT A ls h K=>ao A (xc 18) ab drN n18 ls h K:=by kernel_rfl
theorem e19:@f19=λR HT A ls h K=>ao A (xc 19) ab drN n19 ls h K:=by kernel_rfl
theorem e25:@f25=λR HT A ls h K=>ao A (xc 25) ab drN n25 ls h K:=by kernel_rfl
theorem e35:@f35=λR HT A ls h K=>ao A (xc 35) ab drN n35 ls h K:=by kernel_rfl
theorem e36:@f36=λR HT A ls h K=>ao A (xc 36) ab drN n36 ls h K:=by kernel_rfl
theorem e45:@f45=λR HT A ls h K=>ao A (xc 45) ab drN n45 ls h K:=by kernel_rfl
theorem e49:@f49=λR HT A ls h K=>ao A (xc 49) ab drN n49 ls h K:=by kernel_rfl
theorem e51:@f51=λR HT A ls h K=>ao A (xc 51) ab drN n51 ls h K:=by kernel_rfl
theorem e65:@f65=λR HT A ls h K=>ao A (xc 65) ab drN n65 ls h K:=by kernel_rfl
theorem e69:@f69=λR HT A ls h K=>ao A (xc 69) ab drN n69 ls h K:=by kernel_rfl
theorem e73:@f73=λR HT A ls h K=>ao A (xc 73) ab drN n73 ls h K:=by kernel_rfl
theorem e79:@f79=λR HT A ls h K=>ao A (xc 79) ab drN n79 ls h K:=by kernel_rfl
theorem e88:@f88=λR HT A ls h K=>ao A (xc 88) ab drN n88 ls h K:=by kernel_rfl
theorem e103:@f103=λR HT A ls h K=>ao A (xc 103) ab drN n103 ls h K:=by kernel_rfl
end Go.Am

/-
 THE FUNCTIONS OF THE PROGRAM ARE WHAT IS TOLD OF THEM,BY PROGRAM,part 5.
-/
set_option maxRecDepth 100000
namespace Go.Am
open Sx Go.Proofs
theorem e3:@f3=λR HT A ls h K=>ao A (xc 3) ab drN n3 ls h K:=by kernel_rfl
theorem e14:@f14=λR HT A ls h K=>ao A (xc 14) ab drN n14 ls h K:=by kernel_rfl
theorem e26:@f26=λR HT A ls h K=>ao A (xc 26) ab drN n26 ls h K:=by kernel_rfl
theorem e27:@f27=λR HT A ls h K=>ao A (xc 27) ab drN n27 ls h K:=by kernel_rfl
theorem e28:@f28=λR HT A ls h K=>ao A (xc 28) ab drN n28 ls h K:=by kernel_rfl
theorem e40:@f40=λR HT A ls h K=>ao A (xc 40) ab drN n40 ls h K:=by kernel_rfl
theorem e41:@f41=λR HT A ls h K=>ao A (xc 41) ab drN n41 ls h K:=by kernel_rfl
theorem e44:@f44=λR HT A ls h K=>ao A (xc 44) ab drN n44 ls h K:=by kernel_rfl
theorem e47:@f47=λR HT A ls h K=>ao A (xc 47) ab drN n47 ls h K:=by kernel_rfl
theorem e64:@f64=λR HT A ls h K=>ao A (xc 64) ab drN n64 ls h K:=by kernel_rfl
theorem e76:@f76=λR HT A ls h K=>ao A (xc 76) ab drN n76 ls h K:=by kernel_rfl
theorem e82:@f82=λR HT A ls h K=>ao A (xc 82) ab drN n82 ls h K:=by kernel_rfl
theorem e83:@f83=λR HT A ls h K=>ao A (xc 83) ab drN n83 ls h K:=by kernel_rfl
theorem e84:@f84=λR HT A ls h K=>ao A (xc 84) ab drN n84 ls h K:=by kernel_rfl
theorem e86:@f86=λR HT A ls h K=>ao A (xc 86) ab drN n86 ls h K:=by kernel_rfl
theorem e87:@f87=λR HT A ls h K=>ao A (xc 87) ab drN n87 ls h K:=by kernel_rfl
end Go.Am

/-
 THE FUNCTIONS OF THE PROGRAM ARE WHAT IS TOLD OF THEM,BY PROGRAM,part 6.
-/
set_option maxRecDepth 100000
namespace Go.Am
open Sx Go.Proofs
theorem e7:@f7=λR HT A ls h K=>ao A (xc 7) ab drN n7 ls h K:=by kernel_rfl
theorem e8:@f8=λR HT A ls h K=>ao A (xc 8) ab drN n8 ls h K:=by kernel_rfl
theorem e20:@f20=λR HT A ls h K=>ao A (xc 20) ab drN n20 ls h K:=by kernel_rfl
theorem e29:@f29=λR HT A ls h K=>ao A (xc 29) ab drN n29 ls h K:=by kernel_rfl
theorem e31:@f31=λR HT A ls h K=>ao A (xc 31) ab drN n31 ls h K:=by kernel_rfl
theorem e46:@f46=λR HT A ls h K=>ao A (xc 46) ab drN n46 ls h K:=by kernel_rfl
theorem e53:@f53=λR HT A ls h K=>ao A (xc 53) ab drN n53 ls h K:=by kernel_rfl
theorem e54:@f54=λR HT A ls h K=>ao A (xc 54) ab drN n54 ls h K:=by kernel_rfl
theorem e66:@f66=λR HT A ls h K=>ao A (xc 66) ab drN n66 ls h K:=by kernel_rfl
theorem e75:@f75=λR HT A ls h K=>ao A (xc 75) ab drN n75 ls h K:=by kernel_rfl
theorem e81:@f81=λR HT A ls h K=>ao A (xc 81) ab drN n81 ls h K:=by kernel_rfl
theorem e96:@f96=λR HT A ls h K=>ao A (xc 96) ab drN n96 ls h K:=by kernel_rfl
theorem e97:@f97=λR HT A ls h K=>ao A (xc 97) ab drN n97 ls h K:=by kernel_rfl
theorem e104:@f104=λR HT A ls h K=>ao A (xc 104) ab drN n104 ls h K:=by kernel_rfl
end Go.Am

/-
 THE FUNCTIONS OF THE PROGRAM ARE WHAT IS TOLD OF THEM,BY PROGRAM.
-/
set_option maxRecDepth 100000
namespace Go.Am
end Go.Am

/-
 WHAT THE PACKAGE-LEVEL VARIABLES HOLD,read off the row's list;a call as the row sees it.
-/
namespace Go.Am
namespace Sx
def unL(P:Program)(un:TypeId->DataW Unit->Option (List Value)):List (Nat×TypeId)->List (DataW Unit)->Nat->Option (List Value)
 | [],[],_=>some []
 |(o,t) :: l,d :: ds,off=>match Nat.beq o off,un t d with
  |true,some v=>match Nat.beq v.length (P.cellsOf t),unL P un l ds (off+v.length)with
   |true,some vs=>some (v++vs)
   |_,_=>none
  |_,_=>none
 |_,_,_=>none
def unD(P:Program):Nat->TypeId->DataW Unit->Option (List Value)
 |0,_,_=>none
 |fu+1,t,d=>match P.underlying t,d with
  |some .bool,.lit (.bool b)=>some [.bool b]
  |some (.int k),.lit (.int _ n)=>some [.int k n]
  |some (.struct fs),.agg ds=>match unL P (unD P fu) (fs.toList.map λf=>(f.offset,f.type)) ds 0 with
   |some vs=>if vs.length=P.cellsOf t then some vs else none
   |none=>none
  |some (.array n e),.agg ds=>match unL P (unD P fu) ((List.range n).map λi=>(i*P.cellsOf e,e)) ds 0 with
   |some vs=>if vs.length=P.cellsOf t then some vs else none
   |none=>none
  |_,_=>none
section
variable {P:Program} {w:World} {base:Nat} {spare:Nat->Bool} {held:Bool} {enc:TypeId×Value->Unit}
theorem seg_ok{un:TypeId->DataW Unit->Option (List Value)}{fuel:Nat}(hun:∀t d vs,un t d=some vs->∀cs p,DataW.trod enc P w base spare held fuel t cs=some (d,p)->cs=vs){α:Type}(o:α->Nat)(ty:α->TypeId)(cs:List Value) :
  ∀(l:List α) (xs:List (DataW Unit×List MemPlace)) (off:Nat) (vs:List Value),l.mapM (λa=>DataW.trod enc P w base spare held fuel (ty a) ((cs.drop (o a)).take (P.cellsOf (ty a))))=some xs->
   unL P un (l.map λa=>(o a,ty a)) (xs.map (·.1)) off=some vs->(cs.drop off).take vs.length=vs
 | [],xs,off,vs,h1,h2=>by
  simp only[qcH,qcs,qam]at h1
  subst h1
  simp only[qa3,unL,qam]at h2
  subst h2
  simp
 |a :: l,xs,off,vs,h1,h2=>by
  rw[qbu]at h1
  obtain⟨x,h3,h1⟩:=qah.1 h1
  obtain⟨ys,h4,h1⟩:=qah.1 h1
  cases h1
  simp only[qau,unL]at h2
  split at h2
  ·rename_i v e1 e2
   split at h2
   ·rename_i ws e3 e4
    cases h2
    have e1:=qac e1
    have e3:=qac e3
    have hv:=hun _ _ _ e2 _ _ h3
    have ih:=seg_ok hun o ty cs l ys _ _ h4 e4
    rw[e1,←e3]at hv
    rw[qaw,qcI,hv,qba]
    rw[ih]
   ·cases h2
  ·cases h2
theorem unD_ok:∀(fu:Nat) (t:TypeId) (d:DataW Unit) (vs:List Value),unD P fu t d=some vs->∀(fuel:Nat) (cs:List Value) (p:List MemPlace),DataW.trod enc P w base spare held fuel t cs=some (d,p)->cs=vs
 |0,_,_,_,h=>by cases h
 |fu+1,t,d,vs,h=>by
  intro fuel cs p hp
  cases fuel with
  |zero=>simp[DataW.trod]at hp
  |succ fuel=>
   have hun:∀t d vs,unD P fu t d=some vs->∀cs p,DataW.trod enc P w base spare held fuel t cs=some (d,p)->cs=vs:=λt d vs h cs p=>unD_ok fu t d vs h fuel cs p
   simp only[unD]at h
   split at h
   ·rename_i b e
    cases h
    simp only[DataW.trod,e]at hp
    split at hp<;>simp_all
   ·rename_i k k' n e
    cases h
    simp only[DataW.trod,e]at hp
    split at hp<;>first|cases hp|skip
    all_goals first
     |(split at hp<;>first|(rename_i hh;simp at hp;obtain⟨⟨rfl,rfl⟩,_⟩:=hp;rw[hh.1];done)|(cases hp;done))
     |simp_all
   ·rename_i fs ds e
    split at h
    ·rename_i ws e2
     split at h
     ·rename_i e3
      cases h
      simp only[DataW.trod,e]at hp
      split at hp
      ·rename_i e4
       obtain⟨xs,h5,h6⟩:=qab.1 hp
       simp only[Prod.mk.injEq,DataW.agg.injEq]at h6
       rw[←h6.1]at e2
       have:=seg_ok hun (λf:Field=>f.offset) (λf:Field=>f.type) cs _ xs 0 _ h5 e2
       rw[qbb,qaO (by omega)]at this
       exact this
      ·cases hp
     ·cases h
    ·cases h
   ·rename_i n el ds e
    split at h
    ·rename_i ws e2
     split at h
     ·rename_i e3
      cases h
      simp only[DataW.trod,e]at hp
      split at hp
      ·rename_i e4
       obtain⟨xs,h5,h6⟩:=qab.1 hp
       simp only[Prod.mk.injEq,DataW.agg.injEq]at h6
       rw[←h6.1]at e2
       have:=seg_ok hun (λi=>i*P.cellsOf el) (λ_=>el) cs _ xs 0 _ h5 e2
       rw[qbb,qaO (by omega)]at this
       exact this
      ·cases hp
     ·cases h
    ·cases h
   ·cases h
end
section
variable [Val]
theorem oH [Glo]{W:World}{g:Nat}{vs:List Value}(h0:Nat.blt g gB=true)(h1:vs.all aA=true)(h2:vs.all flat=true)(h:∃c e fr,W.heap[g]? = some (.cells c e fr)/\c.toList=vs) :
  gBlk g<W.heap.size/\vs.all aA=true/\∃c e fr,W.heap[gBlk g]? = some (.cells c e fr)/\bo (λ_=>none) vs c (gOff g):=by
 obtain⟨c,e,fr,h3,h4⟩:=h
 rw[gBlk_lt h0,gOff_lt h0]
 refine⟨(qav.1 h3).1,h1,c,e,fr,h3,.of_list ?_⟩
 rw[h4]
 exact⟨rfl,λi x y hx hy=>by rw[hx]at hy;cases hy;exact .of_flat (qad.1 h2 x (qar hx))⟩
end
end Sx
end Go.Am

/-
 FROM A CALL TO THE ROW: arguments without addresses.
-/
namespace Go.Am
namespace Sx
open Go.ChangeShapes Go.WideShapes Go.ChangeAt Go.WideMaps Go.WideElems Go.RowKit
theorem kept_of{W W':World}(h1:W'.os=W.os)(h2:W'.output=W.output)(h3:∀b,b<W.heap.size->W'.heap[b]? = W.heap[b]?)(may:MemPlace->Prop):W.keptBut W' may:=by
 refine⟨h1,h2,λi hi=>?_⟩
 rw[h3 i hi]
 exact(World.keptBut_refl W may).2.2 i hi
theorem lS{P:Program}{w:World}{laid:List (String×DataW Unit)}{ps:List MemPlace}(h:DataW.LaidVars P w laid ps):∀n d,(n,d)∈laid->∀g t fu vs,P.globalNamed n=some g->(P.globals[g]?).map (·.type)=some t->unD P fu t d=some vs->
  ∃c e fr,w.heap[g]? = some (.cells c e fr)/\c.toList=vs:=by
 induction laid generalizing ps with
 |nil=>intro n d h;cases h
 |cons x l ih=>
  obtain⟨n0,d0⟩:=x
  obtain⟨g0,t0,cs,fuel,p,q,a1,a2,a3,a4,a5,a6⟩:=h
  intro n d hm g t fu vs b1 b2 b3
  rcases qao.1 hm with e|hm
  ·cases e
   rw[a1]at b1;cases b1
   rw[a2]at b2;cases b2
   have hc:=unD_ok fu _ _ vs b3 _ _ _ a4
   unfold World.var? at a3
   rw[a1]at a3
   simp only[qae]at a3
   split at a3
   ·rename_i c ty fr e
    cases a3
    exact⟨_,_,_,e,hc⟩
   ·cases a3
  ·exact ih a5 n d hm g t fu vs b1 b2 b3
section
variable [Val] [Kno]
end
end Sx
end Go.Am

/-
 THE ALGEBRA OF PROPOSITIONS: what must hold,that code does as it is told to do.
-/
namespace Go.Am
namespace Sx
section
variable [Val] [Kno]
def condP(b:Bool)(x y:Prop):Prop:=(b=true->x)/\(b=false->y)
def ariP(op:BinOp)(k:IntKind)(a b:Int)(K:Int->Prop):Prop:=
 match op with
 | .add=>K (k.wrap (a+b))
 | .sub=>K (k.wrap (a - b))
 | .mul=>K (k.wrap (a*b))
 | .quo=>b≠0/\K (k.wrap (a.tdiv b))
 | .rem=>b≠0/\K (a.tmod b)
 | .and=>(b=1/\K (a%2))∨(b≠1/\∃n,mF .and k a b n/\K n)
 |op=>∃n,mF op k a b n/\K n
def cmpP(op:BinOp)(a b:Int)(K:Bool->Prop):Prop:=
 match op with
 | .eql=>K (a==b)
 | .neq=>K (a != b)
 | .lss=>K (decide (a<b))
 | .leq=>K (decide (a<=b))
 | .gtr=>K (decide (a > b))
 | .geq=>K (decide (a ≥ b))
 |_=>False
def optP{α:Type}(o:Option α)(K:α->Prop):Prop:=∃x,o=some x/\K x
def unIP(ls:List Lf)(K:Int->List Lf->Prop):Prop:=match ls with | .i n :: r=>K n r|_=>False
def unBP(ls:List Lf)(K:Bool->List Lf->Prop):Prop:=match ls with | .b n :: r=>K n r|_=>False
def unVP(ls:List Lf)(K:Value->List Lf->Prop):Prop:=match ls with | .v n :: r=>K n r|_=>False
def un0P(ls:List Lf)(K:Prop):Prop:=match ls with | []=>K|_=>False
def ucIP(k:IntKind)(ls:List Value)(K:Int->List Value->Prop):Prop:=match ls with | .int k' n :: r=>k=k'/\K n r|_=>False
def ucBP(ls:List Value)(K:Bool->List Value->Prop):Prop:=match ls with | .bool n :: r=>K n r|_=>False
def ucVP(ls:List Value)(K:Value->List Value->Prop):Prop:=match ls with|n :: r=>K n r|_=>False
def uc0P(ls:List Value)(K:Prop):Prop:=match ls with | []=>K|_=>False
def getL(h:List HObj):bz:=λi=>h[i]?
def peekP(f:Pk)(h:List HObj)(K:List Value->Prop):Prop:=∃cs,f.run (getL h)=some cs/\K cs
def heapP(f:Hp)(h:List HObj)(K:List Value->List HObj->Prop):Prop:=∃acts cs,f.run (getL h) h.length=some (acts,cs)/\K cs (eF h acts)
def callP(C:Cfg)(Sg:FuncId->Option Sig)(g:FuncId)(ls:List Lf)(h:List HObj)(K:List Lf->List HObj->Prop):Prop:=∃rs h',bG C Sg g ls h rs h'/\K rs h'
def callvP(C:Cfg)(v:Value)(args:List Value)(hs:List SK)(h:List HObj)(K:List Lf->List HObj->Prop):Prop:=∃rs h',rS C v args hs h rs h'/\K rs h'
def itP(F:(List Lf->List HObj->Prop)->List Lf->List HObj->Prop)(n:Nat):List Lf->List HObj->Prop:=
 match n with
 |0=>λ_ _=>False
 |n+1=>F (itP F n)
def loopP(F:(List Lf->List HObj->Prop)->List Lf->List HObj->Prop)(ls:List Lf)(h:List HObj):Prop:=∃n,itP F n ls h
def rfunP(C:Cfg)(T:Nat->Site)(κ:Nat)(v:Value)(vals:List Value)(h:List HObj)(K:Option Code->List HObj->Prop):Prop:=
 ∃g first cap r H1 lp,v = .func (.func g) first cap/\
  fD C g (first.toList++[.func (.yield h.length) #[] #[]]++cap.toList) (h++[.loop (lpOf (T κ) κ vals)]) r H1/\
  cW H1 h.length=some lp/\lp.state≠.busy/\K lp.pending (H1.set h.length (.loop { lp with state:=.exhausted }))
def pendP(pd:Option Code)(kn kr:Prop)(ks:List (Nat×Prop)):Prop:=
 match pd with
 |none=>kn
 |some .ret=>kr
 |some (.exit id)=>∃x,(id,x)∈ks/\x
 |_=>False
def lp1P(l:Nat)(h:List HObj)(K:List HObj->Prop):Prop:=∃lp,cW h l=some lp/\lp.state = .ready/\K (h.set l (.loop { lp with state:=.busy }))
def lp2P(l:Nat)(j:Option Code)(h:List HObj)(K:List HObj->Prop):Prop:=∃lp,cW h l=some lp/\K (h.set l (.loop { lp with state:=if j.isNone then .ready else .done,pending:=j }))
def PA(C:Cfg)(Sg:FuncId->Option Sig)(T:Nat->Site):Alg Prop (List HObj) where
 fail:=False
 cond:=condP
 ari:=ariP
 shf:=λop k a k' b K=>∃n,ShRun op k a k' b n/\K n
 cmp:=cmpP
 eqs:=λl K=>K (cb l)
 conv:=λk a K=>K (k.wrap a)
 sel:=λt a b K=>K (if t then a else b)
 opt:=optP
 chk:=λv K=>bk v=true/\K
 unI:=unIP
 unB:=unBP
 unV:=unVP
 un0:=un0P
 ucI:=ucIP
 ucB:=ucBP
 ucV:=ucVP
 uc0:=uc0P
 peek:=peekP
 heap:=heapP
 new:=λo h K=>K h.length (h++[o])
 call:=callP C Sg
 callv:=callvP C
 join:=λb m=>m b
 loop:=loopP
 rfun:=rfunP C T
 pend:=pendP
 lp1:=lp1P
 lp2:=lp2P
theorem eg(C:Cfg)(Sg:FuncId->Option Sig)(T:Nat->Site):AlgOk (PA C Sg T) C Sg T id id where
 fail:=λh=>h
 cond:=by
  intro b x y h
  cases b
  ·exact .inr ⟨rfl,h.2 rfl⟩
  ·exact .inl ⟨rfl,h.1 rfl⟩
 ari:=by
  intro op k a b K h
  have h:ariP op k a b K:=h
  cases op<;>simp only[ariP]at h
  ·exact⟨_,λP t w=>by simp[binOp,Op.intArith],h⟩
  ·exact⟨_,λP t w=>by simp[binOp,Op.intArith],h⟩
  ·exact⟨_,λP t w=>by simp[binOp,Op.intArith],h⟩
  ·obtain⟨hb,h⟩:=h
   exact⟨_,λP t w=>by simp[binOp,Op.intDiv,hb],h⟩
  ·obtain⟨hb,h⟩:=h
   exact⟨_,λP t w=>by simp[binOp,Op.intDiv,hb],h⟩
  ·rcases h with⟨rfl,h'⟩|⟨_,n,h1,h2⟩
   ·exact⟨_,kM rfl,h'⟩
   ·exact⟨n,h1,h2⟩
  all_goals exact h
 shf:=λop k a k' b K h=>h
 cmp:=by
  intro op a b K h
  have h:cmpP op a b K:=h
  cases op<;>simp only[cmpP]at h<;>exact⟨_,rfl,h⟩
 eqs:=λl K h=>h
 conv:=λk a K h=>h
 sel:=λt a b K h=>h
 opt:=λo K h=>h
 chk:=λv K h=>h
 unI:=by
  intro ls K h
  match ls,h with
  | .i n :: r,h=>exact⟨n,r,rfl,h⟩
 unB:=by
  intro ls K h
  match ls,h with
  | .b n :: r,h=>exact⟨n,r,rfl,h⟩
 unV:=by
  intro ls K h
  match ls,h with
  | .v n :: r,h=>exact⟨n,r,rfl,h⟩
 un0:=by
  intro ls K h
  match ls,h with
  | [],h=>exact⟨rfl,h⟩
 ucI:=by
  intro k ls K h
  match ls,h with
  | .int k' n :: r,h=>
   obtain⟨rfl,h⟩ : k=k'/\K n r:=h
   exact⟨n,r,rfl,h⟩
 ucB:=by
  intro ls K h
  match ls,h with
  | .bool n :: r,h=>exact⟨n,r,rfl,h⟩
 ucV:=by
  intro ls K h
  match ls,h with
  |n :: r,h=>exact⟨n,r,rfl,h⟩
 uc0:=by
  intro ls K h
  match ls,h with
  | [],h=>exact⟨rfl,h⟩
 peek:=λf h K hk=>hk
 heap:=by
  intro f h K hk
  obtain⟨acts,cs,h1,h2⟩:=hk
  exact⟨acts,cs,_,h1,rfl,h2⟩
 new:=λo h K hk=>⟨_,rfl,hk⟩
 call:=λg ls h K hk=>hk
 callv:=λv args hs h K hk=>hk
 join:=λb m h=>h
 loop:=by
  intro F ls h hk
  obtain⟨n,hk⟩:=hk
  exact⟨itP F,λls h=>(id:False->False),λn ls h=>rfl,n,hk⟩
 rfun:=by
  intro κ v vals h K hk
  obtain⟨g,first,cap,r,H1,lp,h1,h2,h3,h4,h5⟩:=hk
  exact⟨g,first,cap,r,H1,lp,_,h1,h2,h3,h4,rfl,h5⟩
 pend:=by
  intro pd kn kr ks h
  have h:pendP pd kn kr ks:=h
  unfold pendP at h
  split at h
  ·exact .inl ⟨rfl,h⟩
  ·exact .inr (.inl ⟨rfl,h⟩)
  ·obtain⟨x,h1,h2⟩:=h
   exact .inr (.inr ⟨_,x,rfl,h1,h2⟩)
  ·exact h.elim
 lp1:=by
  intro l h K hk
  obtain⟨lp,h1,h2,h3⟩:=hk
  exact⟨lp,_,h1,h2,rfl,h3⟩
 lp2:=by
  intro l j h K hk
  obtain⟨lp,h1,h2⟩:=hk
  exact⟨lp,_,h1,rfl,h2⟩
theorem SL.plain_scalar{l:SL}{k:LK}(h:l.is k=true)(hk:k.plain=true):scalar l.val=true:=by
 cases l<;>cases k<;>first|(cases hk;done)|(cases h;done)|rfl
theorem iA:∀ {cs:List SL} {ks:List LK},aD cs ks=true->ks.all LK.plain=true->(cs.map SL.val).all scalar=true
 | [],[],_,_=>rfl
 |c :: cs,k :: ks,h,hk=>by
  simp only[aD,qaa]at h
  simp only[qbv,qaa]at hk
  simp only[qau,qbv,qaa]
  exact⟨SL.plain_scalar h.1 hk.1,iA h.2 hk.2⟩
 | [],_ :: _,h,_=>by cases h
 |_ :: _,[],h,_=>by cases h
theorem S0.plain_flat1{x:S0}{k:SK}(h:x.is k=true)(hk:k.plain=true):dA x.val=true:=by
 cases x with
 |leaf l=>
  cases k with
  |leaf k=>
   have:=SL.plain_scalar h hk
   show dA l.val=true
   cases hv:l.val<;>rw[hv]at this<;>first|exact this|cases this
  |agg _=>cases h
 |agg cs=>
  cases k with
  |leaf k=>cases h
  |agg ks=>exact iA h hk
theorem gu{v:Value}(h:dA v=true):flat v=true:=by
 cases v<;>first|exact h|cases h
theorem fM:∀ {xs:List S0} {sks:List SK},bD xs sks=true->sks.all SK.plain=true->(af xs).all dA=true
 | [],[],_,_=>rfl
 |x :: xs,k :: ks,h,hk=>by
  simp only[bD,qaa]at h
  simp only[qbv,qaa]at hk
  simp only[af,qau,qbv,qaa]
  exact⟨S0.plain_flat1 h.1 hk.1,fM h.2 hk.2⟩
 | [],_ :: _,h,_=>by cases h
 |_ :: _,[],h,_=>by cases h
theorem rV{xs:List S0}{sks:List SK}(h:bD xs sks=true)(hk:sks.all SK.plain=true):(af xs).all flat=true:=by
 have:=fM h hk
 rw[qad]at this ⊢
 exact λv hv=>gu (this v hv)
theorem sD{vs:List Value}(h:vs.all dA=true):flat (dZ vs)=true:=by
 match vs,h with
 | [],_=>rfl
 | [v],h=>
  simp only[qbv,List.all_nil,qcX]at h
  exact gu h
 |a :: b :: l,h=>
  show flat (.tuple (a :: b :: l).toArray)=true
  simp only[flat,qaa]
  exact⟨by simp,h⟩
end
@[reducible] def KnoC (C:Cfg) (N:FuncId->Option Nat) [Val]:Kno:=⟨λf args r=>∀H,dP C f args H r H,λf args H r H'=>(N f=none∨(N f=some (2*args.length+1)/\H'=H))/\dP C f args H r H'⟩
section
variable [Val]
def Ct(C:Cfg)(N:FuncId->Option Nat)(Sg:FuncId->Option Sig)(g:FuncId)(ls rs:List Lf):Prop:=let _:Kno:=KnoC C N;∀H,bG C Sg g ls H rs H
theorem pD{C:Cfg}{N:FuncId->Option Nat}(hm:C.P.follows .mixedOrders=true){f:FuncId}{args:List Value}{H:List HObj}{r:Value}{H':List HObj}(h:let _:Kno:=KnoC C N;fD C f args H r H'):dP C f args H r H':=
 @uCall_ok _ _ (KnoC C N) hm (λ_ _ _ h=>h) (λ_ _ _ _ _ h=>h.2) _ _ _ _ _ h
theorem ct_of{C:Cfg}{N:FuncId->Option Nat}{Sg:FuncId->Option Sig}(hm:C.P.follows .mixedOrders=true)(hG:∀g vs,C.G g=some vs->vs.all gfl=true){g:FuncId}{sg:Sig}(hs:Sg g=some sg)(hp:sg.plain=true){ls rs:List Lf}{H':List HObj}
  (h:let _:Kno:=KnoC C N;bG C Sg g ls [] rs H'):Ct C N Sg g ls rs:=by
 let _:Kno:=KnoC C N
 obtain⟨sg',xs,ys,c1,c2,c3,c4⟩:=h
 rw[hs]at c1
 cases c1
 simp only[Sig.plain,qaa]at hp
 have ha:=rV c2.1 hp.1
 have hr:=sD (fM c3.1 hp.2)
 intro H
 exact⟨sg,xs,ys,hs,c2,c3,⟨0,.inl ⟨λH=>frame_ok hG (pD hm c4) ha hr H,rfl⟩⟩⟩
end
section
variable [Val] [Kno]
theorem bT{n:Int}(h1:-9223372036854775808<=n)(h2:n<=9223372036854775807):IntKind.wrap .i64 n=n:=by
 simp only[IntKind.wrap,IntKind.bits,IntKind.signed,qcW,ge_iff_le,decide_eq_true_eq]
 split<;>omega
theorem kX{n:Int}(h1:0<=n)(h2:n<=255):IntKind.wrap .u8 n=n:=by
 simp only[IntKind.wrap,IntKind.bits,IntKind.signed,Bool.false_and,qan,if_false]
 omega
end
end Sx
end Go.Am

/-
 CALLS THAT ONLY READ: slices under other names of their blocks;what a run over these blocks alone answers.
-/
namespace Go.Am
namespace Sx
section
variable [Val]
end
end Sx
end Go.Am

/-
 RUNS IN THE DIRECT STYLE: what the texts by program use,and what makes a table of runs true.
-/
set_option maxRecDepth 100000
namespace Go.Am
open Sx
abbrev FB:=List Lf->HTr->(List Lf->HTr->RT)->RT
def nf:FB:=λ_ _ _=>none
def tell(rs:List Lf)(_:HTr):RT:=nE rs λrs=>some rs
def memo(g:FB):FB:=λls h K=>nE ls λls=>@Option.rec _ (λ_=>RT) none (λrs=>K rs h) (g ls .empty tell)
def fB{R:Type}(b:Bool)(k:Bool->R):R:=Bool.rec (k false) (k true) b
def flatI(v:Value):Bool:=match v with
 | .int _ _=>true
 | .bool _=>true
 |_=>false
def allR(c:Tr Value)(n:Nat):Bool:=@Nat.rec (λ_=>Bool) true (λi ih=>@Bool.rec (λ_=>Bool) false ih (flatI ((bc i).get nilV c))) n
def ext(h:HTr)(d:RT)(ls:List Lf):HTr->(List Lf->HTr->RT)->RT:=
 @List.rec Lf (λ_=>HTr->(List Lf->HTr->RT)->RT) (λh0 k=>k [] h0) (λx _ ih h0 k=>match x with
  | .i n=>fI n λn=>ih h0 λl h1=>k (.i n :: l) h1
  | .b t=>fB t λt=>ih h0 λl h1=>k (.b t :: l) h1
  | .v v=>match v with
   | .slice (some a) len cx=>match h.at a.block with
    |some (.t n e _ c)=>match tagB a.spot e,allR c n with
     |true,true=>il h0 (.t n e false c) λh1=>fN a.off λo=>fN len λlen=>fN cx λcx=>ih h1 λl h2=>k (.v (.slice (some ⟨h0.n,o,tag e⟩) len cx) :: l) h2
     |_,_=>d
    |_=>d
   |v=>match flat v with
    |true=>ih h0 λl h1=>k (.v v :: l) h1
    |false=>d) ls
abbrev cB(x y:RT)(b:Bool):RT:=@Bool.rec (λ_=>RT) x y b
theorem c2{A B Z:Sort _}{f g:A->B->Z}(h:f=g)(x0:A)(x1:B):f x0 x1=g x0 x1:=by rw[h]
theorem c3{A B C Z:Sort _}{f g:A->B->C->Z}(h:f=g)(x0:A)(x1:B)(x2:C):f x0 x1 x2=g x0 x1 x2:=by rw[h]
theorem c4{A B C D Z:Sort _}{f g:A->B->C->D->Z}(h:f=g)(x0:A)(x1:B)(x2:C)(x3:D):f x0 x1 x2 x3=g x0 x1 x2 x3:=by rw[h]
theorem c5{A B C D E Z:Sort _}{f g:A->B->C->D->E->Z}(h:f=g)(x0:A)(x1:B)(x2:C)(x3:D)(x4:E):f x0 x1 x2 x3 x4=g x0 x1 x2 x3 x4:=by rw[h]
theorem c6{A B C D E F Z:Sort _}{f g:A->B->C->D->E->F->Z}(h:f=g)(x0:A)(x1:B)(x2:C)(x3:D)(x4:E)(x5:F):f x0 x1 x2 x3 x4 x5=g x0 x1 x2 x3 x4 x5:=by rw[h]
theorem c7{A B C D E F G Z:Sort _}{f g:A->B->C->D->E->F->G->Z}(h:f=g)(x0:A)(x1:B)(x2:C)(x3:D)(x4:E)(x5:F)(x6:G):f x0 x1 x2 x3 x4 x5 x6=g x0 x1 x2 x3 x4 x5 x6:=by rw[h]
theorem c8{A B C D E F G H Z:Sort _}{f g:A->B->C->D->E->F->G->H->Z}(h:f=g)(x0:A)(x1:B)(x2:C)(x3:D)(x4:E)(x5:F)(x6:G)(x7:H):f x0 x1 x2 x3 x4 x5 x6 x7=g x0 x1 x2 x3 x4 x5 x6 x7:=by rw[h]
theorem c9{A B C D E F G H I Z:Sort _}{f g:A->B->C->D->E->F->G->H->I->Z}(h:f=g)(x0:A)(x1:B)(x2:C)(x3:D)(x4:E)(x5:F)(x6:G)(x7:H)(x8:I):f x0 x1 x2 x3 x4 x5 x6 x7 x8=g x0 x1 x2 x3 x4 x5 x6 x7 x8:=by rw[h]
abbrev r0(X:RT)(ls:List Lf):RT:=@List.rec Lf (λ_=>RT) X (λ_ _ _=>none) ls
def lookF(l:List (Nat×FB))(g:Nat)(d:FB):FB:=@List.rec _ (λ_=>FB) d (λp _ ih=>@Bool.rec (λ_=>FB) ih p.2 (Nat.beq p.1 g)) l
def tblF(l:List (Nat×FB))(c:aa):aa:=λck=>match ck with
 | .f g=>lookF l g (c (.f g))
 | .y κ vs i=>c (.y κ vs i)
section
variable {Sg:FuncId->Option Sig} {T:Nat->Site} {call:aa}
theorem q_cond{t:Bool}{X Y X' Y':RT}(h1:X=X')(h2:Y=Y'):(BA Sg T call).cond t X Y = @Bool.rec (λ_=>RT) Y' X' t:=by subst h1 h2;rfl
theorem q_eql{a b:Int}{K:Bool->RT}{X:RT}(h:K (eqZK a b)=X):(BA Sg T call).cmp .eql a b K=X:=h
theorem q_opt{α:Type}{o:Option α}{K K':α->RT}(h:∀n,K n=K' n):(BA Sg T call).opt o K=optB o K':=by obtain rfl:K=K':=funext h;rfl
theorem kH{v:Value}{K K':RT}(h:K=K'):(BA Sg T call).chk v K=chkB v K':=by subst h;rfl
theorem lq{ls:List Lf}{K K':Int->List Lf->RT}(h:∀n r,K n r=K' n r):(BA Sg T call).unI ls K=unIB ls K':=by obtain rfl:K=K':=funext λn=>funext λr=>h n r;rfl
theorem q_unV{ls:List Lf}{K K':Value->List Lf->RT}(h:∀n r,K n r=K' n r):(BA Sg T call).unV ls K=unVB ls K':=by obtain rfl:K=K':=funext λn=>funext λr=>h n r;rfl
theorem q_un0{ls:List Lf}{K K':RT}(h:K=K'):(BA Sg T call).un0 ls K=un0B ls K':=by subst h;rfl
theorem kI{k:IntKind}{ls:List Value}{K K':Int->List Value->RT}(h:∀n r,K n r=K' n r):(BA Sg T call).ucI k ls K=ucIB k ls K':=by obtain rfl:K=K':=funext λn=>funext λr=>h n r;rfl
theorem kJ{ls:List Value}{K K':Value->List Value->RT}(h:∀n r,K n r=K' n r):(BA Sg T call).ucV ls K=ucVB ls K':=by obtain rfl:K=K':=funext λn=>funext λr=>h n r;rfl
theorem po{ls:List Value}{K K':RT}(h:K=K'):(BA Sg T call).uc0 ls K=uc0B ls K':=by subst h;rfl
theorem q_lg{C:Cfg}{n:Nat}{p:Value}{h:HTr}{K K':List Value->RT}(hK:∀l,K l=K' l):(BA Sg T call).peek (.lg C n p) h K=lgB C n p h K':=by obtain rfl:K=K':=funext hK;rfl
theorem q_st{p:Value}{new:List Value}{h:HTr}{K K':List Value->HTr->RT}(hK:∀l h,K l h=K' l h):(BA Sg T call).heap (.st p new) h K=stB p new h K':=by obtain rfl:K=K':=funext λl=>funext λh=>hK l h;rfl
theorem q_ap{C:Cfg}{esz bytes:Nat}{s x:Value}{h:HTr}{K K':List Value->HTr->RT}(hK:∀l h,K l h=K' l h):(BA Sg T call).heap (.ap C esz bytes s x) h K=apB T C esz bytes s x h K':=by obtain rfl:K=K':=funext λl=>funext λh=>hK l h;rfl
theorem q_new{o:HObj}{h:HTr}{K K':Nat->HTr->RT}(hK:∀l h,K l h=K' l h):(BA Sg T call).new o h K=newB o h K':=by obtain rfl:K=K':=funext λl=>funext λh=>hK l h;rfl
theorem q_lp1{l:Nat}{h:HTr}{K K':HTr->RT}(hK:∀h,K h=K' h):(BA Sg T call).lp1 l h K=lp1B l h K':=by obtain rfl:K=K':=funext hK;rfl
theorem q_lp2{l:Nat}{j:Option Code}{h:HTr}{K K':HTr->RT}(hK:∀h,K h=K' h):(BA Sg T call).lp2 l j h K=lp2B l j h K':=by obtain rfl:K=K':=funext hK;rfl
end
section
variable [Val] [Kno]
def eqLs(a:List Lf):List Lf->Bool:=@List.rec _ (λ_=>List Lf->Bool) (λb=>@List.rec _ (λ_=>Bool) true (λ_ _ _=>false) b) (λx _ ih b=>@List.rec _ (λ_=>Bool) false (λy m _=>@Bool.rec (λ_=>Bool) false (ih m) (eqLf x y)) b) a
theorem si{x y:Lf}(h:eqLf x y=true):x=y:=by
 cases x<;>cases y<;>first|(cases h;done)|skip
 ·have h:eqZK _ _=true:=h
  rw[pP,beq_iff_eq]at h;rw[h]
 ·rename_i a b;cases a<;>cases b<;>first|rfl|cases h
theorem lJ:∀ {a b:List Lf},eqLs a b=true->a=b
 | [],[],_=>rfl
 |x :: a,y :: b,h=>by
  have h:@Bool.rec (λ_=>Bool) false (eqLs a b) (eqLf x y)=true:=h
  cases e:eqLf x y with
  |true=>rw[e]at h;rw[si e,lJ h]
  |false=>rw[e]at h;cases h
 | [],_ :: _,h=>by cases h
 |_ :: _,[],h=>by cases h
abbrev KN1:=Nat×List Lf×List Lf
def pF(C:Cfg)(Sg:FuncId->Option Sig)(T:Nat->Site)(k:Nat)(g:FB):Prop:=∀ls h K w,cL ls->g ls h K=some w->∃rs h',bG C Sg k ls (absH T (toL h)) rs (absH T (toL h'))/\K rs h'=some w
def AllK(C:Cfg)(Sg:FuncId->Option Sig)(l:List KN1):Prop:=∀p∈l,∀H,bG C Sg p.1 p.2.1 H p.2.2 H
theorem AllK.nil{C:Cfg}{Sg:FuncId->Option Sig}:AllK C Sg []:=λ_ h=>by cases h
theorem AllK.cons{C:Cfg}{Sg:FuncId->Option Sig}{f:Nat}{ls rs:List Lf}{l:List KN1}(h:∀H,bG C Sg f ls H rs H)(hl:AllK C Sg l):AllK C Sg ((f,ls,rs) :: l):=by
 intro p hp
 rcases qao.1 hp with rfl|hp
 ·exact h
 ·exact hl p hp
theorem AllK.app{C:Cfg}{Sg:FuncId->Option Sig}{l m:List KN1}(h:AllK C Sg l)(hm:AllK C Sg m):AllK C Sg (l++m):=by
 intro p hp
 rcases qax.1 hp with hp|hp
 ·exact h p hp
 ·exact hm p hp
theorem qZ{C:Cfg}{Sg:FuncId->Option Sig}{T:Nat->Site}{g:Nat}{d:FB}(hd:pF C Sg T g d):∀ {l:List (Nat×FB)},(∀p∈l,pF C Sg T p.1 p.2)->pF C Sg T g (lookF l g d)
 | [],_=>hd
 |p :: l,h=>by
  have e:lookF (p :: l) g d = @Bool.rec (λ_=>FB) (lookF l g d) p.2 (Nat.beq p.1 g):=rfl
  rw[e]
  cases hb:Nat.beq p.1 g with
  |true=>
   have:=qac hb
   subst this
   exact h p qaM
  |false=>exact qZ hd (λq hq=>h q (qas _ hq))
theorem ae{C:Cfg}{Sg:FuncId->Option Sig}{T:Nat->Site}{c:aa}(hc:CallBOk C Sg T c){l:List (Nat×FB)}(h:∀p∈l,pF C Sg T p.1 p.2):CallBOk C Sg T (tblF l c):=
 ⟨λg ls hh K w hls hk=>qZ (λls h K w=>hc.f g ls h K w) h ls hh K w hls hk,λκ vs l ls h K w st pd xs e hy hk=>hc.y κ vs l ls h K w st pd xs e hy hk⟩
def YOk(C:Cfg)(Sg:FuncId->Option Sig)(T:Nat->Site)(κ:Nat)(g:List Value->Nat->FB):Prop:=∀vs l ls h K w st pd xs,h.at l=some (.lp κ st pd vs)->Told ((T κ).params.map (·.2)) ls xs->g vs l ls h K=some w->
  ∃b h',gN C l (af xs) (absH T (toL h)) (.bool b) (absH T (toL h'))/\K [.b b] h'=some w
def lookY(l:List (Nat×(List Value->Nat->FB)))(κ:Nat)(d:List Value->Nat->FB):List Value->Nat->FB:=@List.rec _ (λ_=>List Value->Nat->FB) d (λp _ ih=>@Bool.rec (λ_=>List Value->Nat->FB) ih p.2 (Nat.beq p.1 κ)) l
theorem re{C:Cfg}{Sg:FuncId->Option Sig}{T:Nat->Site}{g:Nat}{d:List Value->Nat->FB}(hd:YOk C Sg T g d):∀ {l:List (Nat×(List Value->Nat->FB))},(∀p∈l,YOk C Sg T p.1 p.2)->YOk C Sg T g (lookY l g d)
 | [],_=>hd
 |p :: l,h=>by
  have e:lookY (p :: l) g d = @Bool.rec (λ_=>List Value->Nat->FB) (lookY l g d) p.2 (Nat.beq p.1 g):=rfl
  rw[e]
  cases hb:Nat.beq p.1 g with
  |true=>
   have:=qac hb
   subst this
   exact h p qaM
  |false=>exact re hd (λq hq=>h q (qas _ hq))
theorem tell_eq:tell=λrs _=>some rs:=by
 funext rs h
 exact df rs _
theorem memo_ok{C:Cfg}{Sg:FuncId->Option Sig}{T:Nat->Site}(hpl:∀f sg ls rs H',Sg f=some sg->sg.plain=true->bG C Sg f ls [] rs H'->∀H,bG C Sg f ls H rs H)
  {k:Nat} {g:FB} {sg:Sig} (hg:pF C Sg T k g) (hs:Sg k=some sg) (hp:sg.plain=true):pF C Sg T k (memo g):=by
 intro ls h K w hls hk
 unfold memo at hk
 rw[df,tell_eq]at hk
 cases e:g ls .empty (λrs _=>some rs)with
 |none=>rw[e]at hk;cases hk
 |some rs=>
  rw[e]at hk
  obtain⟨rs',h',a1,a2⟩:=hg ls .empty _ rs hls e
  cases a2
  exact⟨rs,h,hpl k sg ls rs _ hs hp a1 _,hk⟩
end
end Go.Am

/-
 WHAT A ROUND OF EACH LOOP OVER AN ITERATOR DOES,BY PROGRAM.
-/
set_option maxRecDepth 100000
namespace Go.Am
open Sx Go.Proofs
section
variable {R HT:Type} (A:Alg R HT)
def y160(vs:List Value)(lp:Nat)(ls:List Lf)(h:HT)(K:List Lf->HT->R):R:=A.ucV vs (λJ a2=>A.chk J ( A.ucV a2 (λO a3=>A.chk O ( A.uc0 a3 ( A.unI ls (λn12 a4=>A.unI a4 (λn14 a5=>A.unV a5 (λa6 a7=>A.unI a7 (λn18 a8=>A.unI a8 (λn20 a9=>A.unI a9 (λn22 b0=>A.unV b0 (λb1 b2=>A.un0 b2 ( A.new (.cells [(.int .i64 0),(.int .i64 0),(.slice none 0 0),(.int .u8 0),(.int .i64 0),(.int .i64 0),(.slice none 0 0)] 7 true) h (λU b3=>A.heap (.st (.pointer (some ⟨U,0,none⟩)) [(.int .i64 n12),(.int .i64 n14),a6,(.int .u8 n18),(.int .i64 n20),(.int .i64 n22),b1]) b3 (λd4 b4=>A.lp1 lp b4 (λV=>A.peek (.lg cc 7 (.pointer (some ⟨U,0,none⟩))) V (λb5=>A.ucI .i64 b5 (λn32 b6=>A.ucI .i64 b6 (λn34 b7=>A.ucV b7 (λa0 b8=>A.chk a0 ( A.ucI .u8 b8 (λn38 b9=>A.ucI .i64 b9 (λn40 c0=>A.ucI .i64 c0 (λn42 c1=>A.ucV c1 (λa1 d0=>A.chk a1 ( A.uc0 d0 ( A.heap (.st J [(.int .i64 n32),(.int .i64 n34),a0,(.int .u8 n38),(.int .i64 n40),(.int .i64 n42),a1]) V (λd5 d1=>A.heap (.st O [(.int .i64 0)]) d1 (λd6 d2=>A.lp2 lp (some .ret) d2 (λd3=>K [(.b false)] d3))))))))))))))))))))))))))))))
def y256(vs:List Value)(lp:Nat)(ls:List Lf)(h:HT)(K:List Lf->HT->R):R:=A.ucV vs (λV a6=>A.chk V ( A.ucV a6 (λJ a7=>A.chk J ( A.uc0 a7 ( A.unI ls (λn12 a8=>A.unI a8 (λn14 a9=>A.unV a9 (λb0 b1=>A.unI b1 (λn18 b2=>A.unI b2 (λn20 b3=>A.unI b3 (λn22 b4=>A.unV b4 (λb5 b6=>A.un0 b6 ( A.new (.cells [(.int .i64 0),(.int .i64 0),(.slice none 0 0),(.int .u8 0),(.int .i64 0),(.int .i64 0),(.slice none 0 0)] 7 true) h (λa0 b7=>A.heap (.st (.pointer (some ⟨a0,0,none⟩)) [(.int .i64 n12),(.int .i64 n14),b0,(.int .u8 n18),(.int .i64 n20),(.int .i64 n22),b5]) b7 (λg4 b8=>A.lp1 lp b8 (λU=>A.peek (.lg cc 1 J) U (λb9=>A.ucV b9 (λa1 c0=>A.chk a1 ( A.uc0 c0 ( A.peek (.lg cc 7 (.pointer (some ⟨a0,0,none⟩))) U (λc1=>A.ucI .i64 c1 (λn35 d0=>A.ucI .i64 d0 (λn37 d1=>A.ucV d1 (λa2 d2=>A.chk a2 ( A.ucI .u8 d2 (λn41 d3=>A.ucI .i64 d3 (λn43 d4=>A.ucI .i64 d4 (λn45 d5=>A.ucV d5 (λa3 d6=>A.chk a3 ( A.uc0 d6 ( A.new (.cells [(.int .i64 n35),(.int .i64 n37),a2,(.int .u8 n41),(.int .i64 n43),(.int .i64 n45),a3] 7 true) U (λd7 d8=>A.heap (.ap cc 7 88 a1 (.slice (some ⟨d7,0,(some 17)⟩) 1 2)) d8 (λd9 e0=>A.ucV d9 (λa4 e1=>A.chk a4 ( A.uc0 e1 ( A.heap (.st J [a4]) e0 (λg5 O=>A.peek (.lg cc 1 J) O (λe2=>A.ucV e2 (λa5 f0=>A.chk a5 ( A.uc0 f0 ( A.opt (lenS a5) (λf1=>A.peek (.lg cc 1 V) O (λf2=>A.ucI .i64 f2 (λgl g0=>A.uc0 g0 ( A.cmp .eql f1 gl (λg1=>A.cond g1 ( A.lp2 lp (some (.exit 0)) O (λg2=>K [(.b false)] g2)) ( A.lp2 lp none O (λg3=>K [(.b true)] g3))))))))))))))))))))))))))))))))))))))))))))))))
end
theorem ey160:@y160=λR HT A vs lp ls h K=>oz A (xc 0) ab drN (ac 160) vs lp ls h K:=by kernel_rfl
theorem ey256:@y256=λR HT A vs lp ls h K=>oz A (xc 0) ab drN (ac 256) vs lp ls h K:=by kernel_rfl
end Go.Am

/-
 THE FUNCTIONS IN THE DIRECT STYLE OF RUNS,BY PROGRAM;THE TABLE OF RUNS.
-/
set_option maxRecDepth 100000
namespace Go.Am
open Sx Go.Proofs
instance val0 : Val := ⟨λ_ => 0⟩
instance kno0:Kno:=KnoC cc neuN
theorem mixed:cc.P.follows .mixedOrders=true:=by kernel_rfl
theorem pV(g:Nat)(vs:List Value)(h:cc.G g=some vs):vs.all gfl=true:=by
 unfold cc at h
 simp only at h
 split at h<;>first|(cases h;done)|(obtain rfl:=qai h;kernel_rfl)
theorem qG:DrOk cc drN:=drOf_ok neuN_ok (λ_ _ _ _ _ (h:_/\_)=>h.1)
abbrev Ent(k:Nat)(g:FB):Prop:=pF cc ab ac k g
abbrev Cok(c:aa):Prop:=CallBOk cc ab ac c
theorem rA(f:FuncId)(sg:Sig)(ls rs:List Lf)(H':List HObj)(hs:ab f=some sg)(hp:sg.plain=true)(hc:bG cc ab f ls [] rs H'):∀H,bG cc ab f ls H rs H:=ct_of mixed pV hs hp hc
theorem ent_of{k:Nat}{g:aa->FB}{f:Alg RT HTr->FB}{ct:aa->aa}{fn:Fn1}(h0:g=λc=>f (BA ab ac (ct c)))(h2:f=λA ls h K=>ao A (xc k) ab drN fn ls h K)(h3:FnIs (xc k) ab k fn){c:aa}(hc:Cok (ct c)):Ent k (g c):=by
 intro ls h K w hls hk
 rw[h0,h2]at hk
 obtain⟨rs,h',a1,_,a3⟩:=mY (BA_ok (w:=w) hc) qG h3 hls hk
 exact⟨rs,h',a1,a3⟩
theorem au{k:Nat}{g:aa->FB}{f:Alg RT HTr->FB}{ct:aa->aa}{fn:Fn1}(h2:∀c ls h K,f (BA ab ac (ct c)) ls h K=g c ls h K)(h3:f=λA ls h K=>ao A (xc k) ab drN fn ls h K)(h4:FnIs (xc k) ab k fn){c:aa}(hc:Cok (ct c)):Ent k (g c):=
 ent_of (g:=g) (ct:=ct) (funext λc=>funext λls=>funext λh=>funext λK=>(h2 c ls h K).symm) h3 h4 hc
theorem aN:∀p∈([]:List (Nat×FB)),Ent p.1 p.2:=λ_ h=>by cases h
theorem aC{k:Nat}{g:FB}{l:List (Nat×FB)}(h:Ent k g)(t:∀p∈l,Ent p.1 p.2):∀p∈(k,g) :: l,Ent p.1 p.2:=λp hp=>by
 rcases qao.1 hp with rfl|hp
 ·exact h
 ·exact t p hp
theorem ay{k:Nat}{g:FB}{sg:Sig}(h:Ent k g)(h4:ab k=some sg)(h5:sg.plain=true):Ent k (memo g):=memo_ok rA h h4 h5
/-- crimp/sheets.Check -/
def ct65(c:aa):aa:=tblF [] c
def wr65(c:aa):FB:=f65 (BA ab ac (ct65 c))
def w65(c:aa):FB:=memo (wr65 c)
theorem ok65{c:aa}(hc:Cok c):Ent 65 (w65 c):=ay (au (f:=λA=>f65 A) (ct:=ct65) (λ_ _ _ _=>rfl) (congrFun (congrFun e65 RT) HTr) i65 (ae hc aN)) rfl (by kernel_rfl)
/-- (crimp/sheets.Sheet).has -/
def ct66(c:aa):aa:=tblF [] c
def wr66(c:aa):FB:=f66 (BA ab ac (ct66 c))
def w66(c:aa):FB:=memo (wr66 c)
theorem ok66{c:aa}(hc:Cok c):Ent 66 (w66 c):=ay (au (f:=λA=>f66 A) (ct:=ct66) (λ_ _ _ _=>rfl) (congrFun (congrFun e66 RT) HTr) i66 (ae hc aN)) rfl (by kernel_rfl)
/-- (crimp/sheets.Sheet).cell -/
def ct67(c:aa):aa:=tblF [] c
def wr67(c:aa):FB:=f67 (BA ab ac (ct67 c))
def w67(c:aa):FB:=memo (wr67 c)
theorem ok67{c:aa}(hc:Cok c):Ent 67 (w67 c):=ay (au (f:=λA=>f67 A) (ct:=ct67) (λ_ _ _ _=>rfl) (congrFun (congrFun e67 RT) HTr) i67 (ae hc aN)) rfl (by kernel_rfl)
/-- crimp/sheets.Cell -/
def ct36(c:aa):aa:=tblF [(65,w65 c),(66,w66 c),(67,w67 c)] c
def wr36(c:aa):FB:=f36 (BA ab ac (ct36 c))
def w36(c:aa):FB:=memo (wr36 c)
theorem ok36{c:aa}(hc:Cok c):Ent 36 (w36 c):=ay (au (f:=λA=>f36 A) (ct:=ct36) (λ_ _ _ _=>rfl) (congrFun (congrFun e36 RT) HTr) i36 (ae hc (aC (ok65 hc) (aC (ok66 hc) (aC (ok67 hc) aN))))) rfl (by kernel_rfl)
/-- crimp/moves.beyond -/
def ct80(c:aa):aa:=tblF [] c
def wr80(c:aa):FB:=f80 (BA ab ac (ct80 c))
def w80(c:aa):FB:=memo (wr80 c)
theorem ok80{c:aa}(hc:Cok c):Ent 80 (w80 c):=ay (au (f:=λA=>f80 A) (ct:=ct80) (λ_ _ _ _=>rfl) (congrFun (congrFun e80 RT) HTr) i80 (ae hc aN)) rfl (by kernel_rfl)
/-- crimp/moves.Check -/
def ct52(c:aa):aa:=tblF [(80,w80 c)] c
def wr52(c:aa):FB:=f52 (BA ab ac (ct52 c))
def w52(c:aa):FB:=memo (wr52 c)
theorem ok52{c:aa}(hc:Cok c):Ent 52 (w52 c):=ay (au (f:=λA=>f52 A) (ct:=ct52) (λ_ _ _ _=>rfl) (congrFun (congrFun e52 RT) HTr) i52 (ae hc (aC (ok80 hc) aN))) rfl (by kernel_rfl)
/-- crimp/cells.Check -/
def ct68(c:aa):aa:=tblF [] c
def wr68(c:aa):FB:=f68 (BA ab ac (ct68 c))
def w68(c:aa):FB:=memo (wr68 c)
theorem ok68{c:aa}(hc:Cok c):Ent 68 (w68 c):=ay (au (f:=λA=>f68 A) (ct:=ct68) (λ_ _ _ _=>rfl) (congrFun (congrFun e68 RT) HTr) i68 (ae hc aN)) rfl (by kernel_rfl)
/-- crimp/cells.middle -/
def ct95(c:aa):aa:=tblF [] c
def wr95(c:aa):FB:=f95 (BA ab ac (ct95 c))
def w95(c:aa):FB:=memo (wr95 c)
theorem ok95{c:aa}(hc:Cok c):Ent 95 (w95 c):=ay (au (f:=λA=>f95 A) (ct:=ct95) (λ_ _ _ _=>rfl) (congrFun (congrFun e95 RT) HTr) i95 (ae hc aN)) rfl (by kernel_rfl)
/-- (crimp/moves.matrix).of -/
def ct86(c:aa):aa:=tblF [] c
def wr86(c:aa):FB:=f86 (BA ab ac (ct86 c))
def w86(c:aa):FB:=memo (wr86 c)
theorem ok86{c:aa}(hc:Cok c):Ent 86 (w86 c):=ay (au (f:=λA=>f86 A) (ct:=ct86) (λ_ _ _ _=>rfl) (congrFun (congrFun e86 RT) HTr) i86 (ae hc aN)) rfl (by kernel_rfl)
/-- crimp/lines.CheckPoint -/
def ct103(c:aa):aa:=tblF [] c
def wr103(c:aa):FB:=f103 (BA ab ac (ct103 c))
def w103(c:aa):FB:=memo (wr103 c)
theorem ok103{c:aa}(hc:Cok c):Ent 103 (w103 c):=ay (au (f:=λA=>f103 A) (ct:=ct103) (λ_ _ _ _=>rfl) (congrFun (congrFun e103 RT) HTr) i103 (ae hc aN)) rfl (by kernel_rfl)
/-- crimp/moves.Point -/
def ct96(c:aa):aa:=tblF [(52,w52 c),(86,w86 c),(103,w103 c)] c
def wr96(c:aa):FB:=f96 (BA ab ac (ct96 c))
def w96(c:aa):FB:=memo (wr96 c)
theorem ok96{c:aa}(hc:Cok c):Ent 96 (w96 c):=ay (au (f:=λA=>f96 A) (ct:=ct96) (λ_ _ _ _=>rfl) (congrFun (congrFun e96 RT) HTr) i96 (ae hc (aC (ok52 hc) (aC (ok86 hc) (aC (ok103 hc) aN))))) rfl (by kernel_rfl)
/-- crimp/cells.moved -/
def ct69(c:aa):aa:=tblF [(95,w95 c),(96,w96 c)] c
def wr69(c:aa):FB:=f69 (BA ab ac (ct69 c))
def w69(c:aa):FB:=memo (wr69 c)
theorem ok69{c:aa}(hc:Cok c):Ent 69 (w69 c):=ay (au (f:=λA=>f69 A) (ct:=ct69) (λ_ _ _ _=>rfl) (congrFun (congrFun e69 RT) HTr) i69 (ae hc (aC (ok95 hc) (aC (ok96 hc) aN)))) rfl (by kernel_rfl)
/-- crimp/cells.Move -/
def ct38(c:aa):aa:=tblF [(52,w52 c),(68,w68 c),(69,w69 c)] c
def wr38(c:aa):FB:=f38 (BA ab ac (ct38 c))
def w38(c:aa):FB:=memo (wr38 c)
theorem ok38{c:aa}(hc:Cok c):Ent 38 (w38 c):=ay (au (f:=λA=>f38 A) (ct:=ct38) (λ_ _ _ _=>rfl) (congrFun (congrFun e38 RT) HTr) i38 (ae hc (aC (ok52 hc) (aC (ok68 hc) (aC (ok69 hc) aN))))) rfl (by kernel_rfl)
/-- slices.IndexFunc[[]crimp/patterns.Crease,crimp/patterns.Crease] -/
def ct98(c:aa):aa:=tblF [] c
def wr98(c:aa):FB:=f98 (BA ab ac (ct98 c))
def w98(c:aa):FB:=wr98 c
theorem ok98{c:aa}(hc:Cok c):Ent 98 (w98 c):=au (f:=λA=>f98 A) (ct:=ct98) (λ_ _ _ _=>rfl) (congrFun (congrFun e98 RT) HTr) i98 (ae hc aN)
/-- slices.ContainsFunc[[]crimp/patterns.Crease,crimp/patterns.Crease] -/
def ct74(c:aa):aa:=tblF [(98,w98 c)] c
def wr74(c:aa):FB:=f74 (BA ab ac (ct74 c))
def w74(c:aa):FB:=wr74 c
theorem ok74{c:aa}(hc:Cok c):Ent 74 (w74 c):=au (f:=λA=>f74 A) (ct:=ct74) (λ_ _ _ _=>rfl) (congrFun (congrFun e74 RT) HTr) i74 (ae hc (aC (ok98 hc) aN))
/-- crimp/cells.Neighbour -/
def ct37(c:aa):aa:=tblF [(68,w68 c)] c
def wr37(c:aa):FB:=f37 (BA ab ac (ct37 c))
def w37(c:aa):FB:=memo (wr37 c)
theorem ok37{c:aa}(hc:Cok c):Ent 37 (w37 c):=ay (au (f:=λA=>f37 A) (ct:=ct37) (λ_ _ _ _=>rfl) (congrFun (congrFun e37 RT) HTr) i37 (ae hc (aC (ok68 hc) aN))) rfl (by kernel_rfl)
/-- crimp/sheets.Id -/
def ct70(c:aa):aa:=tblF [(65,w65 c),(68,w68 c)] c
def wr70(c:aa):FB:=f70 (BA ab ac (ct70 c))
def w70(c:aa):FB:=memo (wr70 c)
theorem ok70{c:aa}(hc:Cok c):Ent 70 (w70 c):=ay (au (f:=λA=>f70 A) (ct:=ct70) (λ_ _ _ _=>rfl) (congrFun (congrFun e70 RT) HTr) i70 (ae hc (aC (ok65 hc) (aC (ok68 hc) aN)))) rfl (by kernel_rfl)
/-- crimp/sheets.Neighbour -/
def ct39(c:aa):aa:=tblF [(36,w36 c),(37,w37 c),(70,w70 c)] c
def wr39(c:aa):FB:=f39 (BA ab ac (ct39 c))
def w39(c:aa):FB:=memo (wr39 c)
theorem ok39{c:aa}(hc:Cok c):Ent 39 (w39 c):=ay (au (f:=λA=>f39 A) (ct:=ct39) (λ_ _ _ _=>rfl) (congrFun (congrFun e39 RT) HTr) i39 (ae hc (aC (ok36 hc) (aC (ok37 hc) (aC (ok70 hc) aN))))) rfl (by kernel_rfl)
/-- crimp/sheets.Name -/
def ct77(c:aa):aa:=tblF [(39,w39 c)] c
def wr77(c:aa):FB:=f77 (BA ab ac (ct77 c))
def w77(c:aa):FB:=memo (wr77 c)
theorem ok77{c:aa}(hc:Cok c):Ent 77 (w77 c):=ay (au (f:=λA=>f77 A) (ct:=ct77) (λ_ _ _ _=>rfl) (congrFun (congrFun e77 RT) HTr) i77 (ae hc (aC (ok39 hc) aN))) rfl (by kernel_rfl)
/-- (crimp/patterns.Crease).unit -/
def ct78(c:aa):aa:=tblF [] c
def wr78(c:aa):FB:=f78 (BA ab ac (ct78 c))
def w78(c:aa):FB:=memo (wr78 c)
theorem ok78{c:aa}(hc:Cok c):Ent 78 (w78 c):=ay (au (f:=λA=>f78 A) (ct:=ct78) (λ_ _ _ _=>rfl) (congrFun (congrFun e78 RT) HTr) i78 (ae hc aN)) rfl (by kernel_rfl)
/-- crimp/patterns.order -/
def ct79(c:aa):aa:=tblF [] c
def wr79(c:aa):FB:=f79 (BA ab ac (ct79 c))
def w79(c:aa):FB:=memo (wr79 c)
theorem ok79{c:aa}(hc:Cok c):Ent 79 (w79 c):=ay (au (f:=λA=>f79 A) (ct:=ct79) (λ_ _ _ _=>rfl) (congrFun (congrFun e79 RT) HTr) i79 (ae hc aN)) rfl (by kernel_rfl)
/-- crimp/patterns.Check -/
def ct51(c:aa):aa:=tblF [(65,w65 c),(74,w74 c),(77,w77 c),(78,w78 c),(79,w79 c)] c
def wr51(c:aa):FB:=f51 (BA ab ac (ct51 c))
def w51(c:aa):FB:=wr51 c
theorem ok51{c:aa}(hc:Cok c):Ent 51 (w51 c):=au (f:=λA=>f51 A) (ct:=ct51) (λ_ _ _ _=>rfl) (congrFun (congrFun e51 RT) HTr) i51 (ae hc (aC (ok65 hc) (aC (ok74 hc) (aC (ok77 hc) (aC (ok78 hc) (aC (ok79 hc) aN))))))
/-- crimp/places.creased -/
def ct81(c:aa):aa:=tblF [] c
def wr81(c:aa):FB:=f81 (BA ab ac (ct81 c))
def w81(c:aa):FB:=wr81 c
theorem ok81{c:aa}(hc:Cok c):Ent 81 (w81 c):=au (f:=λA=>f81 A) (ct:=ct81) (λ_ _ _ _=>rfl) (congrFun (congrFun e81 RT) HTr) i81 (ae hc aN)
/-- crimp/sheets.Count -/
def ct82(c:aa):aa:=tblF [(65,w65 c)] c
def wr82(c:aa):FB:=f82 (BA ab ac (ct82 c))
def w82(c:aa):FB:=memo (wr82 c)
theorem ok82{c:aa}(hc:Cok c):Ent 82 (w82 c):=ay (au (f:=λA=>f82 A) (ct:=ct82) (λ_ _ _ _=>rfl) (congrFun (congrFun e82 RT) HTr) i82 (ae hc (aC (ok65 hc) aN))) rfl (by kernel_rfl)
/-- crimp/places.relative -/
def ct53(c:aa):aa:=tblF [(39,w39 c),(81,w81 c),(82,w82 c)] c
def wr53(c:aa):FB:=f53 (BA ab ac (ct53 c))
def w53(c:aa):FB:=wr53 c
theorem ok53{c:aa}(hc:Cok c):Ent 53 (w53 c):=au (f:=λA=>f53 A) (ct:=ct53) (λ_ _ _ _=>rfl) (congrFun (congrFun e53 RT) HTr) i53 (ae hc (aC (ok39 hc) (aC (ok81 hc) (aC (ok82 hc) aN))))
/-- crimp/moves.limited -/
def ct87(c:aa):aa:=tblF [(52,w52 c)] c
def wr87(c:aa):FB:=f87 (BA ab ac (ct87 c))
def w87(c:aa):FB:=memo (wr87 c)
theorem ok87{c:aa}(hc:Cok c):Ent 87 (w87 c):=ay (au (f:=λA=>f87 A) (ct:=ct87) (λ_ _ _ _=>rfl) (congrFun (congrFun e87 RT) HTr) i87 (ae hc (aC (ok52 hc) aN))) rfl (by kernel_rfl)
/-- crimp/moves.number -/
def ct88(c:aa):aa:=tblF [] c
def wr88(c:aa):FB:=f88 (BA ab ac (ct88 c))
def w88(c:aa):FB:=memo (wr88 c)
theorem ok88{c:aa}(hc:Cok c):Ent 88 (w88 c):=ay (au (f:=λA=>f88 A) (ct:=ct88) (λ_ _ _ _=>rfl) (congrFun (congrFun e88 RT) HTr) i88 (ae hc aN)) rfl (by kernel_rfl)
/-- (crimp/moves.matrix).then -/
def ct89(c:aa):aa:=tblF [(86,w86 c)] c
def wr89(c:aa):FB:=f89 (BA ab ac (ct89 c))
def w89(c:aa):FB:=memo (wr89 c)
theorem ok89{c:aa}(hc:Cok c):Ent 89 (w89 c):=ay (au (f:=λA=>f89 A) (ct:=ct89) (λ_ _ _ _=>rfl) (congrFun (congrFun e89 RT) HTr) i89 (ae hc (aC (ok86 hc) aN))) rfl (by kernel_rfl)
/-- crimp/moves.Then -/
def ct54(c:aa):aa:=tblF [(52,w52 c),(86,w86 c),(87,w87 c),(88,w88 c),(89,w89 c)] c
def wr54(c:aa):FB:=f54 (BA ab ac (ct54 c))
def w54(c:aa):FB:=memo (wr54 c)
theorem ok54{c:aa}(hc:Cok c):Ent 54 (w54 c):=ay (au (f:=λA=>f54 A) (ct:=ct54) (λ_ _ _ _=>rfl) (congrFun (congrFun e54 RT) HTr) i54 (ae hc (aC (ok52 hc) (aC (ok86 hc) (aC (ok87 hc) (aC (ok88 hc) (aC (ok89 hc) aN))))))) rfl (by kernel_rfl)
/-- crimp/places.both -/
def ct32(c:aa):aa:=tblF [(36,w36 c),(38,w38 c),(51,w51 c),(52,w52 c),(53,w53 c),(54,w54 c)] c
def wr32(c:aa):FB:=f32 (BA ab ac (ct32 c))
def w32(c:aa):FB:=wr32 c
theorem ok32{c:aa}(hc:Cok c):Ent 32 (w32 c):=au (f:=λA=>f32 A) (ct:=ct32) (λ_ _ _ _=>rfl) (congrFun (congrFun e32 RT) HTr) i32 (ae hc (aC (ok36 hc) (aC (ok38 hc) (aC (ok51 hc) (aC (ok52 hc) (aC (ok53 hc) (aC (ok54 hc) aN)))))))
/-- crimp/places.Images -/
def ct22(c:aa):aa:=tblF [(32,w32 c)] c
def wr22(c:aa):FB:=f22 (BA ab ac (ct22 c))
def w22(c:aa):FB:=wr22 c
theorem ok22{c:aa}(hc:Cok c):Ent 22 (w22 c):=au (f:=λA=>f22 A) (ct:=ct22) (λ_ _ _ _=>rfl) (congrFun (congrFun e22 RT) HTr) i22 (ae hc (aC (ok32 hc) aN))
/-- slices.insertionSortCmpFunc[crimp/api.Cell] -/
def ct55(c:aa):aa:=tblF [] c
def wr55(c:aa):FB:=f55 (BA ab ac (ct55 c))
def w55(c:aa):FB:=wr55 c
theorem ok55{c:aa}(hc:Cok c):Ent 55 (w55 c):=au (f:=λA=>f55 A) (ct:=ct55) (λ_ _ _ _=>rfl) (congrFun (congrFun e55 RT) HTr) i55 (ae hc aN)
/-- slices.pdqsortCmpFunc[crimp/api.Cell] -/
def ct33(c:aa):aa:=tblF [(55,w55 c)] c
def wr33(c:aa):FB:=f33 (BA ab ac (ct33 c))
def w33(c:aa):FB:=wr33 c
theorem ok33{c:aa}(hc:Cok c):Ent 33 (w33 c):=au (f:=λA=>f33 A) (ct:=ct33) (λ_ _ _ _=>rfl) (congrFun (congrFun e33 RT) HTr) i33 (ae hc (aC (ok55 hc) aN))
/-- math/bits.Len64 -/
def ct64(c:aa):aa:=tblF [] c
def wr64(c:aa):FB:=f64 (BA ab ac (ct64 c))
def w64(c:aa):FB:=memo (wr64 c)
theorem ok64{c:aa}(hc:Cok c):Ent 64 (w64 c):=ay (au (f:=λA=>f64 A) (ct:=ct64) (λ_ _ _ _=>rfl) (congrFun (congrFun e64 RT) HTr) i64 (ae hc aN)) rfl (by kernel_rfl)
/-- math/bits.Len -/
def ct34(c:aa):aa:=tblF [(64,w64 c)] c
def wr34(c:aa):FB:=f34 (BA ab ac (ct34 c))
def w34(c:aa):FB:=memo (wr34 c)
theorem ok34{c:aa}(hc:Cok c):Ent 34 (w34 c):=ay (au (f:=λA=>f34 A) (ct:=ct34) (λ_ _ _ _=>rfl) (congrFun (congrFun e34 RT) HTr) i34 (ae hc (aC (ok64 hc) aN))) rfl (by kernel_rfl)
/-- slices.SortFunc[[]crimp/api.Cell,crimp/api.Cell] -/
def ct23(c:aa):aa:=tblF [(33,w33 c),(34,w34 c)] c
def wr23(c:aa):FB:=f23 (BA ab ac (ct23 c))
def w23(c:aa):FB:=wr23 c
theorem ok23{c:aa}(hc:Cok c):Ent 23 (w23 c):=au (f:=λA=>f23 A) (ct:=ct23) (λ_ _ _ _=>rfl) (congrFun (congrFun e23 RT) HTr) i23 (ae hc (aC (ok33 hc) (aC (ok34 hc) aN)))
def ct31(c:aa):aa:=tblF [] c
def wr31(c:aa):FB:=f31 (BA ab ac (ct31 c))
def w31(c:aa):FB:=memo (wr31 c)
theorem ok31{c:aa}(hc:Cok c):Ent 31 (w31 c):=ay (au (f:=λA=>f31 A) (ct:=ct31) (λ_ _ _ _=>rfl) (congrFun (congrFun e31 RT) HTr) i31 (ae hc aN)) rfl (by kernel_rfl)
def ct20(c:aa):aa:=tblF [(31,w31 c)] c
def wr20(c:aa):FB:=f20 (BA ab ac (ct20 c))
def w20(c:aa):FB:=memo (wr20 c)
theorem ok20{c:aa}(hc:Cok c):Ent 20 (w20 c):=ay (au (f:=λA=>f20 A) (ct:=ct20) (λ_ _ _ _=>rfl) (congrFun (congrFun e20 RT) HTr) i20 (ae hc (aC (ok31 hc) aN))) rfl (by kernel_rfl)
/-- crimp/cells.order[int] -/
def ct19(c:aa):aa:=tblF [(20,w20 c)] c
def wr19(c:aa):FB:=f19 (BA ab ac (ct19 c))
def w19(c:aa):FB:=wr19 c
theorem ok19{c:aa}(hc:Cok c):Ent 19 (w19 c):=au (f:=λA=>f19 A) (ct:=ct19) (λ_ _ _ _=>rfl) (congrFun (congrFun e19 RT) HTr) i19 (ae hc (aC (ok20 hc) aN))
/-- crimp/cells.Compare -/
def ct14(c:aa):aa:=tblF [(19,w19 c)] c
def wr14(c:aa):FB:=f14 (BA ab ac (ct14 c))
def w14(c:aa):FB:=memo (wr14 c)
theorem ok14{c:aa}(hc:Cok c):Ent 14 (w14 c):=ay (au (f:=λA=>f14 A) (ct:=ct14) (λ_ _ _ _=>rfl) (congrFun (congrFun e14 RT) HTr) i14 (ae hc (aC (ok19 hc) aN))) rfl (by kernel_rfl)
/-- crimp/places.Places -/
def ct35(c:aa):aa:=tblF [(32,w32 c)] c
def wr35(c:aa):FB:=f35 (BA ab ac (ct35 c))
def w35(c:aa):FB:=wr35 c
theorem ok35{c:aa}(hc:Cok c):Ent 35 (w35 c):=au (f:=λA=>f35 A) (ct:=ct35) (λ_ _ _ _=>rfl) (congrFun (congrFun e35 RT) HTr) i35 (ae hc (aC (ok32 hc) aN))
/-- slices.BinarySearchFunc[[]crimp/patterns.Crease,crimp/patterns.Crease,crimp/sheets.Unit] -/
def ct104(c:aa):aa:=tblF [] c
def wr104(c:aa):FB:=f104 (BA ab ac (ct104 c))
def w104(c:aa):FB:=wr104 c
theorem ok104{c:aa}(hc:Cok c):Ent 104 (w104 c):=au (f:=λA=>f104 A) (ct:=ct104) (λ_ _ _ _=>rfl) (congrFun (congrFun e104 RT) HTr) i104 (ae hc aN)
/-- crimp/patterns.find -/
def ct97(c:aa):aa:=tblF [(104,w104 c)] c
def wr97(c:aa):FB:=f97 (BA ab ac (ct97 c))
def w97(c:aa):FB:=wr97 c
theorem ok97{c:aa}(hc:Cok c):Ent 97 (w97 c):=au (f:=λA=>f97 A) (ct:=ct97) (λ_ _ _ _=>rfl) (congrFun (congrFun e97 RT) HTr) i97 (ae hc (aC (ok104 hc) aN))
/-- crimp/patterns.at -/
def ct71(c:aa):aa:=tblF [(51,w51 c),(77,w77 c),(97,w97 c)] c
def wr71(c:aa):FB:=f71 (BA ab ac (ct71 c))
def w71(c:aa):FB:=wr71 c
theorem ok71{c:aa}(hc:Cok c):Ent 71 (w71 c):=au (f:=λA=>f71 A) (ct:=ct71) (λ_ _ _ _=>rfl) (congrFun (congrFun e71 RT) HTr) i71 (ae hc (aC (ok51 hc) (aC (ok77 hc) (aC (ok97 hc) aN))))
/-- crimp/patterns.Kind -/
def ct40(c:aa):aa:=tblF [(71,w71 c)] c
def wr40(c:aa):FB:=f40 (BA ab ac (ct40 c))
def w40(c:aa):FB:=wr40 c
theorem ok40{c:aa}(hc:Cok c):Ent 40 (w40 c):=au (f:=λA=>f40 A) (ct:=ct40) (λ_ _ _ _=>rfl) (congrFun (congrFun e40 RT) HTr) i40 (ae hc (aC (ok71 hc) aN))
/-- (*crimp/orders.problem).below -/
def ct44(c:aa):aa:=tblF [] c
def wr44(c:aa):FB:=f44 (BA ab ac (ct44 c))
def w44(c:aa):FB:=wr44 c
theorem ok44{c:aa}(hc:Cok c):Ent 44 (w44 c):=au (f:=λA=>f44 A) (ct:=ct44) (λ_ _ _ _=>rfl) (congrFun (congrFun e44 RT) HTr) i44 (ae hc aN)
/-- (*crimp/orders.problem).find -/
def ct72(c:aa):aa:=tblF [] c
def wr72(c:aa):FB:=f72 (BA ab ac (ct72 c))
def w72(c:aa):FB:=wr72 c
theorem ok72{c:aa}(hc:Cok c):Ent 72 (w72 c):=au (f:=λA=>f72 A) (ct:=ct72) (λ_ _ _ _=>rfl) (congrFun (congrFun e72 RT) HTr) i72 (ae hc aN)
/-- (*crimp/orders.problem).set -/
def ct49(c:aa):aa:=tblF [(72,w72 c)] c
def wr49(c:aa):FB:=f49 (BA ab ac (ct49 c))
def w49(c:aa):FB:=wr49 c
theorem ok49{c:aa}(hc:Cok c):Ent 49 (w49 c):=au (f:=λA=>f49 A) (ct:=ct49) (λ_ _ _ _=>rfl) (congrFun (congrFun e49 RT) HTr) i49 (ae hc (aC (ok72 hc) aN))
/-- (*crimp/orders.problem).bend -/
def ct41(c:aa):aa:=tblF [(44,w44 c),(49,w49 c)] c
def wr41(c:aa):FB:=f41 (BA ab ac (ct41 c))
def w41(c:aa):FB:=wr41 c
theorem ok41{c:aa}(hc:Cok c):Ent 41 (w41 c):=au (f:=λA=>f41 A) (ct:=ct41) (λ_ _ _ _=>rfl) (congrFun (congrFun e41 RT) HTr) i41 (ae hc (aC (ok44 hc) (aC (ok49 hc) aN)))
/-- crimp/moves.Flips -/
def ct42(c:aa):aa:=tblF [(52,w52 c)] c
def wr42(c:aa):FB:=f42 (BA ab ac (ct42 c))
def w42(c:aa):FB:=memo (wr42 c)
theorem ok42{c:aa}(hc:Cok c):Ent 42 (w42 c):=ay (au (f:=λA=>f42 A) (ct:=ct42) (λ_ _ _ _=>rfl) (congrFun (congrFun e42 RT) HTr) i42 (ae hc (aC (ok52 hc) aN))) rfl (by kernel_rfl)
/-- (*crimp/orders.problem).seams -/
def ct24(c:aa):aa:=tblF [(14,w14 c),(35,w35 c),(36,w36 c),(37,w37 c),(38,w38 c),(39,w39 c),(40,w40 c),(41,w41 c),(42,w42 c)] c
def wr24(c:aa):FB:=f24 (BA ab ac (ct24 c))
def w24(c:aa):FB:=wr24 c
theorem ok24{c:aa}(hc:Cok c):Ent 24 (w24 c):=au (f:=λA=>f24 A) (ct:=ct24) (λ_ _ _ _=>rfl) (congrFun (congrFun e24 RT) HTr) i24 (ae hc (aC (ok14 hc) (aC (ok35 hc) (aC (ok36 hc) (aC (ok37 hc) (aC (ok38 hc) (aC (ok39 hc) (aC (ok40 hc) (aC (ok41 hc) (aC (ok42 hc) aN))))))))))
/-- (*crimp/orders.problem).known -/
def ct73(c:aa):aa:=tblF [(72,w72 c)] c
def wr73(c:aa):FB:=f73 (BA ab ac (ct73 c))
def w73(c:aa):FB:=wr73 c
theorem ok73{c:aa}(hc:Cok c):Ent 73 (w73 c):=au (f:=λA=>f73 A) (ct:=ct73) (λ_ _ _ _=>rfl) (congrFun (congrFun e73 RT) HTr) i73 (ae hc (aC (ok72 hc) aN))
/-- (*crimp/orders.problem).equal -/
def ct43(c:aa):aa:=tblF [(72,w72 c),(73,w73 c)] c
def wr43(c:aa):FB:=f43 (BA ab ac (ct43 c))
def w43(c:aa):FB:=wr43 c
theorem ok43{c:aa}(hc:Cok c):Ent 43 (w43 c):=au (f:=λA=>f43 A) (ct:=ct43) (λ_ _ _ _=>rfl) (congrFun (congrFun e43 RT) HTr) i43 (ae hc (aC (ok72 hc) (aC (ok73 hc) aN)))
/-- (*crimp/orders.problem).rules -/
def ct25(c:aa):aa:=tblF [(43,w43 c),(44,w44 c)] c
def wr25(c:aa):FB:=f25 (BA ab ac (ct25 c))
def w25(c:aa):FB:=wr25 c
theorem ok25{c:aa}(hc:Cok c):Ent 25 (w25 c):=au (f:=λA=>f25 A) (ct:=ct25) (λ_ _ _ _=>rfl) (congrFun (congrFun e25 RT) HTr) i25 (ae hc (aC (ok43 hc) (aC (ok44 hc) aN)))
/-- crimp/orders.newProblem -/
def ct17(c:aa):aa:=tblF [(22,w22 c),(23,w23 c),(24,w24 c),(25,w25 c)] c
def wr17(c:aa):FB:=f17 (BA ab ac (ct17 c))
def w17(c:aa):FB:=wr17 c
theorem ok17{c:aa}(hc:Cok c):Ent 17 (w17 c):=au (f:=λA=>f17 A) (ct:=ct17) (λ_ _ _ _=>rfl) (congrFun (congrFun e17 RT) HTr) i17 (ae hc (aC (ok22 hc) (aC (ok23 hc) (aC (ok24 hc) (aC (ok25 hc) aN)))))
/-- (*crimp/orders.problem).all -/
def ct18(c:aa):aa:=tblF [] c
def wr18(c:aa):FB:=f18 (BA ab ac (ct18 c))
def w18(c:aa):FB:=wr18 c
theorem ok18{c:aa}(hc:Cok c):Ent 18 (w18 c):=au (f:=λA=>f18 A) (ct:=ct18) (λ_ _ _ _=>rfl) (congrFun (congrFun e18 RT) HTr) i18 (ae hc aN)
/-- slices.Clip[[]crimp/states.State,crimp/states.State] -/
def ct21(c:aa):aa:=tblF [] c
def wr21(c:aa):FB:=f21 (BA ab ac (ct21 c))
def w21(c:aa):FB:=wr21 c
theorem ok21{c:aa}(hc:Cok c):Ent 21 (w21 c):=au (f:=λA=>f21 A) (ct:=ct21) (λ_ _ _ _=>rfl) (congrFun (congrFun e21 RT) HTr) i21 (ae hc aN)
/-- crimp/orders.All -/
def ct16(c:aa):aa:=tblF [(17,w17 c),(18,w18 c),(21,w21 c)] c
def wr16(c:aa):FB:=f16 (BA ab ac (ct16 c))
def w16(c:aa):FB:=wr16 c
theorem ok16{c:aa}(hc:Cok c):Ent 16 (w16 c):=au (f:=λA=>f16 A) (ct:=ct16) (λ_ _ _ _=>rfl) (congrFun (congrFun e16 RT) HTr) i16 (ae hc (aC (ok17 hc) (aC (ok18 hc) (aC (ok21 hc) aN))))
/-- crimp/orders.Count -/
def ct7(c:aa):aa:=tblF [(16,w16 c)] c
def wr7(c:aa):FB:=f7 (BA ab ac (ct7 c))
def w7(c:aa):FB:=wr7 c
theorem ok7{c:aa}(hc:Cok c):Ent 7 (w7 c):=au (f:=λA=>f7 A) (ct:=ct7) (λ_ _ _ _=>rfl) (congrFun (congrFun e7 RT) HTr) i7 (ae hc (aC (ok16 hc) aN))
/-- crimp/crimplaw26.strip -/
def ct8(c:aa):aa:=tblF [] c
def wr8(c:aa):FB:=f8 (BA ab ac (ct8 c))
def w8(c:aa):FB:=wr8 c
theorem ok8{c:aa}(hc:Cok c):Ent 8 (w8 c):=au (f:=λA=>f8 A) (ct:=ct8) (λ_ _ _ _=>rfl) (congrFun (congrFun e8 RT) HTr) i8 (ae hc aN)
/-- crimp/moves.Identity -/
def ct9(c:aa):aa:=tblF [] c
def wr9(c:aa):FB:=f9 (BA ab ac (ct9 c))
def w9(c:aa):FB:=memo (wr9 c)
theorem ok9{c:aa}(hc:Cok c):Ent 9 (w9 c):=ay (au (f:=λA=>f9 A) (ct:=ct9) (λ_ _ _ _=>rfl) (congrFun (congrFun e9 RT) HTr) i9 (ae hc aN)) rfl (by kernel_rfl)
/-- crimp/orders.Solve -/
def ct10(c:aa):aa:=tblF [(17,w17 c),(18,w18 c)] c
def wr10(c:aa):FB:=f10 (BA ab ac (ct10 c))
def w10(c:aa):FB:=wr10 c
theorem ok10{c:aa}(hc:Cok c):Ent 10 (w10 c):=au (f:=λA=>f10 A) (ct:=ct10) (λ_ _ _ _=>rfl) (congrFun (congrFun e10 RT) HTr) i10 (ae hc (aC (ok17 hc) (aC (ok18 hc) aN)))
/-- crimp/crimplaw26.lives -/
def ct4(c:aa):aa:=tblF [(7,w7 c),(8,w8 c),(9,w9 c),(10,w10 c)] c
def wr4(c:aa):FB:=f4 (BA ab ac (ct4 c))
def w4(c:aa):FB:=memo (wr4 c)
theorem ok4{c:aa}(hc:Cok c):Ent 4 (w4 c):=ay (au (f:=λA=>f4 A) (ct:=ct4) (λ_ _ _ _=>rfl) (congrFun (congrFun e4 RT) HTr) i4 (ae hc (aC (ok7 hc) (aC (ok8 hc) (aC (ok9 hc) (aC (ok10 hc) aN)))))) rfl (by kernel_rfl)
/-- crimp/crimplaw26.compared -/
def ct5(c:aa):aa:=tblF [] c
def wr5(c:aa):FB:=f5 (BA ab ac (ct5 c))
def w5(c:aa):FB:=wr5 c
theorem ok5{c:aa}(hc:Cok c):Ent 5 (w5 c):=au (f:=λA=>f5 A) (ct:=ct5) (λ_ _ _ _=>rfl) (congrFun (congrFun e5 RT) HTr) i5 (ae hc aN)
/-- slices.CompareFunc[[]crimp/stacks.Stack,[]crimp/stacks.Stack,crimp/stacks.Stack,crimp/stacks.Stack] -/
def ct11(c:aa):aa:=tblF [] c
def wr11(c:aa):FB:=f11 (BA ab ac (ct11 c))
def w11(c:aa):FB:=wr11 c
theorem ok11{c:aa}(hc:Cok c):Ent 11 (w11 c):=au (f:=λA=>f11 A) (ct:=ct11) (λ_ _ _ _=>rfl) (congrFun (congrFun e11 RT) HTr) i11 (ae hc aN)
/-- crimp/orders.Compare -/
def ct6(c:aa):aa:=tblF [(11,w11 c)] c
def wr6(c:aa):FB:=f6 (BA ab ac (ct6 c))
def w6(c:aa):FB:=wr6 c
theorem ok6{c:aa}(hc:Cok c):Ent 6 (w6 c):=au (f:=λA=>f6 A) (ct:=ct6) (λ_ _ _ _=>rfl) (congrFun (congrFun e6 RT) HTr) i6 (ae hc (aC (ok11 hc) aN))
/-- crimp/crimplaw26.OrdersCompare -/
def ct3(c:aa):aa:=tblF [(4,w4 c),(5,w5 c),(6,w6 c)] c
def wr3(c:aa):FB:=f3 (BA ab ac (ct3 c))
def w3(c:aa):FB:=wr3 c
theorem ok3{c:aa}(hc:Cok c):Ent 3 (w3 c):=au (f:=λA=>f3 A) (ct:=ct3) (λ_ _ _ _=>rfl) (congrFun (congrFun e3 RT) HTr) i3 (ae hc (aC (ok4 hc) (aC (ok5 hc) (aC (ok6 hc) aN))))
def ct13(c:aa):aa:=tblF [] c
def wr13(c:aa):FB:=f13 (BA ab ac (ct13 c))
def w13(c:aa):FB:=wr13 c
theorem ok13{c:aa}(hc:Cok c):Ent 13 (w13 c):=au (f:=λA=>f13 A) (ct:=ct13) (λ_ _ _ _=>rfl) (congrFun (congrFun e13 RT) HTr) i13 (ae hc aN)
def ct15(c:aa):aa:=tblF [(20,w20 c)] c
def wr15(c:aa):FB:=f15 (BA ab ac (ct15 c))
def w15(c:aa):FB:=wr15 c
theorem ok15{c:aa}(hc:Cok c):Ent 15 (w15 c):=au (f:=λA=>f15 A) (ct:=ct15) (λ_ _ _ _=>rfl) (congrFun (congrFun e15 RT) HTr) i15 (ae hc (aC (ok20 hc) aN))
/-- crimp/orders.Compare$1 -/
def ct12(c:aa):aa:=tblF [(13,w13 c),(14,w14 c),(15,w15 c)] c
def wr12(c:aa):FB:=f12 (BA ab ac (ct12 c))
def w12(c:aa):FB:=wr12 c
theorem ok12{c:aa}(hc:Cok c):Ent 12 (w12 c):=au (f:=λA=>f12 A) (ct:=ct12) (λ_ _ _ _=>rfl) (congrFun (congrFun e12 RT) HTr) i12 (ae hc (aC (ok13 hc) (aC (ok14 hc) (aC (ok15 hc) aN))))
/-- (*crimp/orders.problem).all$1 -/
def ct26(c:aa):aa:=tblF [] c
def wr26(c:aa):FB:=f26 (BA ab ac (ct26 c))
def w26(c:aa):FB:=wr26 c
theorem ok26{c:aa}(hc:Cok c):Ent 26 (w26 c):=au (f:=λA=>f26 A) (ct:=ct26) (λ_ _ _ _=>rfl) (congrFun (congrFun e26 RT) HTr) i26 (ae hc aN)
/-- slices.Clip[[]crimp/patterns.Crease,crimp/patterns.Crease] -/
def ct45(c:aa):aa:=tblF [] c
def wr45(c:aa):FB:=f45 (BA ab ac (ct45 c))
def w45(c:aa):FB:=wr45 c
theorem ok45{c:aa}(hc:Cok c):Ent 45 (w45 c):=au (f:=λA=>f45 A) (ct:=ct45) (λ_ _ _ _=>rfl) (congrFun (congrFun e45 RT) HTr) i45 (ae hc aN)
/-- slices.Clone[[]crimp/patterns.Crease,crimp/patterns.Crease] -/
def ct46(c:aa):aa:=tblF [] c
def wr46(c:aa):FB:=f46 (BA ab ac (ct46 c))
def w46(c:aa):FB:=wr46 c
theorem ok46{c:aa}(hc:Cok c):Ent 46 (w46 c):=au (f:=λA=>f46 A) (ct:=ct46) (λ_ _ _ _=>rfl) (congrFun (congrFun e46 RT) HTr) i46 (ae hc aN)
def ct47(c:aa):aa:=tblF [] c
def wr47(c:aa):FB:=f47 (BA ab ac (ct47 c))
def w47(c:aa):FB:=wr47 c
theorem ok47{c:aa}(hc:Cok c):Ent 47 (w47 c):=au (f:=λA=>f47 A) (ct:=ct47) (λ_ _ _ _=>rfl) (congrFun (congrFun e47 RT) HTr) i47 (ae hc aN)
def ct48(c:aa):aa:=tblF [] c
def wr48(c:aa):FB:=f48 (BA ab ac (ct48 c))
def w48(c:aa):FB:=wr48 c
theorem ok48{c:aa}(hc:Cok c):Ent 48 (w48 c):=au (f:=λA=>f48 A) (ct:=ct48) (λ_ _ _ _=>rfl) (congrFun (congrFun e48 RT) HTr) i48 (ae hc aN)
/-- (*crimp/orders.problem).state -/
def ct28(c:aa):aa:=tblF [(45,w45 c),(46,w46 c),(47,w47 c),(48,w48 c)] c
def wr28(c:aa):FB:=f28 (BA ab ac (ct28 c))
def w28(c:aa):FB:=wr28 c
theorem ok28{c:aa}(hc:Cok c):Ent 28 (w28 c):=au (f:=λA=>f28 A) (ct:=ct28) (λ_ _ _ _=>rfl) (congrFun (congrFun e28 RT) HTr) i28 (ae hc (aC (ok45 hc) (aC (ok46 hc) (aC (ok47 hc) (aC (ok48 hc) aN)))))
/-- (*crimp/orders.problem).even -/
def ct50(c:aa):aa:=tblF [(73,w73 c)] c
def wr50(c:aa):FB:=f50 (BA ab ac (ct50 c))
def w50(c:aa):FB:=wr50 c
theorem ok50{c:aa}(hc:Cok c):Ent 50 (w50 c):=au (f:=λA=>f50 A) (ct:=ct50) (λ_ _ _ _=>rfl) (congrFun (congrFun e50 RT) HTr) i50 (ae hc (aC (ok73 hc) aN))
/-- (*crimp/orders.problem).place -/
def ct29(c:aa):aa:=tblF [(44,w44 c),(49,w49 c),(50,w50 c)] c
def wr29(c:aa):FB:=f29 (BA ab ac (ct29 c))
def w29(c:aa):FB:=wr29 c
theorem ok29{c:aa}(hc:Cok c):Ent 29 (w29 c):=au (f:=λA=>f29 A) (ct:=ct29) (λ_ _ _ _=>rfl) (congrFun (congrFun e29 RT) HTr) i29 (ae hc (aC (ok44 hc) (aC (ok49 hc) (aC (ok50 hc) aN))))
/-- (*crimp/orders.problem).remove -/
def ct30(c:aa):aa:=tblF [] c
def wr30(c:aa):FB:=f30 (BA ab ac (ct30 c))
def w30(c:aa):FB:=wr30 c
theorem ok30{c:aa}(hc:Cok c):Ent 30 (w30 c):=au (f:=λA=>f30 A) (ct:=ct30) (λ_ _ _ _=>rfl) (congrFun (congrFun e30 RT) HTr) i30 (ae hc aN)
/-- (*crimp/orders.problem).all$1$1 -/
def ct27(c:aa):aa:=tblF [(28,w28 c),(29,w29 c),(30,w30 c)] c
def wr27(c:aa):FB:=f27 (BA ab ac (ct27 c))
def w27(c:aa):FB:=wr27 c
theorem ok27{c:aa}(hc:Cok c):Ent 27 (w27 c):=au (f:=λA=>f27 A) (ct:=ct27) (λ_ _ _ _=>rfl) (congrFun (congrFun e27 RT) HTr) i27 (ae hc (aC (ok28 hc) (aC (ok29 hc) (aC (ok30 hc) aN))))
/-- crimp/patterns.isKind -/
def ct76(c:aa):aa:=tblF [] c
def wr76(c:aa):FB:=f76 (BA ab ac (ct76 c))
def w76(c:aa):FB:=memo (wr76 c)
theorem ok76{c:aa}(hc:Cok c):Ent 76 (w76 c):=ay (au (f:=λA=>f76 A) (ct:=ct76) (λ_ _ _ _=>rfl) (congrFun (congrFun e76 RT) HTr) i76 (ae hc aN)) rfl (by kernel_rfl)
/-- crimp/patterns.Check$1 -/
def ct75(c:aa):aa:=tblF [(76,w76 c)] c
def wr75(c:aa):FB:=f75 (BA ab ac (ct75 c))
def w75(c:aa):FB:=memo (wr75 c)
theorem ok75{c:aa}(hc:Cok c):Ent 75 (w75 c):=ay (au (f:=λA=>f75 A) (ct:=ct75) (λ_ _ _ _=>rfl) (congrFun (congrFun e75 RT) HTr) i75 (ae hc (aC (ok76 hc) aN))) rfl (by kernel_rfl)
/-- crimp/sheets.named -/
def ct99(c:aa):aa:=tblF [(65,w65 c),(67,w67 c),(77,w77 c)] c
def wr99(c:aa):FB:=f99 (BA ab ac (ct99 c))
def w99(c:aa):FB:=memo (wr99 c)
theorem ok99{c:aa}(hc:Cok c):Ent 99 (w99 c):=ay (au (f:=λA=>f99 A) (ct:=ct99) (λ_ _ _ _=>rfl) (congrFun (congrFun e99 RT) HTr) i99 (ae hc (aC (ok65 hc) (aC (ok67 hc) (aC (ok77 hc) aN))))) rfl (by kernel_rfl)
/-- crimp/lines.Check -/
def ct101(c:aa):aa:=tblF [] c
def wr101(c:aa):FB:=f101 (BA ab ac (ct101 c))
def w101(c:aa):FB:=memo (wr101 c)
theorem ok101{c:aa}(hc:Cok c):Ent 101 (w101 c):=ay (au (f:=λA=>f101 A) (ct:=ct101) (λ_ _ _ _=>rfl) (congrFun (congrFun e101 RT) HTr) i101 (ae hc aN)) rfl (by kernel_rfl)
/-- crimp/cells.Line -/
def ct100(c:aa):aa:=tblF [(68,w68 c),(101,w101 c)] c
def wr100(c:aa):FB:=f100 (BA ab ac (ct100 c))
def w100(c:aa):FB:=memo (wr100 c)
theorem ok100{c:aa}(hc:Cok c):Ent 100 (w100 c):=ay (au (f:=λA=>f100 A) (ct:=ct100) (λ_ _ _ _=>rfl) (congrFun (congrFun e100 RT) HTr) i100 (ae hc (aC (ok68 hc) (aC (ok101 hc) aN)))) rfl (by kernel_rfl)
/-- crimp/sheets.Line -/
def ct84(c:aa):aa:=tblF [(99,w99 c),(100,w100 c)] c
def wr84(c:aa):FB:=f84 (BA ab ac (ct84 c))
def w84(c:aa):FB:=memo (wr84 c)
theorem ok84{c:aa}(hc:Cok c):Ent 84 (w84 c):=ay (au (f:=λA=>f84 A) (ct:=ct84) (λ_ _ _ _=>rfl) (congrFun (congrFun e84 RT) HTr) i84 (ae hc (aC (ok99 hc) (aC (ok100 hc) aN)))) rfl (by kernel_rfl)
/-- crimp/moves.Of -/
def ct85(c:aa):aa:=tblF [(101,w101 c)] c
def wr85(c:aa):FB:=f85 (BA ab ac (ct85 c))
def w85(c:aa):FB:=memo (wr85 c)
theorem ok85{c:aa}(hc:Cok c):Ent 85 (w85 c):=ay (au (f:=λA=>f85 A) (ct:=ct85) (λ_ _ _ _=>rfl) (congrFun (congrFun e85 RT) HTr) i85 (ae hc (aC (ok101 hc) aN))) rfl (by kernel_rfl)
/-- crimp/places.relative$1 -/
def ct83(c:aa):aa:=tblF [(54,w54 c),(77,w77 c),(84,w84 c),(85,w85 c)] c
def wr83(c:aa):FB:=f83 (BA ab ac (ct83 c))
def w83(c:aa):FB:=wr83 c
theorem ok83{c:aa}(hc:Cok c):Ent 83 (w83 c):=au (f:=λA=>f83 A) (ct:=ct83) (λ_ _ _ _=>rfl) (congrFun (congrFun e83 RT) HTr) i83 (ae hc (aC (ok54 hc) (aC (ok77 hc) (aC (ok84 hc) (aC (ok85 hc) aN)))))
/-- crimp/patterns.find$1 -/
def ct105(c:aa):aa:=tblF [(78,w78 c),(79,w79 c)] c
def wr105(c:aa):FB:=f105 (BA ab ac (ct105 c))
def w105(c:aa):FB:=memo (wr105 c)
theorem ok105{c:aa}(hc:Cok c):Ent 105 (w105 c):=ay (au (f:=λA=>f105 A) (ct:=ct105) (λ_ _ _ _=>rfl) (congrFun (congrFun e105 RT) HTr) i105 (ae hc (aC (ok78 hc) (aC (ok79 hc) aN)))) rfl (by kernel_rfl)
theorem y_of{κ:Nat}{g:aa->List Value->Nat->FB}{ct:aa->aa}{c:aa}(h0:∀vs l ls h K,oz (BA ab ac (ct c)) (xc 0) ab drN (ac κ) vs l ls h K=g c vs l ls h K)(hc:Cok (ct c)):YOk cc ab ac κ (g c):=by
 intro vs l ls h K w st pd xs e hy hk
 rw[←h0]at hk
 obtain⟨b,h',a1,a3⟩:=execY_ok (X:=xc 0) (BA_ok (w:=w) hc) qG (gy e) rfl rfl rfl rfl hy hk
 exact⟨b,h',a1,a3⟩
def ctY160(c:aa):aa:=tblF [] c
def bY160(c:aa)(vs:List Value)(lp:Nat):FB:=λls h K=>ucVB vs (λJ a2=>chkB J ( ucVB a2 (λO a3=>chkB O ( uc0B a3 ( unIB ls (λn12 a4=>unIB a4 (λn14 a5=>unVB a5 (λa6 a7=>unIB a7 (λn18 a8=>unIB a8 (λn20 a9=>unIB a9 (λn22 b0=>unVB b0 (λb1 b2=>un0B b2 (newB (.cells [(.int .i64 (.ofNat (nat_lit 0))),(.int .i64 (.ofNat (nat_lit 0))),(.slice none 0 0),(.int .u8 (.ofNat (nat_lit 0))),(.int .i64 (.ofNat (nat_lit 0))),(.int .i64 (.ofNat (nat_lit 0))),(.slice none 0 0)] 7 true) h (λU b3=>stB (.pointer (some ⟨U,0,none⟩)) [(.int .i64 n12),(.int .i64 n14),a6,(.int .u8 n18),(.int .i64 n20),(.int .i64 n22),b1] b3 (λd4 b4=>lp1B lp b4 (λV=>lgB cc 7 (.pointer (some ⟨U,0,none⟩)) V (λb5=>ucIB .i64 b5 (λn32 b6=>ucIB .i64 b6 (λn34 b7=>ucVB b7 (λa0 b8=>chkB a0 ( ucIB .u8 b8 (λn38 b9=>ucIB .i64 b9 (λn40 c0=>ucIB .i64 c0 (λn42 c1=>ucVB c1 (λa1 d0=>chkB a1 ( uc0B d0 ( stB J [(.int .i64 n32),(.int .i64 n34),a0,(.int .u8 n38),(.int .i64 n40),(.int .i64 n42),a1] V (λd5 d1=>stB O [(.int .i64 (.ofNat (nat_lit 0)))] d1 (λd6 d2=>lp2B lp (some .ret) d2 (λd3=>K [.b false] d3))))))))))))))))))))))))))))))
theorem pfY160(c:aa)(vs:List Value)(lp:Nat)(ls:List Lf)(h:HTr)(K:List Lf->HTr->RT):y160 (BA ab ac (ctY160 c)) vs lp ls h K=bY160 c vs lp ls h K:=kJ (λx8 l9=>kH (kJ (λx10 l11=>kH (po (lq (λn12 l13=>lq (λn14 l15=>q_unV (λx16 l17=>lq (λn18 l19=>lq (λn20 l21=>lq (λn22 l23=>q_unV (λx24 l25=>q_un0 (q_new (λm26 h27=>q_st (λl28 h29=>q_lp1 (λh30=>q_lg (λl31=>kI (λn32 l33=>kI (λn34 l35=>kJ (λx36 l37=>kH (kI (λn38 l39=>kI (λn40 l41=>kI (λn42 l43=>kJ (λx44 l45=>kH (po (q_st (λl46 h47=>q_st (λl48 h49=>q_lp2 (λh50=>rfl))))))))))))))))))))))))))))))
theorem okY160{c:aa}(hc:Cok c):YOk cc ab ac 160 (bY160 c):=y_of (g:=bY160) (ct:=ctY160) (λvs l ls h K=>(congrFun (congrFun (congrFun (congrFun (congrFun (congrFun (congrFun (congrFun ey160 RT) HTr) _) vs) l) ls) h) K).symm.trans (pfY160 c vs l ls h K)) (ae hc (by
  intro p hp
  cases hp))
def ctY256(c:aa):aa:=tblF [] c
def bY256(c:aa)(vs:List Value)(lp:Nat):FB:=λls h K=>ucVB vs (λV a6=>chkB V ( ucVB a6 (λJ a7=>chkB J ( uc0B a7 ( unIB ls (λn12 a8=>unIB a8 (λn14 a9=>unVB a9 (λb0 b1=>unIB b1 (λn18 b2=>unIB b2 (λn20 b3=>unIB b3 (λn22 b4=>unVB b4 (λb5 b6=>un0B b6 (newB (.cells [(.int .i64 (.ofNat (nat_lit 0))),(.int .i64 (.ofNat (nat_lit 0))),(.slice none 0 0),(.int .u8 (.ofNat (nat_lit 0))),(.int .i64 (.ofNat (nat_lit 0))),(.int .i64 (.ofNat (nat_lit 0))),(.slice none 0 0)] 7 true) h (λa0 b7=>stB (.pointer (some ⟨a0,0,none⟩)) [(.int .i64 n12),(.int .i64 n14),b0,(.int .u8 n18),(.int .i64 n20),(.int .i64 n22),b5] b7 (λg3 b8=>lp1B lp b8 (λU=>lgB cc 1 J U (λb9=>ucVB b9 (λa1 c0=>chkB a1 ( uc0B c0 ( lgB cc 7 (.pointer (some ⟨a0,0,none⟩)) U (λc1=>ucIB .i64 c1 (λn35 d0=>ucIB .i64 d0 (λn37 d1=>ucVB d1 (λa2 d2=>chkB a2 ( ucIB .u8 d2 (λn41 d3=>ucIB .i64 d3 (λn43 d4=>ucIB .i64 d4 (λn45 d5=>ucVB d5 (λa3 d6=>chkB a3 ( uc0B d6 ( newB (.cells [(.int .i64 n35),(.int .i64 n37),a2,(.int .u8 n41),(.int .i64 n43),(.int .i64 n45),a3] 7 true) U (λd7 d8=>apB ac cc 7 88 a1 (.slice (some ⟨d7,0,(some 17)⟩) 1 2) d8 (λd9 e0=>ucVB d9 (λa4 e1=>chkB a4 ( uc0B e1 ( stB J [a4] e0 (λg4 O=>lgB cc 1 J O (λe2=>ucVB e2 (λa5 f0=>chkB a5 ( uc0B f0 ( optB (lenS a5) (λf1=>lgB cc 1 V O (λf2=>ucIB .i64 f2 (λgl g0=>uc0B g0 ( cB ( lp2B lp none O (λg1=>K [.b true] g1)) ( lp2B lp (some (.exit 0)) O (λg2=>K [.b false] g2)) (eqZK f1 gl))))))))))))))))))))))))))))))))))))))))))))))
theorem pfY256(c:aa)(vs:List Value)(lp:Nat)(ls:List Lf)(h:HTr)(K:List Lf->HTr->RT):y256 (BA ab ac (ctY256 c)) vs lp ls h K=bY256 c vs lp ls h K:=kJ (λx8 l9=>kH (kJ (λx10 l11=>kH (po (lq (λn12 l13=>lq (λn14 l15=>q_unV (λx16 l17=>lq (λn18 l19=>lq (λn20 l21=>lq (λn22 l23=>q_unV (λx24 l25=>q_un0 (q_new (λm26 h27=>q_st (λl28 h29=>q_lp1 (λh30=>q_lg (λl31=>kJ (λx32 l33=>kH (po (q_lg (λl34=>kI (λn35 l36=>kI (λn37 l38=>kJ (λx39 l40=>kH (kI (λn41 l42=>kI (λn43 l44=>kI (λn45 l46=>kJ (λx47 l48=>kH (po (q_new (λm49 h50=>q_ap (λl51 h52=>kJ (λx53 l54=>kH (po (q_st (λl55 h56=>q_lg (λl57=>kJ (λx58 l59=>kH (po (q_opt (λx60=>q_lg (λl61=>kI (λn62 l63=>po (q_eql (q_cond (q_lp2 (λh65=>rfl)) (q_lp2 (λh66=>rfl))))))))))))))))))))))))))))))))))))))))))))))))
theorem okY256{c:aa}(hc:Cok c):YOk cc ab ac 256 (bY256 c):=y_of (g:=bY256) (ct:=ctY256) (λvs l ls h K=>(congrFun (congrFun (congrFun (congrFun (congrFun (congrFun (congrFun (congrFun ey256 RT) HTr) _) vs) l) ls) h) K).symm.trans (pfY256 c vs l ls h K)) (ae hc (by
  intro p hp
  cases hp))
def tabW(c:aa):Tr FB:=(.node nf (.node nf (.node (w3 c) (.node (w7 c) (.node (w15 c) (.node (w31 c) .leaf (.node (w95 c) .leaf .leaf)) (.node (w47 c) (.node (w79 c) .leaf .leaf) .leaf)) (.node (w23 c) (.node (w39 c) (.node (w71 c) .leaf .leaf) (.node (w103 c) .leaf .leaf)) (.node (w55 c) (.node (w87 c) .leaf .leaf) .leaf))) (.node (w11 c) (.node (w19 c) (.node (w35 c) (.node (w67 c) .leaf .leaf) (.node (w99 c) .leaf .leaf)) (.node (w51 c) (.node (w83 c) .leaf .leaf) .leaf)) (.node (w27 c) (.node (w43 c) (.node (w75 c) .leaf .leaf) .leaf) .leaf))) (.node (w5 c) (.node (w9 c) (.node (w17 c) (.node (w33 c) (.node (w65 c) .leaf .leaf) (.node (w97 c) .leaf .leaf)) (.node (w49 c) (.node (w81 c) .leaf .leaf) .leaf)) (.node (w25 c) (.node (w41 c) (.node (w73 c) .leaf .leaf) (.node (w105 c) .leaf .leaf)) (.node nf (.node (w89 c) .leaf .leaf) .leaf))) (.node (w13 c) (.node (w21 c) (.node (w37 c) (.node (w69 c) .leaf .leaf) (.node (w101 c) .leaf .leaf)) (.node (w53 c) (.node (w85 c) .leaf .leaf) .leaf)) (.node (w29 c) (.node (w45 c) (.node (w77 c) .leaf .leaf) .leaf) .leaf)))) (.node nf (.node (w4 c) (.node (w8 c) (.node (w16 c) (.node (w32 c) (.node (w64 c) .leaf .leaf) (.node (w96 c) .leaf .leaf)) (.node (w48 c) (.node (w80 c) .leaf .leaf) .leaf)) (.node (w24 c) (.node (w40 c) (.node (w72 c) .leaf .leaf) (.node (w104 c) .leaf .leaf)) (.node nf (.node (w88 c) .leaf .leaf) .leaf))) (.node (w12 c) (.node (w20 c) (.node (w36 c) (.node (w68 c) .leaf .leaf) (.node (w100 c) .leaf .leaf)) (.node (w52 c) (.node (w84 c) .leaf .leaf) .leaf)) (.node (w28 c) (.node (w44 c) (.node (w76 c) .leaf .leaf) .leaf) .leaf))) (.node (w6 c) (.node (w10 c) (.node (w18 c) (.node (w34 c) (.node (w66 c) .leaf .leaf) (.node (w98 c) .leaf .leaf)) (.node (w50 c) (.node (w82 c) .leaf .leaf) .leaf)) (.node (w26 c) (.node (w42 c) (.node (w74 c) .leaf .leaf) .leaf) .leaf)) (.node (w14 c) (.node (w22 c) (.node (w38 c) (.node (w70 c) .leaf .leaf) .leaf) (.node (w54 c) (.node (w86 c) .leaf .leaf) .leaf)) (.node (w30 c) (.node (w46 c) (.node (w78 c) .leaf .leaf) .leaf) .leaf)))))
def stepF(c:aa):aa:=λck=>match ck with
 | .f f=>match Nat.blt f 106 with
  |true=>(bc f).get nf (tabW c)
  |false=>nf
 | .y κ vs l=>lookY [(160,bY160 c),(256,bY256 c)] κ (λvs l ls h K=>oz (BA ab ac c) (xc 0) ab drN (ac κ) vs l ls h K) vs l
def runF(n:Nat):aa:=Nat.rec (motive:=λ_=>aa) (λ_ _ _ _=>none) (λ_ c=>stepF c) n
theorem fk{k:Nat}(h1:(λc=>(bc k).get nf (tabW c))=λ_=>nf)(c:aa):Ent k ((bc k).get nf (tabW c)):=by
 intro ls h K w hls hk
 rw[congrFun h1 c]at hk
 cases hk
theorem av{k:Nat}{g:aa->FB}(h1:(λc=>(bc k).get nf (tabW c))=g){c:aa}(h:Ent k (g c)):Ent k ((bc k).get nf (tabW c)):=by
 rw[congrFun h1 c];exact h
theorem tabW_ok{c:aa}(hc:Cok c):∀f,Nat.blt f 106=true->Ent f ((bc f).get nf (tabW c))
 |0,_=>fk (by kernel_rfl) c
 |1,_=>fk (by kernel_rfl) c
 |2,_=>fk (by kernel_rfl) c
 |3,_=>av (g:=λc=>w3 c) (by kernel_rfl) (ok3 hc)
 |4,_=>av (g:=λc=>w4 c) (by kernel_rfl) (ok4 hc)
 |5,_=>av (g:=λc=>w5 c) (by kernel_rfl) (ok5 hc)
 |6,_=>av (g:=λc=>w6 c) (by kernel_rfl) (ok6 hc)
 |7,_=>av (g:=λc=>w7 c) (by kernel_rfl) (ok7 hc)
 |8,_=>av (g:=λc=>w8 c) (by kernel_rfl) (ok8 hc)
 |9,_=>av (g:=λc=>w9 c) (by kernel_rfl) (ok9 hc)
 |10,_=>av (g:=λc=>w10 c) (by kernel_rfl) (ok10 hc)
 |11,_=>av (g:=λc=>w11 c) (by kernel_rfl) (ok11 hc)
 |12,_=>av (g:=λc=>w12 c) (by kernel_rfl) (ok12 hc)
 |13,_=>av (g:=λc=>w13 c) (by kernel_rfl) (ok13 hc)
 |14,_=>av (g:=λc=>w14 c) (by kernel_rfl) (ok14 hc)
 |15,_=>av (g:=λc=>w15 c) (by kernel_rfl) (ok15 hc)
 |16,_=>av (g:=λc=>w16 c) (by kernel_rfl) (ok16 hc)
 |17,_=>av (g:=λc=>w17 c) (by kernel_rfl) (ok17 hc)
 |18,_=>av (g:=λc=>w18 c) (by kernel_rfl) (ok18 hc)
 |19,_=>av (g:=λc=>w19 c) (by kernel_rfl) (ok19 hc)
 |20,_=>av (g:=λc=>w20 c) (by kernel_rfl) (ok20 hc)
 |21,_=>av (g:=λc=>w21 c) (by kernel_rfl) (ok21 hc)
 |22,_=>av (g:=λc=>w22 c) (by kernel_rfl) (ok22 hc)
 |23,_=>av (g:=λc=>w23 c) (by kernel_rfl) (ok23 hc)
 |24,_=>av (g:=λc=>w24 c) (by kernel_rfl) (ok24 hc)
 |25,_=>av (g:=λc=>w25 c) (by kernel_rfl) (ok25 hc)
 |26,_=>av (g:=λc=>w26 c) (by kernel_rfl) (ok26 hc)
 |27,_=>av (g:=λc=>w27 c) (by kernel_rfl) (ok27 hc)
 |28,_=>av (g:=λc=>w28 c) (by kernel_rfl) (ok28 hc)
 |29,_=>av (g:=λc=>w29 c) (by kernel_rfl) (ok29 hc)
 |30,_=>av (g:=λc=>w30 c) (by kernel_rfl) (ok30 hc)
 |31,_=>av (g:=λc=>w31 c) (by kernel_rfl) (ok31 hc)
 |32,_=>av (g:=λc=>w32 c) (by kernel_rfl) (ok32 hc)
 |33,_=>av (g:=λc=>w33 c) (by kernel_rfl) (ok33 hc)
 |34,_=>av (g:=λc=>w34 c) (by kernel_rfl) (ok34 hc)
 |35,_=>av (g:=λc=>w35 c) (by kernel_rfl) (ok35 hc)
 |36,_=>av (g:=λc=>w36 c) (by kernel_rfl) (ok36 hc)
 |37,_=>av (g:=λc=>w37 c) (by kernel_rfl) (ok37 hc)
 |38,_=>av (g:=λc=>w38 c) (by kernel_rfl) (ok38 hc)
 |39,_=>av (g:=λc=>w39 c) (by kernel_rfl) (ok39 hc)
 |40,_=>av (g:=λc=>w40 c) (by kernel_rfl) (ok40 hc)
 |41,_=>av (g:=λc=>w41 c) (by kernel_rfl) (ok41 hc)
 |42,_=>av (g:=λc=>w42 c) (by kernel_rfl) (ok42 hc)
 |43,_=>av (g:=λc=>w43 c) (by kernel_rfl) (ok43 hc)
 |44,_=>av (g:=λc=>w44 c) (by kernel_rfl) (ok44 hc)
 |45,_=>av (g:=λc=>w45 c) (by kernel_rfl) (ok45 hc)
 |46,_=>av (g:=λc=>w46 c) (by kernel_rfl) (ok46 hc)
 |47,_=>av (g:=λc=>w47 c) (by kernel_rfl) (ok47 hc)
 |48,_=>av (g:=λc=>w48 c) (by kernel_rfl) (ok48 hc)
 |49,_=>av (g:=λc=>w49 c) (by kernel_rfl) (ok49 hc)
 |50,_=>av (g:=λc=>w50 c) (by kernel_rfl) (ok50 hc)
 |51,_=>av (g:=λc=>w51 c) (by kernel_rfl) (ok51 hc)
 |52,_=>av (g:=λc=>w52 c) (by kernel_rfl) (ok52 hc)
 |53,_=>av (g:=λc=>w53 c) (by kernel_rfl) (ok53 hc)
 |54,_=>av (g:=λc=>w54 c) (by kernel_rfl) (ok54 hc)
 |55,_=>av (g:=λc=>w55 c) (by kernel_rfl) (ok55 hc)
 |56,_=>fk (by kernel_rfl) c
 |57,_=>fk (by kernel_rfl) c
 |58,_=>fk (by kernel_rfl) c
 |59,_=>fk (by kernel_rfl) c
 |60,_=>fk (by kernel_rfl) c
 |61,_=>fk (by kernel_rfl) c
 |62,_=>fk (by kernel_rfl) c
 |63,_=>fk (by kernel_rfl) c
 |64,_=>av (g:=λc=>w64 c) (by kernel_rfl) (ok64 hc)
 |65,_=>av (g:=λc=>w65 c) (by kernel_rfl) (ok65 hc)
 |66,_=>av (g:=λc=>w66 c) (by kernel_rfl) (ok66 hc)
 |67,_=>av (g:=λc=>w67 c) (by kernel_rfl) (ok67 hc)
 |68,_=>av (g:=λc=>w68 c) (by kernel_rfl) (ok68 hc)
 |69,_=>av (g:=λc=>w69 c) (by kernel_rfl) (ok69 hc)
 |70,_=>av (g:=λc=>w70 c) (by kernel_rfl) (ok70 hc)
 |71,_=>av (g:=λc=>w71 c) (by kernel_rfl) (ok71 hc)
 |72,_=>av (g:=λc=>w72 c) (by kernel_rfl) (ok72 hc)
 |73,_=>av (g:=λc=>w73 c) (by kernel_rfl) (ok73 hc)
 |74,_=>av (g:=λc=>w74 c) (by kernel_rfl) (ok74 hc)
 |75,_=>av (g:=λc=>w75 c) (by kernel_rfl) (ok75 hc)
 |76,_=>av (g:=λc=>w76 c) (by kernel_rfl) (ok76 hc)
 |77,_=>av (g:=λc=>w77 c) (by kernel_rfl) (ok77 hc)
 |78,_=>av (g:=λc=>w78 c) (by kernel_rfl) (ok78 hc)
 |79,_=>av (g:=λc=>w79 c) (by kernel_rfl) (ok79 hc)
 |80,_=>av (g:=λc=>w80 c) (by kernel_rfl) (ok80 hc)
 |81,_=>av (g:=λc=>w81 c) (by kernel_rfl) (ok81 hc)
 |82,_=>av (g:=λc=>w82 c) (by kernel_rfl) (ok82 hc)
 |83,_=>av (g:=λc=>w83 c) (by kernel_rfl) (ok83 hc)
 |84,_=>av (g:=λc=>w84 c) (by kernel_rfl) (ok84 hc)
 |85,_=>av (g:=λc=>w85 c) (by kernel_rfl) (ok85 hc)
 |86,_=>av (g:=λc=>w86 c) (by kernel_rfl) (ok86 hc)
 |87,_=>av (g:=λc=>w87 c) (by kernel_rfl) (ok87 hc)
 |88,_=>av (g:=λc=>w88 c) (by kernel_rfl) (ok88 hc)
 |89,_=>av (g:=λc=>w89 c) (by kernel_rfl) (ok89 hc)
 |90,_=>fk (by kernel_rfl) c
 |91,_=>fk (by kernel_rfl) c
 |92,_=>fk (by kernel_rfl) c
 |93,_=>fk (by kernel_rfl) c
 |94,_=>fk (by kernel_rfl) c
 |95,_=>av (g:=λc=>w95 c) (by kernel_rfl) (ok95 hc)
 |96,_=>av (g:=λc=>w96 c) (by kernel_rfl) (ok96 hc)
 |97,_=>av (g:=λc=>w97 c) (by kernel_rfl) (ok97 hc)
 |98,_=>av (g:=λc=>w98 c) (by kernel_rfl) (ok98 hc)
 |99,_=>av (g:=λc=>w99 c) (by kernel_rfl) (ok99 hc)
 |100,_=>av (g:=λc=>w100 c) (by kernel_rfl) (ok100 hc)
 |101,_=>av (g:=λc=>w101 c) (by kernel_rfl) (ok101 hc)
 |102,_=>fk (by kernel_rfl) c
 |103,_=>av (g:=λc=>w103 c) (by kernel_rfl) (ok103 hc)
 |104,_=>av (g:=λc=>w104 c) (by kernel_rfl) (ok104 hc)
 |105,_=>av (g:=λc=>w105 c) (by kernel_rfl) (ok105 hc)
 |n+106,h=>by rw[qaN]at h;omega
theorem stepF_ok{c:aa}(hc:Cok c):Cok (stepF c):=by
 refine⟨λf ls h K w hls hk=>?_,λκ vs l ls h K w st pd xs e hy hk=>?_⟩
 ·have hk:(match Nat.blt f 106 with|true=>(bc f).get nf (tabW c)|false=>nf) ls h K=some w:=hk
  cases e:Nat.blt f 106 with
  |true=>rw[e]at hk;exact tabW_ok hc f e ls h K w hls hk
  |false=>rw[e]at hk;cases hk
 ·have hd:YOk cc ab ac κ (λvs l ls h K=>oz (BA ab ac c) (xc 0) ab drN (ac κ) vs l ls h K):=y_of (g:=λc vs l ls h K=>oz (BA ab ac c) (xc 0) ab drN (ac κ) vs l ls h K) (ct:=λc=>c) (λ_ _ _ _ _=>rfl) hc
  refine re hd (l:=[(160,bY160 c),(256,bY256 c)]) (λp hp=>?_) vs l ls h K w st pd xs e hy hk
  simp only[qao,qb8,or_false]at hp
  rcases hp with rfl|rfl
  ·exact okY160 hc
  ·exact okY256 hc
theorem runF_ok:∀n,Cok (runF n)
 |0=>⟨λ_ _ _ _ _ _ h=>by(cases h),λ_ _ _ _ _ _ _ _ _ _ _ _ h=>by(cases h)⟩
 |n+1=>stepF_ok (runF_ok n)
end Go.Am

/-
 THE ALGEBRA OF PROPOSITIONS OVER THE HEAPS OF RUNS;what a run shows holds in it.
-/
namespace Go.Am
namespace Sx
section
variable [Val] [Kno]
def peekH(T:Nat->Site)(f:Pk)(h:HL)(K:List Value->Prop):Prop:=∃cs,f.run (getH T h)=some cs/\K cs
def heapH(T:Nat->Site)(f:Hp)(h:HL)(K:List Value->HL->Prop):Prop:=∃acts cs,f.run (getH T h) h.length=some (acts,cs)/\K cs (bO h acts)
def callH(C:Cfg)(Sg:FuncId->Option Sig)(T:Nat->Site)(g:FuncId)(ls:List Lf)(h:HL)(K:List Lf->HL->Prop):Prop:=∃rs h',bG C Sg g ls (absH T h) rs (absH T h')/\K rs h'
def callvH(C:Cfg)(T:Nat->Site)(v:Value)(args:List Value)(hs:List SK)(h:HL)(K:List Lf->HL->Prop):Prop:=∃rs h',rS C v args hs (absH T h) rs (absH T h')/\K rs h'
def itH(F:(List Lf->HL->Prop)->List Lf->HL->Prop)(n:Nat):List Lf->HL->Prop:=
 match n with
 |0=>λ_ _=>False
 |n+1=>F (itH F n)
def loopH(F:(List Lf->HL->Prop)->List Lf->HL->Prop)(ls:List Lf)(h:HL):Prop:=∃n,itH F n ls h
def rfunH(C:Cfg)(T:Nat->Site)(κ:Nat)(v:Value)(vals:List Value)(h:HL)(K:Option Code->HL->Prop):Prop:=
 ∃g first cap r H1 lp h2,v = .func (.func g) first cap/\
  fD C g (first.toList++[.func (.yield (absH T h).length) #[] #[]]++cap.toList) (absH T h++[.loop (lpOf (T κ) κ vals)]) r H1/\
  cW H1 (absH T h).length=some lp/\lp.state≠.busy/\absH T h2=H1.set (absH T h).length (.loop { lp with state:=.exhausted })/\K lp.pending h2
def lp1H(T:Nat->Site)(l:Nat)(h:HL)(K:HL->Prop):Prop:=∃lp h',cW (absH T h) l=some lp/\lp.state = .ready/\absH T h'=(absH T h).set l (.loop { lp with state:=.busy })/\K h'
def lp2H(T:Nat->Site)(l:Nat)(j:Option Code)(h:HL)(K:HL->Prop):Prop:=∃lp h',cW (absH T h) l=some lp/\absH T h'=(absH T h).set l (.loop { lp with state:=if j.isNone then .ready else .done,pending:=j })/\K h'
def PH(C:Cfg)(Sg:FuncId->Option Sig)(T:Nat->Site):Alg Prop HL where
 fail:=False
 cond:=condP
 ari:=ariP
 shf:=λop k a k' b K=>∃n,ShRun op k a k' b n/\K n
 cmp:=cmpP
 eqs:=λl K=>K (cb l)
 conv:=λk a K=>K (k.wrap a)
 sel:=λt a b K=>K (if t then a else b)
 opt:=optP
 chk:=λv K=>bk v=true/\K
 unI:=unIP
 unB:=unBP
 unV:=unVP
 un0:=un0P
 ucI:=ucIP
 ucB:=ucBP
 ucV:=ucVP
 uc0:=uc0P
 peek:=peekH T
 heap:=heapH T
 new:=λo h K=>K h.length (h++[.o o])
 call:=callH C Sg T
 callv:=callvH C T
 join:=λb m=>m b
 loop:=loopH
 rfun:=rfunH C T
 pend:=pendP
 lp1:=lp1H T
 lp2:=lp2H T
theorem PH_ok(C:Cfg)(Sg:FuncId->Option Sig)(T:Nat->Site):AlgOk (PH C Sg T) C Sg T id (absH T) where
 fail:=(eg C Sg T).fail
 cond:=(eg C Sg T).cond
 ari:=(eg C Sg T).ari
 shf:=(eg C Sg T).shf
 cmp:=(eg C Sg T).cmp
 eqs:=(eg C Sg T).eqs
 conv:=(eg C Sg T).conv
 sel:=(eg C Sg T).sel
 opt:=(eg C Sg T).opt
 chk:=(eg C Sg T).chk
 unI:=(eg C Sg T).unI
 unB:=(eg C Sg T).unB
 unV:=(eg C Sg T).unV
 un0:=(eg C Sg T).un0
 ucI:=(eg C Sg T).ucI
 ucB:=(eg C Sg T).ucB
 ucV:=(eg C Sg T).ucV
 uc0:=(eg C Sg T).uc0
 peek:=by
  intro f h K hk
  obtain⟨cs,h1,h2⟩:=hk
  exact⟨cs,by rw[←jV];exact h1,h2⟩
 heap:=by
  intro f h K hk
  obtain⟨acts,cs,h1,h2⟩:=hk
  exact⟨acts,cs,_,by rw[←jV,gg];exact h1,gS T acts h,h2⟩
 new:=λo h K hk=>⟨_,gh T h _,by rw[gg];exact hk⟩
 call:=λg ls h K hk=>hk
 callv:=λv args hs h K hk=>hk
 join:=λb m h=>h
 loop:=by
  intro F ls h hk
  obtain⟨n,hk⟩:=hk
  exact⟨itH F,λls h=>(id:False->False),λn ls h=>rfl,n,hk⟩
 rfun:=λκ v vals h K hk=>hk
 pend:=(eg C Sg T).pend
 lp1:=λl h K hk=>hk
 lp2:=λl j h K hk=>hk
section
variable {C:Cfg} {Sg:FuncId->Option Sig} {T:Nat->Site} {call:aa} (hc:CallBOk C Sg T call)
include hc
inductive SL2:List (Nat×RT)->List (Nat×Prop)->Prop
 |nil:SL2 [] []
 |cons {id:Nat} {x:RT} {x':Prop} {l:List (Nat×RT)} {l':List (Nat×Prop)} (hx:x=yes->x') (hl:SL2 l l'):SL2 ((id,x) :: l) ((id,x') :: l')
omit hc in
end
theorem qU{F:(List Lf->HL->Prop)->List Lf->HL->Prop}(Inv:Nat->List Lf->HL->Prop)
  (step:∀m ls h,Inv m ls h->∀self:List Lf->HL->Prop,(∀m' ls h,m'<m->Inv m' ls h->self ls h)->F self ls h):∀n m ls h,m<n->Inv m ls h->itH F n ls h
 |0,_,_,_,hm,_=>absurd hm (Nat.not_lt_zero _)
 |n+1,m,ls,h,hm,hi=>step m ls h hi (itH F n) λm' ls h h' hi'=>qU Inv step n m' ls h (by omega) hi'
theorem sB{F:(List Lf->HL->Prop)->List Lf->HL->Prop}(Inv:Nat->List Lf->HL->Prop){m:Nat}{ls:List Lf}{h:HL}(hi:Inv m ls h)
  (step:∀m ls h,Inv m ls h->∀self:List Lf->HL->Prop,(∀m' ls h,m'<m->Inv m' ls h->self ls h)->F self ls h):loopH F ls h:=
 ⟨m+1,qU Inv step (m+1) m ls h (Nat.lt_succ_self m) hi⟩
end
end Sx
end Go.Am

end

/-
  PART 5 OF THE PROOF: Sx10 Sx11 Sy1 Sy2 Sy3 Sy4 Sy5 Sy6 Sy7 Ge0 Ge1 Ge2 Ge3 Ge4 Ge5 Ge6 Gq Sx12 Sx13 Px1 Sx14 Bx1 Gy Gb Ph1 (no conditions).
-/
import Derived.Test.YtbkoinpgfbingaaGreatDoorCB4
import Derived.Calls
import Derived.LaidMore
import Derived.MakeChecks
import Derived.OpenShut
import Derived.ProofKit
import Derived.Stop.Joined
import Derived.Test.YtbkoinpgfbingaaGreatDoorRows
import GoSem.ClaimJoined
set_option linter.unusedSectionVars false
set_option linter.unusedSimpArgs false
set_option linter.unusedVariables false
set_option linter.constructorNameAsVariable false
set_option linter.defProp false
/-
 THE ALGEBRA OF RUNS TELLS THE TRUTH;whole runs.
-/
namespace Go.Am
noncomputable def LK.plain:LK→Bool
 | .v=>false
 |_=>true
noncomputable def SK.plain:SK→Bool
 | .leaf k=>k.plain
 | .agg ks=>ks.all LK.plain
noncomputable def Sig.plain(s:Sig):Bool:=s.ps.all SK.plain&&s.rs.all SK.plain
namespace Sx
section
variable [Val] [Kno]
variable {w:List Lf}
theorem rC(k:IntKind)(c:Int)(K:Int→RT):outG k c K=K (k.wrap c):=by
 unfold outG
 cases e:fits k c with
 |true=>rw[qa e]
 |false=>exact gV _ _
theorem out64_eq(c:Int)(K:Int→RT):out64 c K=K (IntKind.wrap .i64 c):=by
 refine Eq.trans ?_ (rC .i64 c K)
 cases c<;>rfl
theorem outU8_eq(c:Int)(K:Int→RT):outU8 c K=K (IntKind.wrap .u8 c):=by
 refine Eq.trans ?_ (rC .u8 c K)
 cases c<;>rfl
theorem lF(k:IntKind)(c:Int)(K:Int→RT):outK k c K=K (k.wrap c):=by
 cases k<;>first|exact rC _ _ _|exact out64_eq _ _|exact outU8_eq _ _
theorem addK_eq(a b:Int)(K:Int→RT):addK a b K=K (a+b):=by
 unfold addK
 cases a with
 |ofNat m=>
  cases b with
  |ofNat n=>exact congrArg K rfl
  |negSucc n=>
   simp only[fX]
   cases e:Nat.blt n m with
   |true=>rw[Nat.blt_eq]at e;exact congrArg K (show Int.ofNat (m - (n+1))=Int.ofNat m+Int.negSucc n by simp only[Int.ofNat_eq_natCast,Int.negSucc_eq];omega)
   |false=>
    have e:¬n<m:=fun h=>by rw[←Nat.blt_eq,e]at h;cases h
    exact congrArg K (show Int.negSucc (n - m)=Int.ofNat m+Int.negSucc n by simp only[Int.ofNat_eq_natCast,Int.negSucc_eq];omega)
 |negSucc m=>
  cases b with
  |ofNat n=>
   simp only[fX]
   cases e:Nat.blt m n with
   |true=>rw[Nat.blt_eq]at e;exact congrArg K (show Int.ofNat (n - (m+1))=Int.negSucc m+Int.ofNat n by simp only[Int.ofNat_eq_natCast,Int.negSucc_eq];omega)
   |false=>
    have e:¬m<n:=fun h=>by rw[←Nat.blt_eq,e]at h;cases h
    exact congrArg K (show Int.negSucc (m - n)=Int.negSucc m+Int.ofNat n by simp only[Int.ofNat_eq_natCast,Int.negSucc_eq];omega)
  |negSucc n=>exact congrArg K (show Int.negSucc (m+n+1)=Int.negSucc m+Int.negSucc n by simp only[Int.negSucc_eq];omega)
theorem subK_eq(a b:Int)(K:Int→RT):subK a b K=K (a - b):=by
 unfold subK
 cases a with
 |ofNat m=>
  cases b with
  |ofNat n=>
   simp only[fX]
   cases e:Nat.ble n m with
   |true=>rw[Nat.ble_eq]at e;exact congrArg K (show Int.ofNat (m - n)=Int.ofNat m - Int.ofNat n by simp only[Int.ofNat_eq_natCast];omega)
   |false=>
    have e:¬n≤m:=fun h=>by rw[←Nat.ble_eq,e]at h;cases h
    exact congrArg K (show Int.negSucc (n - (m+1))=Int.ofNat m - Int.ofNat n by simp only[Int.ofNat_eq_natCast,Int.negSucc_eq];omega)
  |negSucc n=>exact congrArg K (show Int.ofNat (m+n+1)=Int.ofNat m - Int.negSucc n by simp only[Int.ofNat_eq_natCast,Int.negSucc_eq];omega)
 |negSucc m=>
  cases b with
  |ofNat n=>exact congrArg K (show Int.negSucc (m+n)=Int.negSucc m - Int.ofNat n by simp only[Int.ofNat_eq_natCast,Int.negSucc_eq];omega)
  |negSucc n=>
   simp only[fX]
   cases e:Nat.ble m n with
   |true=>rw[Nat.ble_eq]at e;exact congrArg K (show Int.ofNat (n - m)=Int.negSucc m - Int.negSucc n by simp only[Int.ofNat_eq_natCast,Int.negSucc_eq];omega)
   |false=>
    have e:¬m≤n:=fun h=>by rw[←Nat.ble_eq,e]at h;cases h
    exact congrArg K (show Int.negSucc (m - (n+1))=Int.negSucc m - Int.negSucc n by simp only[Int.negSucc_eq];omega)
theorem mulK_eq(a b:Int)(K:Int→RT):mulK a b K=K (a*b):=by
 unfold mulK
 cases a with
 |ofNat m=>
  cases b with
  |ofNat n=>exact congrArg K rfl
  |negSucc n=>
   cases m with
   |zero=>exact congrArg K (show Int.ofNat 0=Int.ofNat 0*Int.negSucc n by simp)
   |succ m=>
    refine congrArg K (show Int.negSucc ((m+1)*n+m)=Int.ofNat (m+1)*Int.negSucc n from ?_)
    simp only[Int.ofNat_eq_natCast,Int.negSucc_eq,Int.natCast_add,Int.natCast_mul]
    simp only[Int.natCast_one,Int.mul_neg,Int.mul_add,Int.add_mul]
    omega
 |negSucc m=>
  cases b with
  |ofNat n=>
   cases n with
   |zero=>exact congrArg K (show Int.ofNat 0=Int.negSucc m*Int.ofNat 0 by simp)
   |succ n=>
    refine congrArg K (show Int.negSucc (m*(n+1)+n)=Int.negSucc m*Int.ofNat (n+1)from ?_)
    simp only[Int.ofNat_eq_natCast,Int.negSucc_eq,Int.natCast_add,Int.natCast_mul]
    simp only[Int.natCast_one,Int.neg_mul,Int.mul_add,Int.add_mul]
    omega
  |negSucc n=>
   refine congrArg K (show Int.ofNat ((m+1)*(n+1))=Int.negSucc m*Int.negSucc n from ?_)
   simp only[Int.ofNat_eq_natCast,Int.negSucc_eq,Int.natCast_add,Int.natCast_mul]
   simp only[Int.natCast_one,Int.neg_mul_neg]
theorem quoK_eq(a b:Int)(K:Int→RT):quoK a b K=K (Int.tdiv a b):=by
 unfold quoK
 cases a with
 |ofNat m=>
  cases b with
  |ofNat n=>exact congrArg K rfl
  |negSucc n=>exact gV _ _
 |negSucc m=>exact gV _ _
theorem remK_eq(a b:Int)(K:Int→RT):remK a b K=K (Int.tmod a b):=by
 unfold remK
 cases a with
 |ofNat m=>
  cases b with
  |ofNat n=>exact congrArg K rfl
  |negSucc n=>exact gV _ _
 |negSucc m=>exact gV _ _
theorem qh{b:Int}(h:isZ b=false):b≠0:=by
 intro e;subst e;cases h
theorem fitsK{k:IntKind}{c:Int}{K:Int→RT}(h:outK k c K=some w):K (k.wrap c)=some w:=(lF k c K).symm.trans h
theorem ariB_ok{op:BinOp}{k:IntKind}{a b:Int}{K:Int→RT}(h:ariB op k a b K=some w):∃n,nF op k a b n∧K n=some w:=by
 cases op<;>simp only[ariB,reduceCtorEq]at h
 ·rw[addK_eq,lF]at h
  exact⟨_,fun P t w=>by simp[binOp,Op.intArith],h⟩
 ·rw[subK_eq,lF]at h
  exact⟨_,fun P t w=>by simp[binOp,Op.intArith],h⟩
 ·rw[mulK_eq,lF]at h
  exact⟨_,fun P t w=>by simp[binOp,Op.intArith],h⟩
 ·cases hb:isZ b with
  |true=>rw[hb]at h;cases h
  |false=>
   rw[hb]at h
   simp only[quoK_eq,lF]at h
   have hb:=qh hb
   exact⟨_,fun P t w=>by simp[binOp,Op.intDiv,hb],h⟩
 ·cases hb:isZ b with
  |true=>rw[hb]at h;cases h
  |false=>
   rw[hb]at h
   simp only[remK_eq]at h
   have hb:=qh hb
   exact⟨_,fun P t w=>by simp[binOp,Op.intDiv,hb],h⟩
 ·split at h
  ·rename_i hb
   have hb:=eqI_iff.1 hb
   subst hb
   rw[gV]at h
   exact⟨_,lQ rfl,h⟩
  ·split at h
   ·rw[gV]at h
    exact⟨_,rH _ _,fitsK h⟩
   ·cases h
 ·split at h
  ·rw[gV]at h
   exact⟨_,uI _ _,fitsK h⟩
  ·cases h
 ·split at h
  ·rw[gV]at h
   exact⟨_,rJ _ _,fitsK h⟩
  ·cases h
theorem eqI_eq(x y:Int):eqI x y=(x==y):=by rw[Bool.eq_iff_iff,eqI_iff,beq_iff_eq]
theorem oa(x y:Int):eqZK x y=(x==y):=by
 rw[←eqI_eq]
 cases x<;>cases y<;>rfl
theorem leZ_eq(x y:Int):leZ x y=decide (x≤y):=by rw[Bool.eq_iff_iff,leZ_iff,decide_eq_true_iff]
theorem notK_eq(b:Bool):notK b = !b:=by cases b<;>rfl
theorem cmpB_ok{op:BinOp}{a b:Int}{K:Bool→RT}(h:cmpB op a b K=some w):∃t,mF op a b=some t∧K t=some w:=by
 cases op<;>simp only[cmpB,reduceCtorEq,oa,leZ_eq,notK_eq]at h
 ·exact⟨_,rfl,h⟩
 ·exact⟨_,rfl,h⟩
 ·exact⟨_,rfl,by rw[show decide (a<b) = !decide (b≤a)by rw[Bool.eq_iff_iff];simp];exact h⟩
 ·exact⟨_,rfl,h⟩
 ·exact⟨_,rfl,by rw[show decide (a > b) = !decide (a≤b)by rw[Bool.eq_iff_iff];simp];exact h⟩
 ·exact⟨_,rfl,h⟩
theorem eqLf_eq(a b:Lf):eqLf a b=fW a b:=by
 cases a<;>cases b<;>try rfl
 ·exact oa _ _
 ·rename_i x y;cases x<;>cases y<;>rfl
theorem eqsV_eq(l:List (Lf×Lf)):eqsV l=bZ l:=by
 unfold bZ
 induction l with
 |nil=>rfl
 |cons p l ih=>
  show(Bool.rec false (eqsV l) (eqLf p.1 p.2):Bool)=_
  rw[eqLf_eq,List.all_cons,ih]
  cases fW p.1 p.2<;>rfl
theorem eqsB_ok{l:List (Lf×Lf)}{K:Bool→RT}(h:eqsB l K=some w):K (bZ l)=some w:=by
 rw[←eqsV_eq];exact h
structure CallBOk(C:Cfg)(Sg:FuncId→Option Sig)(T:Nat→Site)(call:ae):Prop where
 f:∀g ls h K w,bg ls→call (.f g) ls h K=some w→∃rs h',au C Sg g ls (absH T (toL h)) rs (absH T (toL h'))∧K rs h'=some w
 y:∀κ vs l ls h K w st pd xs,h.at l=some (.lp κ st pd vs)→Told ((T κ).params.map (·.2)) ls xs→call (.y κ vs l) ls h K=some w→
  ∃b h',ey C l (ah xs) (absH T (toL h)) (.bool b) (absH T (toL h'))∧K [.b b] h'=some w
theorem kU(T:Nat→Site)(h:HL):getH T h=fun i=>(absH T h)[i]?:=by
 funext i
 simp only[getH,absH,List.getElem?_map]
 cases h[i]?<;>rfl
theorem getT_eq(T:Nat→Site)(h:HTr):getT T h=fun i=>(absH T (toL h))[i]?:=by
 funext i
 simp only[getT,absH,List.getElem?_map,gI,Option.map_map]
 cases h.at i<;>rfl
theorem jQ(T:Nat→Site)(h:HTr):getT T h=getH T (toL h):=(getT_eq T h).trans (kU T (toL h)).symm
theorem kT{T:Nat→Site}{h:HTr}{i:Nat}{x:HOT}(e:h.at i=some x):getH T (toL h) i=some (absO T x.ho):=by
 rw[←jQ];unfold getT;rw[e]
theorem dn(T:Nat→Site)(h:HL):(absH T h).length=h.length:=by simp[absH]
theorem gN(T:Nat→Site)(h:HL)(i:Nat)(o:HO):absH T (h.set i o)=(absH T h).set i (absO T o):=by simp[absH,List.map_set]
theorem gM(T:Nat→Site)(h:HL)(o:HO):absH T (h++[o])=absH T h++[absO T o]:=by simp[absH]
theorem iz(T:Nat→Site):∀(l:List Act1) (h:HL),absH T (bX h l)=eS (absH T h) l
 | [],h=>rfl
 |a :: l,h=>by
  have ih:=iz T l (a.onH h)
  show absH T (bX (a.onH h) l)=eS (a.on (absH T h)) l
  rw[ih]
  congr 1
  cases a with
  |set i o=>exact gN T h i _
  |push o=>exact gM T h _
theorem nH:∀ {l:List Act1} {h:HTr} {k:HTr→RT},tN l h k=some w→∃h',toL h'=bX (toL h) l∧k h'=some w
 | [],h,k,hk=>⟨h,rfl,hk⟩
 | .set i o :: l,h,k,hk=>by
  have hk:(qj o fun o=>putK h i o fun h=>tN l h k)=some w:=hk
  obtain⟨x,e1,e2⟩:=gZ (o:=o) (k:=fun o=>putK h i o fun h=>tN l h k)
  rw[e2,fC]at hk
  obtain⟨h',e,hk⟩:=nH hk
  exact⟨h',by rw[e,fH,e1];rfl,hk⟩
 | .push o :: l,h,k,hk=>by
  have hk:(qj o fun o=>iT h o fun h=>tN l h k)=some w:=hk
  obtain⟨x,e1,e2⟩:=gZ (o:=o) (k:=fun o=>iT h o fun h=>tN l h k)
  rw[e2,fO]at hk
  obtain⟨h',e,hk⟩:=nH hk
  exact⟨h',by rw[e,fV,e1];rfl,hk⟩
theorem tD(s:Option Nat):spot0 s=(s != some 0):=by
 cases s with
 |none=>rfl
 |some k=>cases k<;>rfl
theorem sF(v:Value):goodF v=bj v:=by
 unfold goodF
 split
 ·rename_i a
  rw[tD]
  simp[bj,noLoc,bh,cH,bS,bc,aF]
 ·rename_i a _ _
  rw[tD]
  simp[bj,noLoc,bh,cH,bS,bc,aF]
 ·rfl
theorem rq{α:Type}(l:List α):lenR l=l.length:=by
 induction l with
 |nil=>rfl
 |cons a l ih=>exact congrArg Nat.succ ih
theorem ldB_ok{T:Nat→Site}{n:Nat}{p:Value}{h:HTr}{K:List Value→RT}(hk:ldB n p h K=some w):∃cs,ldP n p (getH T (toL h))=some cs∧K cs=some w:=by
 unfold ldB at hk
 split at hk
 ·rename_i a
  split at hk
  ·rename_i hs
   split at hk
   ·rename_i m e rw' c hat
    split at hk
    ·rename_i hle
     rw[Nat.ble_eq]at hle
     refine⟨_,?_,hk⟩
     unfold ldP
     simp only[hs,fg,kT hat,HOT.ho,absO,Option.bind_some,cut]
     rw[if_pos (by rw[aK];exact hle),ig c n a.off m hle]
    ·cases hk
   ·cases hk
  ·cases hk
 ·cases hk
theorem lgB_ok{T:Nat→Site}{C:Cfg}{n:Nat}{p:Value}{h:HTr}{K:List Value→RT}(hk:lgB C n p h K=some w):∃cs,lgP C n p (getH T (toL h))=some cs∧K cs=some w:=by
 unfold lgB at hk
 split at hk
 ·rename_i a
  split at hk
  ·rename_i hs
   split at hk
   ·rename_i m e rw' c hat
    split at hk
    ·rename_i hle
     rw[Nat.ble_eq]at hle
     refine⟨_,?_,hk⟩
     unfold lgP
     simp only[hs,fg,kT hat,HOT.ho,absO,Option.bind_some,cut]
     rw[if_pos (by rw[aK];exact hle),ig c n a.off m hle]
    ·cases hk
   ·cases hk
  ·rename_i k hs
   split at hk
   ·rename_i hb
    split at hk
    ·rename_i vs hg
     split at hk
     ·rename_i cs hc
      refine⟨cs,?_,hk⟩
      unfold lgP
      simp only[hs,hb,hg,Option.bind_some]
      rw[kH]at hc
      exact hc
     ·cases hk
    ·cases hk
   ·cases hk
 ·cases hk
theorem stB_ok{T:Nat→Site}{p:Value}{new:List Value}{h:HTr}{K:List Value→HTr→RT}{n0:Nat}(hk:stB p new h K=some w) :
  ∃acts cs h',stP p new (getH T (toL h)) n0=some (acts,cs)∧toL h'=bX (toL h) acts∧K cs h'=some w:=by
 unfold stB at hk
 split at hk
 ·rename_i a
  split at hk
  ·rename_i hs
   split at hk
   ·rename_i m e c hat
    split at hk
    ·rename_i hle
     rw[Nat.ble_eq,rq]at hle
     rw[kX,fC]at hk
     refine⟨[.set a.block (.cells (bC (insT new a.off c) m) e true)],[],_,?_,?_,hk⟩
     ·unfold stP
      simp only[hs,kT hat,HOT.ho,absO,splice]
      rw[if_pos (by rw[aK];exact hle),mD hle]
      rfl
     ·rw[fH];rfl
    ·cases hk
   ·cases hk
  ·cases hk
 ·cases hk
theorem pe{s:Option Nat}{esz:Nat}:tagB s esz=true↔s=tag esz:=by
 unfold tagB tag
 cases s with
 |none=>simp
 |some k=>simp only[Nat.beq_eq,Option.some.injEq];try rfl
theorem slB_ok{C:Cfg}{T:Nat→Site}{esz:Nat}{x:Value}{h:HTr}{K:List Value→Nat→RT}(hk:slB C T esz x h K=some w) :
  ∃l n,slG C esz (getH T (toL h)) x=some (l,n)∧K l n=some w:=by
 have gen:∀ {x:Value},(match slG C esz (getT T h) x with|some p=>K p.1 p.2|none=>none)=some w→∃l n,slG C esz (getH T (toL h)) x=some (l,n)∧K l n=some w:=by
  intro x hk
  split at hk
  ·rename_i p e
   rw[jQ]at e
   exact⟨p.1,p.2,e,hk⟩
  ·cases hk
 unfold slB at hk
 split at hk
 ·rename_i a len cx
  split at hk
  ·rename_i ht
   have ht:=pe.1 ht
   split at hk
   ·rename_i m e rw' c hat
    split at hk
    ·rename_i h1 h2
     have h1:=Nat.eq_of_beq_eq_true h1
     rw[Nat.ble_eq]at h2
     subst h1
     refine⟨_,_,?_,hk⟩
     unfold slG
     simp only[kT hat,HOT.ho,absO]
     rw[if_neg (by rw[ht];simp[tag]),if_pos ht]
     first|rw[if_pos rfl]|rw[if_pos trivial]
     rw[cut,if_pos (by rw[aK];exact h2),ig c _ a.off m h2]
     rfl
    ·cases hk
   ·cases hk
  ·exact gen hk
 ·exact gen hk
theorem sG{c:Tr Value}{m off wd esz:Nat}{new:List Value}{k:HOT→RT}(hle:off+wd≤m)(hk:growB c m off wd esz new k=some w) :
  ∃x:HOT,x.ho = .o (.cells (((bC c m).drop off).take wd++new) esz true)∧k x=some w:=by
 unfold growB at hk
 split at hk
 ·rename_i h1 h2
  have h1:=Nat.eq_of_beq_eq_true h1
  have h2:=Nat.eq_of_beq_eq_true h2
  subst h1 h2
  rw[kX,fX,rq]at hk
  refine⟨_,?_,hk⟩
  show HO.o (.cells (bC (insT new wd c) (wd+new.length)) esz true)=_
  rw[kC,List.drop_zero,List.take_of_length_le (by rw[aK];exact Nat.le_refl _)]
 ·rw[ig c wd off m hle]at hk
  obtain⟨x,e1,e2⟩:=gZ (o:=.cells (((bC c m).drop off).take wd++new) esz true) (k:=k)
  rw[e2]at hk
  exact⟨x,e1,hk⟩
theorem apB_ok{C:Cfg}{T:Nat→Site}{esz bytes:Nat}{s x:Value}{h:HTr}{K:List Value→HTr→RT}(hk:apB T C esz bytes s x h K=some w) :
  ∃acts cs h',apG C esz bytes s x (getH T (toL h)) (toL h).length=some (acts,cs)∧toL h'=bX (toL h) acts∧K cs h'=some w:=by
 obtain⟨new,n,hsl,hk⟩:=slB_ok hk
 unfold apG
 rw[hsl,dU]
 simp only at hk ⊢
 split at hk
 ·cases n with
  |zero=>exact⟨_,_,h,rfl,rfl,hk⟩
  |succ n=>
   simp only at hk
   split at hk
   ·rename_i hz
    obtain⟨y,e1,e2⟩:=gZ (o:=.cells new esz true) (k:=fun o=>iT h o fun h'=>fN (n+1) fun n=>K [.slice (some ⟨h.n,0,tag esz⟩) n 0] h')
    rw[e2,fO,fX]at hk
    refine⟨[.push (.cells new esz true)],_,_,?_,?_,hk⟩
    ·show(if n+1=0 then some ([],[Value.slice none 0 0])else if cp (n+1) bytes then _ else none)=_
     rw[if_neg (by omega),if_pos hz]
    ·rw[fV,e1];rfl
   ·cases hk
 ·rename_i a len cx _
  split at hk
  ·cases hk
  ·rename_i ht
   have ht:=pe.1 ht
   split at hk
   ·rename_i m e rw' c hat
    split at hk
    ·rename_i h1 h2
     have h1:=Nat.eq_of_beq_eq_true h1
     rw[Nat.ble_eq]at h2
     subst h1
     have hb:a.off+len*e≤m:=h2
     have hcut:cut (bC c m) a.off (len*e)=some (((bC c m).drop a.off).take (len*e)):=by rw[cut,if_pos (by rw[aK];exact hb)]
     simp only[ht,ne_eq,not_true_eq_false,if_false,kT hat,HOT.ho,absO,hcut]
     cases cx with
     |zero=>
      simp only at hk ⊢
      cases n with
      |zero=>exact⟨[],_,h,by first|rw[if_pos rfl]|rw[if_pos trivial],rfl,hk⟩
      |succ n=>
       simp only at hk
       split at hk
       ·rename_i q1 q2
        obtain⟨y,e1,hk⟩:=sG hb hk
        rw[fC,fO,fX]at hk
        refine⟨[.set a.block .dead,.push (.cells (((bC c m).drop a.off).take (len*e)++new) e true)],_,_,by rw[if_neg (by omega),if_pos (by rw[q2];rfl)],?_,hk⟩
        rw[fV,fH,e1];rfl
       ·cases hk
     |succ cap=>
      simp only at hk ⊢
      split at hk
      ·rename_i q0
       rw[Nat.ble_eq]at q0
       split at hk
       ·rename_i q1 q2
        rw[Nat.ble_eq,rq]at q2
        have q2:a.off+len*e+new.length≤m:=q2
        rw[kX,fC,fX]at hk
        refine⟨[.set a.block (.cells ((bC c m).take (a.off+len*e)++new++(bC c m).drop (a.off+len*e+new.length)) e true)],_,_,by rw[if_pos q0,if_pos rfl,splice,if_pos (by rw[aK];exact q2)];rfl,?_,hk⟩
        rw[fH]
        show(toL h).set a.block (.o (.cells (bC (insT new (a.off+len*e) c) m) e true))=_
        rw[mD q2];rfl
       ·cases hk
      ·rename_i q0
       have q0:¬len+n≤cap:=fun h=>by rw[←Nat.ble_eq,q0]at h;cases h
       split at hk
       ·rename_i q1
        obtain⟨y,e1,hk⟩:=sG hb hk
        rw[fO,fX]at hk
        refine⟨[.push (.cells (((bC c m).drop a.off).take (len*e)++new) e true)],_,_,by rw[if_neg q0,if_pos q1],?_,hk⟩
        rw[fV,e1];rfl
       ·cases hk
    ·cases hk
   ·cases hk
 ·cases hk
theorem heapB_ok{T:Nat→Site}{f:Hp}{h:HTr}{K:List Value→HTr→RT}(hk:heapB T f h K=some w) :
  ∃acts cs h',f.run (getH T (toL h)) (toL h).length=some (acts,cs)∧toL h'=bX (toL h) acts∧K cs h'=some w:=by
 unfold heapB at hk
 cases f with
 |st p new=>exact stB_ok (n0:=(toL h).length) hk
 |ap C esz bytes s x=>exact apB_ok hk
 |fn f=>
  simp only at hk
  rw[jQ]at hk
  split at hk
  ·rename_i p e
   rw[lI]at hk
   obtain⟨h',e2,hk⟩:=nH hk
   exact⟨p.1,p.2,h',by rw[dU];exact e,e2,hk⟩
  ·cases hk
theorem toSL_ok{k:LK}{v:Value}{l:SL}(h:toSL k v=some l):l.is k=true∧l.val=v∧l.good:=by
 cases k with
 |i k=>
  cases v<;>simp only[toSL]at h<;>first|cases h|skip
  split at h
  ·rename_i e;cases h;exact⟨e,rfl,trivial⟩
  ·cases h
 |b=>
  cases v<;>simp only[toSL]at h<;>cases h
  exact⟨rfl,rfl,trivial⟩
 |v=>
  simp only[toSL]at h
  split at h
  ·rename_i e;cases h;exact⟨rfl,rfl,e⟩
  ·cases h
theorem tJ:∀ {ks:List LK} {vs:List Value} {xs:List SL},toSLs ks vs=some xs→aE xs ks=true∧xs.map SL.val=vs∧∀x∈xs,x.good
 | [],[],xs,h=>by cases h;exact⟨rfl,rfl,fun _ h=>by cases h⟩
 |k :: ks,v :: vs,xs,h=>by
  simp only[toSLs]at h
  split at h
  ·rename_i x e
   split at h
   ·rename_i ys e2
    cases h
    obtain⟨a1,a2,a3⟩:=toSL_ok e
    obtain⟨b1,b2,b3⟩:=tJ e2
    refine⟨by simp[aE,a1,b1],by simp[a2,b2],fun y hy=>?_⟩
    rcases List.mem_cons.1 hy with rfl|hy
    ·exact a3
    ·exact b3 y hy
   ·cases h
  ·cases h
 | [],_ :: _,_,h=>by cases h
 |_ :: _,[],_,h=>by cases h
theorem toS0_ok{sk:SK}{v:Value}{x:S0}(h:toS0 sk v=some x):x.is sk=true∧x.val=v∧x.good:=by
 cases sk with
 |leaf k=>
  obtain⟨l,e,rfl⟩:=Option.map_eq_some_iff.1 h
  obtain⟨a1,a2,a3⟩:=toSL_ok e
  refine⟨a1,a2,fun y hy=>?_⟩
  simp only[S0.cells,List.mem_singleton]at hy
  subst hy;exact a3
 |agg ks=>
  cases v<;>simp only[toS0]at h<;>first|cases h|skip
  obtain⟨l,e,rfl⟩:=Option.map_eq_some_iff.1 h
  obtain⟨a1,a2,a3⟩:=tJ e
  exact⟨a1,by simp[S0.val,a2],a3⟩
theorem pf:∀ {sks:List SK} {vs:List Value} {xs:List S0},toS0s sks vs=some xs→br xs sks=true∧ah xs=vs∧∀x∈xs,x.good
 | [],[],xs,h=>by cases h;exact⟨rfl,rfl,fun _ h=>by cases h⟩
 |k :: ks,v :: vs,xs,h=>by
  simp only[toS0s]at h
  split at h
  ·rename_i x e
   split at h
   ·rename_i ys e2
    cases h
    obtain⟨a1,a2,a3⟩:=toS0_ok e
    obtain⟨b1,b2,b3⟩:=pf e2
    refine⟨by simp[br,a1,b1],by simp only[ah,List.map_cons,a2]at b2 ⊢;rw[b2],fun y hy=>?_⟩
    rcases List.mem_cons.1 hy with rfl|hy
    ·exact a3
    ·exact b3 y hy
   ·cases h
  ·cases h
 | [],_ :: _,_,h=>by cases h
 |_ :: _,[],_,h=>by cases h
theorem eqLK_ok{a b:LK}(h:eqLK a b=true):a=b:=by
 cases a<;>cases b<;>simp only[eqLK]at h<;>first|rfl|cases h|skip
 rw[cL h]
theorem sz:∀ {a b:List LK},eqLKs a b=true→a=b
 | [],[],_=>rfl
 |a :: l,b :: m,h=>by
  simp only[eqLKs,Bool.and_eq_true]at h
  rw[eqLK_ok h.1,sz h.2]
 | [],_ :: _,h=>by cases h
 |_ :: _,[],h=>by cases h
theorem eqSK_ok{a b:SK}(h:eqSK a b=true):a=b:=by
 cases a<;>cases b<;>simp only[eqSK]at h<;>first|cases h|skip
 ·rw[eqLK_ok h]
 ·rw[sz h]
theorem nZ:∀ {a b:List SK},eqSKs a b=true→a=b
 | [],[],_=>rfl
 |a :: l,b :: m,h=>by
  simp only[eqSKs,Bool.and_eq_true]at h
  rw[eqSK_ok h.1,nZ h.2]
 | [],_ :: _,h=>by cases h
 |_ :: _,[],h=>by cases h
theorem df:∀ {ls:List Lf},aQ ls=true→bg ls
 | [],_=>fun _ h=>by cases h
 | .i n :: ls,h=>fun l hl=>by
  rcases List.mem_cons.1 hl with rfl|hl
  ·trivial
  ·exact df (ls:=ls) h l hl
 | .b n :: ls,h=>fun l hl=>by
  rcases List.mem_cons.1 hl with rfl|hl
  ·trivial
  ·exact df (ls:=ls) h l hl
 | .v n :: ls,h=>fun l hl=>by
  have h:(match goodF n with|true=>aQ ls|false=>false)=true:=h
  split at h
  ·rename_i e
   rw[sF]at e
   rcases List.mem_cons.1 hl with rfl|hl
   ·exact e
   ·exact df (ls:=ls) h l hl
  ·cases h
theorem sb{C:Cfg}{Sg:FuncId→Option Sig}{T:Nat→Site}{call:ae}(hc:CallBOk C Sg T call){g:FuncId}{ls:List Lf}{h:HTr}{K:List Lf→HTr→RT}(hk:tR call g ls h K=some w) :
  ∃rs h',au C Sg g ls (absH T (toL h)) rs (absH T (toL h'))∧K rs h'=some w:=by
 unfold tR at hk
 split at hk
 ·rename_i e;exact hc.f g ls h K w (df e) hk
 ·cases hk
theorem ky{C:Cfg}{Sg:FuncId→Option Sig}{T:Nat→Site}{call:ae}(hc:CallBOk C Sg T call){g:FuncId}{hs:Option (List SK)}{vals:List Value}{h:HTr}{K:List Lf→HTr→RT}(hk:jK Sg call g hs vals h K=some w) :
  ∃sg rs ys h',Sg g=some sg∧(∀x,hs=some x→sg.rs=x)∧Told sg.rs rs ys∧gc C g vals (absH T (toL h)) (dP (ah ys)) (absH T (toL h'))∧K rs h'=some w:=by
 unfold jK at hk
 split at hk
 ·cases hk
 ·rename_i sg e
  split at hk
  ·cases hk
  ·rename_i e2
   split at hk
   ·cases hk
   ·rename_i xs e3
    obtain⟨rs,h',⟨sg',xs',ys,c1,c2,c3,c4⟩,hk⟩:=sb hc hk
    rw[e]at c1
    cases c1
    obtain⟨d1,d2,d3⟩:=pf e3
    obtain⟨w1,_⟩:=cm c2.1 d1 c2.2.1
    rw[w1,d2]at c4
    refine⟨sg,rs,ys,h',e,fun x hx=>?_,c3,c4,hk⟩
    subst hx
    exact nZ e2
theorem gY{T:Nat→Site}{h:HTr}{l κ:Nat}{st:LoopState}{pd:Option Code}{vs:List Value}(e:h.at l=some (.lp κ st pd vs)):dh (absH T (toL h)) l=some { lpOf (T κ) κ vs with state:=st,pending:=pd }:=by
 unfold dh absH
 rw[List.getElem?_map,gI,e]
 rfl
theorem callvB_ok{C:Cfg}{Sg:FuncId→Option Sig}{T:Nat→Site}{call:ae}(hc:CallBOk C Sg T call){v:Value}{args:List Value}{hs:List SK}{h:HTr}{K:List Lf→HTr→RT}(hk:callvB Sg T call v args hs h K=some w) :
  ∃rs h',tM C v args hs (absH T (toL h)) rs (absH T (toL h'))∧K rs h'=some w:=by
 unfold callvB at hk
 split at hk
 ·rename_i fn first cap
  split at hk
  ·rename_i g
   obtain⟨sg,rs,ys,h',c1,c2,c3,c4,c5⟩:=ky hc hk
   rw[c2 _ rfl]at c3
   exact⟨rs,h',⟨ys,c3,.inl ⟨g,first,cap,rfl,c4⟩⟩,c5⟩
  ·rename_i l
   split at hk
   ·rename_i e1 e2
    have e1:first = #[]:=Array.toList_inj.1 e1
    have e2:cap = #[]:=Array.toList_inj.1 e2
    subst e1 e2
    split at hk
    ·rename_i κ st pd vs e
     split at hk
     ·cases hk
     ·rename_i e3
      have e3:=nZ e3
      subst e3
      split at hk
      ·cases hk
      ·rename_i xs e4
       split at hk
       ·rename_i e5
        obtain⟨d1,d2,d3⟩:=pf e4
        obtain⟨b,h',y1,y2⟩:=hc.y κ vs l _ h K w st pd xs e ⟨d1,rfl,d3⟩ hk
        rw[d2]at y1
        refine⟨[.b b],h',⟨[.leaf (.b b)],⟨rfl,rfl,fun x hx=>?_⟩,.inr ⟨l,rfl,y1⟩⟩,y2⟩
        simp only[List.mem_singleton]at hx
        subst hx
        intro y hy
        simp only[S0.cells,List.mem_singleton]at hy
        subst hy;trivial
       ·cases hk
    ·cases hk
   ·cases hk
  ·cases hk
 ·cases hk
theorem rfunB_ok{C:Cfg}{Sg:FuncId→Option Sig}{T:Nat→Site}{call:ae}(hc:CallBOk C Sg T call){κ:Nat}{v:Value}{vals:List Value}{h:HTr}{K:Option Code→HTr→RT}(hk:rfunB Sg call κ v vals h K=some w) :
  ∃g first cap r H1 lp h2,v = .func (.func g) first cap∧gc C g (first.toList++[.func (.yield (absH T (toL h)).length) #[] #[]]++cap.toList) (absH T (toL h)++[.loop (lpOf (T κ) κ vals)]) r H1∧
   dh H1 (absH T (toL h)).length=some lp∧lp.state≠.busy∧absH T (toL h2)=H1.set (absH T (toL h)).length (.loop { lp with state:=.exhausted })∧K lp.pending h2=some w:=by
 unfold rfunB at hk
 split at hk
 ·rename_i fn first cap
  split at hk
  ·rename_i g
   rw[fO]at hk
   obtain⟨sg,rs,ys,h',_,_,c3,c4,c5⟩:=ky hc hk
   have hlen:(absH T (toL h)).length=h.n:=by rw[dn,dU]
   split at c5
   ·rename_i κ' st pd vs e
    have hl:=gY (T:=T) e
    rw[fV,gM]at c4
    have fin:∀(hst:st≠.busy),(putK h' h.n (.lp κ' .exhausted pd vs) fun h2=>K pd h2)=some w→∃g' first' cap' r H1 lp h2,(Value.func (.func g) first cap) = .func (.func g') first' cap'∧gc C g' (first'.toList++[.func (.yield (absH T (toL h)).length) #[] #[]]++cap'.toList) (absH T (toL h)++[.loop (lpOf (T κ) κ vals)]) r H1∧
      dh H1 (absH T (toL h)).length=some lp∧lp.state≠.busy∧absH T (toL h2)=H1.set (absH T (toL h)).length (.loop { lp with state:=.exhausted })∧K lp.pending h2=some w:=by
     intro hst hk
     rw[fC]at hk
     refine⟨g,first,cap,dP (ah ys),absH T (toL h'),{ lpOf (T κ') κ' vs with state:=st,pending:=pd },h'.put h.n (.lp κ' .exhausted pd vs),rfl,?_,?_,hst,?_,hk⟩
     ·rw[hlen];exact c4
     ·rw[hlen];exact hl
     ·rw[fH,gN,hlen];rfl
    cases st with
    |busy=>cases c5
    |_=>exact fin (by simp) c5
   ·cases c5
  ·cases hk
 ·cases hk
theorem qz{id:Nat}:∀ {ks:List (Nat×RT)},(List.rec none (fun p _ ih=>match Nat.beq p.1 id with|true=>p.2|false=>ih) ks:RT)=some w→
  ∃id' x,some (Code.exit id)=some (Code.exit id')∧(id',x)∈ks∧x=some w
 | [],h=>by cases h
 |p :: ks,h=>by
  have h:(match Nat.beq p.1 id with|true=>p.2|false=>(List.rec none (fun p _ ih=>match Nat.beq p.1 id with|true=>p.2|false=>ih) ks:RT))=some w:=h
  split at h
  ·rename_i e
   exact⟨id,p.2,rfl,by rw[←Nat.eq_of_beq_eq_true e];exact List.mem_cons_self,h⟩
  ·obtain⟨id',x,a,b,c⟩:=qz h
   exact⟨id',x,a,List.mem_cons_of_mem _ b,c⟩
theorem shfB_ok{op:BinOp}{k k':IntKind}{a b:Int}{K:Int→RT}(h:shfB op k a k' b K=some w):∃n,ShRun op k a k' b n∧K n=some w:=by
 unfold shfB at h
 split at h
 ·rename_i hb
  have hb:¬b<0:=by have:=leZ_iff.1 hb;omega
  split at h
  ·rw[gV]at h
   exact⟨_,fun P t w=>by simp[binOp,Op.shift,hb],h⟩
  ·rw[gV]at h
   exact⟨_,fun P t w=>by simp[binOp,Op.shift,hb],h⟩
  ·cases h
 ·cases h
theorem BA_ok{C:Cfg}{Sg:FuncId→Option Sig}{T:Nat→Site}{call:ae}(hc:CallBOk C Sg T call):AlgOk (BA Sg T call) C Sg T (fun b=>b=some w) (fun h=>absH T (toL h)) where
 fail:=by intro h;cases h
 cond:=by
  intro b x y h
  cases b
  ·exact .inr ⟨rfl,h⟩
  ·exact .inl ⟨rfl,h⟩
 ari:=fun op k a b K h=>ariB_ok h
 shf:=fun op k a k' b K h=>shfB_ok h
 cmp:=fun op a b K h=>cmpB_ok h
 eqs:=fun l K h=>eqsB_ok h
 conv:=fun k a K h=>fitsK h
 sel:=by intro t a b K h;cases t<;>exact h
 opt:=by
  intro α o K h
  cases o with
  |none=>cases h
  |some x=>exact⟨x,rfl,h⟩
 chk:=by
  intro v K h
  have h:chkB v K=some w:=h
  unfold chkB at h
  split at h
  ·rename_i e;rw[sF]at e;exact⟨e,h⟩
  ·cases h
 unI:=by
  intro ls K h
  match ls,h with
  | .i n :: r,h=>exact⟨n,r,rfl,h⟩
 unB:=by
  intro ls K h
  match ls,h with
  | .b n :: r,h=>exact⟨n,r,rfl,h⟩
 unV:=by
  intro ls K h
  match ls,h with
  | .v n :: r,h=>exact⟨n,r,rfl,h⟩
 un0:=by
  intro ls K h
  match ls,h with
  | [],h=>exact⟨rfl,h⟩
 ucI:=by
  intro k ls K h
  match ls,h with
  | .int k' n :: r,h=>
   have h:(match ej k k' with|true=>K n r|false=>none)=some w:=h
   split at h
   ·rename_i e;rw[cL e];exact⟨n,r,rfl,h⟩
   ·cases h
 ucB:=by
  intro ls K h
  match ls,h with
  | .bool n :: r,h=>exact⟨n,r,rfl,h⟩
 ucV:=by
  intro ls K h
  match ls,h with
  |n :: r,h=>exact⟨n,r,rfl,h⟩
 uc0:=by
  intro ls K h
  match ls,h with
  | [],h=>exact⟨rfl,h⟩
 peek:=by
  intro f h K hk
  have hk:peekB T f h K=some w:=hk
  unfold peekB at hk
  rw[←kU]
  cases f with
  |ld n p=>exact ldB_ok hk
  |lg C n p=>exact lgB_ok hk
  |fn f=>
   simp only at hk
   rw[jQ]at hk
   split at hk
   ·rename_i x e;exact⟨x,e,hk⟩
   ·cases hk
 heap:=by
  intro f h K hk
  have hk:heapB T f h K=some w:=hk
  obtain⟨acts,cs,h',a1,a2,a3⟩:=heapB_ok hk
  exact⟨acts,cs,h',by rw[←kU,dn];exact a1,by rw[a2];exact iz T acts (toL h),a3⟩
 new:=by
  intro o h K hk
  have hk:newB o h K=some w:=hk
  unfold newB at hk
  obtain⟨x,e1,e2⟩:=gZ (o:=o) (k:=fun o=>iT h o fun h'=>K h.n h')
  rw[e2,fO]at hk
  exact⟨h.push x,by rw[fV,e1];exact gM T (toL h) _,by rw[dn,dU];exact hk⟩
 call:=fun g ls h K hk=>sb hc hk
 callv:=fun v args hs h K hk=>callvB_ok hc hk
 join:=fun b m h=>h
 loop:=by
  intro F ls h hk
  refine⟨fun n=>Nat.rec (motive:=fun _=>List Lf→HTr→RT) (fun _ _=>none) (fun _ ih ls h=>F ih ls h) n,fun ls h=>(by simp),fun n ls h=>rfl,1000000,hk⟩
 rfun:=fun κ v vals h K hk=>rfunB_ok hc hk
 pend:=by
  intro pd kn kr ks h
  cases pd with
  |none=>exact .inl ⟨rfl,h⟩
  |some c=>
   cases c<;>first|exact .inr (.inl ⟨rfl,h⟩)|skip
   case exit id=>
    exact .inr (.inr (qz h))
   all_goals cases h
 lp1:=by
  intro l h K hk
  have hk:lp1B l h K=some w:=hk
  unfold lp1B at hk
  split at hk
  ·rename_i κ st pd vs e
   split at hk
   ·rw[fC]at hk
    exact⟨_,_,gY e,rfl,by rw[fH];exact gN T (toL h) l _,hk⟩
   ·cases hk
  ·cases hk
 lp2:=by
  intro l j h K hk
  have hk:lp2B l j h K=some w:=hk
  unfold lp2B at hk
  split at hk
  ·rename_i κ st pd vs e
   cases j with
   |none=>
    have hk:putK h l (.lp κ .ready none vs) K=some w:=hk
    rw[fC]at hk
    exact⟨_,h.put l (.lp κ .ready none vs),gY e,(congrArg (absH T) (fH h l (.lp κ .ready none vs))).trans (gN T (toL h) l (.lp κ .ready none vs)),hk⟩
   |some c=>
    have hk:putK h l (.lp κ .done (some c) vs) K=some w:=hk
    rw[fC]at hk
    exact⟨_,h.put l (.lp κ .done (some c) vs),gY e,(congrArg (absH T) (fH h l (.lp κ .done (some c) vs))).trans (gN T (toL h) l (.lp κ .done (some c) vs)),hk⟩
  ·cases hk
inductive TabOk(C:Cfg)(Sg:FuncId→Option Sig)(X:Ctxt)(dr:Dr)(A:Alg RT HTr)(f:FuncId)(ls:List Lf)(h:HTr)(K:List Lf→HTr→RT)(w:List Lf):Prop
 |run (fn:Fn1) (hi:FnIs X Sg f fn) (he:aj A X Sg dr fn ls h K=some w)
 |known (rs:List Lf) (hc:∀H,au C Sg f ls H rs H) (hk:K rs h=some w)
 |alone (fn:Fn1) (rs:List Lf) (sg:Sig) (hi:FnIs X Sg f fn) (hs:Sg f=some sg) (hp:sg.plain=true) (he:aj A X Sg dr fn ls .empty (fun rs _=>some rs)=some rs) (hk:K rs h=some w)
end
end Sx
end Go.Am

/-
 CALLS THAT LEAVE NOTHING BEHIND: a run that begins with an empty heap is a run over any heap.
-/
namespace Go.Am
namespace Sx
def gfl(v:Value):Bool:=match v with
 | .pointer (some a)=>a.spot==some 1
 | .slice (some a) _ _=>a.spot==some 1
 |v=>scalar v
section
variable [Val]
theorem qx [Glo]{mu:HMap}{p:Pl}{x y:Option Obj}{o:HObj}(hxy:∀a,x=some a→y=some a)(h:objR mu p x o):objR mu p y o:=by
 cases o with
 |cells vs esz rw=>
  obtain⟨h1,h2,h3,c,e,fr,h4,h5⟩:=h
  exact⟨h1,h2,h3,c,e,fr,hxy _ h4,h5⟩
 |map es clock=>
  obtain⟨es',h1,h2⟩:=h
  exact⟨es',hxy _ h1,h2⟩
 |loop r=>
  obtain⟨L,h1,h2⟩:=h
  exact⟨L,hxy _ h1,h2⟩
 |siter s pos=>exact hxy _ h
 |dead=>trivial
theorem flatVRs [Glo]{la:LMap}{mu mu':HMap}{vs cs:List Value}(hf:vs.all flat=true)(h:VRs la mu vs cs):VRs la mu' vs cs:=by
 refine⟨h.1,fun i x y hx hy=>?_⟩
 have h1:=h.2 i x y hx hy
 have h2:flat x=true:=List.all_eq_true.1 hf x (List.mem_of_getElem? hx)
 rw[cw h2 h1]
 exact .of_flat h2
theorem gflVR [Glo]{la la':LMap}{mu mu':HMap}{v c:Value}(hf:gfl v=true)(h:VR la mu v c):VR la' mu' v c:=by
 cases h with
 |poison c=>cases hf
 |sym h=>cases hf
 |scalar h=>exact .scalar h
 |agg _ _=>cases hf
 |tuple _ _ _=>cases hf
 |func _ _ _ _ _=>cases hf
 |yield _=>cases hf
 |lptr _=>cases hf
 |hptr _=>cases hf
 |gptr=>exact .gptr
 |hslice _ _ _ _=>simp[gfl,tag]at hf
 |hslice0 _=>simp[gfl,tag]at hf
 |gslice hl hx=>exact .gslice hl hx
 |gslice0 hx=>exact .gslice0 hx
 |map _=>cases hf
theorem jR [Glo]{mu mu':HMap}{vs:List Value}{c:Array Value}{o:Nat}(hf:vs.all gfl=true)(h:bB mu vs c o):bB mu' vs c o:=by
 intro i v hv
 obtain⟨v',h1,h2⟩:=h i v hv
 exact⟨v',h1,gflVR (List.all_eq_true.1 hf v (List.mem_of_getElem? hv)) h2⟩
theorem no_own{mu:HMap}{b:Nat}:¬Own mu [] b:=by
 rintro⟨id,o,p,h,_⟩
 simp at h
theorem frame_ok{C:Cfg}(hG:∀g vs,C.G g=some vs→vs.all gfl=true){f:FuncId}{args:List Value}{r:Value}{H':List HObj}(h:dD C f args [] r H')(ha:args.all flat=true)(hr:flat r=true)(H:List HObj):dD C f args H r H:=by
 intro _ base mu w args' hb hargs hW cs
 have hW0:WR C w.heap.size (fun _=>none) [] w:=by
  refine⟨fun id o h=>by simp at h,fun i j oi oj pi pj h=>by simp at h,fun i o p h=>by simp at h,fun i o p h=>by simp at h,fun _ _=>rfl,fun g vs hg=>?_⟩
  obtain⟨h1,h2,c,e,fr,h3,h4⟩:=hW.glob g vs hg
  exact⟨by omega,h2,c,e,fr,h3,jR (hG g vs hg) h4⟩
 obtain⟨v,mu',w',a1,a2,a3,a4,a5⟩:=h _ w.heap.size (fun _=>none) w args' (Nat.le_refl _) (flatVRs ha hargs) hW0 cs
 have hkeep:∀(b:Nat) x,w.heap[b]? = some x→w'.heap[b]? = some x:=by
  intro b x hx
  have hlt:b<w.heap.size:=by
   rcases Nat.lt_or_ge b w.heap.size with h|h
   ·exact h
   ·rw[Array.getElem?_eq_none h]at hx;cases hx
  rw[a3.keep b hlt no_own];exact hx
 refine⟨v,mu,w',?_,?_,?_,a4,a5⟩
 ·rw[cw hr a1];exact .of_flat hr
 ·refine⟨fun id o h1 h2=>?_,hW.inj,hW.own,hW.ro,hW.dom,fun g vs hg=>?_⟩
  ·obtain⟨p,h3,h4⟩:=hW.obj id o h1 h2
   exact⟨p,h3,qx (hkeep p.b) h4⟩
  ·obtain⟨h1,h2,c,e,fr,h3,h4⟩:=hW.glob g vs hg
   exact⟨h1,h2,c,e,fr,hkeep _ _ h3,h4⟩
 ·exact⟨Nat.le_refl _,fun _ _=>rfl,a3.size,fun b hb _=>a3.keep b hb no_own,fun b h=>.inr h,a3.os,a3.tape,a3.output⟩
end
section
variable [Val] [Kno]
end
end Sx
end Go.Am

/-
 WHERE AN OPERATION TOUCHES THE HEAP: at the addresses of its operands alone;a new block goes to the end.
-/
namespace Go.Am
namespace Sx
def eV(F:List Nat)(H H2:List HObj):Prop:=∀r∈F,∀x,H[r]? = some x→x.alive=true→H2[r]? = some x
structure HEff where
 set:Option (Nat×HObj)
 push:Option (HObj×(Nat→Value))
 v:Value
noncomputable def HEff.put(e:HEff)(H:List HObj):List HObj:=match e.set with
 |some p=>H.set p.1 p.2
 |none=>H
noncomputable def HEff.heap(e:HEff)(H:List HObj):List HObj:=match e.push with
 |some p=>e.put H++[p.1]
 |none=>e.put H
noncomputable def HEff.val(e:HEff)(n:Nat):Value:=match e.push with
 |some p=>p.2 n
 |none=>e.v
def LocF(nw:Prop)(F W:List Nat)(f:List HObj→Option (List HObj×Value))(H:List HObj):Prop:=
 ∀H' v,f H=some (H',v)→∃e:HEff,H'=e.heap H∧v=e.val H.length∧(∀p,e.set=some p→p.1∈W∧∃x,H[p.1]? = some x∧x.alive=true)∧(∀p,e.push=some p→nw∧Fresh p.2∧p.1.alive=true)∧
  ∀H2,eV F H H2→f H2=some (e.heap H2,e.val H2.length)
def LocG(F:List Nat)(f:List HObj→Option Value)(H:List HObj):Prop:=∀v,f H=some v→∀H2,eV F H H2→f H2=some v
theorem cu{F:List Nat}{H H2:List HObj}(h:eV F H H2){r:Nat}(hr:r∈F){vs:List Value}{e:Nat}{b:Bool}(hx:H[r]? = some (.cells vs e b)):H2[r]? = some (.cells vs e b):=h r hr _ hx rfl
theorem bE{F:List Nat}{H H2:List HObj}(h:eV F H H2){r:Nat}(hr:r∈F){es:List MapEntry}{c:Nat}(hx:hmap H r=some (es,c)):H[r]? = some (.map es c)∧hmap H2 r=some (es,c):=by
 unfold hmap at hx
 split at hx
 ·rename_i e
  cases hx
  exact⟨e,by unfold hmap;rw[h r hr _ e rfl]⟩
 ·cases hx
theorem gn{C:Cfg}{H H2:List HObj}{esz:Nat}{x:Value}{p:List Value×Nat}(hc:bV C H esz x=some p){F:List Nat}(hF:∀r∈adr x,r∈F)(h:eV F H H2):bV C H2 esz x=some p:=by
 unfold bV at hc ⊢
 split at hc
 ·exact hc
 ·rename_i a len cx
  split at hc
  ·rename_i hs;simp only[hs,if_true];exact hc
  ·rename_i hs
   split at hc
   ·rename_i ht
    simp only[hs,if_false,ht,if_true]
    split at hc
    ·rename_i vs e b hid
     have hm:a.block∈adr (.slice (some a) len cx):=by
      simp[adr,ht,tag]
     rw[cu h (hF _ hm) hid]
     exact hc
    ·cases hc
   ·cases hc
 ·exact hc
 ·cases hc
theorem rr{nw:Prop}{F W:List Nat}{H:List HObj}(hnw:nw)(x:HObj)(mk:Nat→Value)(hx:x.alive=true)(hm:Fresh mk):LocF nw F W (fun H=>some (H++[x],mk H.length)) H:=by
 intro H' v h
 cases h
 exact⟨⟨none,some (x,mk),undef⟩,rfl,rfl,fun p hp=>(by cases hp),fun p hp=>by cases hp;exact⟨hnw,hm,hx⟩,fun H2 _=>rfl⟩
theorem eI{nw:Prop}{F W:List Nat}{f:List HObj→Option (List HObj×Value)}{H:List HObj}{v:Value}(h:f H=some (H,v))(h2:∀H2,eV F H H2→f H2=some (H2,v)) :
  ∃e:HEff,H=e.heap H∧v=e.val H.length∧(∀p,e.set=some p→p.1∈W∧∃x,H[p.1]? = some x∧x.alive=true)∧(∀p,e.push=some p→nw∧Fresh p.2∧p.1.alive=true)∧∀H2,eV F H H2→f H2=some (e.heap H2,e.val H2.length):=
 ⟨⟨none,none,v⟩,rfl,rfl,fun p hp=>(by cases hp),fun p hp=>(by cases hp),h2⟩
theorem ox{nw:Prop}{F W:List Nat}{f:List HObj→Option (List HObj×Value)}{H:List HObj}{x:HObj}{mk:Nat→Value}(hnw:nw)(hx:x.alive=true)(hm:Fresh mk)(h2:∀H2,eV F H H2→f H2=some (H2++[x],mk H2.length)) :
  ∃e:HEff,H++[x]=e.heap H∧mk H.length=e.val H.length∧(∀p,e.set=some p→p.1∈W∧∃x,H[p.1]? = some x∧x.alive=true)∧(∀p,e.push=some p→nw∧Fresh p.2∧p.1.alive=true)∧∀H2,eV F H H2→f H2=some (e.heap H2,e.val H2.length):=
 ⟨⟨none,some (x,mk),undef⟩,rfl,rfl,fun p hp=>(by cases hp),fun p hp=>by cases hp;exact⟨hnw,hm,hx⟩,h2⟩
theorem ek{nw:Prop}{F W:List Nat}{f:List HObj→Option (List HObj×Value)}{H:List HObj}{i:Nat}{x y:HObj}{v:Value}(hi:i∈W)(hy:H[i]? = some y)(ha:y.alive=true)(h2:∀H2,eV F H H2→f H2=some (H2.set i x,v)) :
  ∃e:HEff,H.set i x=e.heap H∧v=e.val H.length∧(∀p,e.set=some p→p.1∈W∧∃x,H[p.1]? = some x∧x.alive=true)∧(∀p,e.push=some p→nw∧Fresh p.2∧p.1.alive=true)∧∀H2,eV F H H2→f H2=some (e.heap H2,e.val H2.length):=
 ⟨⟨some (i,x),none,v⟩,rfl,rfl,fun p hp=>by cases hp;exact⟨hi,y,hy,ha⟩,fun p hp=>(by cases hp),h2⟩
theorem uo{nw:Prop}{C:Cfg}{t:TypeId}{s x:Value}{H:List HObj}{F W:List Nat}(hnw:nw)(hs:∀r∈adr s,r∈F∧r∈W)(hx:∀r∈adr x,r∈F):LocF nw F W (eh C t s x) H:=by
 intro H' v hf
 unfold eh at hf
 split at hf
 case h_2=>cases hf
 rename_i elem hu
 split at hf
 ·cases hf
 rename_i info hi
 split at hf
 ·cases hf
 rename_i hsz
 split at hf
 ·cases hf
 rename_i hz
 split at hf
 ·cases hf
 rename_i new n hcv
 have base:∀H2,eV F H H2→eh C t s x H2=(match (motive:=Value→Option (List HObj×Value)) s with
   | .slice none 0 0=>
    if n=0 then some (H2,.slice none 0 0)
    else if cp n info.bytes then some (H2++[.cells new info.size true],.slice (some ⟨H2.length,0,tag info.size⟩) n 0)else none
   | .slice (some a) len cx=>
    if a.spot≠tag info.size then none else
    match H2[a.block]? with
    |some (.cells vs e rw)=>
     if e≠info.size then none else
     match cut vs a.off (len*info.size)with
     |none=>none
     |some old=>
      match cx with
      |0=>
       if n=0 then some (H2,.slice (some a) len 0)
       else if rw&&cp (len+n) info.bytes then
        some (H2.set a.block .dead++[.cells (old++new) info.size true],.slice (some ⟨H2.length,0,tag info.size⟩) (len+n) 0)
       else none
      |cap+1=>
       if len+n≤cap then
        if rw then(splice vs (a.off+len*info.size) new).map fun vs'=>(H2.set a.block (.cells vs' e true),.slice (some a) (len+n) (cap+1))
        else if n=0 then some (H2,.slice (some a) len (cap+1))else none
       else if cp (len+n) info.bytes then
        some (H2++[.cells (old++new) info.size true],.slice (some ⟨H2.length,0,tag info.size⟩) (len+n) 0)
       else none
    |_=>none
   |_=>none):=by
  intro H2 h2
  unfold eh
  simp only[hu,hi,hsz,if_false,hz,gn hcv hx h2]
  rfl
 split at hf
 ·split at hf
  ·rename_i hn
   cases hf
   exact eI (by rw[base H fun _ _ _ h _=>h];simp only[hn,if_true]) fun H2 h2=>by rw[base H2 h2];simp only[hn,if_true]
  ·rename_i hn
   split at hf
   ·rename_i hok
    cases hf
    exact ox (mk:=fun k=>.slice (some ⟨k,0,tag info.size⟩) n 0) hnw rfl (.slice _ _ _) fun H2 h2=>by rw[base H2 h2];simp only[hn,if_false,hok,if_true]
   ·cases hf
 ·rename_i a len cx
  split at hf
  ·cases hf
  rename_i hsp
  have hm:a.block∈adr (.slice (some a) len cx):=by
   simp only[ne_eq,Classical.not_not]at hsp
   simp[adr,hsp,tag]
  split at hf
  case h_2=>cases hf
  rename_i vs e rw0 hid
  split at hf
  ·cases hf
  rename_i he
  split at hf
  ·cases hf
  rename_i old hcut
  have hid2:∀ {H2},eV F H H2→H2[a.block]? = some (.cells vs e rw0):=fun h2=>cu h2 (hs _ hm).1 hid
  split at hf
  ·split at hf
   ·rename_i hn
    cases hf
    exact eI (by rw[base H fun _ _ _ h _=>h];simp only[hsp,hid,he,hcut,hn,if_true,if_false]) fun H2 h2=>by rw[base H2 h2];simp only[hsp,hid2 h2,he,hcut,hn,if_true,if_false]
   ·rename_i hn
    split at hf
    ·rename_i hok
     cases hf
     refine⟨⟨some (a.block,.dead),some (.cells (old++new) info.size true,fun k=>.slice (some ⟨k,0,tag info.size⟩) (len+n) 0),undef⟩,rfl,rfl,fun p hp=>by cases hp;exact⟨(hs _ hm).2,_,hid,rfl⟩,fun p hp=>by cases hp;exact⟨hnw,.slice _ _ _,rfl⟩,fun H2 h2=>?_⟩
     rw[base H2 h2];simp only[hsp,hid2 h2,he,hcut,hn,hok,if_true,if_false];rfl
    ·cases hf
  ·split at hf
   ·rename_i cap hle
    split at hf
    ·rename_i hrw
     obtain⟨vs',hspl,hq⟩:=Option.map_eq_some_iff.1 hf
     cases hq
     exact ek (hs _ hm).2 hid rfl fun H2 h2=>by rw[base H2 h2];simp only[hsp,hid2 h2,he,hcut,hle,hrw,if_true,if_false,hspl,Option.map_some]
    ·rename_i hrw
     split at hf
     ·rename_i hn
      cases hf
      exact eI (by rw[base H fun _ _ _ h _=>h];simp only[hsp,hid,he,hcut,hle,hn,hrw,if_true,if_false];simp[hn];omega) fun H2 h2=>by rw[base H2 h2];simp only[hsp,hid2 h2,he,hcut,hle,hrw,hn,if_true,if_false];simp[hn];omega
     ·cases hf
   ·rename_i cap hle
    split at hf
    ·rename_i hok
     cases hf
     exact ox (mk:=fun k=>.slice (some ⟨k,0,tag info.size⟩) (len+n) 0) hnw rfl (.slice _ _ _) fun H2 h2=>by rw[base H2 h2];simp only[hsp,hid2 h2,he,hcut,hle,hok,if_true,if_false]
    ·cases hf
 ·cases hf
theorem loc_copy{nw:Prop}{C:Cfg}{t:TypeId}{d x:Value}{H:List HObj}{F W:List Nat}(hs:∀r∈adr d,r∈F∧r∈W)(hx:∀r∈adr x,r∈F):LocF nw F W (kE C t d x) H:=by
 intro H' v hf
 unfold kE at hf
 split at hf
 ·rename_i elem hu
  split at hf
  ·cases hf
  rename_i hsz
  obtain⟨p,hp,hq⟩:=Option.map_eq_some_iff.1 hf
  cases hq
  exact eI (by unfold kE;simp only[hu,hsz,if_false,hp,Option.map_some]) fun H2 h2=>by unfold kE;simp only[hu,hsz,if_false,gn hp hx h2,Option.map_some]
 ·rename_i elem a dlen cx hu
  split at hf
  ·cases hf
  rename_i hsz
  split at hf
  ·cases hf
  rename_i hsp
  split at hf
  case h_2=>cases hf
  rename_i new n vs e hcv hid
  split at hf
  ·cases hf
  rename_i he
  obtain⟨vs',hspl,hq⟩:=Option.map_eq_some_iff.1 hf
  cases hq
  have hm:a.block∈adr (.slice (some a) dlen cx):=by
   simp only[ne_eq,Classical.not_not]at hsp
   simp[adr,hsp,tag]
  refine ek (hs _ hm).2 hid rfl fun H2 h2=>?_
  unfold kE
  simp only[hu,hsz,hsp,he,if_false,gn hcv hx h2,cu h2 (hs _ hm).1 hid,hspl,Option.map_some]
 ·cases hf
theorem loc_clear{nw:Prop}{C:Cfg}{t:TypeId}{x:Value}{H:List HObj}{F W:List Nat}(hs:∀r∈adr x,r∈F∧r∈W):LocF nw F W (fi C t x) H:=by
 intro H' v hf
 unfold fi at hf
 split at hf
 ·rename_i elem hu
  cases hf
  exact eI (by unfold fi;simp only[hu]) fun H2 h2=>by unfold fi;simp only[hu]
 ·rename_i elem a n cx hu
  split at hf
  ·cases hf
  rename_i hsz
  split at hf
  ·cases hf
  rename_i hsp
  split at hf
  case h_2=>cases hf
  rename_i z vs e hz hid
  split at hf
  ·cases hf
  rename_i he
  obtain⟨vs',hspl,hq⟩:=Option.map_eq_some_iff.1 hf
  cases hq
  have hm:a.block∈adr (.slice (some a) n cx):=by
   simp only[ne_eq,Classical.not_not]at hsp
   simp[adr,hsp,tag]
  refine ek (hs _ hm).2 hid rfl fun H2 h2=>?_
  unfold fi
  simp only[hu,hsz,hsp,he,if_false,hz,cu h2 (hs _ hm).1 hid,hspl,Option.map_some]
 ·cases hf
theorem loc_store{nw:Prop}{C:Cfg}{t:TypeId}{id off:Nat}{x:Value}{H:List HObj}{F W:List Nat}(h1:id∈F)(h2:id∈W):LocF nw F W (gw C t id off x) H:=by
 intro H' v hf
 unfold gw at hf
 split at hf
 ·rename_i vs e hid
  obtain⟨vs',hw,hq⟩:=Option.map_eq_some_iff.1 hf
  cases hq
  refine ek h2 hid rfl fun H2 h3=>?_
  unfold gw
  simp only[cu h3 h1 hid,hw,Option.map_some]
 ·cases hf
theorem mU{nw:Prop}{C:Cfg}{t:TypeId}{m k x:Value}{H:List HObj}{F W:List Nat}(hs:∀r∈adr m,r∈F∧r∈W):LocF nw F W (bH C t m k x) H:=by
 intro H' v hf
 unfold bH at hf
 split at hf
 case h_2=>cases hf
 rename_i kt et id hu
 split at hf
 ·cases hf
 rename_i hok
 split at hf
 ·cases hf
 rename_i es c hm
 obtain⟨f1,w1⟩:=hs id (by simp[adr])
 have g1:=(bE (fun _ _ _ h _=>h:eV F H H) f1 hm).1
 split at hf
 ·cases hf
 ·rename_i hfi
  cases hf
  refine ek w1 g1 rfl fun H2 h2=>?_
  unfold bH
  simp only[hu,hok,(bE h2 f1 hm).2,hfi]
  rfl
 ·rename_i i hfi
  split at hf
  ·rename_i hb
   cases hf
   refine ek w1 g1 rfl fun H2 h2=>?_
   unfold bH
   simp only[hu,hok,(bE h2 f1 hm).2,hfi,hb]
   rfl
  ·cases hf
theorem loc_entry{nw:Prop}{C:Cfg}{t:TypeId}{m k:Value}{H:List HObj}{F W:List Nat}(hs:∀r∈adr m,r∈F∧r∈W):LocF nw F W (bG C t m k) H:=by
 intro H' v hf
 unfold bG at hf
 split at hf
 case h_2=>cases hf
 rename_i kt et id hu
 split at hf
 ·cases hf
 rename_i hok
 split at hf
 ·cases hf
 rename_i es c hm
 obtain⟨f1,w1⟩:=hs id (by simp[adr])
 have g1:=(bE (fun _ _ _ h _=>h:eV F H H) f1 hm).1
 split at hf
 ·cases hf
 ·rename_i hfi
  split at hf
  ·cases hf
  rename_i z hz
  cases hf
  refine ek w1 g1 rfl fun H2 h2=>?_
  unfold bG
  simp only[hu,hok,(bE h2 f1 hm).2,hfi,hz]
  rfl
 ·rename_i i hfi
  split at hf
  ·cases hf
  rename_i e hei
  split at hf
  ·rename_i hb
   cases hf
   refine ek w1 g1 rfl fun H2 h2=>?_
   unfold bG
   simp only[hu,hok,(bE h2 f1 hm).2,hfi,hei,hb]
   rfl
  ·cases hf
theorem ur{nw:Prop}{m s x:Value}{H:List HObj}{F W:List Nat}(hs:∀r∈adr m,r∈F∧r∈W):LocF nw F W (bO m s x) H:=by
 intro H' v hf
 unfold bO at hf
 split at hf
 case h_2=>cases hf
 rename_i id b hb
 split at hf
 ·cases hf
 rename_i hok
 split at hf
 ·cases hf
 rename_i es c hm
 obtain⟨f1,w1⟩:=hs id (by simp[adr])
 have g1:=(bE (fun _ _ _ h _=>h:eV F H H) f1 hm).1
 split at hf
 ·rename_i i hfi
  cases hf
  refine ek w1 g1 rfl fun H2 h2=>?_
  unfold bO
  simp only[hb,hok,(bE h2 f1 hm).2,hfi]
  rfl
 ·cases hf
theorem uq{nw:Prop}{C:Cfg}{t:TypeId}{m k:Value}{H:List HObj}{F W:List Nat}(hs:∀r∈adr m,r∈F∧r∈W):LocF nw F W (cU C t m k) H:=by
 intro H' v hf
 unfold cU at hf
 split at hf
 case h_2=>cases hf
 rename_i kt et hu
 split at hf
 ·cases hf
 rename_i hok
 split at hf
 ·cases hf
  exact eI (by unfold cU;simp only[hu,hok];rfl) fun H2 h2=>by unfold cU;simp only[hu,hok];rfl
 ·rename_i id
  obtain⟨f1,w1⟩:=hs id (by simp[adr])
  split at hf
  ·cases hf
  rename_i es c hm
  have g1:=(bE (fun _ _ _ h _=>h:eV F H H) f1 hm).1
  split at hf
  ·cases hf
  ·rename_i hfi
   cases hf
   exact eI (by unfold cU;simp only[hu,hok,hm,hfi];rfl) fun H2 h2=>by unfold cU;simp only[hu,hok,(bE h2 f1 hm).2,hfi];rfl
  ·rename_i i hfi
   cases hf
   refine ek w1 g1 rfl fun H2 h2=>?_
   unfold cU
   simp only[hu,hok,(bE h2 f1 hm).2,hfi]
   rfl
 ·cases hf
theorem loc_make{nw:Prop}{C:Cfg}{t:TypeId}{l c:Value}{H:List HObj}{F W:List Nat}(hnw:nw):LocF nw F W (cG C t l c) H:=by
 intro H' v hf
 unfold cG at hf
 split at hf
 case h_2=>cases hf
 rename_i ln cn e h1 h2 hu
 split at hf
 case h_2=>cases hf
 rename_i info hi
 split at hf
 ·cases hf
 rename_i hsz
 split at hf
 case h_2=>cases hf
 rename_i z hz
 split at hf
 ·rename_i hb
  cases hf
  refine ox (mk:=fun k=>.slice (some ⟨k,0,tag info.size⟩) ln.toNat (cn.toNat+1)) hnw rfl (.slice _ _ _) fun H2 _=>?_
  unfold cG
  simp only[h1,h2,hu,hi,hsz,hz,hb,and_self,if_true,if_false]
 ·cases hf
theorem ut{C:Cfg}{t:TypeId}{m k:Value}{ok:Bool}{H:List HObj}{F:List Nat}(hs:∀r∈adr m,r∈F):LocG F (bP C t m k ok) H:=by
 intro v hf H2 h2
 unfold bP at hf
 unfold bP
 split at hf
 case h_2=>cases hf
 rename_i kt et hu
 split at hf
 ·cases hf
 rename_i hok
 simp only[hok]
 split at hf
 ·cases hf
 rename_i z hz
 split at hf
 ·exact hf
 ·rename_i id
  have f1:=hs id (by simp[adr])
  split at hf
  ·cases hf
  rename_i es c hm
  simp only[(bE h2 f1 hm).2]
  exact hf
 ·cases hf
theorem loc_arr{C:Cfg}{t:TypeId}{a:Addr}{lo hi mx:Option Value}{H:List HObj}{F:List Nat}(hs:∀r∈adr (.pointer (some a)),r∈F):LocG F (bQ C t a lo hi mx) H:=by
 intro v hf H2 h2
 unfold bQ at hf
 unfold bQ
 split at hf
 case h_2=>cases hf
 rename_i n elem hu
 split at hf
 ·cases hf
 rename_i hsz
 simp only[hsz,if_false]
 split at hf
 ·cases hf
 rename_i l h m hb
 split at hf
 ·rename_i hsp
  simp only[hsp,if_true];exact hf
 ·rename_i hsp
  simp only[hsp,if_false]
  split at hf
  ·rename_i hn
   simp only[hn,if_true]
   split at hf
   ·rename_i vs e b hid
    rw[cu h2 (hs _ (by simp[adr,hn])) hid]
    exact hf
   ·cases hf
  ·cases hf
end Sx
end Go.Am

/-
 WHAT AN OPERATION DOES WHEREVER IT STANDS,told of the blocks that it touches.
-/
namespace Go.Am
namespace Sx
noncomputable def fpo(pts:List Nat)(ρ:Operand→Value)(o:Oper):List Nat:=(co pts o).1.flatMap fun x=>adrK (co pts o).2 (ρ x)
noncomputable def wpo(pts:List Nat)(ρ:Operand→Value)(o:Oper):List Nat:=(dy pts o).flatMap fun x=>adr (ρ x)
noncomputable def okS(N:FuncId→Option Nat)(pts:List Nat)(o:Oper):Bool:=
 match aw N pts o with
 |some .hw=>(match o.op with
  | .call c=>(match c.callee with
   | .builtin _=>true
   |_=>false)
  |_=>true)
 |some .hr=>(match o.op with
  | .call c=>(match c.callee with
   | .builtin _=>true
   |_=>false)
  |_=>true)
 |some _=>true
 |none=>false
theorem cI{C:Cfg}{ρ:Operand→Value}{o:Oper}{e:Eff}(h:bJ C ρ o=some e):∃v,e = .val v:=by
 unfold bJ at h
 split at h
 ·split at h
  ·split at h
   ·cases h;exact⟨_,rfl⟩
   ·cases h
  ·cases h
 ·cases h
theorem cN{x:Option Value}{e:Eff}(h:x.map Eff.val=some e):∃v,e = .val v:=by
 obtain⟨v,_,rfl⟩:=Option.map_eq_some_iff.1 h
 exact⟨v,rfl⟩
theorem nohop_or{a:Option Value}{b:Option Eff}{e:Eff}(hb:b=some e→∃v,e = .val v)(h:lE a b=some e):∃v,e = .val v:=by
 unfold lE at h
 split at h
 ·cases h;exact⟨_,rfl⟩
 ·exact hb h
def LocE(Q nw:Prop)(F W:List Nat):Eff→Prop
 | .hop f=>∀H,LocF nw F W f H
 | .hget f=>∀H,LocG F f H
 | .call _ _=>Q
 | .yield _ _=>Q
 |_=>True
theorem bm{Q nw:Prop}{F W:List Nat}{e:Eff}(h:∃v,e = .val v):LocE Q nw F W e:=by
 obtain⟨v,rfl⟩:=h;trivial
theorem gu{v:Value}{p:Nat×Nat}(h:fx v=some p):adr v=[p.1]:=by
 unfold fx at h
 split at h
 ·rename_i a
  split at h
  ·rename_i hs
   cases h
   cases hsp:a.spot with
   |none=>simp[adr,hsp]
   |some k=>rw[hsp]at hs;cases hs
  ·cases h
 ·cases h
theorem sP{Q nw:Prop}{C:Cfg}{pts:List Nat}{d:Option Tmp}{t:TypeId}{v:Value}{e:Eff}{F W:List Nat}(hnw:∀x,d=some x→pts.getD x 0≠x+2→nw)(h:bI C pts d t v=some e):LocE Q nw F W e:=by
 unfold bI at h
 split at h
 ·cases h
 ·split at h
  ·cases h
  ·split at h
   ·cases h
   ·split at h
    ·cases h;trivial
    ·rename_i hpt
     cases h
     exact fun H=>rr (hnw _ rfl hpt) (.cells v.cells.toList (iY C.P t) true) (fun n=>.pointer (some ⟨n,0,none⟩)) rfl .ptr
theorem effOf_loc{C:Cfg}{pts:List Nat}{ρ:Operand→Value}{o:Oper}{e:Eff}(he:ai C pts ρ o=some e):LocE (∃c f,o.op = .call c∧c.callee = .value f) (cz pts o=true) (fpo pts ρ o) (wpo pts ρ o) e:=by
 unfold ai at he
 split at he
 ·cases he;trivial
 ·cases he;trivial
 ·split at he
  ·cases he;trivial
  ·cases he
 ·rename_i t ho
  obtain⟨z,_,he⟩:=Option.bind_eq_some_iff.1 he
  exact sP (fun x hx hp=>by simp only[cz,ho,hx];cases hb:Nat.beq (pts.getD x 0) (x+2)with
   |false=>rfl
   |true=>exact absurd (Nat.eq_of_beq_eq_true hb) hp) he
 ·rename_i t x ho
  exact sP (fun x hx hp=>by simp only[cz,ho,hx];cases hb:Nat.beq (pts.getD x 0) (x+2)with
   |false=>rfl
   |true=>exact absurd (Nat.eq_of_beq_eq_true hb) hp) he
 ·split at he
  ·exact bm (cN he)
  ·cases he
 ·rename_i t n ps ho
  split at he
  ·obtain⟨r,_,rfl⟩:=Option.map_eq_some_iff.1 he
   exact fun H=>rr (by simp only[cz,ho]) (.cells r.2 r.1 true) (fun k=>.slice (some ⟨k,0,tag r.1⟩) n (n+1)) rfl (.slice _ _ _)
  ·cases he
 ·rename_i t a ho
  unfold cW at he
  split at he
  ·rename_i hk
   split at he
   ·rename_i p hp
    cases he
    intro H v hv H2 h2
    obtain⟨vs,h3,h4⟩:=Option.bind_eq_some_iff.1 hv
    have hm:p.1∈fpo pts ρ o:=by simp[fpo,co,adrK,ho,hk,gu hp]
    refine Option.bind_eq_some_iff.2 ⟨vs,?_,h4⟩
    unfold dK at h3 ⊢
    split at h3
    ·rename_i hid;cases h3;rw[cu h2 hm hid]
    ·cases h3
   ·obtain⟨p,_,rfl⟩:=Option.map_eq_some_iff.1 he
    exact fun H v hv H2 _=>hv
  ·obtain⟨p,_,he⟩:=Option.bind_eq_some_iff.1 he
   exact bm (cN he)
  ·obtain⟨p,_,rfl⟩:=Option.map_eq_some_iff.1 he
   trivial
 ·rename_i t a x ho
  unfold dx at he
  split at he
  ·cases he
  ·split at he
   ·rename_i hk
    obtain⟨p,hp,rfl⟩:=Option.map_eq_some_iff.1 he
    exact fun H=>loc_store (by simp[fpo,co,adrK,ho,hk,gu hp]) (by simp[wpo,dy,ho,hk,gu hp])
   ·cases he
   ·obtain⟨p,_,rfl⟩:=Option.map_eq_some_iff.1 he
    trivial
 ·split at he<;>cases he<;>trivial
 ·split at he
  ·split at he
   ·split at he
    ·cases he;trivial
    ·cases he
   ·exact bm (cI he)
  ·split at he
   ·split at he
    ·cases he;trivial
    ·cases he
   ·exact bm (cI he)
  ·exact bm (cI he)
 ·split at he
  ·cases he
  ·cases he;trivial
 ·rename_i t r ho
  split at he
  ·cases he
   exact fun H=>rr (by simp only[cz,ho]) (.map [] 0) (fun n=>.map (some n)) rfl .map
  ·cases he
 ·rename_i t l c ho
  cases he
  exact fun H=>loc_make (by simp only[cz,ho])
 ·rename_i t x lo hi mx ho
  split at he
  ·rename_i a hx
   split at he
   ·exact bm (cN he)
   ·cases he
    exact fun H=>loc_arr fun r hr=>by simp[fpo,co,adrK,adrP,ho,hx];exact hr
  ·exact bm (nohop_or cI he)
 ·exact bm (cN he)
 ·exact bm (cN he)
 ·exact bm (cN he)
 ·exact bm (cN he)
 ·rename_i t m k ok ho
  split at he
  ·exact bm (cN he)
  ·cases he
   exact fun H=>ut fun r hr=>by simp[fpo,co,adrK,ho];exact hr
 ·rename_i t m k v ho
  cases he
  exact fun H=>mU fun r hr=>⟨by simp[fpo,co,adrK,ho];exact hr,by simp[wpo,dy,ho];exact hr⟩
 ·rename_i t m k v ho
  cases he
  exact fun H=>mU fun r hr=>⟨by simp[fpo,co,adrK,ho];exact hr,by simp[wpo,dy,ho];exact hr⟩
 ·rename_i t m k ho
  cases he
  exact fun H=>loc_entry fun r hr=>⟨by simp[fpo,co,adrK,ho];exact hr,by simp[wpo,dy,ho];exact hr⟩
 ·rename_i t m s v ho
  cases he
  exact fun H=>ur fun r hr=>⟨by simp[fpo,co,adrK,ho];exact hr,by simp[wpo,dy,ho];exact hr⟩
 ·split at he
  ·split at he
   ·cases he
   ·exact bm (cN he)
  ·cases he
 ·rename_i c ho
  unfold eC at he
  simp only at he
  cases hc:c.callee with
  |invoke r m=>simp only[hc]at he;cases he
  |builtin b=>
   simp only[hc]at he
   unfold aJ at he
   split at he
   ·rename_i s x t ha ht
    split at he
    ·cases he
    ·cases he
     have two:∃a b,c.args.toList=[a,b]∧ρ a=s∧ρ b=x:=by
      match c.args.toList,ha with
      | [a,b],ha=>simp at ha;exact⟨a,b,rfl,ha.1,ha.2⟩
     obtain⟨a,b,e1,rfl,rfl⟩:=two
     exact fun H=>uo (by simp only[cz,ho,hc]) (fun r hr=>⟨by simp[fpo,co,adrK,ho,hc,e1,hr],by simp[wpo,dy,ho,hc,e1,hr]⟩) fun r hr=>by simp[fpo,co,adrK,ho,hc,e1,hr]
   ·rename_i x t ha ht
    split at he
    ·cases he;trivial
    ·rename_i id hu
     cases he
     have one:∃a,c.args.toList=[a]∧ρ a = .map (some id):=by
      cases hl:c.args.toList with
      |nil=>rw[hl]at ha;cases ha
      |cons a l=>
       rw[hl]at ha
       cases l with
       |nil=>exact⟨a,rfl,by simpa using ha⟩
       |cons b l=>simp at ha
     obtain⟨a,e1,e2⟩:=one
     intro H v hv H2 h2
     obtain⟨p,h3,h4⟩:=Option.map_eq_some_iff.1 hv
     have hm:id∈fpo pts ρ o:=by simp[fpo,co,adrK,adrM,ho,hc,e1,e2]
     exact Option.map_eq_some_iff.2 ⟨p,(bE h2 hm h3).2,h4⟩
    ·cases he;trivial
    ·exact bm (cI he)
   ·split at he
    ·cases he;trivial
    ·cases he;trivial
    ·cases he;trivial
    ·cases he
   ·rename_i d x t ha ht
    cases he
    have two:∃a b,c.args.toList=[a,b]∧ρ a=d∧ρ b=x:=by
     match c.args.toList,ha with
     | [a,b],ha=>simp at ha;exact⟨a,b,rfl,ha.1,ha.2⟩
    obtain⟨a,b,e1,rfl,rfl⟩:=two
    exact fun H=>loc_copy (fun r hr=>⟨by simp[fpo,co,adrK,ho,hc,e1,hr],by simp[wpo,dy,ho,hc,e1,hr]⟩) fun r hr=>by simp[fpo,co,adrK,ho,hc,e1,hr]
   ·rename_i m k t ha ht
    cases he
    have two:∃a b,c.args.toList=[a,b]∧ρ a=m∧ρ b=k:=by
     match c.args.toList,ha with
     | [a,b],ha=>simp at ha;exact⟨a,b,rfl,ha.1,ha.2⟩
    obtain⟨a,b,e1,rfl,rfl⟩:=two
    exact fun H=>uq fun r hr=>⟨by simp[fpo,co,adrK,ho,hc,e1,hr],by simp[wpo,dy,ho,hc,e1,hr]⟩
   ·rename_i x t ha ht
    cases he
    have one:∃a,c.args.toList=[a]∧ρ a=x:=by
     match c.args.toList,ha with
     | [a],ha=>simp at ha;exact⟨a,rfl,ha⟩
    obtain⟨a,e1,rfl⟩:=one
    exact fun H=>loc_clear fun r hr=>⟨by simp[fpo,co,adrK,ho,hc,e1,hr],by simp[wpo,dy,ho,hc,e1,hr]⟩
   ·exact bm (cI he)
  |value f=>
   simp only[hc]at he
   split at he
   ·cases he
   ·split at he
    ·split at he
     ·cases he;exact⟨c,f,ho,hc⟩
     ·cases he
    ·split at he
     ·cases he;exact⟨c,f,ho,hc⟩
     ·cases he
    ·cases he
 ·exact bm (cI he)
 ·exact bm (cI he)
 ·cases he
section
variable [Val] {C:Cfg} {B:Below} {N:FuncId→Option Nat} {pts:List Nat} {ops:Array Oper}
def nG(N:FuncId→Option Nat)(pts:List Nat)(ops:Array Oper)(o:Oper)(σ τ:St):Prop:=
 (∀t∈bw ops o,τ.tmps[t]? = σ.tmps[t]?)∧(match aw N pts o with
 |some (.row s _)=>τ.loc[s]? = σ.loc[s]?
 |_=>True)∧eV (fpo pts (oval σ.tmps) o) σ.heap τ.heap
noncomputable def dH(dst:Option Tmp)(e:HEff)(rw:Option (Nat×Option (List Value)))(k:Option Nat)(τ:St):St:=
 ({ tmps:=τ.tmps,loc:=(match rw with|some p=>τ.loc.set p.1 p.2|none=>τ.loc),heap:=(match k with
  |none=>e.heap τ.heap
  |some k=>match e.push with
   |some p=>(e.put τ.heap).set k p.1
   |none=>e.put τ.heap) }:St).put dst (match k with
  |none=>e.val τ.heap.length
  |some k=>e.val k)
theorem local_okS(hN:NeuB N B){i:Nat}{o:Oper}(hi:ops[i]? = some o)(hc:okS N pts o=true){σ σ':St}(hs:ak C B pts ops i σ σ') :
  ∃(e:HEff) (rw:Option (Nat×Option (List Value))),σ'=dH o.dst e rw none σ∧(∀p,rw=some p→aw N pts o=some (.row p.1 true))∧(e.push≠none→aw N pts o=some .hw)∧
   (∀p,e.set=some p→p.1∈wpo pts (oval σ.tmps) o∧∃x,σ.heap[p.1]? = some x∧x.alive=true)∧(∀p,e.push=some p→cz pts o=true∧Fresh p.2∧p.1.alive=true)∧
   ∀τ,nG N pts ops o σ τ→∀sl:Nat→Option Nat,
    (e.push=none→sl i=none→da C B pts ops sl i τ (dH o.dst e rw none τ))∧
    (∀p k,e.push=some p→sl i=some k→(e.put τ.heap)[k]? = some .dead→da C B pts ops sl i τ (dH o.dst e rw (some k) τ)):=by
 have hm:aw N pts o≠none:=by intro h;unfold okS at hc;rw[h]at hc;cases hc
 by_cases hcl:aw N pts o=some .hr∨aw N pts o=some .hw
 case neg=>
  obtain⟨e,h1,h2,h3⟩:=fM hN hi hm hs
  have hh:e.hp=none:=by
   cases he:e.hp with
   |none=>rfl
   |some x=>exact absurd (.inr (h2.2 (by rw[he];simp))) hcl
  have hon:∀τ,e.on o.dst τ=dH o.dst ⟨none,none,e.v⟩ e.rw none τ:=fun τ=>by
   unfold Ef.on dH
   rw[hh]
   rfl
  refine⟨⟨none,none,e.v⟩,e.rw,by rw[h1,hon],h2.1,fun h=>absurd rfl h,fun p hp=>(by cases hp),fun p hp=>(by cases hp),fun τ hτ sl=>⟨fun _ hsl=>?_,fun p k hp=>(by cases hp)⟩⟩
  unfold da
  rw[hsl]
  rw[←hon]
  refine h3 τ ⟨hτ.1,?_⟩
  have:=hτ.2.1
  cases hmm:aw N pts o with
  |none=>exact absurd hmm hm
  |some m=>
   rw[hmm]at this hcl
   cases m with
   |hr=>exact absurd (.inl rfl) hcl
   |hw=>exact absurd (.inr rfl) hcl
   |row s w=>exact this
   |_=>trivial
 case pos=>
  unfold ak at hs
  simp only[hi]at hs
  have hwτ:∀τ,nG N pts ops o σ τ→bA ops τ.tmps o=bA ops σ.tmps o:=fun τ hτ=>gJ hτ.1
  have val:∀v:Value,σ'=σ.put o.dst v→(∀τ,nG N pts ops o σ τ→ak C B pts ops i τ (τ.put o.dst v))→
    ∃(e:HEff) (rw:Option (Nat×Option (List Value))),σ'=dH o.dst e rw none σ∧(∀p,rw=some p→aw N pts o=some (.row p.1 true))∧(e.push≠none→aw N pts o=some .hw)∧
     (∀p,e.set=some p→p.1∈wpo pts (oval σ.tmps) o∧∃x,σ.heap[p.1]? = some x∧x.alive=true)∧(∀p,e.push=some p→cz pts o=true∧Fresh p.2∧p.1.alive=true)∧
     ∀τ,nG N pts ops o σ τ→∀sl:Nat→Option Nat,
      (e.push=none→sl i=none→da C B pts ops sl i τ (dH o.dst e rw none τ))∧
      (∀p k,e.push=some p→sl i=some k→(e.put τ.heap)[k]? = some .dead→da C B pts ops sl i τ (dH o.dst e rw (some k) τ)):=by
   intro v hv h
   refine⟨⟨none,none,v⟩,none,hv,fun p hp=>(by cases hp),fun h=>absurd rfl h,fun p hp=>(by cases hp),fun p hp=>(by cases hp),fun τ hτ sl=>⟨fun _ hsl=>?_,fun p k hp=>(by cases hp)⟩⟩
   unfold da
   rw[hsl]
   exact h τ hτ
  split at hs
  ·exact hs.elim
  ·rename_i hw
   refine val undef hs fun τ hτ=>?_
   unfold ak
   simp only[hi,hwτ τ hτ,hw]
  ·rename_i hw
   have step:∀ {τ τ':St},nG N pts ops o σ τ→((∃e,ai C pts (oval τ.tmps) o=some e∧gT B e o.dst τ τ')∨(∃v,gj C τ.tmps o v∧τ'=τ.put o.dst v))→ak C B pts ops i τ τ':=by
    intro τ τ' hτ h
    unfold ak
    simp only[hi,hwτ τ hτ,hw]
    exact h
   rcases hs with⟨e,he,hr⟩|⟨v,hv,rfl⟩
   ·have heτ:∀τ,nG N pts ops o σ τ→ai C pts (oval τ.tmps) o=some e:=fun τ hτ=>by
     rw[gq N pts hm (jW hτ.1)];exact he
    have hfit:=fw (N:=N) (fun _=>rfl) hm he
    have hloc:=effOf_loc he
    cases e with
    |val v=>
     obtain⟨p,hp,rfl⟩:=hr
     cases hp
     exact val v rfl fun τ hτ=>step hτ (.inl ⟨_,heτ τ hτ,_,rfl,rfl⟩)
    |lnew s vs=>
     have hfit:aw N pts o=some (.row s true):=hfit
     rw[hfit]at hcl;rcases hcl with h|h<;>cases h
    |lget s f=>
     have hfit:aw N pts o=some (.row s false):=hfit
     rw[hfit]at hcl;rcases hcl with h|h<;>cases h
    |lset s f=>
     have hfit:aw N pts o=some (.row s true):=hfit
     rw[hfit]at hcl;rcases hcl with h|h<;>cases h
    |hget f=>
     obtain⟨p,hp,rfl⟩:=hr
     simp only[aD]at hp
     obtain⟨v,hv,rfl⟩:=Option.map_eq_some_iff.1 hp
     refine val v rfl fun τ hτ=>step hτ (.inl ⟨_,heτ τ hτ,(τ,v),?_,rfl⟩)
     simp only[aD,hloc _ _ hv _ hτ.2.2,Option.map_some]
    |hop f=>
     obtain⟨p,hp,rfl⟩:=hr
     simp only[aD]at hp
     obtain⟨q,hv,rfl⟩:=Option.map_eq_some_iff.1 hp
     obtain⟨e,l1,l2,l3,l4,l5⟩:=hloc σ.heap q.1 q.2 hv
     refine⟨e,none,?_,fun p hp=>(by cases hp),fun _=>hfit,l3,l4,fun τ hτ sl=>⟨fun hp hsl=>?_,fun p k hp hsl hd=>?_⟩⟩
     ·unfold dH
      rw[l1,l2]
     ·unfold da
      rw[hsl]
      exact step hτ (.inl ⟨_,heτ τ hτ,({ τ with heap:=e.heap τ.heap },e.val τ.heap.length),by simp only[aD,l5 _ hτ.2.2,Option.map_some],rfl⟩)
     ·unfold da
      rw[hsl]
      refine⟨o,f,e.put τ.heap,p.1,p.2,hi,by rw[hwτ τ hτ];exact hw,heτ τ hτ,?_,?_,hd,(l4 p hp).2.1,?_⟩
      ·rw[l5 _ hτ.2.2]
       unfold HEff.heap HEff.val
       rw[hp]
      ·unfold HEff.put
       split<;>simp
      ·unfold dH HEff.val
       rw[hp]
    |call f args=>
     exfalso
     have hfit:(aw N pts o=some (.neu f)∧N f=some (2*args.length))∨(aw N pts o=some .hr∧N f=some (2*args.length+1))∨aw N pts o=some .hw:=hfit
     rcases hfit with⟨h,_⟩|⟨h,_⟩|h
     ·rw[h]at hcl;rcases hcl with h|h<;>cases h
     ·obtain⟨c,g,q1,q2⟩:=hloc
      unfold okS at hc
      simp only[h,q1,q2]at hc
      cases hc
     ·obtain⟨c,g,q1,q2⟩:=hloc
      unfold okS at hc
      simp only[h,q1,q2]at hc
      cases hc
    |yield l args=>
     exfalso
     have hfit:aw N pts o=some .hw:=hfit
     obtain⟨c,g,q1,q2⟩:=hloc
     unfold okS at hc
     simp only[hfit,q1,q2]at hc
     cases hc
   ·refine val v rfl fun τ hτ=>step hτ (.inr ⟨v,?_,rfl⟩)
    obtain⟨h1,h2,h3,h4⟩:=hv
    have hops:=jW hτ.1
    refine⟨h1,?_,h3,fun w=>?_⟩
    ·rw[List.all_eq_true]at h2 ⊢
     intro x hx
     rw[hops x hx];exact h2 x hx
    ·rw[execOp_congr N pts hm (ρ':=fun x=>den (oval σ.tmps x)) fun x hx=>by rw[hops x hx]]
     exact h4 w
end
end Sx
end Go.Am

/-
 REGIONS THAT DRAW THEIR ORDER,where several operations make blocks: the blocks that they touch are told apart by the values behind them.
-/
namespace Go.Am
namespace Sx
section
variable [Val] {C:Cfg} {B:Below} {N:FuncId→Option Nat} {pts:List Nat} {ops:Array Oper}
def runR(S:Nat→St→St→Prop):List Nat→St→St→Prop
 | [],σ,σ'=>σ'=σ
 |i :: l,σ,σ'=>∃σ₁,S i σ σ₁∧runR S l σ₁ σ'
theorem lq{S:Nat→St→St→Prop}{i:Nat}{post:List Nat}:∀(pre:List Nat),(∀k∈pre,∀σ σ₁ σ':St,S k σ σ₁→S i σ₁ σ'→∃τ,S i σ τ∧S k τ σ')→
  ∀σ σ':St,runR S (pre++i :: post) σ σ'→runR S (i :: (pre++post)) σ σ'
 | [],_,σ,σ',h=>h
 |k :: pre,hc,σ,σ',⟨σ₁,h1,h2⟩=>by
  obtain⟨σ₂,h3,h4⟩:=lq pre (fun k hk=>hc k (by simp[hk])) σ₁ σ' h2
  obtain⟨τ,h5,h6⟩:=hc k (by simp) σ σ₁ σ₂ h1 h3
  exact⟨τ,h5,σ₂,h6,h4⟩
theorem go_okR{S:Nat→St→St→Prop}(hback:∀(i:Nat) o,ops[i]? = some o→∀e∈o.after.toList,Region.binds .any e=true→e.on<i)
  (hpair:∀i k:Nat,i<ops.size→k<i→Anc ops k i∨∀σ σ₁ σ':St,S k σ σ₁→S i σ₁ σ'→∃τ,S i σ τ∧S k τ σ'):∀(fuel t:Nat) (listed:Array Bool),listed.size=ops.size→(unl ops.size listed).length=fuel→
  (∀(x:Nat) o,listed.getD x true=true→ops[x]? = some o→∀e∈o.after.toList,Region.binds .any e=true→listed.getD e.on false=true)→
  ∀σ σ':St,runR S (unl ops.size listed) σ σ'→runR S (Region.linearise.go .any ops fuel t listed []) σ σ'∧(Region.linearise.go .any ops fuel t listed []).Nodup∧∀x∈Region.linearise.go .any ops fuel t listed [],listed.getD x true=false
 |0,t,listed,_,hl,_,σ,σ',h=>by
  have:unl ops.size listed=[]:=List.length_eq_zero_iff.1 hl
  rw[this]at h
  simpa[Region.linearise.go]using h
 |fuel+1,t,listed,hsz,hl,hcl,σ,σ',h=>by
  simp only[Region.linearise.go]
  generalize hrs:((List.range ops.size).filter fun i=>!listed.getD i true&&((ops[i]?).map (·.after.all fun e=>!Region.binds .any e||listed.getD e.on false)).getD false)=rs
  have hready:∀i∈rs,i<ops.size∧listed.getD i true=false∧∀o,ops[i]? = some o→∀e∈o.after.toList,Region.binds .any e=true→listed.getD e.on false=true:=by
   intro i hi
   rw[←hrs,List.mem_filter,List.mem_range]at hi
   obtain⟨h1,h2⟩:=hi
   simp only[Bool.and_eq_true,Bool.not_eq_true']at h2
   refine⟨h1,h2.1,fun o ho e he hb=>?_⟩
   have h3:=h2.2
   rw[ho]at h3
   simp only[Option.map_some,Option.getD_some]at h3
   rw[Array.all_eq_true']at h3
   have:=h3 e (by simpa using he)
   rw[hb]at this
   simpa using this
  have hne:rs≠[]:=by
   have hu:unl ops.size listed≠[]:=by intro e;rw[e]at hl;cases hl
   obtain⟨i0,tl,hu0⟩:=List.exists_cons_of_ne_nil hu
   have hi0:i0∈unl ops.size listed:=by rw[hu0];simp
   have hi1:=hi0
   rw[unl,List.mem_filter,List.mem_range]at hi1
   have hmem:i0∈rs:=by
    rw[←hrs,List.mem_filter,List.mem_range]
    refine⟨hi1.1,?_⟩
    simp only[Bool.and_eq_true]
    refine⟨hi1.2,?_⟩
    have ho:ops[i0]? = some ops[i0]:=by simp[hi1.1]
    rw[ho]
    simp only[Option.map_some,Option.getD_some]
    rw[Array.all_eq_true']
    intro e he
    cases hb:Region.binds .any e with
    |false=>simp
    |true=>
     have hlt:=hback i0 _ ho e (by simpa using he) hb
     simp only[Bool.not_true,Bool.false_or]
     by_cases hlis:listed.getD e.on true=true
     ·have hs:e.on<listed.size:=by omega
      rw[Array.getD_eq_getD_getElem?]at hlis ⊢
      rw[Array.getElem?_eq_getElem hs]at hlis ⊢
      exact hlis
     ·exfalso
      have hm:e.on∈unl ops.size listed:=by
       rw[unl,List.mem_filter,List.mem_range]
       exact⟨by omega,by simpa using hlis⟩
      rw[hu0]at hm
      rcases List.mem_cons.1 hm with hm|hm
      ·omega
      ·have hs:(unl ops.size listed).Pairwise (· < ·):=List.Pairwise.filter _ List.pairwise_lt_range
       rw[hu0,List.pairwise_cons]at hs
       have:=hs.1 _ hm
       omega
   intro e;rw[e]at hmem;cases hmem
  have hlen:0<rs.length:=List.length_pos_iff.2 hne
  have hget:rs[t%rs.length]? = some (rs[t%rs.length]'(Nat.mod_lt _ hlen)):=List.getElem?_eq_getElem (Nat.mod_lt _ hlen)
  rw[hget]
  simp only
  generalize hi:rs[t%rs.length]'(Nat.mod_lt _ hlen)=i
  have hmem:i∈rs:=by rw[←hi];exact List.getElem_mem _
  obtain⟨i1,i2,i3⟩:=hready i hmem
  rw[linearise_go_acc,List.reverse_singleton,List.singleton_append]
  have hiu:i∈(List.range ops.size).filter fun j=>!listed.getD j true:=by
   rw[List.mem_filter,List.mem_range];exact⟨i1,by simp[i2]⟩
  obtain⟨pre,post,e1,e2,e3⟩:=fq List.nodup_range hiu
  have hord:=jk e1
  have hnew:unl ops.size (listed.setIfInBounds i true)=pre++post:=by
   rw[←e2]
   unfold unl
   refine List.filter_congr fun j hj=>?_
   rw[Array.getD_eq_getD_getElem?,Array.getD_eq_getD_getElem?,Array.getElem?_setIfInBounds]
   by_cases hji:i=j
   ·subst hji
    rw[if_pos rfl,if_pos (by omega)]
    simp
   ·rw[if_neg hji]
    have:(j != i)=true:=by simpa using fun e=>hji e.symm
    simp[this]
  have hmf:=lq (S:=S) (i:=i) (post:=post) pre (fun k hk σ σ₁ σ' s1 s2=>by
   obtain⟨m1,m2⟩:=e3 k hk
   rw[List.mem_filter,List.mem_range]at m1
   rcases hpair i k i1 (hord k hk)with hanc|hcm
   ·exfalso
    have:=mA hcl hanc i3
    have m3:=m1.2
    rw[Array.getD_eq_getD_getElem?]at this m3
    rw[Array.getElem?_eq_getElem (by omega)]at this m3
    simp only[Option.getD_some]at this m3
    rw[this]at m3
    cases m3
   ·exact hcm _ _ _ s1 s2) σ σ'
  obtain⟨σ₁,s1,s2⟩:=hmf (by rw[←e1];exact h)
  obtain⟨r1,r2,r3⟩:=go_okR hback hpair fuel (t / rs.length) (listed.setIfInBounds i true) (by simp[hsz]) (by
    rw[hnew]
    have:(unl ops.size listed).length=(pre++post).length+1:=by
     show(List.filter _ _).length=_
     rw[e1];simp;omega
    omega) (by
    intro x o hx ho e he hb
    have keep:∀y,listed.getD y false=true→(listed.setIfInBounds i true).getD y false=true:=by
     intro y hy
     rw[Array.getD_eq_getD_getElem?]at hy ⊢
     rw[Array.getElem?_setIfInBounds]
     split
     ·rename_i h1
      subst h1
      rw[if_pos (by omega)];rfl
     ·exact hy
    by_cases hxi:x=i
    ·subst hxi;exact keep _ (i3 o ho e he hb)
    ·refine keep _ (hcl x o ?_ ho e he hb)
     rw[Array.getD_eq_getD_getElem?,Array.getElem?_setIfInBounds,if_neg (fun e=>hxi e.symm)]at hx
     rw[Array.getD_eq_getD_getElem?];exact hx) σ₁ σ' (by rw[hnew];exact s2)
  have hout:∀x∈Region.linearise.go .any ops fuel (t / rs.length) (listed.setIfInBounds i true) [],x≠i∧listed.getD x true=false:=by
   intro x hx
   have:=r3 x hx
   rw[Array.getD_eq_getD_getElem?,Array.getElem?_setIfInBounds]at this
   by_cases hxi:i=x
   ·subst hxi
    rw[if_pos rfl,if_pos (by omega)]at this
    cases this
   ·rw[if_neg hxi]at this
    exact⟨Ne.symm hxi,by rw[Array.getD_eq_getD_getElem?];exact this⟩
  refine⟨⟨σ₁,s1,r1⟩,List.nodup_cons.2 ⟨fun hm=>(hout i hm).1 rfl,r2⟩,fun x hx=>?_⟩
  rcases List.mem_cons.1 hx with rfl|hx
  ·exact i2
  ·exact(hout x hx).2
end
end Sx
end Go.Am

/-
 REGIONS THAT DRAW THEIR ORDER: what each operation has done,as a record;two records change places;whatever the order.
-/
namespace Go.Am
namespace Sx
noncomputable def dw(ws:List (Nat×HObj))(H:List HObj):List HObj:=ws.foldl (fun H p=>H.set p.1 p.2) H
theorem dR:∀(ws:List (Nat×HObj)) (H:List HObj),(dw ws H).length=H.length
 | [],H=>rfl
 |p :: ws,H=>by
  show(dw ws (H.set p.1 p.2)).length=_
  rw[dR ws];simp
theorem il{r:Nat}:∀ {ws:List (Nat×HObj)} {H:List HObj},(∀p∈ws,p.1≠r)→(dw ws H)[r]? = H[r]?
 | [],H,_=>rfl
 |p :: ws,H,h=>by
  show(dw ws (H.set p.1 p.2))[r]? = _
  rw[il fun q hq=>h q (List.mem_cons_of_mem _ hq),List.getElem?_set_ne (h p (by simp))]
theorem qK{i:Nat}{x:HObj}:∀ {ws:List (Nat×HObj)} {H:List HObj},(∀p∈ws,p.1≠i)→dw ws (H.set i x)=(dw ws H).set i x
 | [],H,_=>rfl
 |p :: ws,H,h=>by
  show dw ws ((H.set i x).set p.1 p.2)=(dw ws (H.set p.1 p.2)).set i x
  rw[List.set_comm _ _ (Ne.symm (h p (by simp))),qK fun q hq=>h q (List.mem_cons_of_mem _ hq)]
theorem fS:∀ {a b:List (Nat×HObj)} {H:List HObj},(∀p∈a,∀q∈b,p.1≠q.1)→dw a (dw b H)=dw b (dw a H)
 | [],b,H,_=>rfl
 |p :: a,b,H,h=>by
  show dw a ((dw b H).set p.1 p.2)=dw b (dw a (H.set p.1 p.2))
  rw[←qK fun q hq=>Ne.symm (h p (by simp) q hq)]
  exact fS fun q hq=>h q (List.mem_cons_of_mem _ hq)
section
variable [Val] {C:Cfg} {B:Below} {N:FuncId→Option Nat} {pts:List Nat} {ops:Array Oper}
structure Rec where
 σ:St
 e:HEff
 rw:Option (Nat×Option (List Value))
 k:Option Nat
noncomputable def Rec.on(r:Rec)(o:Oper)(τ:St):St:=dH o.dst r.e r.rw r.k τ
def Rec.sees(N:FuncId→Option Nat)(pts:List Nat)(ops:Array Oper)(r:Rec)(o:Oper)(τ:St):Prop:=
 nG N pts ops o r.σ τ∧∀k,r.k=some k→(r.e.put τ.heap)[k]? = some .dead
noncomputable def Rec.slot(r:Rec):List (Nat×HObj):=match r.k,r.e.push with
 |some k,some p=>[(k,p.1)]
 |_,_=>[]
noncomputable def Rec.ws(r:Rec):List (Nat×HObj):=r.e.set.toList++r.slot
structure Rec.Ok(C:Cfg)(B:Below)(N:FuncId→Option Nat)(pts:List Nat)(ops:Array Oper)(i:Nat)(o:Oper)(r:Rec):Prop where
 row:∀p,r.rw=some p→aw N pts o=some (.row p.1 true)
 wr:∀p,r.e.set=some p→p.1∈wpo pts (oval r.σ.tmps) o
 kp:r.k=none↔r.e.push=none
 fr:∀p,r.e.push=some p→Fresh p.2∧aw N pts o=some .hw∧cz pts o=true
 step:∀τ,r.sees N pts ops o τ→∀sl:Nat→Option Nat,sl i=r.k→da C B pts ops sl i τ (r.on o τ)
theorem dv(e:HEff)(H:List HObj):e.put H=dw e.set.toList H:=by
 unfold HEff.put
 cases e.set<;>rfl
theorem eK{r:Rec}{o:Oper}{τ:St}(h:r.k=none↔r.e.push=none):(r.on o τ).heap=dw r.ws τ.heap:=by
 unfold Rec.on dH
 rw[du]
 unfold Rec.ws Rec.slot
 cases hk:r.k with
 |none=>
  simp only[HEff.heap,h.1 hk,dv,List.append_nil]
 |some k=>
  cases hp:r.e.push with
  |none=>rw[h.2 hp]at hk;cases hk
  |some p=>
   simp only[dv]
   show(dw r.e.set.toList τ.heap).set k p.1=_
   unfold dw
   rw[List.foldl_append]
   rfl
theorem lz{r:Rec}{o:Oper}{τ:St}:(r.on o τ).loc=(match r.rw with|some p=>τ.loc.set p.1 p.2|none=>τ.loc):=by
 unfold Rec.on dH
 rw[oK]
 all_goals (cases r.rw<;>rfl)
noncomputable def Rec.val(r:Rec):Value:=match r.k with
 |some k=>r.e.val k
 |none=>r.e.v
theorem jV{r:Rec}{o:Oper}{τ:St}(h:r.k=none↔r.e.push=none):(r.on o τ).tmps=(match o.dst with|some d=>τ.tmps.set d r.val|none=>τ.tmps):=by
 unfold Rec.on dH
 rw[oL]
 unfold Rec.val
 cases hk:r.k with
 |none=>simp only[HEff.val,h.1 hk];all_goals (cases o.dst<;>rfl)
 |some k=>cases o.dst<;>rfl
noncomputable def rowOk:MC→MC→Bool
 | .row s w,.row s' w'=>!Nat.beq s s'||(!w && !w')
 |_,_=>true
noncomputable def stat2(N:FuncId→Option Nat)(pts:List Nat)(ops:Array Oper)(a b:Oper):Bool:=
 match aw N pts a,aw N pts b with
 |some m,some n=>rowOk m n&&cf a.dst (bw ops b)&&cf b.dst (bw ops a)&&bW a.dst b.dst
 |_,_=>false
theorem mI{d:Option Tmp}{l:List Nat}(hd:cf d l=true):∀t∈l,∀x,d=some x→x≠t:=by
 intro t ht x hx he
 subst hx he
 simp only[cf,Bool.not_eq_true',List.contains_eq_mem,decide_eq_false_iff_not]at hd
 exact hd ht
theorem unseenR{a b:Oper}{m n:MC}{ra rb:Rec}{ia:Nat}(ha:aw N pts a=some m)(hb:aw N pts b=some n)(oka:ra.Ok C B N pts ops ia a)(hrow:rowOk m n=true∨rowOk n m=true)(hd:cf a.dst (bw ops b)=true)
  (d1:∀p∈ra.ws,p.1∉fpo pts (oval rb.σ.tmps) b) {τ:St}:nG N pts ops b rb.σ (ra.on a τ)↔nG N pts ops b rb.σ τ:=by
 have ht:∀t∈bw ops b,(ra.on a τ).tmps[t]? = τ.tmps[t]?:=fun t ht=>by
  unfold Rec.on dH
  exact lJ fun x hx=>mI hd t ht x hx
 have hl:∀s w,aw N pts b=some (.row s w)→(ra.on a τ).loc[s]? = τ.loc[s]?:=fun s w hm=>by
  rw[lz]
  cases hrw:ra.rw with
  |none=>rfl
  |some p=>
   have h1:=oka.row p hrw
   rw[ha]at h1
   rw[hb]at hm
   cases h1;cases hm
   have:p.1≠s:=by
    intro he
    subst he
    rcases hrow with h|h<;>simp[rowOk]at h
   show(τ.loc.set p.1 p.2)[s]? = _
   rw[List.getElem?_set_ne this]
 have hh:∀r∈fpo pts (oval rb.σ.tmps) b,(ra.on a τ).heap[r]? = τ.heap[r]?:=fun r hr=>by
  rw[eK oka.kp]
  exact il fun p hp e=>d1 p hp (e▸hr)
 constructor
 ·rintro⟨q1,q2,q3⟩
  refine⟨fun t h=>by rw[←ht t h];exact q1 t h,?_,fun r hr x hx hal=>by rw[←hh r hr];exact q3 r hr x hx hal⟩
  rw[hb]at q2 ⊢
  cases n<;>first|trivial|(rename_i s w;exact(hl s w hb).symm.trans q2)
 ·rintro⟨q1,q2,q3⟩
  refine⟨fun t h=>by rw[ht t h];exact q1 t h,?_,fun r hr x hx hal=>by rw[hh r hr];exact q3 r hr x hx hal⟩
  rw[hb]at q2 ⊢
  cases n<;>first|trivial|(rename_i s w;exact(hl s w hb).trans q2)
theorem swapR{a b:Oper}{ra rb:Rec}{ia ib:Nat}(oka:ra.Ok C B N pts ops ia a)(okb:rb.Ok C B N pts ops ib b)(hs:stat2 N pts ops a b=true)
  (d1:∀p∈ra.ws,p.1∉fpo pts (oval rb.σ.tmps) b) (d2:∀p∈rb.ws,p.1∉fpo pts (oval ra.σ.tmps) a) (d3:∀p∈ra.ws,∀q∈rb.ws,p.1≠q.1) {τ:St} (ha:ra.sees N pts ops a τ) (hb:rb.sees N pts ops b (ra.on a τ)) :
  rb.sees N pts ops b τ∧ra.sees N pts ops a (rb.on b τ)∧rb.on b (ra.on a τ)=ra.on a (rb.on b τ):=by
 unfold stat2 at hs
 split at hs
 case h_2=>cases hs
 rename_i m n hm hn
 simp only[Bool.and_eq_true]at hs
 obtain⟨⟨⟨c1,c2⟩,c3⟩,c4⟩:=hs
 have ub:=unseenR (rb:=rb) hm hn oka (.inl c1) c2 d1 (τ:=τ)
 have ua:=unseenR (rb:=ra) hn hm okb (.inr c1) c3 d2 (τ:=τ)
 refine⟨⟨ub.1 hb.1,fun k hk=>?_⟩,⟨ua.2 ha.1,fun k hk=>?_⟩,?_⟩
 ·have h1:=hb.2 k hk
  have hkb:∃p,rb.e.push=some p:=by
   cases hp:rb.e.push with
   |none=>rw[okb.kp.2 hp]at hk;cases hk
   |some p=>exact⟨p,rfl⟩
  obtain⟨p,hp⟩:=hkb
  have hmem:(k,p.1)∈rb.ws:=by simp[Rec.ws,Rec.slot,hk,hp]
  rw[eK oka.kp,dv,←fS (fun q hq s hs e=>d3 q hq s (List.mem_append_left _ hs) e),il (fun q hq e=>d3 q hq _ hmem e)]at h1
  rw[dv];exact h1
 ·have h1:=ha.2 k hk
  have hka:∃p,ra.e.push=some p:=by
   cases hp:ra.e.push with
   |none=>rw[oka.kp.2 hp]at hk;cases hk
   |some p=>exact⟨p,rfl⟩
  obtain⟨p,hp⟩:=hka
  have hmem:(k,p.1)∈ra.ws:=by simp[Rec.ws,Rec.slot,hk,hp]
  rw[eK okb.kp,dv,fS (fun q hq s hs e=>d3 q (List.mem_append_left _ hq) s hs e),il (fun q hq e=>d3 _ hmem q hq e.symm)]
  rw[dv]at h1;exact h1
 ·have h1:(rb.on b (ra.on a τ)).tmps=(ra.on a (rb.on b τ)).tmps:=by
   rw[jV okb.kp,jV oka.kp,jV oka.kp,jV okb.kp]
   cases hx:a.dst with
   |none=>rfl
   |some x=>
    cases hy:b.dst with
    |none=>rfl
    |some y=>
     rw[hx,hy]at c4
     have:x≠y:=by
      intro he;subst he;simp[bW]at c4
     exact set_comm _ _ _ this
  have h2:(rb.on b (ra.on a τ)).loc=(ra.on a (rb.on b τ)).loc:=by
   rw[lz,lz,lz,lz]
   cases hx:ra.rw with
   |none=>rfl
   |some p=>
    cases hy:rb.rw with
    |none=>rfl
    |some q=>
     have e1:=oka.row p hx
     have e2:=okb.row q hy
     rw[hm]at e1
     rw[hn]at e2
     cases e1;cases e2
     have:p.1≠q.1:=by
      intro he
      rw[he]at c1
      simp[rowOk]at c1
     exact set_comm _ _ _ this
  have h3:(rb.on b (ra.on a τ)).heap=(ra.on a (rb.on b τ)).heap:=by
   rw[eK okb.kp,eK oka.kp,eK oka.kp,eK okb.kp]
   exact(fS d3).symm
  generalize rb.on b (ra.on a τ)=x at *
  generalize ra.on a (rb.on b τ)=y at *
  cases x;cases y
  simp only at h1 h2 h3
  subst h1;subst h2;subst h3
  rfl
end
end Sx
end Go.Am

/-
 REGIONS THAT DRAW THEIR ORDER: the run in the text's order,as records,with room kept for the blocks.
-/
namespace Go.Am
namespace Sx
section
variable [Val] {C:Cfg} {B:Below} {N:FuncId→Option Nat} {pts:List Nat} {ops:Array Oper}
def St.padTo(σ:St)(m:Nat):St:=σ.pad (m - σ.heap.length)
def recS(N:FuncId→Option Nat)(pts:List Nat)(ops:Array Oper)(rc:Nat→Rec)(i:Nat)(τ τ':St):Prop:=∃o,ops[i]? = some o∧(rc i).sees N pts ops o τ∧τ'=(rc i).on o τ
theorem ik{D:List HObj}:∀ {ws:List (Nat×HObj)} {H:List HObj},(∀p∈ws,p.1<H.length)→dw ws (H++D)=dw ws H++D
 | [],H,_=>rfl
 |p :: ws,H,h=>by
  show dw ws ((H++D).set p.1 p.2)=dw ws (H.set p.1 p.2)++D
  rw[List.set_append_left _ _ (h p (by simp)),ik fun q hq=>by
   have:=h q (List.mem_cons_of_mem _ hq)
   simpa using this]
structure RunOk(C:Cfg)(B:Below)(N:FuncId→Option Nat)(pts:List Nat)(ops:Array Oper)(l:List Nat)(σ σ':St)(rc:Nat→Rec):Prop where
 len:σ.heap.length≤σ'.heap.length
 ok:∀i∈l,∀o,ops[i]? = some o→(rc i).Ok C B N pts ops i o
 slot:∀i∈l,∀k,(rc i).k=some k→σ.heap.length≤k∧k<σ'.heap.length
 inj:∀i∈l,∀j∈l,∀k,(rc i).k=some k→(rc j).k=some k→i=j
 keep:∀t,(∀j∈l,∀o,ops[j]? = some o→o.dst≠some t)→σ'.tmps[t]? = σ.tmps[t]?
 args:∀i∈l,∀t,(∀j∈l,i≤j→∀o,ops[j]? = some o→o.dst≠some t)→σ'.tmps[t]? = (rc i).σ.tmps[t]?
 res:∀i∈l,∀o d v,ops[i]? = some o→o.dst=some d→(∀j∈l,i<j→∀o,ops[j]? = some o→o.dst≠some d)→σ'.tmps[d]? = some v→v=(rc i).val
 run:∀m,σ'.heap.length≤m→runR (recS N pts ops rc) l (St.padTo σ m) (St.padTo σ' m)
theorem effOn_len{dst:Option Tmp}{e:HEff}{rw:Option (Nat×Option (List Value))}{σ:St}:(dH dst e rw none σ).heap.length=σ.heap.length+(match e.push with|some _=>1|none=>0):=by
 unfold dH
 rw[du]
 simp only[HEff.heap,HEff.put]
 cases e.push<;>cases e.set<;>simp
theorem iC{dst:Option Tmp}{e:HEff}{rw:Option (Nat×Option (List Value))}{k:Option Nat}{σ:St}:(dH dst e rw k σ).tmps=(match dst with|some d=>σ.tmps.set d (match k with|none=>e.val σ.heap.length|some k=>e.val k)|none=>σ.tmps):=by
 unfold dH
 rw[oL]
 all_goals (cases dst<;>rfl)
theorem rec_one(hN:NeuB N B){i:Nat}{o:Oper}(hi:ops[i]? = some o)(hc:okS N pts o=true){σ σ₁:St}(hs:ak C B pts ops i σ σ₁) :
  ∃r:Rec,r.σ=σ∧r.Ok C B N pts ops i o∧σ.heap.length≤σ₁.heap.length∧(∀k,r.k=some k→k=σ.heap.length∧k<σ₁.heap.length)∧
   (∀t,o.dst≠some t→σ₁.tmps[t]? = σ.tmps[t]?)∧(∀d v,o.dst=some d→σ₁.tmps[d]? = some v→v=r.val)∧
   ∀m,σ₁.heap.length≤m→r.sees N pts ops o (St.padTo σ m)∧St.padTo σ₁ m=r.on o (St.padTo σ m):=by
 obtain⟨e,rw,h1,h2,h3,h4,h5,h6⟩:=local_okS (N:=N) hN hi hc hs
 have hlen:σ₁.heap.length=σ.heap.length+(match e.push with|some _=>1|none=>0):=by rw[h1];exact effOn_len
 refine⟨⟨σ,e,rw,match e.push with|some _=>some σ.heap.length|none=>none⟩,rfl,⟨h2,fun p hp=>(h4 p hp).1,?_,fun p hp=>⟨(h5 p hp).2.1,h3 (by rw[show e.push=some p from hp];simp),(h5 p hp).1⟩,?_⟩,by omega,?_,?_,?_,?_⟩
 ·cases hp:e.push<;>simp
 ·intro τ hτ sl hsl
  unfold Rec.on
  simp only at hsl ⊢
  cases hp:e.push with
  |none=>
   rw[hp]at hsl
   exact(h6 τ hτ.1 sl).1 hp hsl
  |some p=>
   rw[hp]at hsl
   refine(h6 τ hτ.1 sl).2 p _ hp hsl (hτ.2 _ ?_)
   simp only[hp]
 ·intro k hk
  simp only at hk
  cases hp:e.push with
  |none=>rw[hp]at hk;cases hk
  |some p=>
   rw[hp]at hk hlen
   cases hk
   exact⟨rfl,by simp only at hlen;omega⟩
 ·intro t ht
  rw[h1]
  unfold dH
  exact lJ fun x hx e=>ht (by rw[hx,e])
 ·intro d v hd hv
  rw[h1,iC,hd]at hv
  simp only[List.getElem?_set]at hv
  split at hv
  ·split at hv
   ·cases hv
    unfold Rec.val
    simp only[HEff.val]
    cases hp:e.push<;>rfl
   ·cases hv
  ·rename_i hne;exact absurd trivial hne
 ·intro m hm
  have hD:(St.padTo σ m).heap=σ.heap++List.replicate (m - σ.heap.length) .dead:=rfl
  have hset:∀p∈e.set.toList,p.1<σ.heap.length:=fun p hp=>by
   obtain⟨_,x,hx,_⟩:=h4 p (by simpa using hp)
   exact(List.getElem?_eq_some_iff.1 hx).1
  refine⟨⟨⟨fun t _=>rfl,?_,fun r _ x hx _=>?_⟩,fun k hk=>?_⟩,?_⟩
  ·cases aw N pts o with
   |none=>trivial
   |some mc=>cases mc<;>first|trivial|rfl
  ·rw[hD,List.getElem?_append_left (List.getElem?_eq_some_iff.1 hx).1]
   exact hx
  ·simp only at hk
   cases hp:e.push with
   |none=>rw[hp]at hk;cases hk
   |some p=>
    rw[hp]at hk hlen
    cases hk
    simp only at hlen ⊢
    rw[dv,hD,ik hset,List.getElem?_append_right (by rw[dR];exact Nat.le_refl _),dR,Nat.sub_self,List.getElem?_replicate,if_pos (by omega)]
  · -- the same state
   have e1:(St.padTo σ₁ m).tmps=((⟨σ,e,rw,match e.push with|some _=>some σ.heap.length|none=>none⟩ : Rec).on o (St.padTo σ m)).tmps:=by
    show σ₁.tmps=_
    unfold Rec.on
    rw[h1,iC,iC]
    show _=(match o.dst with|some d=>σ.tmps.set d _|none=>σ.tmps)
    cases o.dst with
    |none=>rfl
    |some d=>
     simp only[HEff.val]
     cases hp:e.push<;>rfl
   have e2:(St.padTo σ₁ m).loc=((⟨σ,e,rw,match e.push with|some _=>some σ.heap.length|none=>none⟩ : Rec).on o (St.padTo σ m)).loc:=by
    show σ₁.loc=_
    unfold Rec.on
    rw[h1]
    unfold dH
    rw[oK,oK]
    rfl
   have e3:(St.padTo σ₁ m).heap=((⟨σ,e,rw,match e.push with|some _=>some σ.heap.length|none=>none⟩ : Rec).on o (St.padTo σ m)).heap:=by
    show σ₁.heap++List.replicate (m - σ₁.heap.length) .dead=_
    unfold Rec.on
    have hh:σ₁.heap=e.heap σ.heap:=by rw[h1];unfold dH;rw[du]
    unfold dH
    rw[du,hD]
    cases hp:e.push with
    |none=>
     rw[hp]at hlen
     simp only[hp,HEff.heap,dv]at hh ⊢
     rw[ik hset,hh]
     simp only[dR]
    |some p=>
     rw[hp]at hlen
     simp only at hlen
     simp only[hp,HEff.heap,dv]at hh ⊢
     rw[ik hset,hh]
     have hn:m - σ.heap.length=(m - σ.heap.length - 1)+1:=by omega
     rw[hn,List.replicate_succ]
     rw[List.set_append_right _ _ (by rw[dR];exact Nat.le_refl _),dR,Nat.sub_self,List.set_cons_zero]
     simp only[List.append_assoc,List.length_append,dR,List.length_cons,List.length_nil,List.cons_append,List.nil_append]
     rw[show m - (σ.heap.length+(0+1))=m - σ.heap.length - 1 by omega]
   generalize hX:(⟨σ,e,rw,match e.push with|some _=>some σ.heap.length|none=>none⟩ : Rec).on o (St.padTo σ m)=X at *
   generalize St.padTo σ₁ m=Y at *
   cases X;cases Y
   simp only at e1 e2 e3
   subst e1;subst e2;subst e3
   rfl
theorem nr{S S':Nat→St→St→Prop}:∀ {l:List Nat},(∀i∈l,∀σ σ',S i σ σ'→S' i σ σ')→∀ {σ σ':St},runR S l σ σ'→runR S' l σ σ'
 | [],_,_,_,h=>h
 |i :: l,hs,σ,σ',⟨σ₁,h1,h2⟩=>⟨σ₁,hs i (by simp) _ _ h1,nr (fun j hj=>hs j (List.mem_cons_of_mem _ hj)) h2⟩
theorem recs_of(hN:NeuB N B):∀(l:List Nat) (σ σ':St),l.Pairwise (· < ·)→(∀i∈l,∃o,ops[i]? = some o∧okS N pts o=true)→bT C B pts ops l σ σ'→∃rc:Nat→Rec,RunOk C B N pts ops l σ σ' rc
 | [],σ,σ',_,_,h=>by
  have:σ'=σ:=h
  subst this
  exact⟨fun _=>⟨σ',⟨none,none,undef⟩,none,none⟩,Nat.le_refl _,fun _ h=>(by cases h),fun _ h=>(by cases h),fun _ h=>(by cases h),fun _ _=>rfl,fun _ h=>(by cases h),fun _ h=>(by cases h),fun _ _=>rfl⟩
 |i :: l,σ,σ',hp,hok,⟨σ₁,h1,h2⟩=>by
  obtain⟨o,hi,hc⟩:=hok i (by simp)
  obtain⟨r,rfl,r1,r2,r3,r4,r5,r6⟩:=rec_one hN hi hc h1
  rw[List.pairwise_cons]at hp
  obtain⟨rc,R⟩:=recs_of hN l σ₁ σ' hp.2 (fun j hj=>hok j (List.mem_cons_of_mem _ hj)) h2
  have hne:∀j∈l,j≠i:=fun j hj e=>by have:=hp.1 j hj;omega
  have hat:∀j∈l,(if j=i then r else rc j)=rc j:=fun j hj=>if_neg (hne j hj)
  refine⟨fun j=>if j=i then r else rc j,Nat.le_trans r2 R.len,?_,?_,?_,?_,?_,?_,?_⟩
  ·intro j hj o' ho'
   rcases List.mem_cons.1 hj with rfl|hj
   ·simp only[if_true]
    rw[hi]at ho';cases ho';exact r1
   ·simp only[hat j hj];exact R.ok j hj o' ho'
  ·intro j hj k hk
   rcases List.mem_cons.1 hj with rfl|hj
   ·simp only[if_true]at hk
    obtain⟨e1,e2⟩:=r3 k hk
    have:=R.len
    omega
   ·simp only[hat j hj]at hk
    have:=R.slot j hj k hk
    omega
  ·intro j hj j' hj' k hk hk'
   rcases List.mem_cons.1 hj with q1|q1<;>rcases List.mem_cons.1 hj' with q2|q2
   ·rw[q1,q2]
   ·simp only[q1,if_true]at hk
    simp only[hat j' q2]at hk'
    have e1:=r3 k hk
    have e2:=R.slot j' q2 k hk'
    omega
   ·simp only[q2,if_true]at hk'
    simp only[hat j q1]at hk
    have e1:=r3 k hk'
    have e2:=R.slot j q1 k hk
    omega
   ·simp only[hat j q1]at hk
    simp only[hat j' q2]at hk'
    exact R.inj j q1 j' q2 k hk hk'
  ·intro t ht
   rw[R.keep t fun j hj=>ht j (List.mem_cons_of_mem _ hj)]
   exact r4 t (ht i (by simp) o hi)
  ·intro j hj t ht
   rcases List.mem_cons.1 hj with rfl|hj
   ·simp only[if_true]
    have hall:∀j'∈l,∀o',ops[j']? = some o'→o'.dst≠some t:=fun j' hj'=>ht j' (List.mem_cons_of_mem _ hj') (Nat.le_of_lt (hp.1 j' hj'))
    rw[R.keep t hall]
    exact r4 t (ht j (by simp) (Nat.le_refl _) o hi)
   ·simp only[hat j hj]
    exact R.args j hj t fun j' hj'=>ht j' (List.mem_cons_of_mem _ hj')
  ·intro j hj o' d v ho' hd hlt hv
   rcases List.mem_cons.1 hj with rfl|hj
   ·simp only[if_true]
    rw[hi]at ho';cases ho'
    refine r5 d v hd ?_
    rw[←R.keep d fun j' hj'=>hlt j' (List.mem_cons_of_mem _ hj') (hp.1 j' hj')]
    exact hv
   ·simp only[hat j hj]
    exact R.res j hj o' d v ho' hd (fun j' hj'=>hlt j' (List.mem_cons_of_mem _ hj')) hv
  ·intro m hm
   obtain⟨s1,s2⟩:=r6 m (Nat.le_trans R.len hm)
   refine⟨St.padTo σ₁ m,⟨o,hi,?_,?_⟩,?_⟩
   ·simp only[if_true];exact s1
   ·simp only[if_true];exact s2
   ·refine nr (fun j hj τ τ' h=>?_) (R.run m hm)
    obtain⟨o',q1,q2,q3⟩:=h
    exact⟨o',q1,by simp only[hat j hj];exact q2,by simp only[hat j hj];exact q3⟩
end
end Sx
end Go.Am

/-
 REGIONS THAT DRAW THEIR ORDER,where several operations make blocks: whatever the order,if the values tell the blocks apart.
-/
namespace Go.Am
namespace Sx
section
variable [Val] {C:Cfg} {B:Below} {N:FuncId→Option Nat} {pts:List Nat} {ops:Array Oper}
noncomputable def tv(q:Oper→Oper→Bool)(b:Oper)(m:Nat):List Oper→Nat→Bool
 | [],_=>true
 |a :: l,k=>(Nat.testBit m k||q a b)&&tv q b m l (k+1)
noncomputable def oF(q:Oper→Oper→Bool)(ms:List Nat):List Oper→List Oper→Nat→Bool
 |_,[],_=>true
 |pre,b :: l,i=>tv q b (ms.getD i 0) pre 0&&oF q ms (pre++[b]) l (i+1)
theorem qF{q:Oper→Oper→Bool}{b:Oper}{m:Nat}:∀ {l:List Oper} {k:Nat},tv q b m l k=true→∀(j:Nat) a,l[j]? = some a→m.testBit (k+j)=true∨q a b=true
 | [],k,_,j,a,h=>by simp at h
 |a :: l,k,h,j,c,hj=>by
  simp only[tv,Bool.and_eq_true,Bool.or_eq_true]at h
  cases j with
  |zero=>simp at hj;subst hj;exact h.1
  |succ j=>
   have:=qF h.2 j c (by simpa using hj)
   rwa [show k+1+j=k+(j+1)by omega]at this
theorem ni{q:Oper→Oper→Bool}{ms:List Nat}:∀ {l pre:List Oper} {i:Nat},pre.length=i→oF q ms pre l i=true→∀(j:Nat) b,l[j]? = some b→∀(k:Nat) a,k<i+j→(pre++l)[k]? = some a→(ms.getD (i+j) 0).testBit k=true∨q a b=true
 | [],pre,i,_,_,j,b,h,_,_,_,_=>by simp at h
 |b :: l,pre,i,hp,h,j,c,hj,k,a,hk,ha=>by
  simp only[oF,Bool.and_eq_true]at h
  cases j with
  |zero=>
   simp at hj
   subst hj
   rw[List.getElem?_append_left (by omega)]at ha
   have:=qF h.1 k a ha
   simpa using this
  |succ j=>
   have:=ni (pre:=pre++[b]) (i:=i+1) (by simp[hp]) h.2 j c (by simpa using hj) k a (by omega) (by simpa using ha)
   rwa [show i+1+j=i+(j+1)by omega]at this
theorem pS{b:Oper}{m i:Nat}:∀ {l:List Oper} {k:Nat} (j:Nat) a,l[j]? = some a→m.testBit (k+j)=false→conf pts a b=true→(k+j,i)∈pR pts b m i l k
 | [],k,j,a,h,_,_=>by simp at h
 |a :: l,k,j,c,hj,hb,hc=>by
  unfold pR
  cases j with
  |zero=>
   simp at hj
   subst hj
   simp only[Nat.add_zero]at hb ⊢
   rw[hb,hc]
   simp
  |succ j=>
   have:=pS (i:=i) (k:=k+1) j c (by simpa using hj) (by rwa [show k+1+j=k+(j+1)by omega]) hc
   rw[show k+1+j=k+(j+1)by omega]at this
   split
   ·exact this
   ·exact List.mem_cons_of_mem _ this
theorem pQ{ms:List Nat}:∀ {l pre:List Oper} {i:Nat},pre.length=i→∀(j:Nat) b,l[j]? = some b→∀(k:Nat) a,k<i+j→(pre++l)[k]? = some a→(ms.getD (i+j) 0).testBit k=false→conf pts a b=true→(k,i+j)∈so pts ms pre l i
 | [],pre,i,_,j,b,h,_,_,_,_,_,_=>by simp at h
 |b :: l,pre,i,hp,j,c,hj,k,a,hk,ha,ht,hc=>by
  unfold so
  rw[List.mem_append]
  cases j with
  |zero=>
   simp at hj
   subst hj
   rw[List.getElem?_append_left (by omega)]at ha
   have:=pS (pts:=pts) (i:=i) (k:=0) k a ha (by simpa using ht) hc
   left
   simpa using this
  |succ j=>
   right
   have:=pQ (pre:=pre++[b]) (i:=i+1) (by simp[hp]) j c (by simpa using hj) k a (by omega) (by simpa using ha) (by rwa [show i+1+j=i+(j+1)by omega]) hc
   rwa [show i+1+j=i+(j+1)by omega]at this
noncomputable def opT(pts:List Nat)(o:Oper):List Nat:=((co pts o).1++dy pts o).filterMap fun x=>match x with
 | .tmp t=>some t
 |_=>none
noncomputable def ssaB(pts:List Nat):List Oper→List Oper→Bool
 |_,[]=>true
 |pre,b :: l=>cf b.dst (opT pts b)&&(pre.all fun a=>cf b.dst (opT pts a)&&bW a.dst b.dst)&&ssaB pts (pre++[b]) l
theorem rR:∀ {l pre:List Oper},ssaB pts pre l=true→∀(j:Nat) b,l[j]? = some b→∀(k:Nat) a,(pre++l)[k]? = some a→(k≤pre.length+j→cf b.dst (opT pts a)=true)∧(k<pre.length+j→bW a.dst b.dst=true)
 | [],pre,_,j,b,h,_,_,_=>by simp at h
 |b :: l,pre,h,j,c,hj,k,a,ha=>by
  simp only[ssaB,Bool.and_eq_true,List.all_eq_true]at h
  obtain⟨⟨h1,h2⟩,h3⟩:=h
  cases j with
  |zero=>
   simp at hj
   subst hj
   refine⟨fun hk=>?_,fun hk=>?_⟩
   ·rcases Nat.lt_or_ge k pre.length with hlt|hge
    ·rw[List.getElem?_append_left hlt]at ha
     exact(h2 a (List.mem_of_getElem? ha)).1
    ·obtain rfl:k=pre.length:=by omega
     rw[List.getElem?_append_right (Nat.le_refl _),Nat.sub_self]at ha
     simp at ha
     subst ha
     exact h1
   ·rw[List.getElem?_append_left (by omega)]at ha
    exact(h2 a (List.mem_of_getElem? ha)).2
  |succ j=>
   have:=rR h3 j c (by simpa using hj) k a (by simpa using ha)
   simp only[List.length_append,List.length_cons,List.length_nil]at this
   exact⟨fun hk=>this.1 (by omega),fun hk=>this.2 (by omega)⟩
noncomputable def sepReg(N:FuncId→Option Nat)(pts:List Nat)(ops:Array Oper):Bool:=
 fl ops.toList 0&&(ops.toList.all (okS N pts)&&(ops.toList.any (cz pts)&&(ops.toList.all (fun o=>!cz pts o||o.dst.isSome)&&(ssaB pts [] ops.toList&&oF (fun a b=>stat2 N pts ops a b && !en a b) (ancs ops.toList []) [] ops.toList 0))))
noncomputable def drOf(N:FuncId→Option Nat):Dr:=fun pts ops=>match sq pts ops with
 | []=>match qE N pts ops with
  |true=>some []
  |false=>none
 |p :: ps=>match sepReg N pts ops with
  |true=>some (p :: ps)
  |false=>none
theorem hcls0{o:Oper}(h:hCls pts o=0):(co pts o).1=[]∧dy pts o=[]∧cz pts o=false:=by
 obtain⟨dst,op,ty,pos,after,guard⟩:=o
 cases op<;>simp only[hCls]at h<;>first|(exact⟨rfl,rfl,rfl⟩)|(exact absurd h (by decide))|skip
 case alloc t=>cases hn:cz pts ⟨dst,.alloc t,ty,pos,after,guard⟩with
  |true=>rw[hn]at h;cases h
  |false=>exact⟨rfl,rfl,rfl⟩
 case box t x=>cases hn:cz pts ⟨dst,.box t x,ty,pos,after,guard⟩with
  |true=>rw[hn]at h;cases h
  |false=>exact⟨rfl,rfl,rfl⟩
 case load t a=>
  split at h
  ·cases h
  ·rename_i hk
   refine⟨?_,rfl,rfl⟩
   simp only[co]
 case store t a x=>
  split at h
  ·cases h
  ·rename_i hk
   refine⟨?_,?_,rfl⟩
   ·simp only[co]
   ·simp only[dy]
 case call c=>
  cases hc:c.callee with
  |builtin b=>
   rw[hc]at h
   simp only[co,dy,cz,hc]
   cases b<;>first|(exact⟨rfl,rfl,rfl⟩)|(exact absurd h (by simp))
  |value f=>simp only[co,dy,cz,hc];exact⟨trivial,trivial,trivial⟩
  |invoke r m=>simp only[co,dy,cz,hc];exact⟨trivial,trivial,trivial⟩
theorem hcls1{o:Oper}(h:hCls pts o=1):dy pts o=[]∧cz pts o=false:=by
 obtain⟨dst,op,ty,pos,after,guard⟩:=o
 cases op<;>simp only[hCls]at h<;>first|(exact⟨rfl,rfl⟩)|(exact absurd h (by decide))|skip
 case alloc t=>cases hn:cz pts ⟨dst,.alloc t,ty,pos,after,guard⟩with
  |true=>rw[hn]at h;cases h
  |false=>exact⟨rfl,rfl⟩
 case box t x=>cases hn:cz pts ⟨dst,.box t x,ty,pos,after,guard⟩with
  |true=>rw[hn]at h;cases h
  |false=>exact⟨rfl,rfl⟩
 case store t a x=>split at h<;>cases h
 case call c=>
  cases hc:c.callee with
  |builtin b=>
   rw[hc]at h
   simp only[dy,cz,hc]
   cases b<;>first|(exact⟨rfl,rfl⟩)|(exact absurd h (by simp))
  |value f=>simp only[dy,cz,hc];exact⟨trivial,trivial⟩
  |invoke r m=>simp only[dy,cz,hc];exact⟨trivial,trivial⟩
theorem om(o:Oper):hCls pts o=0∨hCls pts o=1∨hCls pts o=2:=by
 obtain⟨dst,op,ty,pos,after,guard⟩:=o
 cases op<;>simp only[hCls]<;>first|(exact .inl trivial)|(exact .inr (.inl trivial))|(exact .inr (.inr trivial))|skip
 case alloc t=>split<;>simp
 case box t x=>split<;>simp
 case load t a=>split<;>simp
 case store t a x=>split<;>simp
 case call c=>split<;>first|(split<;>simp)|simp
end
end Sx
end Go.Am

/-
 REGIONS THAT DRAW THEIR ORDER: whatever the order.
-/
namespace Go.Am
namespace Sx
section
variable [Val] {C:Cfg} {B:Below} {N:FuncId→Option Nat} {pts:List Nat} {ops:Array Oper}
theorem fresh_adr{mk:Nat→Value}(h:Fresh mk)(k:Nat):adr (mk k)=[k]:=by
 cases h<;>simp[adr,tag]
theorem tC{S:Nat→St→St→Prop}{sl:Nat→Option Nat}(hS:∀i σ σ',S i σ σ'→da C B pts ops sl i σ σ'):∀ {l:List Nat},l.Nodup→∀ {σ σ':St},runR S l σ σ'→fT C B pts ops sl l σ σ'
 | [],_,_,_,h=>h
 |i :: l,hn,σ,σ',⟨σ₁,h1,h2⟩=>by
  rw[List.nodup_cons]at hn
  exact⟨hn.1,σ₁,hS i _ _ h1,tC hS hn.2 h2⟩
theorem opT_mem{o:Oper}{t:Nat}(h:Operand.tmp t∈(co pts o).1++dy pts o):t∈opT pts o:=by
 unfold opT
 exact List.mem_filterMap.2 ⟨.tmp t,h,rfl⟩
theorem any_okS [Kno](hN:NeuB N B)(hreg:sepReg N pts ops=true){σ σ':St}(h:bT C B pts ops (List.range ops.size) σ σ')(hsep:SepAt pts ops σ'.tmps (sq pts ops)):fc C B pts ops σ σ':=by
 simp only[sepReg,Bool.and_eq_true]at hreg
 obtain⟨g1,g2,g3,g4,g5,g6⟩:=hreg
 have hok:∀i∈List.range ops.size,∃o,ops[i]? = some o∧okS N pts o=true:=by
  intro i hi
  rw[List.mem_range]at hi
  exact⟨ops[i],by simp[hi],List.all_eq_true.1 g2 _ (by simp)⟩
 obtain⟨rc,R⟩:=recs_of hN (List.range ops.size) σ σ' List.pairwise_lt_range hok h
 have hsz:∀ {i:Nat} {o:Oper},ops[i]? = some o→i<ops.size:=fun hi=>(Array.getElem?_eq_some_iff.1 hi).1
 have hrg:∀ {i:Nat} {o:Oper},ops[i]? = some o→i∈List.range ops.size:=fun hi=>List.mem_range.2 (hsz hi)
 have hl:∀ {i:Nat} {o:Oper},ops[i]? = some o→ops.toList[i]? = some o:=fun hi=>by simpa using hi
 have hop:∀ {i:Nat} {o:Oper},ops[i]? = some o→∀x∈(co pts o).1++dy pts o,oval σ'.tmps x=oval (rc i).σ.tmps x:=by
  intro i o hi x hx
  refine iQ fun t ht=>?_
  subst ht
  refine R.args i (hrg hi) t fun j hj hij o' ho' hd=>?_
  have:=(rR g5 j o' (hl ho') i o (by simpa using hi)).1 (by simpa using hij)
  exact mI this t (opT_mem hx) t hd rfl
 have hF:∀ {i:Nat} {o:Oper},ops[i]? = some o→∀r∈fpo pts (oval (rc i).σ.tmps) o,r∈fAt pts σ'.tmps o:=by
  intro i o hi r hr
  unfold fpo at hr
  unfold fAt
  obtain⟨x,hx,hr⟩:=List.mem_flatMap.1 hr
  exact List.mem_flatMap.2 ⟨x,hx,by rw[hop hi x (List.mem_append_left _ hx)];exact hr⟩
 have hW:∀ {i:Nat} {o:Oper},ops[i]? = some o→dstIn pts σ'.tmps o→∀p∈(rc i).ws,p.1∈wAt pts σ'.tmps o:=by
  intro i o hi hdi p hp
  have K:=R.ok i (hrg hi) o hi
  unfold Rec.ws at hp
  unfold wAt
  rw[List.mem_flatMap]
  rcases List.mem_append.1 hp with hp|hp
  ·have:=K.wr p (by simpa using hp)
   unfold wpo at this
   obtain⟨x,hx,hr⟩:=List.mem_flatMap.1 this
   exact⟨x,List.mem_append_left _ hx,by rw[hop hi x (List.mem_append_right _ hx)];exact hr⟩
  ·unfold Rec.slot at hp
   split at hp
   ·rename_i k q hk hq
    have hp:p=(k,q.1):=by simpa using hp
    subst hp
    obtain⟨f1,f2,f3⟩:=K.fr q hq
    have hc2:hCls pts o=2:=by
     rcases om (pts:=pts) o with h0|h0|h0
     ·rw[(hcls0 h0).2.2]at f3;cases f3
     ·rw[(hcls1 h0).2]at f3;cases f3
     ·exact h0
    have hds:o.dst.isSome=true:=by
     have:=List.all_eq_true.1 g4 o (List.mem_of_getElem? (hl hi))
     rw[f3]at this
     simpa using this
    obtain⟨d,hd⟩:=Option.isSome_iff_exists.1 hds
    obtain⟨v,hv⟩:=hdi d hd hc2
    have hval:=R.res i (hrg hi) o d v hi hd (fun j hj hij o' ho' hd'=>by
     have:=(rR g5 j o' (hl ho') i o (by simpa using hi)).2 (by simpa using hij)
     rw[hd,hd']at this
     simp[bW]at this) hv
    refine⟨.tmp d,pg hd hc2,?_⟩
    have ho:oval σ'.tmps (.tmp d)=v:=by simp[oval,List.getD_eq_getElem?_getD,hv]
    rw[ho,hval]
    unfold Rec.val HEff.val
    rw[hk]
    simp only[hq]
    rw[fresh_adr f1]
    exact List.mem_singleton.2 rfl
   ·cases hp
 have hno:∀ {i:Nat} {o:Oper},ops[i]? = some o→hCls pts o≠2→(rc i).ws=[]:=by
  intro i o hi hc
  have K:=R.ok i (hrg hi) o hi
  have hw:dy pts o=[]∧cz pts o=false:=by
   rcases om (pts:=pts) o with h0|h0|h0
   ·exact(hcls0 h0).2
   ·exact hcls1 h0
   ·exact absurd h0 hc
  have e1:(rc i).e.set=none:=by
   cases hs:(rc i).e.set with
   |none=>rfl
   |some p=>
    have:=K.wr p hs
    unfold wpo at this
    rw[hw.1]at this
    cases this
  have e2:(rc i).e.push=none:=by
   cases hs:(rc i).e.push with
   |none=>rfl
   |some p=>have:=(K.fr p hs).2.2;rw[hw.2]at this;cases this
  unfold Rec.ws Rec.slot
  rw[e1,e2]
  cases (rc i).k<;>rfl
 have hno2:∀ {i:Nat} {o:Oper},hCls pts o=0→fpo pts (oval (rc i).σ.tmps) o=[]:=by
  intro i o hc
  unfold fpo
  rw[(hcls0 hc).1]
  rfl
 refine .inr ⟨fun i=>if i<ops.size then(rc i).k else none,σ'.heap.length - σ.heap.length,g3,?_,?_,fun t=>?_⟩
 ·intro i k hk
  simp only at hk
  split at hk
  ·rename_i hi
   have:=R.slot i (List.mem_range.2 hi) k hk
   omega
  ·cases hk
 ·intro i j k hk hk'
  simp only at hk hk'
  split at hk
  ·rename_i hi
   split at hk'
   ·rename_i hj
    exact R.inj i (List.mem_range.2 hi) j (List.mem_range.2 hj) k hk hk'
   ·cases hk'
  ·cases hk
 have hback:∀(i:Nat) o,ops[i]? = some o→∀e∈o.after.toList,Region.binds .any e=true→e.on<i:=by
  intro i o ho e he hb
  have:=fm g1 i o (by simpa using ho) e he hb
  omega
 have hpair:∀i k:Nat,i<ops.size→k<i→Anc ops k i∨∀τ τ₁ τ':St,recS N pts ops rc k τ τ₁→recS N pts ops rc i τ₁ τ'→∃ρ,recS N pts ops rc i τ ρ∧recS N pts ops rc k ρ τ':=by
  intro i k hi hki
  have hb:ops[i]? = some ops[i]:=by simp[hi]
  have ha:ops[k]? = some (ops[k]'(by omega)):=by simp[show k<ops.size by omega]
  generalize ops[i]=b at hb
  generalize ops[k]'(by omega)=a at ha
  have hq:=ni (pre:=[]) (i:=0) rfl g6 i b (by simpa using hb) k a (by omega) (by simpa using ha)
  rw[Nat.zero_add]at hq
  cases htb:(List.getD (ancs ops.toList []) i 0).testBit k with
  |true=>exact .inl (qV ops.toList [] rfl (fun i k h=>by simp at h) i k htb)
  |false=>
   right
   rw[htb]at hq
   have hq:=hq.resolve_left (by simp)
   simp only[Bool.and_eq_true]at hq
   obtain⟨q1,q2⟩:=hq
   have d:(∀p∈(rc k).ws,p.1∉fpo pts (oval (rc i).σ.tmps) b)∧(∀p∈(rc i).ws,p.1∉fpo pts (oval (rc k).σ.tmps) a)∧(∀p∈(rc k).ws,∀q∈(rc i).ws,p.1≠q.1):=by
    cases hcf:conf pts a b with
    |true=>
     have hm:=pQ (pts:=pts) (ms:=ancs ops.toList []) (l:=ops.toList) (pre:=[]) (i:=0) rfl i b (by simpa using hb) k a (by omega) (by simpa using ha) (by rw[Nat.zero_add];exact htb) hcf
     rw[Nat.zero_add]at hm
     obtain⟨a',b',r1,r2,s1,s2,s3,s4,s5⟩:=hsep (k,i) hm
     have r1:ops[k]? = some a':=r1
     have r2:ops[i]? = some b':=r2
     rw[ha]at r1;rw[hb]at r2
     cases r1;cases r2
     exact⟨fun p hp hf=>s1 _ (hW ha s4 p hp) (hF hb _ hf),fun p hp hf=>s3 _ (hW hb s5 p hp) (hF ha _ hf),fun p hp q hq e=>s2 _ (hW ha s4 p hp) (e▸hW hb s5 q hq)⟩
    |false=>
     have hcf:Nat.ble 3 (hCls pts a+hCls pts b)=false:=by
      unfold conf at hcf
      cases he:en a b with
      |true=>rw[he]at q2;cases q2
      |false=>rw[he]at hcf;simpa using hcf
     have hlt:¬3≤hCls pts a+hCls pts b:=fun h=>by rw[Nat.ble_eq_true_of_le h]at hcf;cases hcf
     rcases om (pts:=pts) a with e1|e1|e1<;>rcases om (pts:=pts) b with e2|e2|e2
     ·rw[hno ha (by omega),hno hb (by omega)];exact⟨fun _ h=>(by cases h),fun _ h=>(by cases h),fun _ h=>(by cases h)⟩
     ·rw[hno ha (by omega),hno hb (by omega)];exact⟨fun _ h=>(by cases h),fun _ h=>(by cases h),fun _ h=>(by cases h)⟩
     ·rw[hno ha (by omega),hno2 e1];exact⟨fun _ h=>(by cases h),fun _ _ h=>(by cases h),fun _ h=>(by cases h)⟩
     ·rw[hno ha (by omega),hno hb (by omega)];exact⟨fun _ h=>(by cases h),fun _ h=>(by cases h),fun _ h=>(by cases h)⟩
     ·rw[hno ha (by omega),hno hb (by omega)];exact⟨fun _ h=>(by cases h),fun _ h=>(by cases h),fun _ h=>(by cases h)⟩
     ·omega
     ·rw[hno hb (by omega),hno2 e2];exact⟨fun _ _ h=>(by cases h),fun _ h=>(by cases h),fun _ _ _ h=>(by cases h)⟩
     ·omega
     ·omega
   rintro τ τ₁ τ' ⟨a1,h1,h2,rfl⟩ ⟨b1,h3,h4,rfl⟩
   rw[ha]at h1;rw[hb]at h3
   cases h1;cases h3
   obtain⟨w1,w2,w3⟩:=swapR (R.ok k (hrg ha) a ha) (R.ok i (hrg hb) b hb) q1 d.1 d.2.1 d.2.2 h2 h4
   exact⟨_,⟨b,hb,w1,rfl⟩,⟨a,ha,w2,w3⟩⟩
 have hz:unl ops.size (Array.replicate ops.size false)=List.range ops.size:=by
  unfold unl
  rw[List.filter_eq_self]
  intro i hi
  rw[List.mem_range]at hi
  rw[Array.getD_eq_getD_getElem?,Array.getElem?_replicate,if_pos hi]
  rfl
 have hrun:=R.run σ'.heap.length (Nat.le_refl _)
 have hend:St.padTo σ' σ'.heap.length=σ':=by
  unfold St.padTo St.pad
  rw[Nat.sub_self]
  simp
 rw[hend]at hrun
 obtain⟨r1,r2,_⟩:=go_okR (S:=recS N pts ops rc) hback hpair ops.size t (Array.replicate ops.size false) (by simp) (by rw[hz];simp) (fun x o hx ho=>by
  have hlt:x<ops.size:=hsz ho
  rw[Array.getD_eq_getD_getElem?,Array.getElem?_replicate,if_pos hlt]at hx
  cases hx) _ _ (by rw[hz];exact hrun)
 refine tC (fun i τ τ' hS=>?_) r2 r1
 obtain⟨o,h1,h2,rfl⟩:=hS
 exact(R.ok i (hrg h1) o h1).step τ h2 _ (by simp only[hsz h1,if_true])
theorem drOf_ok [Kno]{C:Cfg}(hN:∀f n,N f=some n→neuF N C f n=true)(hk:∀f args H r H',Kno.kh f args H r H'→N f=none∨(N f=some (2*args.length+1)∧H'=H)):DrOk C (drOf N):=by
 intro pts ops ps h n σ σ' hx hs
 unfold drOf at h
 split at h
 ·split at h
  ·rename_i hr
   exact dr_ok hN hk pts ops hr n σ σ' hx
  ·cases h
 ·rename_i p qs he
  split at h
  ·rename_i hr
   cases h
   exact any_okS (neu_ok hN hk n).1.1 hr hx (by rw[he];exact hs)
  ·cases h
end
end Sx
end Go.Am

/-
 THE FUNCTIONS OF THE PROGRAM ARE WHAT IS TOLD OF THEM,BY PROGRAM.
-/
set_option maxRecDepth 100000
namespace Go.Am
open Sx Go.Proofs
def neuT:List (Nat×Nat):=[(59,6),(86,4),(30,4),(29,2),(56,4),(57,4),(58,2),(84,2),(85,4),(26,4),(15,4),(38,2)]
def lookN(l:List (Nat×Nat))(f:Nat):Option Nat:=match l with
 | []=>none
 |p :: l=>match Nat.beq p.1 f with
  |true=>some p.2
  |false=>lookN l f
def neuN(f:FuncId):Option Nat:=lookN neuT f
theorem qn{f n:Nat}:∀ {l:List (Nat×Nat)},lookN l f=some n→(f,n)∈l
 |p :: l,h=>by
  unfold lookN at h
  split at h
  ·rename_i e
   cases h
   have:=Nat.eq_of_beq_eq_true e
   subst this
   exact List.mem_cons_self
  ·exact List.mem_cons_of_mem _ (qn h)
theorem neuT_ok:(neuT.all fun p=>neuF neuN cc p.1 p.2)=true:=by kernel_rfl
theorem neuN_ok(f n:Nat)(h:neuN f=some n):neuF neuN cc f n=true:=List.all_eq_true.1 neuT_ok (f,n) (qn h)
noncomputable def drN:Dr:=drOf neuN
noncomputable def n4:Fn1:=fn1 cc.P 4 ((ac 4).getD ⟨[],[]⟩) an4
noncomputable def n5:Fn1:=fn1 cc.P 5 ((ac 5).getD ⟨[],[]⟩) an5
noncomputable def n6:Fn1:=fn1 cc.P 6 ((ac 6).getD ⟨[],[]⟩) an6
noncomputable def n7:Fn1:=fn1 cc.P 7 ((ac 7).getD ⟨[],[]⟩) an7
noncomputable def n8:Fn1:=fn1 cc.P 8 ((ac 8).getD ⟨[],[]⟩) an8
noncomputable def n9:Fn1:=fn1 cc.P 9 ((ac 9).getD ⟨[],[]⟩) an9
noncomputable def n10:Fn1:=fn1 cc.P 10 ((ac 10).getD ⟨[],[]⟩) an10
noncomputable def n12:Fn1:=fn1 cc.P 12 ((ac 12).getD ⟨[],[]⟩) an12
noncomputable def n13:Fn1:=fn1 cc.P 13 ((ac 13).getD ⟨[],[]⟩) an13
noncomputable def n14:Fn1:=fn1 cc.P 14 ((ac 14).getD ⟨[],[]⟩) an14
noncomputable def n15:Fn1:=fn1 cc.P 15 ((ac 15).getD ⟨[],[]⟩) an15
noncomputable def n16:Fn1:=fn1 cc.P 16 ((ac 16).getD ⟨[],[]⟩) an16
noncomputable def n17:Fn1:=fn1 cc.P 17 ((ac 17).getD ⟨[],[]⟩) an17
noncomputable def n18:Fn1:=fn1 cc.P 18 ((ac 18).getD ⟨[],[]⟩) an18
noncomputable def n19:Fn1:=fn1 cc.P 19 ((ac 19).getD ⟨[],[]⟩) an19
noncomputable def n20:Fn1:=fn1 cc.P 20 ((ac 20).getD ⟨[],[]⟩) an20
noncomputable def n21:Fn1:=fn1 cc.P 21 ((ac 21).getD ⟨[],[]⟩) an21
noncomputable def n22:Fn1:=fn1 cc.P 22 ((ac 22).getD ⟨[],[]⟩) an22
noncomputable def n23:Fn1:=fn1 cc.P 23 ((ac 23).getD ⟨[],[]⟩) an23
noncomputable def n24:Fn1:=fn1 cc.P 24 ((ac 24).getD ⟨[],[]⟩) an24
noncomputable def n25:Fn1:=fn1 cc.P 25 ((ac 25).getD ⟨[],[]⟩) an25
noncomputable def n26:Fn1:=fn1 cc.P 26 ((ac 26).getD ⟨[],[]⟩) an26
noncomputable def n27:Fn1:=fn1 cc.P 27 ((ac 27).getD ⟨[],[]⟩) an27
noncomputable def n28:Fn1:=fn1 cc.P 28 ((ac 28).getD ⟨[],[]⟩) an28
noncomputable def n29:Fn1:=fn1 cc.P 29 ((ac 29).getD ⟨[],[]⟩) an29
noncomputable def n30:Fn1:=fn1 cc.P 30 ((ac 30).getD ⟨[],[]⟩) an30
noncomputable def n31:Fn1:=fn1 cc.P 31 ((ac 31).getD ⟨[],[]⟩) an31
noncomputable def n32:Fn1:=fn1 cc.P 32 ((ac 32).getD ⟨[],[]⟩) an32
noncomputable def n33:Fn1:=fn1 cc.P 33 ((ac 33).getD ⟨[],[]⟩) an33
noncomputable def n34:Fn1:=fn1 cc.P 34 ((ac 34).getD ⟨[],[]⟩) an34
noncomputable def n35:Fn1:=fn1 cc.P 35 ((ac 35).getD ⟨[],[]⟩) an35
noncomputable def n36:Fn1:=fn1 cc.P 36 ((ac 36).getD ⟨[],[]⟩) an36
noncomputable def n37:Fn1:=fn1 cc.P 37 ((ac 37).getD ⟨[],[]⟩) an37
noncomputable def n38:Fn1:=fn1 cc.P 38 ((ac 38).getD ⟨[],[]⟩) an38
noncomputable def n39:Fn1:=fn1 cc.P 39 ((ac 39).getD ⟨[],[]⟩) an39
noncomputable def n40:Fn1:=fn1 cc.P 40 ((ac 40).getD ⟨[],[]⟩) an40
noncomputable def n41:Fn1:=fn1 cc.P 41 ((ac 41).getD ⟨[],[]⟩) an41
noncomputable def n42:Fn1:=fn1 cc.P 42 ((ac 42).getD ⟨[],[]⟩) an42
noncomputable def n43:Fn1:=fn1 cc.P 43 ((ac 43).getD ⟨[],[]⟩) an43
noncomputable def n44:Fn1:=fn1 cc.P 44 ((ac 44).getD ⟨[],[]⟩) an44
noncomputable def n45:Fn1:=fn1 cc.P 45 ((ac 45).getD ⟨[],[]⟩) an45
noncomputable def n46:Fn1:=fn1 cc.P 46 ((ac 46).getD ⟨[],[]⟩) an46
noncomputable def n47:Fn1:=fn1 cc.P 47 ((ac 47).getD ⟨[],[]⟩) an47
noncomputable def n48:Fn1:=fn1 cc.P 48 ((ac 48).getD ⟨[],[]⟩) an48
noncomputable def n49:Fn1:=fn1 cc.P 49 ((ac 49).getD ⟨[],[]⟩) an49
noncomputable def n50:Fn1:=fn1 cc.P 50 ((ac 50).getD ⟨[],[]⟩) an50
noncomputable def n51:Fn1:=fn1 cc.P 51 ((ac 51).getD ⟨[],[]⟩) an51
noncomputable def n52:Fn1:=fn1 cc.P 52 ((ac 52).getD ⟨[],[]⟩) an52
noncomputable def n53:Fn1:=fn1 cc.P 53 ((ac 53).getD ⟨[],[]⟩) an53
noncomputable def n54:Fn1:=fn1 cc.P 54 ((ac 54).getD ⟨[],[]⟩) an54
noncomputable def n55:Fn1:=fn1 cc.P 55 ((ac 55).getD ⟨[],[]⟩) an55
noncomputable def n56:Fn1:=fn1 cc.P 56 ((ac 56).getD ⟨[],[]⟩) an56
noncomputable def n57:Fn1:=fn1 cc.P 57 ((ac 57).getD ⟨[],[]⟩) an57
noncomputable def n58:Fn1:=fn1 cc.P 58 ((ac 58).getD ⟨[],[]⟩) an58
noncomputable def n59:Fn1:=fn1 cc.P 59 ((ac 59).getD ⟨[],[]⟩) an59
noncomputable def n60:Fn1:=fn1 cc.P 60 ((ac 60).getD ⟨[],[]⟩) an60
noncomputable def n61:Fn1:=fn1 cc.P 61 ((ac 61).getD ⟨[],[]⟩) an61
noncomputable def n62:Fn1:=fn1 cc.P 62 ((ac 62).getD ⟨[],[]⟩) an62
noncomputable def n63:Fn1:=fn1 cc.P 63 ((ac 63).getD ⟨[],[]⟩) an63
noncomputable def n64:Fn1:=fn1 cc.P 64 ((ac 64).getD ⟨[],[]⟩) an64
noncomputable def n65:Fn1:=fn1 cc.P 65 ((ac 65).getD ⟨[],[]⟩) an65
noncomputable def n66:Fn1:=fn1 cc.P 66 ((ac 66).getD ⟨[],[]⟩) an66
noncomputable def n67:Fn1:=fn1 cc.P 67 ((ac 67).getD ⟨[],[]⟩) an67
noncomputable def n68:Fn1:=fn1 cc.P 68 ((ac 68).getD ⟨[],[]⟩) an68
noncomputable def n77:Fn1:=fn1 cc.P 77 ((ac 77).getD ⟨[],[]⟩) an77
noncomputable def n78:Fn1:=fn1 cc.P 78 ((ac 78).getD ⟨[],[]⟩) an78
noncomputable def n79:Fn1:=fn1 cc.P 79 ((ac 79).getD ⟨[],[]⟩) an79
noncomputable def n80:Fn1:=fn1 cc.P 80 ((ac 80).getD ⟨[],[]⟩) an80
noncomputable def n81:Fn1:=fn1 cc.P 81 ((ac 81).getD ⟨[],[]⟩) an81
noncomputable def n82:Fn1:=fn1 cc.P 82 ((ac 82).getD ⟨[],[]⟩) an82
noncomputable def n83:Fn1:=fn1 cc.P 83 ((ac 83).getD ⟨[],[]⟩) an83
noncomputable def n84:Fn1:=fn1 cc.P 84 ((ac 84).getD ⟨[],[]⟩) an84
noncomputable def n85:Fn1:=fn1 cc.P 85 ((ac 85).getD ⟨[],[]⟩) an85
noncomputable def n86:Fn1:=fn1 cc.P 86 ((ac 86).getD ⟨[],[]⟩) an86
noncomputable def n87:Fn1:=fn1 cc.P 87 ((ac 87).getD ⟨[],[]⟩) an87
noncomputable def n88:Fn1:=fn1 cc.P 88 ((ac 88).getD ⟨[],[]⟩) an88
noncomputable def n89:Fn1:=fn1 cc.P 89 ((ac 89).getD ⟨[],[]⟩) an89
noncomputable def n90:Fn1:=fn1 cc.P 90 ((ac 90).getD ⟨[],[]⟩) an90
noncomputable def n96:Fn1:=fn1 cc.P 96 ((ac 96).getD ⟨[],[]⟩) an96
noncomputable def n97:Fn1:=fn1 cc.P 97 ((ac 97).getD ⟨[],[]⟩) an97
noncomputable def n98:Fn1:=fn1 cc.P 98 ((ac 98).getD ⟨[],[]⟩) an98
noncomputable def n99:Fn1:=fn1 cc.P 99 ((ac 99).getD ⟨[],[]⟩) an99
noncomputable def n100:Fn1:=fn1 cc.P 100 ((ac 100).getD ⟨[],[]⟩) an100
noncomputable def n108:Fn1:=fn1 cc.P 108 ((ac 108).getD ⟨[],[]⟩) an108
noncomputable def n109:Fn1:=fn1 cc.P 109 ((ac 109).getD ⟨[],[]⟩) an109
noncomputable def n110:Fn1:=fn1 cc.P 110 ((ac 110).getD ⟨[],[]⟩) an110
noncomputable def n112:Fn1:=fn1 cc.P 112 ((ac 112).getD ⟨[],[]⟩) an112
noncomputable def n113:Fn1:=fn1 cc.P 113 ((ac 113).getD ⟨[],[]⟩) an113
noncomputable def n114:Fn1:=fn1 cc.P 114 ((ac 114).getD ⟨[],[]⟩) an114
theorem i4:FnIs (xc 4) ac 4 n4:=⟨⟨Tryz.f4,Tryz.func4,by kernel_rfl,by kernel_rfl,by kernel_rfl,by kernel_rfl⟩,rfl,by kernel_rfl⟩
theorem i5:FnIs (xc 5) ac 5 n5:=⟨⟨Tryz.f5,Tryz.func5,by kernel_rfl,by kernel_rfl,by kernel_rfl,by kernel_rfl⟩,rfl,by kernel_rfl⟩
theorem i6:FnIs (xc 6) ac 6 n6:=⟨⟨Tryz.f6,Tryz.func6,by kernel_rfl,by kernel_rfl,by kernel_rfl,by kernel_rfl⟩,rfl,by kernel_rfl⟩
theorem i7:FnIs (xc 7) ac 7 n7:=⟨⟨Tryz.f7,Tryz.func7,by kernel_rfl,by kernel_rfl,by kernel_rfl,by kernel_rfl⟩,rfl,by kernel_rfl⟩
theorem i8:FnIs (xc 8) ac 8 n8:=⟨⟨Tryz.f8,Tryz.func8,by kernel_rfl,by kernel_rfl,by kernel_rfl,by kernel_rfl⟩,rfl,by kernel_rfl⟩
theorem i9:FnIs (xc 9) ac 9 n9:=⟨⟨Tryz.f9,Tryz.func9,by kernel_rfl,by kernel_rfl,by kernel_rfl,by kernel_rfl⟩,rfl,by kernel_rfl⟩
theorem i10:FnIs (xc 10) ac 10 n10:=⟨⟨Tryz.f10,Tryz.func10,by kernel_rfl,by kernel_rfl,by kernel_rfl,by kernel_rfl⟩,rfl,by kernel_rfl⟩
theorem i12:FnIs (xc 12) ac 12 n12:=⟨⟨Tryz.f12,Tryz.func12,by kernel_rfl,by kernel_rfl,by kernel_rfl,by kernel_rfl⟩,rfl,by kernel_rfl⟩
theorem i13:FnIs (xc 13) ac 13 n13:=⟨⟨Tryz.f13,Tryz.func13,by kernel_rfl,by kernel_rfl,by kernel_rfl,by kernel_rfl⟩,rfl,by kernel_rfl⟩
theorem i14:FnIs (xc 14) ac 14 n14:=⟨⟨Tryz.f14,Tryz.func14,by kernel_rfl,by kernel_rfl,by kernel_rfl,by kernel_rfl⟩,rfl,by kernel_rfl⟩
theorem i15:FnIs (xc 15) ac 15 n15:=⟨⟨Tryz.f15,Tryz.func15,by kernel_rfl,by kernel_rfl,by kernel_rfl,by kernel_rfl⟩,rfl,by kernel_rfl⟩
theorem i16:FnIs (xc 16) ac 16 n16:=⟨⟨Tryz.f16,Tryz.func16,by kernel_rfl,by kernel_rfl,by kernel_rfl,by kernel_rfl⟩,rfl,by kernel_rfl⟩
theorem i17:FnIs (xc 17) ac 17 n17:=⟨⟨Tryz.f17,Tryz.func17,by kernel_rfl,by kernel_rfl,by kernel_rfl,by kernel_rfl⟩,rfl,by kernel_rfl⟩
theorem i18:FnIs (xc 18) ac 18 n18:=⟨⟨Tryz.f18,Tryz.func18,by kernel_rfl,by kernel_rfl,by kernel_rfl,by kernel_rfl⟩,rfl,by kernel_rfl⟩
theorem i19:FnIs (xc 19) ac 19 n19:=⟨⟨Tryz.f19,Tryz.func19,by kernel_rfl,by kernel_rfl,by kernel_rfl,by kernel_rfl⟩,rfl,by kernel_rfl⟩
theorem i20:FnIs (xc 20) ac 20 n20:=⟨⟨Tryz.f20,Tryz.func20,by kernel_rfl,by kernel_rfl,by kernel_rfl,by kernel_rfl⟩,rfl,by kernel_rfl⟩
theorem i21:FnIs (xc 21) ac 21 n21:=⟨⟨Tryz.f21,Tryz.func21,by kernel_rfl,by kernel_rfl,by kernel_rfl,by kernel_rfl⟩,rfl,by kernel_rfl⟩
theorem i22:FnIs (xc 22) ac 22 n22:=⟨⟨Tryz.f22,Tryz.func22,by kernel_rfl,by kernel_rfl,by kernel_rfl,by kernel_rfl⟩,rfl,by kernel_rfl⟩
theorem i23:FnIs (xc 23) ac 23 n23:=⟨⟨Tryz.f23,Tryz.func23,by kernel_rfl,by kernel_rfl,by kernel_rfl,by kernel_rfl⟩,rfl,by kernel_rfl⟩
theorem i24:FnIs (xc 24) ac 24 n24:=⟨⟨Tryz.f24,Tryz.func24,by kernel_rfl,by kernel_rfl,by kernel_rfl,by kernel_rfl⟩,rfl,by kernel_rfl⟩
theorem i25:FnIs (xc 25) ac 25 n25:=⟨⟨Tryz.f25,Tryz.func25,by kernel_rfl,by kernel_rfl,by kernel_rfl,by kernel_rfl⟩,rfl,by kernel_rfl⟩
theorem i26:FnIs (xc 26) ac 26 n26:=⟨⟨Tryz.f26,Tryz.func26,by kernel_rfl,by kernel_rfl,by kernel_rfl,by kernel_rfl⟩,rfl,by kernel_rfl⟩
theorem i27:FnIs (xc 27) ac 27 n27:=⟨⟨Tryz.f27,Tryz.func27,by kernel_rfl,by kernel_rfl,by kernel_rfl,by kernel_rfl⟩,rfl,by kernel_rfl⟩
theorem i28:FnIs (xc 28) ac 28 n28:=⟨⟨Tryz.f28,Tryz.func28,by kernel_rfl,by kernel_rfl,by kernel_rfl,by kernel_rfl⟩,rfl,by kernel_rfl⟩
theorem i29:FnIs (xc 29) ac 29 n29:=⟨⟨Tryz.f29,Tryz.func29,by kernel_rfl,by kernel_rfl,by kernel_rfl,by kernel_rfl⟩,rfl,by kernel_rfl⟩
theorem i30:FnIs (xc 30) ac 30 n30:=⟨⟨Tryz.f30,Tryz.func30,by kernel_rfl,by kernel_rfl,by kernel_rfl,by kernel_rfl⟩,rfl,by kernel_rfl⟩
theorem i31:FnIs (xc 31) ac 31 n31:=⟨⟨Tryz.f31,Tryz.func31,by kernel_rfl,by kernel_rfl,by kernel_rfl,by kernel_rfl⟩,rfl,by kernel_rfl⟩
theorem i32:FnIs (xc 32) ac 32 n32:=⟨⟨Tryz.f32,Tryz.func32,by kernel_rfl,by kernel_rfl,by kernel_rfl,by kernel_rfl⟩,rfl,by kernel_rfl⟩
theorem i33:FnIs (xc 33) ac 33 n33:=⟨⟨Tryz.f33,Tryz.func33,by kernel_rfl,by kernel_rfl,by kernel_rfl,by kernel_rfl⟩,rfl,by kernel_rfl⟩
theorem i34:FnIs (xc 34) ac 34 n34:=⟨⟨Tryz.f34,Tryz.func34,by kernel_rfl,by kernel_rfl,by kernel_rfl,by kernel_rfl⟩,rfl,by kernel_rfl⟩
theorem i35:FnIs (xc 35) ac 35 n35:=⟨⟨Tryz.f35,Tryz.func35,by kernel_rfl,by kernel_rfl,by kernel_rfl,by kernel_rfl⟩,rfl,by kernel_rfl⟩
theorem i36:FnIs (xc 36) ac 36 n36:=⟨⟨Tryz.f36,Tryz.func36,by kernel_rfl,by kernel_rfl,by kernel_rfl,by kernel_rfl⟩,rfl,by kernel_rfl⟩
theorem i37:FnIs (xc 37) ac 37 n37:=⟨⟨Tryz.f37,Tryz.func37,by kernel_rfl,by kernel_rfl,by kernel_rfl,by kernel_rfl⟩,rfl,by kernel_rfl⟩
theorem i38:FnIs (xc 38) ac 38 n38:=⟨⟨Tryz.f38,Tryz.func38,by kernel_rfl,by kernel_rfl,by kernel_rfl,by kernel_rfl⟩,rfl,by kernel_rfl⟩
theorem i39:FnIs (xc 39) ac 39 n39:=⟨⟨Tryz.f39,Tryz.func39,by kernel_rfl,by kernel_rfl,by kernel_rfl,by kernel_rfl⟩,rfl,by kernel_rfl⟩
theorem i40:FnIs (xc 40) ac 40 n40:=⟨⟨Tryz.f40,Tryz.func40,by kernel_rfl,by kernel_rfl,by kernel_rfl,by kernel_rfl⟩,rfl,by kernel_rfl⟩
theorem i41:FnIs (xc 41) ac 41 n41:=⟨⟨Tryz.f41,Tryz.func41,by kernel_rfl,by kernel_rfl,by kernel_rfl,by kernel_rfl⟩,rfl,by kernel_rfl⟩
theorem i42:FnIs (xc 42) ac 42 n42:=⟨⟨Tryz.f42,Tryz.func42,by kernel_rfl,by kernel_rfl,by kernel_rfl,by kernel_rfl⟩,rfl,by kernel_rfl⟩
theorem i43:FnIs (xc 43) ac 43 n43:=⟨⟨Tryz.f43,Tryz.func43,by kernel_rfl,by kernel_rfl,by kernel_rfl,by kernel_rfl⟩,rfl,by kernel_rfl⟩
theorem i44:FnIs (xc 44) ac 44 n44:=⟨⟨Tryz.f44,Tryz.func44,by kernel_rfl,by kernel_rfl,by kernel_rfl,by kernel_rfl⟩,rfl,by kernel_rfl⟩
theorem i45:FnIs (xc 45) ac 45 n45:=⟨⟨Tryz.f45,Tryz.func45,by kernel_rfl,by kernel_rfl,by kernel_rfl,by kernel_rfl⟩,rfl,by kernel_rfl⟩
theorem i46:FnIs (xc 46) ac 46 n46:=⟨⟨Tryz.f46,Tryz.func46,by kernel_rfl,by kernel_rfl,by kernel_rfl,by kernel_rfl⟩,rfl,by kernel_rfl⟩
theorem i47:FnIs (xc 47) ac 47 n47:=⟨⟨Tryz.f47,Tryz.func47,by kernel_rfl,by kernel_rfl,by kernel_rfl,by kernel_rfl⟩,rfl,by kernel_rfl⟩
theorem i48:FnIs (xc 48) ac 48 n48:=⟨⟨Tryz.f48,Tryz.func48,by kernel_rfl,by kernel_rfl,by kernel_rfl,by kernel_rfl⟩,rfl,by kernel_rfl⟩
theorem i49:FnIs (xc 49) ac 49 n49:=⟨⟨Tryz.f49,Tryz.func49,by kernel_rfl,by kernel_rfl,by kernel_rfl,by kernel_rfl⟩,rfl,by kernel_rfl⟩
theorem i50:FnIs (xc 50) ac 50 n50:=⟨⟨Tryz.f50,Tryz.func50,by kernel_rfl,by kernel_rfl,by kernel_rfl,by kernel_rfl⟩,rfl,by kernel_rfl⟩
theorem i51:FnIs (xc 51) ac 51 n51:=⟨⟨Tryz.f51,Tryz.func51,by kernel_rfl,by kernel_rfl,by kernel_rfl,by kernel_rfl⟩,rfl,by kernel_rfl⟩
theorem i52:FnIs (xc 52) ac 52 n52:=⟨⟨Tryz.f52,Tryz.func52,by kernel_rfl,by kernel_rfl,by kernel_rfl,by kernel_rfl⟩,rfl,by kernel_rfl⟩
theorem i53:FnIs (xc 53) ac 53 n53:=⟨⟨Tryz.f53,Tryz.func53,by kernel_rfl,by kernel_rfl,by kernel_rfl,by kernel_rfl⟩,rfl,by kernel_rfl⟩
theorem i54:FnIs (xc 54) ac 54 n54:=⟨⟨Tryz.f54,Tryz.func54,by kernel_rfl,by kernel_rfl,by kernel_rfl,by kernel_rfl⟩,rfl,by kernel_rfl⟩
theorem i55:FnIs (xc 55) ac 55 n55:=⟨⟨Tryz.f55,Tryz.func55,by kernel_rfl,by kernel_rfl,by kernel_rfl,by kernel_rfl⟩,rfl,by kernel_rfl⟩
theorem i56:FnIs (xc 56) ac 56 n56:=⟨⟨Tryz.f56,Tryz.func56,by kernel_rfl,by kernel_rfl,by kernel_rfl,by kernel_rfl⟩,rfl,by kernel_rfl⟩
theorem i57:FnIs (xc 57) ac 57 n57:=⟨⟨Tryz.f57,Tryz.func57,by kernel_rfl,by kernel_rfl,by kernel_rfl,by kernel_rfl⟩,rfl,by kernel_rfl⟩
theorem i58:FnIs (xc 58) ac 58 n58:=⟨⟨Tryz.f58,Tryz.func58,by kernel_rfl,by kernel_rfl,by kernel_rfl,by kernel_rfl⟩,rfl,by kernel_rfl⟩
theorem i59:FnIs (xc 59) ac 59 n59:=⟨⟨Tryz.f59,Tryz.func59,by kernel_rfl,by kernel_rfl,by kernel_rfl,by kernel_rfl⟩,rfl,by kernel_rfl⟩
theorem i60:FnIs (xc 60) ac 60 n60:=⟨⟨Tryz.f60,Tryz.func60,by kernel_rfl,by kernel_rfl,by kernel_rfl,by kernel_rfl⟩,rfl,by kernel_rfl⟩
theorem i61:FnIs (xc 61) ac 61 n61:=⟨⟨Tryz.f61,Tryz.func61,by kernel_rfl,by kernel_rfl,by kernel_rfl,by kernel_rfl⟩,rfl,by kernel_rfl⟩
theorem i62:FnIs (xc 62) ac 62 n62:=⟨⟨Tryz.f62,Tryz.func62,by kernel_rfl,by kernel_rfl,by kernel_rfl,by kernel_rfl⟩,rfl,by kernel_rfl⟩
theorem i63:FnIs (xc 63) ac 63 n63:=⟨⟨Tryz.f63,Tryz.func63,by kernel_rfl,by kernel_rfl,by kernel_rfl,by kernel_rfl⟩,rfl,by kernel_rfl⟩
theorem i64:FnIs (xc 64) ac 64 n64:=⟨⟨Tryz.f64,Tryz.func64,by kernel_rfl,by kernel_rfl,by kernel_rfl,by kernel_rfl⟩,rfl,by kernel_rfl⟩
theorem i65:FnIs (xc 65) ac 65 n65:=⟨⟨Tryz.f65,Tryz.func65,by kernel_rfl,by kernel_rfl,by kernel_rfl,by kernel_rfl⟩,rfl,by kernel_rfl⟩
theorem i66:FnIs (xc 66) ac 66 n66:=⟨⟨Tryz.f66,Tryz.func66,by kernel_rfl,by kernel_rfl,by kernel_rfl,by kernel_rfl⟩,rfl,by kernel_rfl⟩
theorem i67:FnIs (xc 67) ac 67 n67:=⟨⟨Tryz.f67,Tryz.func67,by kernel_rfl,by kernel_rfl,by kernel_rfl,by kernel_rfl⟩,rfl,by kernel_rfl⟩
theorem i68:FnIs (xc 68) ac 68 n68:=⟨⟨Tryz.f68,Tryz.func68,by kernel_rfl,by kernel_rfl,by kernel_rfl,by kernel_rfl⟩,rfl,by kernel_rfl⟩
theorem i77:FnIs (xc 77) ac 77 n77:=⟨⟨Tryz.f77,Tryz.func77,by kernel_rfl,by kernel_rfl,by kernel_rfl,by kernel_rfl⟩,rfl,by kernel_rfl⟩
theorem i78:FnIs (xc 78) ac 78 n78:=⟨⟨Tryz.f78,Tryz.func78,by kernel_rfl,by kernel_rfl,by kernel_rfl,by kernel_rfl⟩,rfl,by kernel_rfl⟩
theorem i79:FnIs (xc 79) ac 79 n79:=⟨⟨Tryz.f79,Tryz.func79,by kernel_rfl,by kernel_rfl,by kernel_rfl,by kernel_rfl⟩,rfl,by kernel_rfl⟩
theorem i80:FnIs (xc 80) ac 80 n80:=⟨⟨Tryz.f80,Tryz.func80,by kernel_rfl,by kernel_rfl,by kernel_rfl,by kernel_rfl⟩,rfl,by kernel_rfl⟩
theorem i81:FnIs (xc 81) ac 81 n81:=⟨⟨Tryz.f81,Tryz.func81,by kernel_rfl,by kernel_rfl,by kernel_rfl,by kernel_rfl⟩,rfl,by kernel_rfl⟩
theorem i82:FnIs (xc 82) ac 82 n82:=⟨⟨Tryz.f82,Tryz.func82,by kernel_rfl,by kernel_rfl,by kernel_rfl,by kernel_rfl⟩,rfl,by kernel_rfl⟩
theorem i83:FnIs (xc 83) ac 83 n83:=⟨⟨Tryz.f83,Tryz.func83,by kernel_rfl,by kernel_rfl,by kernel_rfl,by kernel_rfl⟩,rfl,by kernel_rfl⟩
theorem i84:FnIs (xc 84) ac 84 n84:=⟨⟨Tryz.f84,Tryz.func84,by kernel_rfl,by kernel_rfl,by kernel_rfl,by kernel_rfl⟩,rfl,by kernel_rfl⟩
theorem i85:FnIs (xc 85) ac 85 n85:=⟨⟨Tryz.f85,Tryz.func85,by kernel_rfl,by kernel_rfl,by kernel_rfl,by kernel_rfl⟩,rfl,by kernel_rfl⟩
theorem i86:FnIs (xc 86) ac 86 n86:=⟨⟨Tryz.f86,Tryz.func86,by kernel_rfl,by kernel_rfl,by kernel_rfl,by kernel_rfl⟩,rfl,by kernel_rfl⟩
theorem i87:FnIs (xc 87) ac 87 n87:=⟨⟨Tryz.f87,Tryz.func87,by kernel_rfl,by kernel_rfl,by kernel_rfl,by kernel_rfl⟩,rfl,by kernel_rfl⟩
theorem i88:FnIs (xc 88) ac 88 n88:=⟨⟨Tryz.f88,Tryz.func88,by kernel_rfl,by kernel_rfl,by kernel_rfl,by kernel_rfl⟩,rfl,by kernel_rfl⟩
theorem i89:FnIs (xc 89) ac 89 n89:=⟨⟨Tryz.f89,Tryz.func89,by kernel_rfl,by kernel_rfl,by kernel_rfl,by kernel_rfl⟩,rfl,by kernel_rfl⟩
theorem i90:FnIs (xc 90) ac 90 n90:=⟨⟨Tryz.f90,Tryz.func90,by kernel_rfl,by kernel_rfl,by kernel_rfl,by kernel_rfl⟩,rfl,by kernel_rfl⟩
theorem i96:FnIs (xc 96) ac 96 n96:=⟨⟨Tryz.f96,Tryz.func96,by kernel_rfl,by kernel_rfl,by kernel_rfl,by kernel_rfl⟩,rfl,by kernel_rfl⟩
theorem i97:FnIs (xc 97) ac 97 n97:=⟨⟨Tryz.f97,Tryz.func97,by kernel_rfl,by kernel_rfl,by kernel_rfl,by kernel_rfl⟩,rfl,by kernel_rfl⟩
theorem i98:FnIs (xc 98) ac 98 n98:=⟨⟨Tryz.f98,Tryz.func98,by kernel_rfl,by kernel_rfl,by kernel_rfl,by kernel_rfl⟩,rfl,by kernel_rfl⟩
theorem i99:FnIs (xc 99) ac 99 n99:=⟨⟨Tryz.f99,Tryz.func99,by kernel_rfl,by kernel_rfl,by kernel_rfl,by kernel_rfl⟩,rfl,by kernel_rfl⟩
theorem i100:FnIs (xc 100) ac 100 n100:=⟨⟨Tryz.f100,Tryz.func100,by kernel_rfl,by kernel_rfl,by kernel_rfl,by kernel_rfl⟩,rfl,by kernel_rfl⟩
theorem i108:FnIs (xc 108) ac 108 n108:=⟨⟨Tryz.f108,Tryz.func108,by kernel_rfl,by kernel_rfl,by kernel_rfl,by kernel_rfl⟩,rfl,by kernel_rfl⟩
theorem i109:FnIs (xc 109) ac 109 n109:=⟨⟨Tryz.f109,Tryz.func109,by kernel_rfl,by kernel_rfl,by kernel_rfl,by kernel_rfl⟩,rfl,by kernel_rfl⟩
theorem i110:FnIs (xc 110) ac 110 n110:=⟨⟨Tryz.f110,Tryz.func110,by kernel_rfl,by kernel_rfl,by kernel_rfl,by kernel_rfl⟩,rfl,by kernel_rfl⟩
theorem i112:FnIs (xc 112) ac 112 n112:=⟨⟨Tryz.f112,Tryz.func112,by kernel_rfl,by kernel_rfl,by kernel_rfl,by kernel_rfl⟩,rfl,by kernel_rfl⟩
theorem i113:FnIs (xc 113) ac 113 n113:=⟨⟨Tryz.f113,Tryz.func113,by kernel_rfl,by kernel_rfl,by kernel_rfl,by kernel_rfl⟩,rfl,by kernel_rfl⟩
theorem i114:FnIs (xc 114) ac 114 n114:=⟨⟨Tryz.f114,Tryz.func114,by kernel_rfl,by kernel_rfl,by kernel_rfl,by kernel_rfl⟩,rfl,by kernel_rfl⟩
end Go.Am

/-
 THE FUNCTIONS OF THE PROGRAM ARE WHAT IS TOLD OF THEM,BY PROGRAM,part 1.
-/
set_option maxRecDepth 100000
namespace Go.Am
open Sx Go.Proofs
theorem e7:@f7=fun R HT A ls h K=>aj A (xc 7) ac drN n7 ls h K:=by kernel_rfl
theorem e17:@f17=fun R HT A ls h K=>aj A (xc 17) ac drN n17 ls h K:=by kernel_rfl
theorem e19:@f19=fun R HT A ls h K=>aj A (xc 19) ac drN n19 ls h K:=by kernel_rfl
theorem e30:@f30=fun R HT A ls h K=>aj A (xc 30) ac drN n30 ls h K:=by kernel_rfl
theorem e31:@f31=fun R HT A ls h K=>aj A (xc 31) ac drN n31 ls h K:=by kernel_rfl
theorem e33:@f33=fun R HT A ls h K=>aj A (xc 33) ac drN n33 ls h K:=by kernel_rfl
theorem e37:@f37=fun R HT A ls h K=>aj A (xc 37) ac drN n37 ls h K:=by kernel_rfl
theorem e39:@f39=fun R HT A ls h K=>aj A (xc 39) ac drN n39 ls h K:=by kernel_rfl
theorem e42:@f42=fun R HT A ls h K=>aj A (xc 42) ac drN n42 ls h K:=by kernel_rfl
theorem e48:@f48=fun R HT A ls h K=>aj A (xc 48) ac drN n48 ls h K:=by kernel_rfl
theorem e59:@f59=fun R HT A ls h K=>aj A (xc 59) ac drN n59 ls h K:=by kernel_rfl
theorem e82:@f82=fun R HT A ls h K=>aj A (xc 82) ac drN n82 ls h K:=by kernel_rfl
theorem e83:@f83=fun R HT A ls h K=>aj A (xc 83) ac drN n83 ls h K:=by kernel_rfl
theorem e84:@f84=fun R HT A ls h K=>aj A (xc 84) ac drN n84 ls h K:=by kernel_rfl
end Go.Am

/-
 THE FUNCTIONS OF THE PROGRAM ARE WHAT IS TOLD OF THEM,BY PROGRAM,part 2.
-/
set_option maxRecDepth 100000
namespace Go.Am
open Sx Go.Proofs
theorem e4:@f4=fun R HT A ls h K=>aj A (xc 4) ac drN n4 ls h K:=by kernel_rfl
theorem e14:@f14=fun R HT A ls h K=>aj A (xc 14) ac drN n14 ls h K:=by kernel_rfl
theorem e18:@f18=fun R HT A ls h K=>aj A (xc 18) ac drN n18 ls h K:=by kernel_rfl
theorem e22:@f22=fun R HT A ls h K=>aj A (xc 22) ac drN n22 ls h K:=by kernel_rfl
theorem e34:@f34=fun R HT A ls h K=>aj A (xc 34) ac drN n34 ls h K:=by kernel_rfl
theorem e38:@f38=fun R HT A ls h K=>aj A (xc 38) ac drN n38 ls h K:=by kernel_rfl
theorem e41:@f41=fun R HT A ls h K=>aj A (xc 41) ac drN n41 ls h K:=by kernel_rfl
theorem e46:@f46=fun R HT A ls h K=>aj A (xc 46) ac drN n46 ls h K:=by kernel_rfl
theorem e47:@f47=fun R HT A ls h K=>aj A (xc 47) ac drN n47 ls h K:=by kernel_rfl
theorem e49:@f49=fun R HT A ls h K=>aj A (xc 49) ac drN n49 ls h K:=by kernel_rfl
theorem e50:@f50=fun R HT A ls h K=>aj A (xc 50) ac drN n50 ls h K:=by kernel_rfl
theorem e56:@f56=fun R HT A ls h K=>aj A (xc 56) ac drN n56 ls h K:=by kernel_rfl
theorem e66:@f66=fun R HT A ls h K=>aj A (xc 66) ac drN n66 ls h K:=by kernel_rfl
theorem e68:@f68=fun R HT A ls h K=>aj A (xc 68) ac drN n68 ls h K:=by kernel_rfl
theorem e85:@f85=fun R HT A ls h K=>aj A (xc 85) ac drN n85 ls h K:=by kernel_rfl
theorem e110:@f110=fun R HT A ls h K=>aj A (xc 110) ac drN n110 ls h K:=by kernel_rfl
end Go.Am

/-
 THE FUNCTIONS OF THE PROGRAM ARE WHAT IS TOLD OF THEM,BY PROGRAM,part 3.
-/
set_option maxRecDepth 100000
namespace Go.Am
open Sx Go.Proofs
theorem e5:@f5=fun R HT A ls h K=>aj A (xc 5) ac drN n5 ls h K:=by kernel_rfl
theorem e8:@f8=fun R HT A ls h K=>aj A (xc 8) ac drN n8 ls h K:=by kernel_rfl
theorem e12:@f12=fun R HT A ls h K=>aj A (xc 12) ac drN n12 ls h K:=by kernel_rfl
theorem e15:@f15=fun R HT A ls h K=>aj A (xc 15) ac drN n15 ls h K:=by kernel_rfl
theorem e25:@f25=fun R HT A ls h K=>aj A (xc 25) ac drN n25 ls h K:=by kernel_rfl
theorem e29:@f29=fun R HT A ls h K=>aj A (xc 29) ac drN n29 ls h K:=by kernel_rfl
theorem e35:@f35=fun R HT A ls h K=>aj A (xc 35) ac drN n35 ls h K:=by kernel_rfl
theorem e40:@f40=fun R HT A ls h K=>aj A (xc 40) ac drN n40 ls h K:=by kernel_rfl
theorem e43:@f43=fun R HT A ls h K=>aj A (xc 43) ac drN n43 ls h K:=by kernel_rfl
theorem e53:@f53=fun R HT A ls h K=>aj A (xc 53) ac drN n53 ls h K:=by kernel_rfl
theorem e57:@f57=fun R HT A ls h K=>aj A (xc 57) ac drN n57 ls h K:=by kernel_rfl
theorem e63:@f63=fun R HT A ls h K=>aj A (xc 63) ac drN n63 ls h K:=by kernel_rfl
theorem e64:@f64=fun R HT A ls h K=>aj A (xc 64) ac drN n64 ls h K:=by kernel_rfl
theorem e79:@f79=fun R HT A ls h K=>aj A (xc 79) ac drN n79 ls h K:=by kernel_rfl
theorem e80:@f80=fun R HT A ls h K=>aj A (xc 80) ac drN n80 ls h K:=by kernel_rfl
theorem e81:@f81=fun R HT A ls h K=>aj A (xc 81) ac drN n81 ls h K:=by kernel_rfl
theorem e96:@f96=fun R HT A ls h K=>aj A (xc 96) ac drN n96 ls h K:=by kernel_rfl
theorem e100:@f100=fun R HT A ls h K=>aj A (xc 100) ac drN n100 ls h K:=by kernel_rfl
end Go.Am

/-
 THE FUNCTIONS OF THE PROGRAM ARE WHAT IS TOLD OF THEM,BY PROGRAM,part 4.
-/
set_option maxRecDepth 100000
namespace Go.Am
open Sx Go.Proofs
theorem e9:@f9=fun R HT A ls h K=>aj A (xc 9) ac drN n9 ls h K:=by kernel_rfl
theorem e13:@f13=fun R HT A ls h K=>aj A (xc 13) ac drN n13 ls h K:=by kernel_rfl
theorem e20:@f20=fun R HT A ls h K=>aj A (xc 20) ac drN n20 ls h K:=by kernel_rfl
theorem e24:@f24=fun R HT A ls h K=>aj A (xc 24) ac drN n24 ls h K:=by kernel_rfl
theorem e27:@f27=fun R HT A ls h K=>aj A (xc 27) ac drN n27 ls h K:=by kernel_rfl
theorem e28:@f28=fun R HT A ls h K=>aj A (xc 28) ac drN n28 ls h K:=by kernel_rfl
theorem e45:@f45=fun R HT A ls h K=>aj A (xc 45) ac drN n45 ls h K:=by kernel_rfl
theorem e52:@f52=fun R HT A ls h K=>aj A (xc 52) ac drN n52 ls h K:=by kernel_rfl
theorem e54:@f54=fun R HT A ls h K=>aj A (xc 54) ac drN n54 ls h K:=by kernel_rfl
theorem e60:@f60=fun R HT A ls h K=>aj A (xc 60) ac drN n60 ls h K:=by kernel_rfl
theorem e77:@f77=fun R HT A ls h K=>aj A (xc 77) ac drN n77 ls h K:=by kernel_rfl
theorem e86:@f86=fun R HT A ls h K=>aj A (xc 86) ac drN n86 ls h K:=by kernel_rfl
theorem e98:@f98=fun R HT A ls h K=>aj A (xc 98) ac drN n98 ls h K:=by kernel_rfl
theorem e108:@f108=fun R HT A ls h K=>aj A (xc 108) ac drN n108 ls h K:=by kernel_rfl
theorem e109:@f109=fun R HT A ls h K=>aj A (xc 109) ac drN n109 ls h K:=by kernel_rfl
theorem e112:@f112=fun R HT A ls h K=>aj A (xc 112) ac drN n112 ls h K:=by kernel_rfl
theorem e113:@f113=fun R HT A ls h K=>aj A (xc 113) ac drN n113 ls h K:=by kernel_rfl
end Go.Am

/-
 THE FUNCTIONS OF THE PROGRAM ARE WHAT IS TOLD OF THEM,BY PROGRAM,part 5.
-/
set_option maxRecDepth 100000
namespace Go.Am
open Sx Go.Proofs
theorem e6:@f6=fun R HT A ls h K=>aj A (xc 6) ac drN n6 ls h K:=by kernel_rfl
theorem e16:@f16=fun R HT A ls h K=>aj A (xc 16) ac drN n16 ls h K:=by kernel_rfl
theorem e26:@f26=fun R HT A ls h K=>aj A (xc 26) ac drN n26 ls h K:=by kernel_rfl
theorem e32:@f32=fun R HT A ls h K=>aj A (xc 32) ac drN n32 ls h K:=by kernel_rfl
theorem e36:@f36=fun R HT A ls h K=>aj A (xc 36) ac drN n36 ls h K:=by kernel_rfl
theorem e44:@f44=fun R HT A ls h K=>aj A (xc 44) ac drN n44 ls h K:=by kernel_rfl
theorem e51:@f51=fun R HT A ls h K=>aj A (xc 51) ac drN n51 ls h K:=by kernel_rfl
theorem e55:@f55=fun R HT A ls h K=>aj A (xc 55) ac drN n55 ls h K:=by kernel_rfl
theorem e78:@f78=fun R HT A ls h K=>aj A (xc 78) ac drN n78 ls h K:=by kernel_rfl
theorem e87:@f87=fun R HT A ls h K=>aj A (xc 87) ac drN n87 ls h K:=by kernel_rfl
theorem e89:@f89=fun R HT A ls h K=>aj A (xc 89) ac drN n89 ls h K:=by kernel_rfl
theorem e97:@f97=fun R HT A ls h K=>aj A (xc 97) ac drN n97 ls h K:=by kernel_rfl
theorem e99:@f99=fun R HT A ls h K=>aj A (xc 99) ac drN n99 ls h K:=by kernel_rfl
end Go.Am

/-
 THE FUNCTIONS OF THE PROGRAM ARE WHAT IS TOLD OF THEM,BY PROGRAM,part 6.
-/
set_option maxRecDepth 100000
namespace Go.Am
open Sx Go.Proofs
theorem e10:@f10=fun R HT A ls h K=>aj A (xc 10) ac drN n10 ls h K:=by kernel_rfl
theorem e21:@f21=fun R HT A ls h K=>aj A (xc 21) ac drN n21 ls h K:=by kernel_rfl
theorem e23:@f23=fun R HT A ls h K=>aj A (xc 23) ac drN n23 ls h K:=by kernel_rfl
theorem e58:@f58=fun R HT A ls h K=>aj A (xc 58) ac drN n58 ls h K:=by kernel_rfl
theorem e61:@f61=fun R HT A ls h K=>aj A (xc 61) ac drN n61 ls h K:=by kernel_rfl
theorem e62:@f62=fun R HT A ls h K=>aj A (xc 62) ac drN n62 ls h K:=by kernel_rfl
theorem e65:@f65=fun R HT A ls h K=>aj A (xc 65) ac drN n65 ls h K:=by kernel_rfl
theorem e67:@f67=fun R HT A ls h K=>aj A (xc 67) ac drN n67 ls h K:=by kernel_rfl
theorem e88:@f88=fun R HT A ls h K=>aj A (xc 88) ac drN n88 ls h K:=by kernel_rfl
theorem e90:@f90=fun R HT A ls h K=>aj A (xc 90) ac drN n90 ls h K:=by kernel_rfl
theorem e114:@f114=fun R HT A ls h K=>aj A (xc 114) ac drN n114 ls h K:=by kernel_rfl
end Go.Am

/-
 THE FUNCTIONS OF THE PROGRAM ARE WHAT IS TOLD OF THEM,BY PROGRAM.
-/
set_option maxRecDepth 100000
namespace Go.Am
end Go.Am

/-
 WHAT THE PACKAGE-LEVEL VARIABLES HOLD,read off the row's list;a call as the row sees it.
-/
namespace Go.Am
namespace Sx
noncomputable def unL(P:Program)(un:TypeId→DataW Unit→Option (List Value)):List (Nat×TypeId)→List (DataW Unit)→Nat→Option (List Value)
 | [],[],_=>some []
 |(o,t) :: l,d :: ds,off=>match Nat.beq o off,un t d with
  |true,some v=>match Nat.beq v.length (P.cellsOf t),unL P un l ds (off+v.length)with
   |true,some vs=>some (v++vs)
   |_,_=>none
  |_,_=>none
 |_,_,_=>none
noncomputable def unD(P:Program):Nat→TypeId→DataW Unit→Option (List Value)
 |0,_,_=>none
 |fu+1,t,d=>match P.underlying t,d with
  |some .bool,.lit (.bool b)=>some [.bool b]
  |some (.int k),.lit (.int _ n)=>some [.int k n]
  |some (.struct fs),.agg ds=>match unL P (unD P fu) (fs.toList.map fun f=>(f.offset,f.type)) ds 0 with
   |some vs=>if vs.length=P.cellsOf t then some vs else none
   |none=>none
  |some (.array n e),.agg ds=>match unL P (unD P fu) ((List.range n).map fun i=>(i*P.cellsOf e,e)) ds 0 with
   |some vs=>if vs.length=P.cellsOf t then some vs else none
   |none=>none
  |_,_=>none
section
variable {P:Program} {w:World} {base:Nat} {spare:Nat→Bool} {held:Bool} {enc:TypeId×Value→Unit}
theorem seg_ok{un:TypeId→DataW Unit→Option (List Value)}{fuel:Nat}(hun:∀t d vs,un t d=some vs→∀cs p,DataW.trod enc P w base spare held fuel t cs=some (d,p)→cs=vs){α:Type}(o:α→Nat)(ty:α→TypeId)(cs:List Value) :
  ∀(l:List α) (xs:List (DataW Unit×List MemPlace)) (off:Nat) (vs:List Value),l.mapM (fun a=>DataW.trod enc P w base spare held fuel (ty a) ((cs.drop (o a)).take (P.cellsOf (ty a))))=some xs→
   unL P un (l.map fun a=>(o a,ty a)) (xs.map (·.1)) off=some vs→(cs.drop off).take vs.length=vs
 | [],xs,off,vs,h1,h2=>by
  simp only[List.mapM_nil,Option.pure_def,Option.some.injEq]at h1
  subst h1
  simp only[List.map_nil,unL,Option.some.injEq]at h2
  subst h2
  simp
 |a :: l,xs,off,vs,h1,h2=>by
  rw[List.mapM_cons]at h1
  obtain⟨x,h3,h1⟩:=Option.bind_eq_some_iff.1 h1
  obtain⟨ys,h4,h1⟩:=Option.bind_eq_some_iff.1 h1
  cases h1
  simp only[List.map_cons,unL]at h2
  split at h2
  ·rename_i v e1 e2
   split at h2
   ·rename_i ws e3 e4
    cases h2
    have e1:=Nat.eq_of_beq_eq_true e1
    have e3:=Nat.eq_of_beq_eq_true e3
    have hv:=hun _ _ _ e2 _ _ h3
    have ih:=seg_ok hun o ty cs l ys _ _ h4 e4
    rw[e1,←e3]at hv
    rw[List.length_append,List.take_add,hv,List.drop_drop]
    rw[ih]
   ·cases h2
  ·cases h2
theorem unD_ok:∀(fu:Nat) (t:TypeId) (d:DataW Unit) (vs:List Value),unD P fu t d=some vs→∀(fuel:Nat) (cs:List Value) (p:List MemPlace),DataW.trod enc P w base spare held fuel t cs=some (d,p)→cs=vs
 |0,_,_,_,h=>by cases h
 |fu+1,t,d,vs,h=>by
  intro fuel cs p hp
  cases fuel with
  |zero=>simp[DataW.trod]at hp
  |succ fuel=>
   have hun:∀t d vs,unD P fu t d=some vs→∀cs p,DataW.trod enc P w base spare held fuel t cs=some (d,p)→cs=vs:=fun t d vs h cs p=>unD_ok fu t d vs h fuel cs p
   simp only[unD]at h
   split at h
   ·rename_i b e
    cases h
    simp only[DataW.trod,e]at hp
    split at hp<;>simp_all
   ·rename_i k k' n e
    cases h
    simp only[DataW.trod,e]at hp
    split at hp<;>first|cases hp|skip
    all_goals first
     |(split at hp<;>first|(rename_i hh;simp at hp;obtain⟨⟨rfl,rfl⟩,_⟩:=hp;rw[hh.1];done)|(cases hp;done))
     |simp_all
   ·rename_i fs ds e
    split at h
    ·rename_i ws e2
     split at h
     ·rename_i e3
      cases h
      simp only[DataW.trod,e]at hp
      split at hp
      ·rename_i e4
       obtain⟨xs,h5,h6⟩:=Option.map_eq_some_iff.1 hp
       simp only[Prod.mk.injEq,DataW.agg.injEq]at h6
       rw[←h6.1]at e2
       have:=seg_ok hun (fun f:Field=>f.offset) (fun f:Field=>f.type) cs _ xs 0 _ h5 e2
       rw[List.drop_zero,List.take_of_length_le (by omega)]at this
       exact this
      ·cases hp
     ·cases h
    ·cases h
   ·rename_i n el ds e
    split at h
    ·rename_i ws e2
     split at h
     ·rename_i e3
      cases h
      simp only[DataW.trod,e]at hp
      split at hp
      ·rename_i e4
       obtain⟨xs,h5,h6⟩:=Option.map_eq_some_iff.1 hp
       simp only[Prod.mk.injEq,DataW.agg.injEq]at h6
       rw[←h6.1]at e2
       have:=seg_ok hun (fun i=>i*P.cellsOf el) (fun _=>el) cs _ xs 0 _ h5 e2
       rw[List.drop_zero,List.take_of_length_le (by omega)]at this
       exact this
      ·cases hp
     ·cases h
    ·cases h
   ·cases h
end
section
variable [Val]
theorem qc [Glo]{W:World}{g:Nat}{vs:List Value}(h0:Nat.blt g gB=true)(h1:vs.all aI=true)(h2:vs.all flat=true)(h:∃c e fr,W.heap[g]? = some (.cells c e fr)∧c.toList=vs) :
  gBlk g<W.heap.size∧vs.all aI=true∧∃c e fr,W.heap[gBlk g]? = some (.cells c e fr)∧bB (fun _=>none) vs c (gOff g):=by
 obtain⟨c,e,fr,h3,h4⟩:=h
 rw[gBlk_lt h0,gOff_lt h0]
 refine⟨(Array.getElem?_eq_some_iff.1 h3).1,h1,c,e,fr,h3,.of_list ?_⟩
 rw[h4]
 exact⟨rfl,fun i x y hx hy=>by rw[hx]at hy;cases hy;exact .of_flat (List.all_eq_true.1 h2 x (List.mem_of_getElem? hx))⟩
end
end Sx
end Go.Am

/-
 FROM A CALL TO THE ROW: arguments without addresses.
-/
namespace Go.Am
namespace Sx
open Go.ChangeShapes Go.WideShapes Go.ChangeAt Go.WideMaps Go.WideElems Go.RowKit
theorem kept_of{W W':World}(h1:W'.os=W.os)(h2:W'.output=W.output)(h3:∀b,b<W.heap.size→W'.heap[b]? = W.heap[b]?)(may:MemPlace→Prop):W.keptBut W' may:=by
 refine⟨h1,h2,fun i hi=>?_⟩
 rw[h3 i hi]
 exact(World.keptBut_refl W may).2.2 i hi
theorem mS{P:Program}{w:World}{laid:List (String×DataW Unit)}{ps:List MemPlace}(h:DataW.LaidVars P w laid ps):∀n d,(n,d)∈laid→∀g t fu vs,P.globalNamed n=some g→(P.globals[g]?).map (·.type)=some t→unD P fu t d=some vs→
  ∃c e fr,w.heap[g]? = some (.cells c e fr)∧c.toList=vs:=by
 induction laid generalizing ps with
 |nil=>intro n d h;cases h
 |cons x l ih=>
  obtain⟨n0,d0⟩:=x
  obtain⟨g0,t0,cs,fuel,p,q,a1,a2,a3,a4,a5,a6⟩:=h
  intro n d hm g t fu vs b1 b2 b3
  rcases List.mem_cons.1 hm with e|hm
  ·cases e
   rw[a1]at b1;cases b1
   rw[a2]at b2;cases b2
   have hc:=unD_ok fu _ _ vs b3 _ _ _ a4
   unfold World.var? at a3
   rw[a1]at a3
   simp only[Option.bind_some]at a3
   split at a3
   ·rename_i c ty fr e
    cases a3
    exact⟨_,_,_,e,hc⟩
   ·cases a3
  ·exact ih a5 n d hm g t fu vs b1 b2 b3
section
variable [Val] [Kno]
theorem ans_yes{t:Bool}(h:ans t=yes):t=true:=by cases t;cases h;rfl
end
end Sx
end Go.Am

/-
 THE ALGEBRA OF PROPOSITIONS: what must hold,that code does as it is told to do.
-/
namespace Go.Am
namespace Sx
section
variable [Val] [Kno]
def condP(b:Bool)(x y:Prop):Prop:=(b=true→x)∧(b=false→y)
def ariP(op:BinOp)(k:IntKind)(a b:Int)(K:Int→Prop):Prop:=
 match op with
 | .add=>K (k.wrap (a+b))
 | .sub=>K (k.wrap (a - b))
 | .mul=>K (k.wrap (a*b))
 | .quo=>b≠0∧K (k.wrap (a.tdiv b))
 | .rem=>b≠0∧K (a.tmod b)
 | .and=>(b=1∧K (a%2))∨(b≠1∧∃n,nF .and k a b n∧K n)
 |op=>∃n,nF op k a b n∧K n
def cmpP(op:BinOp)(a b:Int)(K:Bool→Prop):Prop:=
 match op with
 | .eql=>K (a==b)
 | .neq=>K (a != b)
 | .lss=>K (decide (a<b))
 | .leq=>K (decide (a≤b))
 | .gtr=>K (decide (a > b))
 | .geq=>K (decide (a ≥ b))
 |_=>False
def optP{α:Type}(o:Option α)(K:α→Prop):Prop:=∃x,o=some x∧K x
def unIP(ls:List Lf)(K:Int→List Lf→Prop):Prop:=match ls with | .i n :: r=>K n r|_=>False
def unBP(ls:List Lf)(K:Bool→List Lf→Prop):Prop:=match ls with | .b n :: r=>K n r|_=>False
def unVP(ls:List Lf)(K:Value→List Lf→Prop):Prop:=match ls with | .v n :: r=>K n r|_=>False
def un0P(ls:List Lf)(K:Prop):Prop:=match ls with | []=>K|_=>False
def ucIP(k:IntKind)(ls:List Value)(K:Int→List Value→Prop):Prop:=match ls with | .int k' n :: r=>k=k'∧K n r|_=>False
def ucBP(ls:List Value)(K:Bool→List Value→Prop):Prop:=match ls with | .bool n :: r=>K n r|_=>False
def ucVP(ls:List Value)(K:Value→List Value→Prop):Prop:=match ls with|n :: r=>K n r|_=>False
def uc0P(ls:List Value)(K:Prop):Prop:=match ls with | []=>K|_=>False
noncomputable def getL(h:List HObj):bK:=fun i=>h[i]?
def peekP(f:Pk)(h:List HObj)(K:List Value→Prop):Prop:=∃cs,f.run (getL h)=some cs∧K cs
def heapP(f:Hp)(h:List HObj)(K:List Value→List HObj→Prop):Prop:=∃acts cs,f.run (getL h) h.length=some (acts,cs)∧K cs (eS h acts)
def callP(C:Cfg)(Sg:FuncId→Option Sig)(g:FuncId)(ls:List Lf)(h:List HObj)(K:List Lf→List HObj→Prop):Prop:=∃rs h',au C Sg g ls h rs h'∧K rs h'
def callvP(C:Cfg)(v:Value)(args:List Value)(hs:List SK)(h:List HObj)(K:List Lf→List HObj→Prop):Prop:=∃rs h',tM C v args hs h rs h'∧K rs h'
noncomputable def itP(F:(List Lf→List HObj→Prop)→List Lf→List HObj→Prop)(n:Nat):List Lf→List HObj→Prop:=
 match n with
 |0=>fun _ _=>False
 |n+1=>F (itP F n)
def loopP(F:(List Lf→List HObj→Prop)→List Lf→List HObj→Prop)(ls:List Lf)(h:List HObj):Prop:=∃n,itP F n ls h
def rfunP(C:Cfg)(T:Nat→Site)(κ:Nat)(v:Value)(vals:List Value)(h:List HObj)(K:Option Code→List HObj→Prop):Prop:=
 ∃g first cap r H1 lp,v = .func (.func g) first cap∧
  gc C g (first.toList++[.func (.yield h.length) #[] #[]]++cap.toList) (h++[.loop (lpOf (T κ) κ vals)]) r H1∧
  dh H1 h.length=some lp∧lp.state≠.busy∧K lp.pending (H1.set h.length (.loop { lp with state:=.exhausted }))
def pendP(pd:Option Code)(kn kr:Prop)(ks:List (Nat×Prop)):Prop:=
 match pd with
 |none=>kn
 |some .ret=>kr
 |some (.exit id)=>∃x,(id,x)∈ks∧x
 |_=>False
def lp1P(l:Nat)(h:List HObj)(K:List HObj→Prop):Prop:=∃lp,dh h l=some lp∧lp.state = .ready∧K (h.set l (.loop { lp with state:=.busy }))
def lp2P(l:Nat)(j:Option Code)(h:List HObj)(K:List HObj→Prop):Prop:=∃lp,dh h l=some lp∧K (h.set l (.loop { lp with state:=if j.isNone then .ready else .done,pending:=j }))
noncomputable def PA(C:Cfg)(Sg:FuncId→Option Sig)(T:Nat→Site):Alg Prop (List HObj) where
 fail:=False
 cond:=condP
 ari:=ariP
 shf:=fun op k a k' b K=>∃n,ShRun op k a k' b n∧K n
 cmp:=cmpP
 eqs:=fun l K=>K (bZ l)
 conv:=fun k a K=>K (k.wrap a)
 sel:=fun t a b K=>K (if t then a else b)
 opt:=optP
 chk:=fun v K=>bj v=true∧K
 unI:=unIP
 unB:=unBP
 unV:=unVP
 un0:=un0P
 ucI:=ucIP
 ucB:=ucBP
 ucV:=ucVP
 uc0:=uc0P
 peek:=peekP
 heap:=heapP
 new:=fun o h K=>K h.length (h++[o])
 call:=callP C Sg
 callv:=callvP C
 join:=fun b m=>m b
 loop:=loopP
 rfun:=rfunP C T
 pend:=pendP
 lp1:=lp1P
 lp2:=lp2P
theorem ez(C:Cfg)(Sg:FuncId→Option Sig)(T:Nat→Site):AlgOk (PA C Sg T) C Sg T id id where
 fail:=fun h=>h
 cond:=by
  intro b x y h
  cases b
  ·exact .inr ⟨rfl,h.2 rfl⟩
  ·exact .inl ⟨rfl,h.1 rfl⟩
 ari:=by
  intro op k a b K h
  have h:ariP op k a b K:=h
  cases op<;>simp only[ariP]at h
  ·exact⟨_,fun P t w=>by simp[binOp,Op.intArith],h⟩
  ·exact⟨_,fun P t w=>by simp[binOp,Op.intArith],h⟩
  ·exact⟨_,fun P t w=>by simp[binOp,Op.intArith],h⟩
  ·obtain⟨hb,h⟩:=h
   exact⟨_,fun P t w=>by simp[binOp,Op.intDiv,hb],h⟩
  ·obtain⟨hb,h⟩:=h
   exact⟨_,fun P t w=>by simp[binOp,Op.intDiv,hb],h⟩
  ·rcases h with⟨rfl,h'⟩|⟨_,n,h1,h2⟩
   ·exact⟨_,lQ rfl,h'⟩
   ·exact⟨n,h1,h2⟩
  all_goals exact h
 shf:=fun op k a k' b K h=>h
 cmp:=by
  intro op a b K h
  have h:cmpP op a b K:=h
  cases op<;>simp only[cmpP]at h<;>exact⟨_,rfl,h⟩
 eqs:=fun l K h=>h
 conv:=fun k a K h=>h
 sel:=fun t a b K h=>h
 opt:=fun o K h=>h
 chk:=fun v K h=>h
 unI:=by
  intro ls K h
  match ls,h with
  | .i n :: r,h=>exact⟨n,r,rfl,h⟩
 unB:=by
  intro ls K h
  match ls,h with
  | .b n :: r,h=>exact⟨n,r,rfl,h⟩
 unV:=by
  intro ls K h
  match ls,h with
  | .v n :: r,h=>exact⟨n,r,rfl,h⟩
 un0:=by
  intro ls K h
  match ls,h with
  | [],h=>exact⟨rfl,h⟩
 ucI:=by
  intro k ls K h
  match ls,h with
  | .int k' n :: r,h=>
   obtain⟨rfl,h⟩ : k=k'∧K n r:=h
   exact⟨n,r,rfl,h⟩
 ucB:=by
  intro ls K h
  match ls,h with
  | .bool n :: r,h=>exact⟨n,r,rfl,h⟩
 ucV:=by
  intro ls K h
  match ls,h with
  |n :: r,h=>exact⟨n,r,rfl,h⟩
 uc0:=by
  intro ls K h
  match ls,h with
  | [],h=>exact⟨rfl,h⟩
 peek:=fun f h K hk=>hk
 heap:=by
  intro f h K hk
  obtain⟨acts,cs,h1,h2⟩:=hk
  exact⟨acts,cs,_,h1,rfl,h2⟩
 new:=fun o h K hk=>⟨_,rfl,hk⟩
 call:=fun g ls h K hk=>hk
 callv:=fun v args hs h K hk=>hk
 join:=fun b m h=>h
 loop:=by
  intro F ls h hk
  obtain⟨n,hk⟩:=hk
  exact⟨itP F,fun ls h=>(id:False→False),fun n ls h=>rfl,n,hk⟩
 rfun:=by
  intro κ v vals h K hk
  obtain⟨g,first,cap,r,H1,lp,h1,h2,h3,h4,h5⟩:=hk
  exact⟨g,first,cap,r,H1,lp,_,h1,h2,h3,h4,rfl,h5⟩
 pend:=by
  intro pd kn kr ks h
  have h:pendP pd kn kr ks:=h
  unfold pendP at h
  split at h
  ·exact .inl ⟨rfl,h⟩
  ·exact .inr (.inl ⟨rfl,h⟩)
  ·obtain⟨x,h1,h2⟩:=h
   exact .inr (.inr ⟨_,x,rfl,h1,h2⟩)
  ·exact h.elim
 lp1:=by
  intro l h K hk
  obtain⟨lp,h1,h2,h3⟩:=hk
  exact⟨lp,_,h1,h2,rfl,h3⟩
 lp2:=by
  intro l j h K hk
  obtain⟨lp,h1,h2⟩:=hk
  exact⟨lp,_,h1,rfl,h2⟩
theorem SL.plain_scalar{l:SL}{k:LK}(h:l.is k=true)(hk:k.plain=true):scalar l.val=true:=by
 cases l<;>cases k<;>first|(cases hk;done)|(cases h;done)|rfl
theorem je:∀ {cs:List SL} {ks:List LK},aE cs ks=true→ks.all LK.plain=true→(cs.map SL.val).all scalar=true
 | [],[],_,_=>rfl
 |c :: cs,k :: ks,h,hk=>by
  simp only[aE,Bool.and_eq_true]at h
  simp only[List.all_cons,Bool.and_eq_true]at hk
  simp only[List.map_cons,List.all_cons,Bool.and_eq_true]
  exact⟨SL.plain_scalar h.1 hk.1,je h.2 hk.2⟩
 | [],_ :: _,h,_=>by cases h
 |_ :: _,[],h,_=>by cases h
theorem S0.plain_flat1{x:S0}{k:SK}(h:x.is k=true)(hk:k.plain=true):dW x.val=true:=by
 cases x with
 |leaf l=>
  cases k with
  |leaf k=>
   have:=SL.plain_scalar h hk
   show dW l.val=true
   cases hv:l.val<;>rw[hv]at this<;>first|exact this|cases this
  |agg _=>cases h
 |agg cs=>
  cases k with
  |leaf k=>cases h
  |agg ks=>exact je h hk
theorem gX{v:Value}(h:dW v=true):flat v=true:=by
 cases v<;>first|exact h|cases h
theorem gm:∀ {xs:List S0} {sks:List SK},br xs sks=true→sks.all SK.plain=true→(ah xs).all dW=true
 | [],[],_,_=>rfl
 |x :: xs,k :: ks,h,hk=>by
  simp only[br,Bool.and_eq_true]at h
  simp only[List.all_cons,Bool.and_eq_true]at hk
  simp only[ah,List.map_cons,List.all_cons,Bool.and_eq_true]
  exact⟨S0.plain_flat1 h.1 hk.1,gm h.2 hk.2⟩
 | [],_ :: _,h,_=>by cases h
 |_ :: _,[],h,_=>by cases h
theorem tP{xs:List S0}{sks:List SK}(h:br xs sks=true)(hk:sks.all SK.plain=true):(ah xs).all flat=true:=by
 have:=gm h hk
 rw[List.all_eq_true]at this ⊢
 exact fun v hv=>gX (this v hv)
theorem ux{vs:List Value}(h:vs.all dW=true):flat (dP vs)=true:=by
 match vs,h with
 | [],_=>rfl
 | [v],h=>
  simp only[List.all_cons,List.all_nil,Bool.and_true]at h
  exact gX h
 |a :: b :: l,h=>
  show flat (.tuple (a :: b :: l).toArray)=true
  simp only[flat,Bool.and_eq_true]
  exact⟨by simp,h⟩
end
@[reducible] def KnoC (C:Cfg) (N:FuncId→Option Nat) [Val]:Kno:=⟨fun f args r=>∀H,dD C f args H r H,fun f args H r H'=>(N f=none∨(N f=some (2*args.length+1)∧H'=H))∧dD C f args H r H'⟩
section
variable [Val]
def Ct(C:Cfg)(N:FuncId→Option Nat)(Sg:FuncId→Option Sig)(g:FuncId)(ls rs:List Lf):Prop:=let _:Kno:=KnoC C N;∀H,au C Sg g ls H rs H
theorem md{C:Cfg}{N:FuncId→Option Nat}(hm:C.P.follows .mixedOrders=true){f:FuncId}{args:List Value}{H:List HObj}{r:Value}{H':List HObj}(h:let _:Kno:=KnoC C N;gc C f args H r H'):dD C f args H r H':=
 @uCall_ok _ _ (KnoC C N) hm (fun _ _ _ h=>h) (fun _ _ _ _ _ h=>h.2) _ _ _ _ _ h
theorem gp{C:Cfg}{N:FuncId→Option Nat}{Sg:FuncId→Option Sig}(hm:C.P.follows .mixedOrders=true)(hG:∀g vs,C.G g=some vs→vs.all gfl=true){g:FuncId}{sg:Sig}(hs:Sg g=some sg)(hp:sg.plain=true){ls rs:List Lf}{H':List HObj}
  (h:let _:Kno:=KnoC C N;au C Sg g ls [] rs H'):Ct C N Sg g ls rs:=by
 let _:Kno:=KnoC C N
 obtain⟨sg',xs,ys,c1,c2,c3,c4⟩:=h
 rw[hs]at c1
 cases c1
 simp only[Sig.plain,Bool.and_eq_true]at hp
 have ha:=tP c2.1 hp.1
 have hr:=ux (gm c3.1 hp.2)
 intro H
 exact⟨sg,xs,ys,hs,c2,c3,⟨0,.inl ⟨fun H=>frame_ok hG (md hm c4) ha hr H,rfl⟩⟩⟩
end
section
variable [Val] [Kno]
theorem ce{n:Int}(h1:-9223372036854775808≤n)(h2:n≤9223372036854775807):IntKind.wrap .i64 n=n:=by
 simp only[IntKind.wrap,IntKind.bits,IntKind.signed,Bool.true_and,ge_iff_le,decide_eq_true_eq]
 split<;>omega
theorem ph{n:Int}(h1:0≤n)(h2:n≤255):IntKind.wrap .u8 n=n:=by
 simp only[IntKind.wrap,IntKind.bits,IntKind.signed,Bool.false_and,Bool.false_eq_true,if_false]
 omega
end
end Sx
end Go.Am

/-
 CALLS THAT ONLY READ: slices under other names of their blocks;what a run over these blocks alone answers.
-/
namespace Go.Am
namespace Sx
section
variable [Val]
noncomputable def renV(σ:Nat→Nat)(v:Value):Value:=match v with
 | .slice (some a) len cx=>.slice (some ⟨σ a.block,a.off,a.spot⟩) len cx
 |v=>v
noncomputable def jD(σ:Nat→Nat):SL→SL
 | .v x=>.v (renV σ x)
 |s=>s
noncomputable def renS(σ:Nat→Nat):S0→S0
 | .leaf l=>.leaf (jD σ l)
 | .agg cs=>.agg (cs.map (jD σ))
noncomputable def renL(σ:Nat→Nat):Lf→Lf
 | .v x=>.v (renV σ x)
 |l=>l
def OkV(n:Nat)(v:Value):Prop:=(flat v=true∧∀σ,renV σ v=v)∨∃j off len cx e,j<n∧v = .slice (some ⟨j,off,tag e⟩) len cx
def OkL(n:Nat):Lf→Prop
 | .v x=>OkV n x
 |_=>True
theorem vr_ren [Glo]{n:Nat}{σ:Nat→Nat}{mu mu0:HMap}(hmu:∀j,j<n→mu0 j=mu (σ j)){v c:Value}(hv:OkV n v)(h:VR noL mu (renV σ v) c):VR noL mu0 v c:=by
 rcases hv with⟨h1,h2⟩|⟨j,off,len,cx,e,hj,rfl⟩
 ·rw[h2]at h
  rw[cw h1 h]
  exact .of_flat h1
 ·have h:VR noL mu (.slice (some ⟨σ j,off,tag e⟩) len cx) c:=h
  generalize ht:tag e=t at h ⊢
  cases h with
  |hslice q1 q2 q3 q4=>exact .hslice ((hmu j hj).trans q1) q2 q3 q4
  |hslice0 q1=>exact .hslice0 q1
  |gslice _=>simp[tag]at ht
  |gslice0=>simp[tag]at ht
  |scalar q=>simp[scalar]at q
theorem qN{σ:Nat→Nat}(l:SL)(k:LK):(jD σ l).is k=l.is k:=by cases l<;>cases k<;>rfl
theorem pw{σ:Nat→Nat}:∀(cs:List SL) (ks:List LK),aE (cs.map (jD σ)) ks=aE cs ks
 | [],[]=>rfl
 | [],_ :: _=>rfl
 |_ :: _,[]=>rfl
 |c :: cs,k :: ks=>by simp only[List.map_cons,aE,qN,pw cs ks]
theorem is_ren{σ:Nat→Nat}(x:S0)(k:SK):(renS σ x).is k=x.is k:=by
 cases x<;>cases k<;>first|rfl|exact qN _ _|exact pw _ _
theorem ko{σ:Nat→Nat}:∀(xs:List S0) (ks:List SK),br (xs.map (renS σ)) ks=br xs ks
 | [],[]=>rfl
 | [],_ :: _=>rfl
 |_ :: _,[]=>rfl
 |x :: xs,k :: ks=>by simp only[List.map_cons,br,is_ren,ko xs ks]
theorem lf_ren{σ:Nat→Nat}(l:SL):(jD σ l).lf=renL σ l.lf:=by cases l<;>rfl
theorem pI{σ:Nat→Nat}(x:S0):(renS σ x).cells=x.cells.map (jD σ):=by cases x<;>rfl
theorem kZ{σ:Nat→Nat}:∀(xs:List S0),bv (xs.map (renS σ))=(bv xs).map (renL σ)
 | []=>rfl
 |x :: xs=>by
  simp only[List.map_cons,bv,List.map_append,kZ xs,pI,List.map_map]
  congr 1
  exact List.map_congr_left fun l _=>lf_ren l
theorem good_ren{σ:Nat→Nat}{l:SL}(h:l.good):(jD σ l).good:=by
 cases l with
 |v x=>
  show bj (renV σ x)=true
  have h:bj x=true:=h
  unfold renV
  split
  ·simpa[bj,noLoc,bh,cH,bS,bc,aF]using h
  ·exact h
 |_=>exact h
theorem vr_sl [Glo]{n:Nat}{σ:Nat→Nat}{mu mu0:HMap}(hmu:∀j,j<n→mu0 j=mu (σ j)){l:SL}{c:Value}(hl:OkL n l.lf)(h:VR noL mu (jD σ l).val c):VR noL mu0 l.val c:=by
 cases l with
 |v x=>exact vr_ren hmu hl h
 |i k m=>
  have hf:flat (Value.int k m)=true:=rfl
  have h:VR noL mu (.int k m) c:=h
  rw[cw hf h];exact .of_flat hf
 |b t=>
  have hf:flat (Value.bool t)=true:=rfl
  have h:VR noL mu (.bool t) c:=h
  rw[cw hf h];exact .of_flat hf
 |l t=>
  have hf:flat (Value.bool t)=true:=rfl
  have h:VR noL mu (.bool t) c:=h
  rw[cw hf h];exact .of_flat hf
theorem vr_s0 [Glo]{n:Nat}{σ:Nat→Nat}{mu mu0:HMap}(hmu:∀j,j<n→mu0 j=mu (σ j)){x:S0}{c:Value}(hx:∀l∈x.cells,OkL n l.lf)(h:VR noL mu (renS σ x).val c):VR noL mu0 x.val c:=by
 cases x with
 |leaf l=>exact vr_sl hmu (hx l (by simp[S0.cells])) h
 |agg cs=>
  have h:VR noL mu (.agg ⟨(cs.map (jD σ)).map SL.val⟩) c:=h
  generalize ha:(⟨(cs.map (jD σ)).map SL.val⟩ : Array Value)=a at h
  cases h with
  |scalar q=>simp[scalar]at q
  |agg hs h=>
   subst ha
   refine .agg (by simpa using hs) fun i x y hx' hy=>?_
   have hi:(cs.map SL.val)[i]? = some x:=by simpa using hx'
   rw[List.getElem?_map]at hi
   cases e:cs[i]? with
   |none=>rw[e]at hi;cases hi
   |some l=>
    rw[e]at hi
    cases hi
    exact vr_sl hmu (hx l (List.mem_of_getElem? e)) (h i _ y (by simp[e]) hy)
theorem vrs_ren [Glo]{n:Nat}{σ:Nat→Nat}{mu mu0:HMap}(hmu:∀j,j<n→mu0 j=mu (σ j)){xs:List S0}{cs:List Value}(hx:∀x∈xs,∀l∈x.cells,OkL n l.lf)(h:VRs noL mu (ah (xs.map (renS σ))) cs):VRs noL mu0 (ah xs) cs:=by
 refine⟨by simpa[ah]using h.1,fun i x y hi hy=>?_⟩
 unfold ah at hi
 rw[List.getElem?_map]at hi
 cases e:xs[i]? with
 |none=>rw[e]at hi;cases hi
 |some s=>
  rw[e]at hi
  cases hi
  exact vr_s0 hmu (hx s (List.mem_of_getElem? e)) (h.2 i _ y (by simp[ah,e]) hy)
theorem ql{xs:List S0}{x:S0}{l:SL}(hx:x∈xs)(hl:l∈x.cells):l.lf∈bv xs:=by
 induction xs with
 |nil=>cases hx
 |cons y ys ih=>
  show l.lf∈y.cells.map SL.lf++bv ys
  rcases List.mem_cons.1 hx with rfl|hx
  ·exact List.mem_append_left _ (List.mem_map_of_mem hl)
  ·exact List.mem_append_right _ (ih hx)
end
end Sx
end Go.Am

/-
 RUNS IN THE DIRECT STYLE: what the texts by program use,and what makes a table of runs true.
-/
set_option maxRecDepth 100000
namespace Go.Am
open Sx
abbrev FB:=List Lf→HTr→(List Lf→HTr→RT)→RT
noncomputable def nf:FB:=fun _ _ _=>none
noncomputable def tell(rs:List Lf)(_:HTr):RT:=oJ rs fun rs=>some rs
noncomputable def memo(g:FB):FB:=fun ls h K=>oJ ls fun ls=>@Option.rec _ (fun _=>RT) none (fun rs=>K rs h) (g ls .empty tell)
noncomputable def fB{R:Type}(b:Bool)(k:Bool→R):R:=Bool.rec (k false) (k true) b
noncomputable def flatI(v:Value):Bool:=match v with
 | .int _ _=>true
 | .bool _=>true
 |_=>false
noncomputable def allR(c:Tr Value)(n:Nat):Bool:=@Nat.rec (fun _=>Bool) true (fun i ih=>@Bool.rec (fun _=>Bool) false ih (flatI ((bi i).get nilV c))) n
noncomputable def ext(h:HTr)(d:RT)(ls:List Lf):HTr→(List Lf→HTr→RT)→RT:=
 @List.rec Lf (fun _=>HTr→(List Lf→HTr→RT)→RT) (fun h0 k=>k [] h0) (fun x _ ih h0 k=>match x with
  | .i n=>fI n fun n=>ih h0 fun l h1=>k (.i n :: l) h1
  | .b t=>fB t fun t=>ih h0 fun l h1=>k (.b t :: l) h1
  | .v v=>match v with
   | .slice (some a) len cx=>match h.at a.block with
    |some (.t n e _ c)=>match tagB a.spot e,allR c n with
     |true,true=>iT h0 (.t n e false c) fun h1=>fN a.off fun o=>fN len fun len=>fN cx fun cx=>ih h1 fun l h2=>k (.v (.slice (some ⟨h0.n,o,tag e⟩) len cx) :: l) h2
     |_,_=>d
    |_=>d
   |v=>match flat v with
    |true=>ih h0 fun l h1=>k (.v v :: l) h1
    |false=>d) ls
noncomputable abbrev cB(x y:RT)(b:Bool):RT:=@Bool.rec (fun _=>RT) x y b
theorem c2{A B Z:Sort _}{f g:A→B→Z}(h:f=g)(x0:A)(x1:B):f x0 x1=g x0 x1:=by rw[h]
theorem c3{A B C Z:Sort _}{f g:A→B→C→Z}(h:f=g)(x0:A)(x1:B)(x2:C):f x0 x1 x2=g x0 x1 x2:=by rw[h]
theorem c4{A B C D Z:Sort _}{f g:A→B→C→D→Z}(h:f=g)(x0:A)(x1:B)(x2:C)(x3:D):f x0 x1 x2 x3=g x0 x1 x2 x3:=by rw[h]
theorem c5{A B C D E Z:Sort _}{f g:A→B→C→D→E→Z}(h:f=g)(x0:A)(x1:B)(x2:C)(x3:D)(x4:E):f x0 x1 x2 x3 x4=g x0 x1 x2 x3 x4:=by rw[h]
theorem c6{A B C D E F Z:Sort _}{f g:A→B→C→D→E→F→Z}(h:f=g)(x0:A)(x1:B)(x2:C)(x3:D)(x4:E)(x5:F):f x0 x1 x2 x3 x4 x5=g x0 x1 x2 x3 x4 x5:=by rw[h]
theorem c7{A B C D E F G Z:Sort _}{f g:A→B→C→D→E→F→G→Z}(h:f=g)(x0:A)(x1:B)(x2:C)(x3:D)(x4:E)(x5:F)(x6:G):f x0 x1 x2 x3 x4 x5 x6=g x0 x1 x2 x3 x4 x5 x6:=by rw[h]
theorem c8{A B C D E F G H Z:Sort _}{f g:A→B→C→D→E→F→G→H→Z}(h:f=g)(x0:A)(x1:B)(x2:C)(x3:D)(x4:E)(x5:F)(x6:G)(x7:H):f x0 x1 x2 x3 x4 x5 x6 x7=g x0 x1 x2 x3 x4 x5 x6 x7:=by rw[h]
theorem c9{A B C D E F G H I Z:Sort _}{f g:A→B→C→D→E→F→G→H→I→Z}(h:f=g)(x0:A)(x1:B)(x2:C)(x3:D)(x4:E)(x5:F)(x6:G)(x7:H)(x8:I):f x0 x1 x2 x3 x4 x5 x6 x7 x8=g x0 x1 x2 x3 x4 x5 x6 x7 x8:=by rw[h]
noncomputable abbrev r0(X:RT)(ls:List Lf):RT:=@List.rec Lf (fun _=>RT) X (fun _ _ _=>none) ls
noncomputable def lookF(l:List (Nat×FB))(g:Nat)(d:FB):FB:=@List.rec _ (fun _=>FB) d (fun p _ ih=>@Bool.rec (fun _=>FB) ih p.2 (Nat.beq p.1 g)) l
noncomputable def tblF(l:List (Nat×FB))(c:ae):ae:=fun ck=>match ck with
 | .f g=>lookF l g (c (.f g))
 | .y κ vs i=>c (.y κ vs i)
section
variable {Sg:FuncId→Option Sig} {T:Nat→Site} {call:ae}
theorem q_cond{t:Bool}{X Y X' Y':RT}(h1:X=X')(h2:Y=Y'):(BA Sg T call).cond t X Y = @Bool.rec (fun _=>RT) Y' X' t:=by subst h1 h2;rfl
theorem q_neq{a b:Int}{K:Bool→RT}{X:RT}(h:K (notK (eqZK a b))=X):(BA Sg T call).cmp .neq a b K=X:=h
theorem q_opt{α:Type}{o:Option α}{K K':α→RT}(h:∀n,K n=K' n):(BA Sg T call).opt o K=optB o K':=by obtain rfl:K=K':=funext h;rfl
theorem fZ{v:Value}{K K':RT}(h:K=K'):(BA Sg T call).chk v K=chkB v K':=by subst h;rfl
theorem jC{ls:List Lf}{K K':Int→List Lf→RT}(h:∀n r,K n r=K' n r):(BA Sg T call).unI ls K=unIB ls K':=by obtain rfl:K=K':=funext fun n=>funext fun r=>h n r;rfl
theorem q_un0{ls:List Lf}{K K':RT}(h:K=K'):(BA Sg T call).un0 ls K=un0B ls K':=by subst h;rfl
theorem rG{k:IntKind}{ls:List Value}{K K':Int→List Value→RT}(h:∀n r,K n r=K' n r):(BA Sg T call).ucI k ls K=ucIB k ls K':=by obtain rfl:K=K':=funext fun n=>funext fun r=>h n r;rfl
theorem lM{ls:List Value}{K K':Value→List Value→RT}(h:∀n r,K n r=K' n r):(BA Sg T call).ucV ls K=ucVB ls K':=by obtain rfl:K=K':=funext fun n=>funext fun r=>h n r;rfl
theorem ie{ls:List Value}{K K':RT}(h:K=K'):(BA Sg T call).uc0 ls K=uc0B ls K':=by subst h;rfl
theorem q_lg{C:Cfg}{n:Nat}{p:Value}{h:HTr}{K K':List Value→RT}(hK:∀l,K l=K' l):(BA Sg T call).peek (.lg C n p) h K=lgB C n p h K':=by obtain rfl:K=K':=funext hK;rfl
theorem q_st{p:Value}{new:List Value}{h:HTr}{K K':List Value→HTr→RT}(hK:∀l h,K l h=K' l h):(BA Sg T call).heap (.st p new) h K=stB p new h K':=by obtain rfl:K=K':=funext fun l=>funext fun h=>hK l h;rfl
theorem q_ap{C:Cfg}{esz bytes:Nat}{s x:Value}{h:HTr}{K K':List Value→HTr→RT}(hK:∀l h,K l h=K' l h):(BA Sg T call).heap (.ap C esz bytes s x) h K=apB T C esz bytes s x h K':=by obtain rfl:K=K':=funext fun l=>funext fun h=>hK l h;rfl
theorem q_new{o:HObj}{h:HTr}{K K':Nat→HTr→RT}(hK:∀l h,K l h=K' l h):(BA Sg T call).new o h K=newB o h K':=by obtain rfl:K=K':=funext fun l=>funext fun h=>hK l h;rfl
theorem q_callD{g:FuncId}{ls:List Lf}{h:HTr}{K K':List Lf→HTr→RT}(hK:∀l h,K l h=K' l h):(BA Sg T call).call g ls h K=tR call g ls h K':=by obtain rfl:K=K':=funext fun l=>funext fun h=>hK l h;rfl
theorem q_lp1{l:Nat}{h:HTr}{K K':HTr→RT}(hK:∀h,K h=K' h):(BA Sg T call).lp1 l h K=lp1B l h K':=by obtain rfl:K=K':=funext hK;rfl
theorem q_lp2{l:Nat}{j:Option Code}{h:HTr}{K K':HTr→RT}(hK:∀h,K h=K' h):(BA Sg T call).lp2 l j h K=lp2B l j h K':=by obtain rfl:K=K':=funext hK;rfl
theorem q_join{B B':List Lf→HTr→RT}{M M':(List Lf→HTr→RT)→RT}(h1:∀l h,B l h=B' l h)(h2:∀j,M j=M' j):(BA Sg T call).join B M=joinB B' M':=by
 obtain rfl:B=B':=funext fun l=>funext fun h=>h1 l h
 obtain rfl:M=M':=funext h2
 rfl
end
section
variable [Val] [Kno]
noncomputable def eqLs(a:List Lf):List Lf→Bool:=@List.rec _ (fun _=>List Lf→Bool) (fun b=>@List.rec _ (fun _=>Bool) true (fun _ _ _=>false) b) (fun x _ ih b=>@List.rec _ (fun _=>Bool) false (fun y m _=>@Bool.rec (fun _=>Bool) false (ih m) (eqLf x y)) b) a
theorem ud{x y:Lf}(h:eqLf x y=true):x=y:=by
 cases x<;>cases y<;>first|(cases h;done)|skip
 ·have h:eqZK _ _=true:=h
  rw[oa,beq_iff_eq]at h;rw[h]
 ·rename_i a b;cases a<;>cases b<;>first|rfl|cases h
theorem eo:∀ {a b:List Lf},eqLs a b=true→a=b
 | [],[],_=>rfl
 |x :: a,y :: b,h=>by
  have h:@Bool.rec (fun _=>Bool) false (eqLs a b) (eqLf x y)=true:=h
  cases e:eqLf x y with
  |true=>rw[e]at h;rw[ud e,eo h]
  |false=>rw[e]at h;cases h
 | [],_ :: _,h=>by cases h
 |_ :: _,[],h=>by cases h
abbrev KN1:=Nat×List Lf×List Lf
def qT(C:Cfg)(Sg:FuncId→Option Sig)(T:Nat→Site)(k:Nat)(g:FB):Prop:=∀ls h K w,bg ls→g ls h K=some w→∃rs h',au C Sg k ls (absH T (toL h)) rs (absH T (toL h'))∧K rs h'=some w
def AllK(C:Cfg)(Sg:FuncId→Option Sig)(l:List KN1):Prop:=∀p∈l,∀H,au C Sg p.1 p.2.1 H p.2.2 H
theorem AllK.nil{C:Cfg}{Sg:FuncId→Option Sig}:AllK C Sg []:=fun _ h=>by cases h
theorem AllK.cons{C:Cfg}{Sg:FuncId→Option Sig}{f:Nat}{ls rs:List Lf}{l:List KN1}(h:∀H,au C Sg f ls H rs H)(hl:AllK C Sg l):AllK C Sg ((f,ls,rs) :: l):=by
 intro p hp
 rcases List.mem_cons.1 hp with rfl|hp
 ·exact h
 ·exact hl p hp
theorem AllK.app{C:Cfg}{Sg:FuncId→Option Sig}{l m:List KN1}(h:AllK C Sg l)(hm:AllK C Sg m):AllK C Sg (l++m):=by
 intro p hp
 rcases List.mem_append.1 hp with hp|hp
 ·exact h p hp
 ·exact hm p hp
theorem sQ{C:Cfg}{Sg:FuncId→Option Sig}{T:Nat→Site}{g:Nat}{d:FB}(hd:qT C Sg T g d):∀ {l:List (Nat×FB)},(∀p∈l,qT C Sg T p.1 p.2)→qT C Sg T g (lookF l g d)
 | [],_=>hd
 |p :: l,h=>by
  have e:lookF (p :: l) g d = @Bool.rec (fun _=>FB) (lookF l g d) p.2 (Nat.beq p.1 g):=rfl
  rw[e]
  cases hb:Nat.beq p.1 g with
  |true=>
   have:=Nat.eq_of_beq_eq_true hb
   subst this
   exact h p List.mem_cons_self
  |false=>exact sQ hd (fun q hq=>h q (List.mem_cons_of_mem _ hq))
theorem af{C:Cfg}{Sg:FuncId→Option Sig}{T:Nat→Site}{c:ae}(hc:CallBOk C Sg T c){l:List (Nat×FB)}(h:∀p∈l,qT C Sg T p.1 p.2):CallBOk C Sg T (tblF l c):=
 ⟨fun g ls hh K w hls hk=>sQ (fun ls h K w=>hc.f g ls h K w) h ls hh K w hls hk,fun κ vs l ls h K w st pd xs e hy hk=>hc.y κ vs l ls h K w st pd xs e hy hk⟩
def YOk(C:Cfg)(Sg:FuncId→Option Sig)(T:Nat→Site)(κ:Nat)(g:List Value→Nat→FB):Prop:=∀vs l ls h K w st pd xs,h.at l=some (.lp κ st pd vs)→Told ((T κ).params.map (·.2)) ls xs→g vs l ls h K=some w→
  ∃b h',ey C l (ah xs) (absH T (toL h)) (.bool b) (absH T (toL h'))∧K [.b b] h'=some w
noncomputable def lookY(l:List (Nat×(List Value→Nat→FB)))(κ:Nat)(d:List Value→Nat→FB):List Value→Nat→FB:=@List.rec _ (fun _=>List Value→Nat→FB) d (fun p _ ih=>@Bool.rec (fun _=>List Value→Nat→FB) ih p.2 (Nat.beq p.1 κ)) l
theorem sR{C:Cfg}{Sg:FuncId→Option Sig}{T:Nat→Site}{g:Nat}{d:List Value→Nat→FB}(hd:YOk C Sg T g d):∀ {l:List (Nat×(List Value→Nat→FB))},(∀p∈l,YOk C Sg T p.1 p.2)→YOk C Sg T g (lookY l g d)
 | [],_=>hd
 |p :: l,h=>by
  have e:lookY (p :: l) g d = @Bool.rec (fun _=>List Value→Nat→FB) (lookY l g d) p.2 (Nat.beq p.1 g):=rfl
  rw[e]
  cases hb:Nat.beq p.1 g with
  |true=>
   have:=Nat.eq_of_beq_eq_true hb
   subst this
   exact h p List.mem_cons_self
  |false=>exact sR hd (fun q hq=>h q (List.mem_cons_of_mem _ hq))
theorem tell_eq:tell=fun rs _=>some rs:=by
 funext rs h
 exact dB rs _
theorem memo_ok{C:Cfg}{Sg:FuncId→Option Sig}{T:Nat→Site}(hpl:∀f sg ls rs H',Sg f=some sg→sg.plain=true→au C Sg f ls [] rs H'→∀H,au C Sg f ls H rs H)
  {k:Nat} {g:FB} {sg:Sig} (hg:qT C Sg T k g) (hs:Sg k=some sg) (hp:sg.plain=true):qT C Sg T k (memo g):=by
 intro ls h K w hls hk
 unfold memo at hk
 rw[dB,tell_eq]at hk
 cases e:g ls .empty (fun rs _=>some rs)with
 |none=>rw[e]at hk;cases hk
 |some rs=>
  rw[e]at hk
  obtain⟨rs',h',a1,a2⟩:=hg ls .empty _ rs hls e
  cases a2
  exact⟨rs,h,hpl k sg ls rs _ hs hp a1 _,hk⟩
end
end Go.Am

/-
 WHAT A ROUND OF EACH LOOP OVER AN ITERATOR DOES,BY PROGRAM.
-/
set_option maxRecDepth 100000
namespace Go.Am
open Sx Go.Proofs
section
variable {R HT:Type} (A:Alg R HT)
noncomputable def y112(vs:List Value)(lp:Nat)(ls:List Lf)(h:HT)(K:List Lf→HT→R):R:=A.ucV vs (fun x8 a9=>A.chk x8 ( A.ucV a9 (fun V b0=>A.chk V ( A.uc0 b0 ( A.unI ls (fun n12 b1=>A.unI b1 (fun n14 b2=>A.unI b2 (fun n16 b3=>A.unI b3 (fun n18 b4=>A.un0 b4 ( A.new (.cells [(.int .i64 (.ofNat 0)),(.int .i64 (.ofNat 0)),(.int .u8 (.ofNat 0))] 3 true) h (fun O h21=>A.heap (.st (.pointer (some ⟨O,0,none⟩)) [(.int .i64 n14),(.int .i64 n16),(.int .u8 n18)]) h21 (fun f2 h23=>A.lp1 lp h23 (fun h24=>A.peek (.lg cc 3 x8) h24 (fun b5=>A.ucI .i64 b5 (fun n26 b6=>A.ucI .i64 b6 (fun n28 b7=>A.ucV b7 (fun a0 b8=>A.chk a0 ( A.uc0 b8 ( A.opt (fdP 1 (.pointer (some ⟨O,0,none⟩))) (fun a1=>A.chk a1 ( A.opt (fdP 0 a1) (fun a2=>A.chk a2 ( A.peek (.lg cc 1 a2) h24 (fun b9=>A.ucI .i64 b9 (fun n35 c0=>A.uc0 c0 ( A.opt (fdP 1 (.pointer (some ⟨O,0,none⟩))) (fun a3=>A.chk a3 ( A.opt (fdP 1 a3) (fun a4=>A.chk a4 ( A.peek (.lg cc 1 a4) h24 (fun c1=>A.ucI .u8 c1 (fun n40 d0=>A.uc0 d0 ( A.call 21 [(.i n26),(.i n28),(.v a0),(.i n35),(.i n40)] h24 (fun d1 U=>A.unI d1 (fun n44 d2=>A.unI d2 (fun n46 d3=>A.un0 d3 ( A.cmp .neq n44 (.ofNat 0) (fun d4=>A.join (fun d5 d6=>A.un0 d5 ( A.lp2 lp none d6 (fun d7=>K [(.b true)] d7))) (fun a5=>A.cond d4 ( A.peek (.lg cc 1 V) U (fun d8=>A.ucV d8 (fun a6 d9=>A.chk a6 ( A.uc0 d9 ( A.opt (fdP 0 (.pointer (some ⟨O,0,none⟩))) (fun a7=>A.chk a7 ( A.peek (.lg cc 1 a7) U (fun e0=>A.ucI .i64 e0 (fun n58 e1=>A.uc0 e1 ( A.new (.cells [(.int .i64 n58),(.int .u8 n44)] 2 true) U (fun e2 h61=>A.heap (.ap cc 2 16 a6 (.slice (some ⟨e2,0,(some 12)⟩) 1 2)) h61 (fun e3 f0=>A.ucV e3 (fun a8 f1=>A.chk a8 ( A.uc0 f1 ( A.heap (.st V [a8]) f0 (fun f3 h67=>a5 [] h67)))))))))))))))) ( a5 [] U))))))))))))))))))))))))))))))))))))))))
noncomputable def y400(vs:List Value)(lp:Nat)(ls:List Lf)(h:HT)(K:List Lf→HT→R):R:=A.ucV vs (fun x8 V=>A.chk x8 ( A.uc0 V ( A.unI ls (fun n10 a0=>A.unI a0 (fun n12 a1=>A.unI a1 (fun n14 a2=>A.unI a2 (fun n16 a3=>A.un0 a3 ( A.lp1 lp h (fun h18=>A.peek (.lg cc 1 x8) h18 (fun a4=>A.ucV a4 (fun O a5=>A.chk O ( A.uc0 a5 ( A.new (.cells [(.int .i64 n10)] 1 true) h18 (fun a6 h23=>A.heap (.ap cc 1 8 O (.slice (some ⟨a6,0,(some 11)⟩) 1 2)) h23 (fun a7 a8=>A.ucV a7 (fun U a9=>A.chk U ( A.uc0 a9 ( A.heap (.st x8 [U]) a8 (fun b2 b0=>A.lp2 lp none b0 (fun b1=>K [(.b true)] b1))))))))))))))))))))
noncomputable def y1248(vs:List Value)(lp:Nat)(ls:List Lf)(h:HT)(K:List Lf→HT→R):R:=A.ucV vs (fun x8 a0=>A.chk x8 ( A.uc0 a0 ( A.unI ls (fun n10 a1=>A.unI a1 (fun n12 a2=>A.un0 a2 ( A.new (.cells [(.int .i64 (.ofNat 0)),(.int .u8 (.ofNat 0))] 2 true) h (fun O a3=>A.heap (.st (.pointer (some ⟨O,0,none⟩)) [(.int .i64 n10),(.int .u8 n12)]) a3 (fun b5 a4=>A.lp1 lp a4 (fun h18=>A.peek (.lg cc 1 x8) h18 (fun a5=>A.ucV a5 (fun U a6=>A.chk U ( A.uc0 a6 ( A.peek (.lg cc 2 (.pointer (some ⟨O,0,none⟩))) h18 (fun a7=>A.ucI .i64 a7 (fun n23 a8=>A.ucI .u8 a8 (fun n25 a9=>A.uc0 a9 ( A.new (.cells [(.int .i64 n23),(.int .u8 n25)] 2 true) h18 (fun b0 b1=>A.heap (.ap cc 2 16 U (.slice (some ⟨b0,0,(some 12)⟩) 1 2)) b1 (fun b2 b3=>A.ucV b2 (fun V b4=>A.chk V ( A.uc0 b4 ( A.heap (.st x8 [V]) b3 (fun b6 h34=>A.lp2 lp none h34 (fun h35=>K [(.b true)] h35))))))))))))))))))))))))
end
theorem ey112:@y112=fun R HT A vs lp ls h K=>mp A (xc 0) ac drN (aa 112) vs lp ls h K:=by kernel_rfl
theorem ey400:@y400=fun R HT A vs lp ls h K=>mp A (xc 0) ac drN (aa 400) vs lp ls h K:=by kernel_rfl
theorem ey1248:@y1248=fun R HT A vs lp ls h K=>mp A (xc 0) ac drN (aa 1248) vs lp ls h K:=by kernel_rfl
end Go.Am

/-
 THE FUNCTIONS IN THE DIRECT STYLE OF RUNS,BY PROGRAM;THE TABLE OF RUNS.
-/
set_option maxRecDepth 100000
namespace Go.Am
open Sx Go.Proofs
instance val0 : Val := ⟨fun _ => 0⟩
noncomputable instance kno0:Kno:=KnoC cc neuN
theorem mixed:cc.P.follows .mixedOrders=true:=by kernel_rfl
theorem bY(g:Nat)(vs:List Value)(h:cc.G g=some vs):vs.all gfl=true:=by
 unfold cc at h
 simp only at h
 split at h<;>first|(cases h;done)|(obtain rfl:=Option.some.inj h;kernel_rfl)
theorem pP:DrOk cc drN:=drOf_ok neuN_ok (fun _ _ _ _ _ (h:_∧_)=>h.1)
abbrev Ent(k:Nat)(g:FB):Prop:=qT cc ac aa k g
abbrev Cok(c:ae):Prop:=CallBOk cc ac aa c
theorem tn(f:FuncId)(sg:Sig)(ls rs:List Lf)(H':List HObj)(hs:ac f=some sg)(hp:sg.plain=true)(hc:au cc ac f ls [] rs H'):∀H,au cc ac f ls H rs H:=gp mixed bY hs hp hc
theorem ent_of{k:Nat}{g:ae→FB}{f:Alg RT HTr→FB}{ct:ae→ae}{fn:Fn1}(h0:g=fun c=>f (BA ac aa (ct c)))(h2:f=fun A ls h K=>aj A (xc k) ac drN fn ls h K)(h3:FnIs (xc k) ac k fn){c:ae}(hc:Cok (ct c)):Ent k (g c):=by
 intro ls h K w hls hk
 rw[h0,h2]at hk
 obtain⟨rs,h',a1,_,a3⟩:=oc (BA_ok (w:=w) hc) pP h3 hls hk
 exact⟨rs,h',a1,a3⟩
theorem ay{k:Nat}{g:ae→FB}{f:Alg RT HTr→FB}{ct:ae→ae}{fn:Fn1}(h2:∀c ls h K,f (BA ac aa (ct c)) ls h K=g c ls h K)(h3:f=fun A ls h K=>aj A (xc k) ac drN fn ls h K)(h4:FnIs (xc k) ac k fn){c:ae}(hc:Cok (ct c)):Ent k (g c):=
 ent_of (g:=g) (ct:=ct) (funext fun c=>funext fun ls=>funext fun h=>funext fun K=>(h2 c ls h K).symm) h3 h4 hc
theorem aN:∀p∈([]:List (Nat×FB)),Ent p.1 p.2:=fun _ h=>by cases h
theorem aC{k:Nat}{g:FB}{l:List (Nat×FB)}(h:Ent k g)(t:∀p∈l,Ent p.1 p.2):∀p∈(k,g) :: l,Ent p.1 p.2:=fun p hp=>by
 rcases List.mem_cons.1 hp with rfl|hp
 ·exact h
 ·exact t p hp
theorem aq{k:Nat}{g:FB}{sg:Sig}(h:Ent k g)(h4:ac k=some sg)(h5:sg.plain=true):Ent k (memo g):=memo_ok tn h h4 h5
/-- crimp/crimpref03.Corners -/
noncomputable def ct29(c:ae):ae:=tblF [] c
noncomputable def wr29(c:ae):FB:=f29 (BA ac aa (ct29 c))
noncomputable def w29(c:ae):FB:=memo (wr29 c)
theorem ok29{c:ae}(hc:Cok c):Ent 29 (w29 c):=aq (ay (f:=fun A=>f29 A) (ct:=ct29) (fun _ _ _ _=>rfl) (congrFun (congrFun e29 RT) HTr) i29 (af hc aN)) rfl (by kernel_rfl)
/-- crimp/crimpref01.Across -/
noncomputable def ct84(c:ae):ae:=tblF [] c
noncomputable def wr84(c:ae):FB:=f84 (BA ac aa (ct84 c))
noncomputable def w84(c:ae):FB:=memo (wr84 c)
theorem ok84{c:ae}(hc:Cok c):Ent 84 (w84 c):=aq (ay (f:=fun A=>f84 A) (ct:=ct84) (fun _ _ _ _=>rfl) (congrFun (congrFun e84 RT) HTr) i84 (af hc aN)) rfl (by kernel_rfl)
/-- crimp/crimpref03.Line -/
noncomputable def ct56(c:ae):ae:=tblF [(29,w29 c),(84,w84 c)] c
noncomputable def wr56(c:ae):FB:=f56 (BA ac aa (ct56 c))
noncomputable def w56(c:ae):FB:=memo (wr56 c)
theorem ok56{c:ae}(hc:Cok c):Ent 56 (w56 c):=aq (ay (f:=fun A=>f56 A) (ct:=ct56) (fun _ _ _ _=>rfl) (congrFun (congrFun e56 RT) HTr) i56 (af hc (aC (ok29 hc) (aC (ok84 hc) aN)))) rfl (by kernel_rfl)
/-- crimp/crimpref01.Far -/
noncomputable def ct85(c:ae):ae:=tblF [(84,w84 c)] c
noncomputable def wr85(c:ae):FB:=f85 (BA ac aa (ct85 c))
noncomputable def w85(c:ae):FB:=memo (wr85 c)
theorem ok85{c:ae}(hc:Cok c):Ent 85 (w85 c):=aq (ay (f:=fun A=>f85 A) (ct:=ct85) (fun _ _ _ _=>rfl) (congrFun (congrFun e85 RT) HTr) i85 (af hc (aC (ok84 hc) aN))) rfl (by kernel_rfl)
/-- crimp/crimpref01.Reflect -/
noncomputable def ct57(c:ae):ae:=tblF [(84,w84 c),(85,w85 c)] c
noncomputable def wr57(c:ae):FB:=f57 (BA ac aa (ct57 c))
noncomputable def w57(c:ae):FB:=memo (wr57 c)
theorem ok57{c:ae}(hc:Cok c):Ent 57 (w57 c):=aq (ay (f:=fun A=>f57 A) (ct:=ct57) (fun _ _ _ _=>rfl) (congrFun (congrFun e57 RT) HTr) i57 (af hc (aC (ok84 hc) (aC (ok85 hc) aN)))) rfl (by kernel_rfl)
/-- crimp/crimpref03.With -/
noncomputable def ct58(c:ae):ae:=tblF [(29,w29 c)] c
noncomputable def wr58(c:ae):FB:=f58 (BA ac aa (ct58 c))
noncomputable def w58(c:ae):FB:=memo (wr58 c)
theorem ok58{c:ae}(hc:Cok c):Ent 58 (w58 c):=aq (ay (f:=fun A=>f58 A) (ct:=ct58) (fun _ _ _ _=>rfl) (congrFun (congrFun e58 RT) HTr) i58 (af hc (aC (ok29 hc) aN))) rfl (by kernel_rfl)
/-- crimp/crimpref03.Neighbour -/
noncomputable def ct30(c:ae):ae:=tblF [(29,w29 c),(56,w56 c),(57,w57 c),(58,w58 c)] c
noncomputable def wr30(c:ae):FB:=f30 (BA ac aa (ct30 c))
noncomputable def w30(c:ae):FB:=memo (wr30 c)
theorem ok30{c:ae}(hc:Cok c):Ent 30 (w30 c):=aq (ay (f:=fun A=>f30 A) (ct:=ct30) (fun _ _ _ _=>rfl) (congrFun (congrFun e30 RT) HTr) i30 (af hc (aC (ok29 hc) (aC (ok56 hc) (aC (ok57 hc) (aC (ok58 hc) aN)))))) rfl (by kernel_rfl)
/-- crimp/crimpref05.Id -/
noncomputable def ct86(c:ae):ae:=tblF [] c
noncomputable def wr86(c:ae):FB:=f86 (BA ac aa (ct86 c))
noncomputable def w86(c:ae):FB:=memo (wr86 c)
theorem ok86{c:ae}(hc:Cok c):Ent 86 (w86 c):=aq (ay (f:=fun A=>f86 A) (ct:=ct86) (fun _ _ _ _=>rfl) (congrFun (congrFun e86 RT) HTr) i86 (af hc aN)) rfl (by kernel_rfl)
/-- crimp/crimpref05.Neighbour -/
noncomputable def ct59(c:ae):ae:=tblF [(30,w30 c),(86,w86 c)] c
noncomputable def wr59(c:ae):FB:=f59 (BA ac aa (ct59 c))
noncomputable def w59(c:ae):FB:=memo (wr59 c)
theorem ok59{c:ae}(hc:Cok c):Ent 59 (w59 c):=aq (ay (f:=fun A=>f59 A) (ct:=ct59) (fun _ _ _ _=>rfl) (congrFun (congrFun e59 RT) HTr) i59 (af hc (aC (ok30 hc) (aC (ok86 hc) aN)))) rfl (by kernel_rfl)
/-- crimp/crimpref05.Units -/
noncomputable def ct31(c:ae):ae:=tblF [(59,w59 c)] c
noncomputable def wr31(c:ae):FB:=f31 (BA ac aa (ct31 c))
noncomputable def w31(c:ae):FB:=wr31 c
theorem ok31{c:ae}(hc:Cok c):Ent 31 (w31 c):=ay (f:=fun A=>f31 A) (ct:=ct31) (fun _ _ _ _=>rfl) (congrFun (congrFun e31 RT) HTr) i31 (af hc (aC (ok59 hc) aN))
/-- crimp/crimpref06.With -/
noncomputable def ct16(c:ae):ae:=tblF [(31,w31 c)] c
noncomputable def wr16(c:ae):FB:=f16 (BA ac aa (ct16 c))
noncomputable def w16(c:ae):FB:=wr16 c
theorem ok16{c:ae}(hc:Cok c):Ent 16 (w16 c):=ay (f:=fun A=>f16 A) (ct:=ct16) (fun _ _ _ _=>rfl) (congrFun (congrFun e16 RT) HTr) i16 (af hc (aC (ok31 hc) aN))
/-- (crimp/crimplaw06.P).Of -/
noncomputable def ct5(c:ae):ae:=tblF [(16,w16 c)] c
noncomputable def wr5(c:ae):FB:=f5 (BA ac aa (ct5 c))
noncomputable def w5(c:ae):FB:=wr5 c
theorem ok5{c:ae}(hc:Cok c):Ent 5 (w5 c):=ay (f:=fun A=>f5 A) (ct:=ct5) (fun _ _ _ _=>rfl) (congrFun (congrFun e5 RT) HTr) i5 (af hc (aC (ok16 hc) aN))
/-- crimp/sheets.Check -/
noncomputable def ct32(c:ae):ae:=tblF [] c
noncomputable def wr32(c:ae):FB:=f32 (BA ac aa (ct32 c))
noncomputable def w32(c:ae):FB:=memo (wr32 c)
theorem ok32{c:ae}(hc:Cok c):Ent 32 (w32 c):=aq (ay (f:=fun A=>f32 A) (ct:=ct32) (fun _ _ _ _=>rfl) (congrFun (congrFun e32 RT) HTr) i32 (af hc aN)) rfl (by kernel_rfl)
/-- slices.Clip[[]crimp/api.Point,crimp/api.Point] -/
noncomputable def ct33(c:ae):ae:=tblF [] c
noncomputable def wr33(c:ae):FB:=f33 (BA ac aa (ct33 c))
noncomputable def w33(c:ae):FB:=wr33 c
theorem ok33{c:ae}(hc:Cok c):Ent 33 (w33 c):=ay (f:=fun A=>f33 A) (ct:=ct33) (fun _ _ _ _=>rfl) (congrFun (congrFun e33 RT) HTr) i33 (af hc aN)
/-- crimp/sheets.Points -/
noncomputable def ct17(c:ae):ae:=tblF [(32,w32 c),(33,w33 c)] c
noncomputable def wr17(c:ae):FB:=f17 (BA ac aa (ct17 c))
noncomputable def w17(c:ae):FB:=wr17 c
theorem ok17{c:ae}(hc:Cok c):Ent 17 (w17 c):=ay (f:=fun A=>f17 A) (ct:=ct17) (fun _ _ _ _=>rfl) (congrFun (congrFun e17 RT) HTr) i17 (af hc (aC (ok32 hc) (aC (ok33 hc) aN)))
/-- crimp/corners.All -/
noncomputable def ct6(c:ae):ae:=tblF [(17,w17 c)] c
noncomputable def wr6(c:ae):FB:=f6 (BA ac aa (ct6 c))
noncomputable def w6(c:ae):FB:=wr6 c
theorem ok6{c:ae}(hc:Cok c):Ent 6 (w6 c):=ay (f:=fun A=>f6 A) (ct:=ct6) (fun _ _ _ _=>rfl) (congrFun (congrFun e6 RT) HTr) i6 (af hc (aC (ok17 hc) aN))
/-- slices.IndexFunc[[]crimp/patterns.Crease,crimp/patterns.Crease] -/
noncomputable def ct60(c:ae):ae:=tblF [] c
noncomputable def wr60(c:ae):FB:=f60 (BA ac aa (ct60 c))
noncomputable def w60(c:ae):FB:=wr60 c
theorem ok60{c:ae}(hc:Cok c):Ent 60 (w60 c):=ay (f:=fun A=>f60 A) (ct:=ct60) (fun _ _ _ _=>rfl) (congrFun (congrFun e60 RT) HTr) i60 (af hc aN)
/-- slices.ContainsFunc[[]crimp/patterns.Crease,crimp/patterns.Crease] -/
noncomputable def ct34(c:ae):ae:=tblF [(60,w60 c)] c
noncomputable def wr34(c:ae):FB:=f34 (BA ac aa (ct34 c))
noncomputable def w34(c:ae):FB:=wr34 c
theorem ok34{c:ae}(hc:Cok c):Ent 34 (w34 c):=ay (f:=fun A=>f34 A) (ct:=ct34) (fun _ _ _ _=>rfl) (congrFun (congrFun e34 RT) HTr) i34 (af hc (aC (ok60 hc) aN))
/-- crimp/cells.Check -/
noncomputable def ct62(c:ae):ae:=tblF [] c
noncomputable def wr62(c:ae):FB:=f62 (BA ac aa (ct62 c))
noncomputable def w62(c:ae):FB:=memo (wr62 c)
theorem ok62{c:ae}(hc:Cok c):Ent 62 (w62 c):=aq (ay (f:=fun A=>f62 A) (ct:=ct62) (fun _ _ _ _=>rfl) (congrFun (congrFun e62 RT) HTr) i62 (af hc aN)) rfl (by kernel_rfl)
/-- crimp/sheets.Id -/
noncomputable def ct41(c:ae):ae:=tblF [(32,w32 c),(62,w62 c)] c
noncomputable def wr41(c:ae):FB:=f41 (BA ac aa (ct41 c))
noncomputable def w41(c:ae):FB:=memo (wr41 c)
theorem ok41{c:ae}(hc:Cok c):Ent 41 (w41 c):=aq (ay (f:=fun A=>f41 A) (ct:=ct41) (fun _ _ _ _=>rfl) (congrFun (congrFun e41 RT) HTr) i41 (af hc (aC (ok32 hc) (aC (ok62 hc) aN)))) rfl (by kernel_rfl)
/-- crimp/cells.Neighbour -/
noncomputable def ct45(c:ae):ae:=tblF [(62,w62 c)] c
noncomputable def wr45(c:ae):FB:=f45 (BA ac aa (ct45 c))
noncomputable def w45(c:ae):FB:=memo (wr45 c)
theorem ok45{c:ae}(hc:Cok c):Ent 45 (w45 c):=aq (ay (f:=fun A=>f45 A) (ct:=ct45) (fun _ _ _ _=>rfl) (congrFun (congrFun e45 RT) HTr) i45 (af hc (aC (ok62 hc) aN))) rfl (by kernel_rfl)
/-- (crimp/sheets.Sheet).has -/
noncomputable def ct109(c:ae):ae:=tblF [] c
noncomputable def wr109(c:ae):FB:=f109 (BA ac aa (ct109 c))
noncomputable def w109(c:ae):FB:=memo (wr109 c)
theorem ok109{c:ae}(hc:Cok c):Ent 109 (w109 c):=aq (ay (f:=fun A=>f109 A) (ct:=ct109) (fun _ _ _ _=>rfl) (congrFun (congrFun e109 RT) HTr) i109 (af hc aN)) rfl (by kernel_rfl)
/-- (crimp/sheets.Sheet).cell -/
noncomputable def ct110(c:ae):ae:=tblF [] c
noncomputable def wr110(c:ae):FB:=f110 (BA ac aa (ct110 c))
noncomputable def w110(c:ae):FB:=memo (wr110 c)
theorem ok110{c:ae}(hc:Cok c):Ent 110 (w110 c):=aq (ay (f:=fun A=>f110 A) (ct:=ct110) (fun _ _ _ _=>rfl) (congrFun (congrFun e110 RT) HTr) i110 (af hc aN)) rfl (by kernel_rfl)
/-- crimp/sheets.Cell -/
noncomputable def ct87(c:ae):ae:=tblF [(32,w32 c),(109,w109 c),(110,w110 c)] c
noncomputable def wr87(c:ae):FB:=f87 (BA ac aa (ct87 c))
noncomputable def w87(c:ae):FB:=memo (wr87 c)
theorem ok87{c:ae}(hc:Cok c):Ent 87 (w87 c):=aq (ay (f:=fun A=>f87 A) (ct:=ct87) (fun _ _ _ _=>rfl) (congrFun (congrFun e87 RT) HTr) i87 (af hc (aC (ok32 hc) (aC (ok109 hc) (aC (ok110 hc) aN))))) rfl (by kernel_rfl)
/-- crimp/sheets.Neighbour -/
noncomputable def ct61(c:ae):ae:=tblF [(41,w41 c),(45,w45 c),(87,w87 c)] c
noncomputable def wr61(c:ae):FB:=f61 (BA ac aa (ct61 c))
noncomputable def w61(c:ae):FB:=memo (wr61 c)
theorem ok61{c:ae}(hc:Cok c):Ent 61 (w61 c):=aq (ay (f:=fun A=>f61 A) (ct:=ct61) (fun _ _ _ _=>rfl) (congrFun (congrFun e61 RT) HTr) i61 (af hc (aC (ok41 hc) (aC (ok45 hc) (aC (ok87 hc) aN))))) rfl (by kernel_rfl)
/-- crimp/sheets.Name -/
noncomputable def ct37(c:ae):ae:=tblF [(61,w61 c)] c
noncomputable def wr37(c:ae):FB:=f37 (BA ac aa (ct37 c))
noncomputable def w37(c:ae):FB:=memo (wr37 c)
theorem ok37{c:ae}(hc:Cok c):Ent 37 (w37 c):=aq (ay (f:=fun A=>f37 A) (ct:=ct37) (fun _ _ _ _=>rfl) (congrFun (congrFun e37 RT) HTr) i37 (af hc (aC (ok61 hc) aN))) rfl (by kernel_rfl)
/-- (crimp/patterns.Crease).unit -/
noncomputable def ct38(c:ae):ae:=tblF [] c
noncomputable def wr38(c:ae):FB:=f38 (BA ac aa (ct38 c))
noncomputable def w38(c:ae):FB:=memo (wr38 c)
theorem ok38{c:ae}(hc:Cok c):Ent 38 (w38 c):=aq (ay (f:=fun A=>f38 A) (ct:=ct38) (fun _ _ _ _=>rfl) (congrFun (congrFun e38 RT) HTr) i38 (af hc aN)) rfl (by kernel_rfl)
/-- crimp/patterns.order -/
noncomputable def ct39(c:ae):ae:=tblF [] c
noncomputable def wr39(c:ae):FB:=f39 (BA ac aa (ct39 c))
noncomputable def w39(c:ae):FB:=memo (wr39 c)
theorem ok39{c:ae}(hc:Cok c):Ent 39 (w39 c):=aq (ay (f:=fun A=>f39 A) (ct:=ct39) (fun _ _ _ _=>rfl) (congrFun (congrFun e39 RT) HTr) i39 (af hc aN)) rfl (by kernel_rfl)
/-- crimp/patterns.Check -/
noncomputable def ct18(c:ae):ae:=tblF [(32,w32 c),(34,w34 c),(37,w37 c),(38,w38 c),(39,w39 c)] c
noncomputable def wr18(c:ae):FB:=f18 (BA ac aa (ct18 c))
noncomputable def w18(c:ae):FB:=wr18 c
theorem ok18{c:ae}(hc:Cok c):Ent 18 (w18 c):=ay (f:=fun A=>f18 A) (ct:=ct18) (fun _ _ _ _=>rfl) (congrFun (congrFun e18 RT) HTr) i18 (af hc (aC (ok32 hc) (aC (ok34 hc) (aC (ok37 hc) (aC (ok38 hc) (aC (ok39 hc) aN))))))
/-- crimp/corners.corner -/
noncomputable def ct19(c:ae):ae:=tblF [(32,w32 c)] c
noncomputable def wr19(c:ae):FB:=f19 (BA ac aa (ct19 c))
noncomputable def w19(c:ae):FB:=memo (wr19 c)
theorem ok19{c:ae}(hc:Cok c):Ent 19 (w19 c):=aq (ay (f:=fun A=>f19 A) (ct:=ct19) (fun _ _ _ _=>rfl) (congrFun (congrFun e19 RT) HTr) i19 (af hc (aC (ok32 hc) aN))) rfl (by kernel_rfl)
/-- crimp/corners.walk -/
noncomputable def ct20(c:ae):ae:=tblF [] c
noncomputable def wr20(c:ae):FB:=f20 (BA ac aa (ct20 c))
noncomputable def w20(c:ae):FB:=wr20 c
theorem ok20{c:ae}(hc:Cok c):Ent 20 (w20 c):=ay (f:=fun A=>f20 A) (ct:=ct20) (fun _ _ _ _=>rfl) (congrFun (congrFun e20 RT) HTr) i20 (af hc aN)
/-- slices.insertionSortCmpFunc[crimp/corners.Ray] -/
noncomputable def ct68(c:ae):ae:=tblF [] c
noncomputable def wr68(c:ae):FB:=f68 (BA ac aa (ct68 c))
noncomputable def w68(c:ae):FB:=wr68 c
theorem ok68{c:ae}(hc:Cok c):Ent 68 (w68 c):=ay (f:=fun A=>f68 A) (ct:=ct68) (fun _ _ _ _=>rfl) (congrFun (congrFun e68 RT) HTr) i68 (af hc aN)
/-- slices.pdqsortCmpFunc[crimp/corners.Ray] -/
noncomputable def ct47(c:ae):ae:=tblF [(68,w68 c)] c
noncomputable def wr47(c:ae):FB:=f47 (BA ac aa (ct47 c))
noncomputable def w47(c:ae):FB:=wr47 c
theorem ok47{c:ae}(hc:Cok c):Ent 47 (w47 c):=ay (f:=fun A=>f47 A) (ct:=ct47) (fun _ _ _ _=>rfl) (congrFun (congrFun e47 RT) HTr) i47 (af hc (aC (ok68 hc) aN))
/-- math/bits.Len64 -/
noncomputable def ct77(c:ae):ae:=tblF [] c
noncomputable def wr77(c:ae):FB:=f77 (BA ac aa (ct77 c))
noncomputable def w77(c:ae):FB:=memo (wr77 c)
theorem ok77{c:ae}(hc:Cok c):Ent 77 (w77 c):=aq (ay (f:=fun A=>f77 A) (ct:=ct77) (fun _ _ _ _=>rfl) (congrFun (congrFun e77 RT) HTr) i77 (af hc aN)) rfl (by kernel_rfl)
/-- math/bits.Len -/
noncomputable def ct48(c:ae):ae:=tblF [(77,w77 c)] c
noncomputable def wr48(c:ae):FB:=f48 (BA ac aa (ct48 c))
noncomputable def w48(c:ae):FB:=memo (wr48 c)
theorem ok48{c:ae}(hc:Cok c):Ent 48 (w48 c):=aq (ay (f:=fun A=>f48 A) (ct:=ct48) (fun _ _ _ _=>rfl) (congrFun (congrFun e48 RT) HTr) i48 (af hc (aC (ok77 hc) aN))) rfl (by kernel_rfl)
/-- slices.SortFunc[[]crimp/corners.Ray,crimp/corners.Ray] -/
noncomputable def ct22(c:ae):ae:=tblF [(47,w47 c),(48,w48 c)] c
noncomputable def wr22(c:ae):FB:=f22 (BA ac aa (ct22 c))
noncomputable def w22(c:ae):FB:=wr22 c
theorem ok22{c:ae}(hc:Cok c):Ent 22 (w22 c):=ay (f:=fun A=>f22 A) (ct:=ct22) (fun _ _ _ _=>rfl) (congrFun (congrFun e22 RT) HTr) i22 (af hc (aC (ok47 hc) (aC (ok48 hc) aN)))
/-- slices.Clip[[]crimp/corners.Ray,crimp/corners.Ray] -/
noncomputable def ct24(c:ae):ae:=tblF [] c
noncomputable def wr24(c:ae):FB:=f24 (BA ac aa (ct24 c))
noncomputable def w24(c:ae):FB:=wr24 c
theorem ok24{c:ae}(hc:Cok c):Ent 24 (w24 c):=ay (f:=fun A=>f24 A) (ct:=ct24) (fun _ _ _ _=>rfl) (congrFun (congrFun e24 RT) HTr) i24 (af hc aN)
/-- crimp/corners.Creases -/
noncomputable def ct7(c:ae):ae:=tblF [(18,w18 c),(19,w19 c),(20,w20 c),(22,w22 c),(24,w24 c)] c
noncomputable def wr7(c:ae):FB:=f7 (BA ac aa (ct7 c))
noncomputable def w7(c:ae):FB:=wr7 c
theorem ok7{c:ae}(hc:Cok c):Ent 7 (w7 c):=ay (f:=fun A=>f7 A) (ct:=ct7) (fun _ _ _ _=>rfl) (congrFun (congrFun e7 RT) HTr) i7 (af hc (aC (ok18 hc) (aC (ok19 hc) (aC (ok20 hc) (aC (ok22 hc) (aC (ok24 hc) aN))))))
/-- crimp/corners.Degree -/
noncomputable def ct8(c:ae):ae:=tblF [(7,w7 c)] c
noncomputable def wr8(c:ae):FB:=f8 (BA ac aa (ct8 c))
noncomputable def w8(c:ae):FB:=wr8 c
theorem ok8{c:ae}(hc:Cok c):Ent 8 (w8 c):=ay (f:=fun A=>f8 A) (ct:=ct8) (fun _ _ _ _=>rfl) (congrFun (congrFun e8 RT) HTr) i8 (af hc (aC (ok7 hc) aN))
/-- crimp/corners.Angles -/
noncomputable def ct9(c:ae):ae:=tblF [(7,w7 c)] c
noncomputable def wr9(c:ae):FB:=f9 (BA ac aa (ct9 c))
noncomputable def w9(c:ae):FB:=wr9 c
theorem ok9{c:ae}(hc:Cok c):Ent 9 (w9 c):=ay (f:=fun A=>f9 A) (ct:=ct9) (fun _ _ _ _=>rfl) (congrFun (congrFun e9 RT) HTr) i9 (af hc (aC (ok7 hc) aN))
/-- crimp/corners.Straight -/
noncomputable def ct10(c:ae):ae:=tblF [(7,w7 c)] c
noncomputable def wr10(c:ae):FB:=f10 (BA ac aa (ct10 c))
noncomputable def w10(c:ae):FB:=wr10 c
theorem ok10{c:ae}(hc:Cok c):Ent 10 (w10 c):=ay (f:=fun A=>f10 A) (ct:=ct10) (fun _ _ _ _=>rfl) (congrFun (congrFun e10 RT) HTr) i10 (af hc (aC (ok7 hc) aN))
noncomputable def ct49(c:ae):ae:=tblF [] c
noncomputable def wr49(c:ae):FB:=f49 (BA ac aa (ct49 c))
noncomputable def w49(c:ae):FB:=wr49 c
theorem ok49{c:ae}(hc:Cok c):Ent 49 (w49 c):=ay (f:=fun A=>f49 A) (ct:=ct49) (fun _ _ _ _=>rfl) (congrFun (congrFun e49 RT) HTr) i49 (af hc aN)
/-- crimp/corners.Around -/
noncomputable def ct25(c:ae):ae:=tblF [(19,w19 c),(20,w20 c),(49,w49 c)] c
noncomputable def wr25(c:ae):FB:=f25 (BA ac aa (ct25 c))
noncomputable def w25(c:ae):FB:=wr25 c
theorem ok25{c:ae}(hc:Cok c):Ent 25 (w25 c):=ay (f:=fun A=>f25 A) (ct:=ct25) (fun _ _ _ _=>rfl) (congrFun (congrFun e25 RT) HTr) i25 (af hc (aC (ok19 hc) (aC (ok20 hc) (aC (ok49 hc) aN))))
/-- crimp/crimplaw09.point -/
noncomputable def ct26(c:ae):ae:=tblF [] c
noncomputable def wr26(c:ae):FB:=f26 (BA ac aa (ct26 c))
noncomputable def w26(c:ae):FB:=memo (wr26 c)
theorem ok26{c:ae}(hc:Cok c):Ent 26 (w26 c):=aq (ay (f:=fun A=>f26 A) (ct:=ct26) (fun _ _ _ _=>rfl) (congrFun (congrFun e26 RT) HTr) i26 (af hc aN)) rfl (by kernel_rfl)
/-- crimp/crimplaw09.same -/
noncomputable def ct27(c:ae):ae:=tblF [] c
noncomputable def wr27(c:ae):FB:=f27 (BA ac aa (ct27 c))
noncomputable def w27(c:ae):FB:=wr27 c
theorem ok27{c:ae}(hc:Cok c):Ent 27 (w27 c):=ay (f:=fun A=>f27 A) (ct:=ct27) (fun _ _ _ _=>rfl) (congrFun (congrFun e27 RT) HTr) i27 (af hc aN)
/-- slices.Clip[[]crimp/sheets.Unit,crimp/sheets.Unit] -/
noncomputable def ct81(c:ae):ae:=tblF [] c
noncomputable def wr81(c:ae):FB:=f81 (BA ac aa (ct81 c))
noncomputable def w81(c:ae):FB:=wr81 c
theorem ok81{c:ae}(hc:Cok c):Ent 81 (w81 c):=ay (f:=fun A=>f81 A) (ct:=ct81) (fun _ _ _ _=>rfl) (congrFun (congrFun e81 RT) HTr) i81 (af hc aN)
/-- (crimp/sheets.Sheet).all -/
noncomputable def ct96(c:ae):ae:=tblF [] c
noncomputable def wr96(c:ae):FB:=f96 (BA ac aa (ct96 c))
noncomputable def w96(c:ae):FB:=wr96 c
theorem ok96{c:ae}(hc:Cok c):Ent 96 (w96 c):=ay (f:=fun A=>f96 A) (ct:=ct96) (fun _ _ _ _=>rfl) (congrFun (congrFun e96 RT) HTr) i96 (af hc aN)
/-- crimp/sheets.Units -/
noncomputable def ct78(c:ae):ae:=tblF [(32,w32 c),(81,w81 c),(96,w96 c)] c
noncomputable def wr78(c:ae):FB:=f78 (BA ac aa (ct78 c))
noncomputable def w78(c:ae):FB:=wr78 c
theorem ok78{c:ae}(hc:Cok c):Ent 78 (w78 c):=ay (f:=fun A=>f78 A) (ct:=ct78) (fun _ _ _ _=>rfl) (congrFun (congrFun e78 RT) HTr) i78 (af hc (aC (ok32 hc) (aC (ok81 hc) (aC (ok96 hc) aN))))
/-- crimp/cells.Corners -/
noncomputable def ct63(c:ae):ae:=tblF [(62,w62 c)] c
noncomputable def wr63(c:ae):FB:=f63 (BA ac aa (ct63 c))
noncomputable def w63(c:ae):FB:=memo (wr63 c)
theorem ok63{c:ae}(hc:Cok c):Ent 63 (w63 c):=aq (ay (f:=fun A=>f63 A) (ct:=ct63) (fun _ _ _ _=>rfl) (congrFun (congrFun e63 RT) HTr) i63 (af hc (aC (ok62 hc) aN))) rfl (by kernel_rfl)
/-- crimp/sheets.named -/
noncomputable def ct88(c:ae):ae:=tblF [(32,w32 c),(37,w37 c),(110,w110 c)] c
noncomputable def wr88(c:ae):FB:=f88 (BA ac aa (ct88 c))
noncomputable def w88(c:ae):FB:=memo (wr88 c)
theorem ok88{c:ae}(hc:Cok c):Ent 88 (w88 c):=aq (ay (f:=fun A=>f88 A) (ct:=ct88) (fun _ _ _ _=>rfl) (congrFun (congrFun e88 RT) HTr) i88 (af hc (aC (ok32 hc) (aC (ok37 hc) (aC (ok110 hc) aN))))) rfl (by kernel_rfl)
/-- crimp/sheets.Ends -/
noncomputable def ct64(c:ae):ae:=tblF [(63,w63 c),(88,w88 c)] c
noncomputable def wr64(c:ae):FB:=f64 (BA ac aa (ct64 c))
noncomputable def w64(c:ae):FB:=memo (wr64 c)
theorem ok64{c:ae}(hc:Cok c):Ent 64 (w64 c):=aq (ay (f:=fun A=>f64 A) (ct:=ct64) (fun _ _ _ _=>rfl) (congrFun (congrFun e64 RT) HTr) i64 (af hc (aC (ok63 hc) (aC (ok88 hc) aN)))) rfl (by kernel_rfl)
/-- crimp/lines.Check -/
noncomputable def ct99(c:ae):ae:=tblF [] c
noncomputable def wr99(c:ae):FB:=f99 (BA ac aa (ct99 c))
noncomputable def w99(c:ae):FB:=memo (wr99 c)
theorem ok99{c:ae}(hc:Cok c):Ent 99 (w99 c):=aq (ay (f:=fun A=>f99 A) (ct:=ct99) (fun _ _ _ _=>rfl) (congrFun (congrFun e99 RT) HTr) i99 (af hc aN)) rfl (by kernel_rfl)
/-- crimp/cells.Line -/
noncomputable def ct114(c:ae):ae:=tblF [(62,w62 c),(99,w99 c)] c
noncomputable def wr114(c:ae):FB:=f114 (BA ac aa (ct114 c))
noncomputable def w114(c:ae):FB:=memo (wr114 c)
theorem ok114{c:ae}(hc:Cok c):Ent 114 (w114 c):=aq (ay (f:=fun A=>f114 A) (ct:=ct114) (fun _ _ _ _=>rfl) (congrFun (congrFun e114 RT) HTr) i114 (af hc (aC (ok62 hc) (aC (ok99 hc) aN)))) rfl (by kernel_rfl)
/-- crimp/sheets.Line -/
noncomputable def ct97(c:ae):ae:=tblF [(88,w88 c),(114,w114 c)] c
noncomputable def wr97(c:ae):FB:=f97 (BA ac aa (ct97 c))
noncomputable def w97(c:ae):FB:=memo (wr97 c)
theorem ok97{c:ae}(hc:Cok c):Ent 97 (w97 c):=aq (ay (f:=fun A=>f97 A) (ct:=ct97) (fun _ _ _ _=>rfl) (congrFun (congrFun e97 RT) HTr) i97 (af hc (aC (ok88 hc) (aC (ok114 hc) aN)))) rfl (by kernel_rfl)
/-- crimp/segments.place -/
noncomputable def ct98(c:ae):ae:=tblF [] c
noncomputable def wr98(c:ae):FB:=f98 (BA ac aa (ct98 c))
noncomputable def w98(c:ae):FB:=memo (wr98 c)
theorem ok98{c:ae}(hc:Cok c):Ent 98 (w98 c):=aq (ay (f:=fun A=>f98 A) (ct:=ct98) (fun _ _ _ _=>rfl) (congrFun (congrFun e98 RT) HTr) i98 (af hc aN)) rfl (by kernel_rfl)
/-- crimp/segments.lies -/
noncomputable def ct79(c:ae):ae:=tblF [(64,w64 c),(97,w97 c),(98,w98 c)] c
noncomputable def wr79(c:ae):FB:=f79 (BA ac aa (ct79 c))
noncomputable def w79(c:ae):FB:=memo (wr79 c)
theorem ok79{c:ae}(hc:Cok c):Ent 79 (w79 c):=aq (ay (f:=fun A=>f79 A) (ct:=ct79) (fun _ _ _ _=>rfl) (congrFun (congrFun e79 RT) HTr) i79 (af hc (aC (ok64 hc) (aC (ok97 hc) (aC (ok98 hc) aN))))) rfl (by kernel_rfl)
/-- crimp/segments.pieces -/
noncomputable def ct50(c:ae):ae:=tblF [(78,w78 c),(79,w79 c)] c
noncomputable def wr50(c:ae):FB:=f50 (BA ac aa (ct50 c))
noncomputable def w50(c:ae):FB:=wr50 c
theorem ok50{c:ae}(hc:Cok c):Ent 50 (w50 c):=ay (f:=fun A=>f50 A) (ct:=ct50) (fun _ _ _ _=>rfl) (congrFun (congrFun e50 RT) HTr) i50 (af hc (aC (ok78 hc) (aC (ok79 hc) aN)))
/-- crimp/segments.ordinary -/
noncomputable def ct80(c:ae):ae:=tblF [(99,w99 c)] c
noncomputable def wr80(c:ae):FB:=f80 (BA ac aa (ct80 c))
noncomputable def w80(c:ae):FB:=memo (wr80 c)
theorem ok80{c:ae}(hc:Cok c):Ent 80 (w80 c):=aq (ay (f:=fun A=>f80 A) (ct:=ct80) (fun _ _ _ _=>rfl) (congrFun (congrFun e80 RT) HTr) i80 (af hc (aC (ok99 hc) aN))) rfl (by kernel_rfl)
/-- crimp/segments.units -/
noncomputable def ct51(c:ae):ae:=tblF [(80,w80 c),(81,w81 c)] c
noncomputable def wr51(c:ae):FB:=f51 (BA ac aa (ct51 c))
noncomputable def w51(c:ae):FB:=wr51 c
theorem ok51{c:ae}(hc:Cok c):Ent 51 (w51 c):=ay (f:=fun A=>f51 A) (ct:=ct51) (fun _ _ _ _=>rfl) (congrFun (congrFun e51 RT) HTr) i51 (af hc (aC (ok80 hc) (aC (ok81 hc) aN)))
/-- slices.insertionSortCmpFunc[crimp/patterns.Crease] -/
noncomputable def ct100(c:ae):ae:=tblF [] c
noncomputable def wr100(c:ae):FB:=f100 (BA ac aa (ct100 c))
noncomputable def w100(c:ae):FB:=wr100 c
theorem ok100{c:ae}(hc:Cok c):Ent 100 (w100 c):=ay (f:=fun A=>f100 A) (ct:=ct100) (fun _ _ _ _=>rfl) (congrFun (congrFun e100 RT) HTr) i100 (af hc aN)
/-- slices.pdqsortCmpFunc[crimp/patterns.Crease] -/
noncomputable def ct82(c:ae):ae:=tblF [(100,w100 c)] c
noncomputable def wr82(c:ae):FB:=f82 (BA ac aa (ct82 c))
noncomputable def w82(c:ae):FB:=wr82 c
theorem ok82{c:ae}(hc:Cok c):Ent 82 (w82 c):=ay (f:=fun A=>f82 A) (ct:=ct82) (fun _ _ _ _=>rfl) (congrFun (congrFun e82 RT) HTr) i82 (af hc (aC (ok100 hc) aN))
/-- slices.SortFunc[[]crimp/patterns.Crease,crimp/patterns.Crease] -/
noncomputable def ct52(c:ae):ae:=tblF [(48,w48 c),(82,w82 c)] c
noncomputable def wr52(c:ae):FB:=f52 (BA ac aa (ct52 c))
noncomputable def w52(c:ae):FB:=wr52 c
theorem ok52{c:ae}(hc:Cok c):Ent 52 (w52 c):=ay (f:=fun A=>f52 A) (ct:=ct52) (fun _ _ _ _=>rfl) (congrFun (congrFun e52 RT) HTr) i52 (af hc (aC (ok48 hc) (aC (ok82 hc) aN)))
/-- slices.Clip[[]crimp/patterns.Crease,crimp/patterns.Crease] -/
noncomputable def ct55(c:ae):ae:=tblF [] c
noncomputable def wr55(c:ae):FB:=f55 (BA ac aa (ct55 c))
noncomputable def w55(c:ae):FB:=wr55 c
theorem ok55{c:ae}(hc:Cok c):Ent 55 (w55 c):=ay (f:=fun A=>f55 A) (ct:=ct55) (fun _ _ _ _=>rfl) (congrFun (congrFun e55 RT) HTr) i55 (af hc aN)
/-- crimp/segments.Pattern -/
noncomputable def ct28(c:ae):ae:=tblF [(32,w32 c),(50,w50 c),(51,w51 c),(52,w52 c),(55,w55 c)] c
noncomputable def wr28(c:ae):FB:=f28 (BA ac aa (ct28 c))
noncomputable def w28(c:ae):FB:=wr28 c
theorem ok28{c:ae}(hc:Cok c):Ent 28 (w28 c):=ay (f:=fun A=>f28 A) (ct:=ct28) (fun _ _ _ _=>rfl) (congrFun (congrFun e28 RT) HTr) i28 (af hc (aC (ok32 hc) (aC (ok50 hc) (aC (ok51 hc) (aC (ok52 hc) (aC (ok55 hc) aN))))))
/-- crimp/crimplaw09.lives -/
noncomputable def ct12(c:ae):ae:=tblF [(6,w6 c),(7,w7 c),(9,w9 c),(10,w10 c),(25,w25 c),(26,w26 c),(27,w27 c),(28,w28 c)] c
noncomputable def wr12(c:ae):FB:=f12 (BA ac aa (ct12 c))
noncomputable def w12(c:ae):FB:=memo (wr12 c)
theorem ok12{c:ae}(hc:Cok c):Ent 12 (w12 c):=aq (ay (f:=fun A=>f12 A) (ct:=ct12) (fun _ _ _ _=>rfl) (congrFun (congrFun e12 RT) HTr) i12 (af hc (aC (ok6 hc) (aC (ok7 hc) (aC (ok9 hc) (aC (ok10 hc) (aC (ok25 hc) (aC (ok26 hc) (aC (ok27 hc) (aC (ok28 hc) aN)))))))))) rfl (by kernel_rfl)
/-- crimp/crimpref05.Ends -/
noncomputable def ct13(c:ae):ae:=tblF [(29,w29 c),(30,w30 c)] c
noncomputable def wr13(c:ae):FB:=f13 (BA ac aa (ct13 c))
noncomputable def w13(c:ae):FB:=memo (wr13 c)
theorem ok13{c:ae}(hc:Cok c):Ent 13 (w13 c):=aq (ay (f:=fun A=>f13 A) (ct:=ct13) (fun _ _ _ _=>rfl) (congrFun (congrFun e13 RT) HTr) i13 (af hc (aC (ok29 hc) (aC (ok30 hc) aN)))) rfl (by kernel_rfl)
/-- crimp/crimpref09.Is -/
noncomputable def ct14(c:ae):ae:=tblF [] c
noncomputable def wr14(c:ae):FB:=f14 (BA ac aa (ct14 c))
noncomputable def w14(c:ae):FB:=memo (wr14 c)
theorem ok14{c:ae}(hc:Cok c):Ent 14 (w14 c):=aq (ay (f:=fun A=>f14 A) (ct:=ct14) (fun _ _ _ _=>rfl) (congrFun (congrFun e14 RT) HTr) i14 (af hc aN)) rfl (by kernel_rfl)
/-- crimp/crimpref09.Dir -/
noncomputable def ct15(c:ae):ae:=tblF [] c
noncomputable def wr15(c:ae):FB:=f15 (BA ac aa (ct15 c))
noncomputable def w15(c:ae):FB:=memo (wr15 c)
theorem ok15{c:ae}(hc:Cok c):Ent 15 (w15 c):=aq (ay (f:=fun A=>f15 A) (ct:=ct15) (fun _ _ _ _=>rfl) (congrFun (congrFun e15 RT) HTr) i15 (af hc aN)) rfl (by kernel_rfl)
/-- crimp/crimplaw09.CornersBoth -/
noncomputable def ct4(c:ae):ae:=tblF [(5,w5 c),(6,w6 c),(7,w7 c),(8,w8 c),(12,w12 c),(13,w13 c),(14,w14 c),(15,w15 c)] c
noncomputable def wr4(c:ae):FB:=f4 (BA ac aa (ct4 c))
noncomputable def w4(c:ae):FB:=wr4 c
theorem ok4{c:ae}(hc:Cok c):Ent 4 (w4 c):=ay (f:=fun A=>f4 A) (ct:=ct4) (fun _ _ _ _=>rfl) (congrFun (congrFun e4 RT) HTr) i4 (af hc (aC (ok5 hc) (aC (ok6 hc) (aC (ok7 hc) (aC (ok8 hc) (aC (ok12 hc) (aC (ok13 hc) (aC (ok14 hc) (aC (ok15 hc) aN)))))))))
/-- slices.BinarySearchFunc[[]crimp/patterns.Crease,crimp/patterns.Crease,crimp/sheets.Unit] -/
noncomputable def ct89(c:ae):ae:=tblF [] c
noncomputable def wr89(c:ae):FB:=f89 (BA ac aa (ct89 c))
noncomputable def w89(c:ae):FB:=wr89 c
theorem ok89{c:ae}(hc:Cok c):Ent 89 (w89 c):=ay (f:=fun A=>f89 A) (ct:=ct89) (fun _ _ _ _=>rfl) (congrFun (congrFun e89 RT) HTr) i89 (af hc aN)
/-- crimp/patterns.find -/
noncomputable def ct67(c:ae):ae:=tblF [(89,w89 c)] c
noncomputable def wr67(c:ae):FB:=f67 (BA ac aa (ct67 c))
noncomputable def w67(c:ae):FB:=wr67 c
theorem ok67{c:ae}(hc:Cok c):Ent 67 (w67 c):=ay (f:=fun A=>f67 A) (ct:=ct67) (fun _ _ _ _=>rfl) (congrFun (congrFun e67 RT) HTr) i67 (af hc (aC (ok89 hc) aN))
/-- crimp/patterns.at -/
noncomputable def ct46(c:ae):ae:=tblF [(18,w18 c),(37,w37 c),(67,w67 c)] c
noncomputable def wr46(c:ae):FB:=f46 (BA ac aa (ct46 c))
noncomputable def w46(c:ae):FB:=wr46 c
theorem ok46{c:ae}(hc:Cok c):Ent 46 (w46 c):=ay (f:=fun A=>f46 A) (ct:=ct46) (fun _ _ _ _=>rfl) (congrFun (congrFun e46 RT) HTr) i46 (af hc (aC (ok18 hc) (aC (ok37 hc) (aC (ok67 hc) aN))))
/-- crimp/patterns.Kind -/
noncomputable def ct21(c:ae):ae:=tblF [(46,w46 c)] c
noncomputable def wr21(c:ae):FB:=f21 (BA ac aa (ct21 c))
noncomputable def w21(c:ae):FB:=wr21 c
theorem ok21{c:ae}(hc:Cok c):Ent 21 (w21 c):=ay (f:=fun A=>f21 A) (ct:=ct21) (fun _ _ _ _=>rfl) (congrFun (congrFun e21 RT) HTr) i21 (af hc (aC (ok46 hc) aN))
/-- crimp/corners.Creases$1 -/
noncomputable def ct23(c:ae):ae:=tblF [] c
noncomputable def wr23(c:ae):FB:=f23 (BA ac aa (ct23 c))
noncomputable def w23(c:ae):FB:=memo (wr23 c)
theorem ok23{c:ae}(hc:Cok c):Ent 23 (w23 c):=aq (ay (f:=fun A=>f23 A) (ct:=ct23) (fun _ _ _ _=>rfl) (congrFun (congrFun e23 RT) HTr) i23 (af hc aN)) rfl (by kernel_rfl)
/-- crimp/patterns.isKind -/
noncomputable def ct36(c:ae):ae:=tblF [] c
noncomputable def wr36(c:ae):FB:=f36 (BA ac aa (ct36 c))
noncomputable def w36(c:ae):FB:=memo (wr36 c)
theorem ok36{c:ae}(hc:Cok c):Ent 36 (w36 c):=aq (ay (f:=fun A=>f36 A) (ct:=ct36) (fun _ _ _ _=>rfl) (congrFun (congrFun e36 RT) HTr) i36 (af hc aN)) rfl (by kernel_rfl)
/-- crimp/patterns.Check$1 -/
noncomputable def ct35(c:ae):ae:=tblF [(36,w36 c)] c
noncomputable def wr35(c:ae):FB:=f35 (BA ac aa (ct35 c))
noncomputable def w35(c:ae):FB:=memo (wr35 c)
theorem ok35{c:ae}(hc:Cok c):Ent 35 (w35 c):=aq (ay (f:=fun A=>f35 A) (ct:=ct35) (fun _ _ _ _=>rfl) (congrFun (congrFun e35 RT) HTr) i35 (af hc (aC (ok36 hc) aN))) rfl (by kernel_rfl)
/-- crimp/corners.touches -/
noncomputable def ct42(c:ae):ae:=tblF [(63,w63 c)] c
noncomputable def wr42(c:ae):FB:=f42 (BA ac aa (ct42 c))
noncomputable def w42(c:ae):FB:=memo (wr42 c)
theorem ok42{c:ae}(hc:Cok c):Ent 42 (w42 c):=aq (ay (f:=fun A=>f42 A) (ct:=ct42) (fun _ _ _ _=>rfl) (congrFun (congrFun e42 RT) HTr) i42 (af hc (aC (ok63 hc) aN))) rfl (by kernel_rfl)
/-- crimp/corners.leaves -/
noncomputable def ct43(c:ae):ae:=tblF [] c
noncomputable def wr43(c:ae):FB:=f43 (BA ac aa (ct43 c))
noncomputable def w43(c:ae):FB:=memo (wr43 c)
theorem ok43{c:ae}(hc:Cok c):Ent 43 (w43 c):=aq (ay (f:=fun A=>f43 A) (ct:=ct43) (fun _ _ _ _=>rfl) (congrFun (congrFun e43 RT) HTr) i43 (af hc aN)) rfl (by kernel_rfl)
/-- crimp/corners.sign -/
noncomputable def ct65(c:ae):ae:=tblF [] c
noncomputable def wr65(c:ae):FB:=f65 (BA ac aa (ct65 c))
noncomputable def w65(c:ae):FB:=memo (wr65 c)
theorem ok65{c:ae}(hc:Cok c):Ent 65 (w65 c):=aq (ay (f:=fun A=>f65 A) (ct:=ct65) (fun _ _ _ _=>rfl) (congrFun (congrFun e65 RT) HTr) i65 (af hc aN)) rfl (by kernel_rfl)
/-- slices.Index[[]crimp/api.Point,crimp/api.Point] -/
noncomputable def ct66(c:ae):ae:=tblF [] c
noncomputable def wr66(c:ae):FB:=f66 (BA ac aa (ct66 c))
noncomputable def w66(c:ae):FB:=wr66 c
theorem ok66{c:ae}(hc:Cok c):Ent 66 (w66 c):=ay (f:=fun A=>f66 A) (ct:=ct66) (fun _ _ _ _=>rfl) (congrFun (congrFun e66 RT) HTr) i66 (af hc aN)
/-- crimp/corners.direction -/
noncomputable def ct44(c:ae):ae:=tblF [(64,w64 c),(65,w65 c),(66,w66 c)] c
noncomputable def wr44(c:ae):FB:=f44 (BA ac aa (ct44 c))
noncomputable def w44(c:ae):FB:=memo (wr44 c)
theorem ok44{c:ae}(hc:Cok c):Ent 44 (w44 c):=aq (ay (f:=fun A=>f44 A) (ct:=ct44) (fun _ _ _ _=>rfl) (congrFun (congrFun e44 RT) HTr) i44 (af hc (aC (ok64 hc) (aC (ok65 hc) (aC (ok66 hc) aN))))) rfl (by kernel_rfl)
/-- crimp/corners.walk$1 -/
noncomputable def ct40(c:ae):ae:=tblF [(37,w37 c),(41,w41 c),(42,w42 c),(43,w43 c),(44,w44 c),(45,w45 c)] c
noncomputable def wr40(c:ae):FB:=f40 (BA ac aa (ct40 c))
noncomputable def w40(c:ae):FB:=wr40 c
theorem ok40{c:ae}(hc:Cok c):Ent 40 (w40 c):=ay (f:=fun A=>f40 A) (ct:=ct40) (fun _ _ _ _=>rfl) (congrFun (congrFun e40 RT) HTr) i40 (af hc (aC (ok37 hc) (aC (ok41 hc) (aC (ok42 hc) (aC (ok43 hc) (aC (ok44 hc) (aC (ok45 hc) aN)))))))
noncomputable def ct108(c:ae):ae:=tblF [] c
noncomputable def wr108(c:ae):FB:=f108 (BA ac aa (ct108 c))
noncomputable def w108(c:ae):FB:=memo (wr108 c)
theorem ok108{c:ae}(hc:Cok c):Ent 108 (w108 c):=aq (ay (f:=fun A=>f108 A) (ct:=ct108) (fun _ _ _ _=>rfl) (congrFun (congrFun e108 RT) HTr) i108 (af hc aN)) rfl (by kernel_rfl)
noncomputable def ct83(c:ae):ae:=tblF [(108,w108 c)] c
noncomputable def wr83(c:ae):FB:=f83 (BA ac aa (ct83 c))
noncomputable def w83(c:ae):FB:=memo (wr83 c)
theorem ok83{c:ae}(hc:Cok c):Ent 83 (w83 c):=aq (ay (f:=fun A=>f83 A) (ct:=ct83) (fun _ _ _ _=>rfl) (congrFun (congrFun e83 RT) HTr) i83 (af hc (aC (ok108 hc) aN))) rfl (by kernel_rfl)
/-- crimp/segments.order[int] -/
noncomputable def ct54(c:ae):ae:=tblF [(83,w83 c)] c
noncomputable def wr54(c:ae):FB:=f54 (BA ac aa (ct54 c))
noncomputable def w54(c:ae):FB:=wr54 c
theorem ok54{c:ae}(hc:Cok c):Ent 54 (w54 c):=ay (f:=fun A=>f54 A) (ct:=ct54) (fun _ _ _ _=>rfl) (congrFun (congrFun e54 RT) HTr) i54 (af hc (aC (ok83 hc) aN))
/-- crimp/segments.Pattern$1 -/
noncomputable def ct53(c:ae):ae:=tblF [(54,w54 c)] c
noncomputable def wr53(c:ae):FB:=f53 (BA ac aa (ct53 c))
noncomputable def w53(c:ae):FB:=memo (wr53 c)
theorem ok53{c:ae}(hc:Cok c):Ent 53 (w53 c):=aq (ay (f:=fun A=>f53 A) (ct:=ct53) (fun _ _ _ _=>rfl) (congrFun (congrFun e53 RT) HTr) i53 (af hc (aC (ok54 hc) aN))) rfl (by kernel_rfl)
/-- crimp/patterns.find$1 -/
noncomputable def ct90(c:ae):ae:=tblF [(38,w38 c),(39,w39 c)] c
noncomputable def wr90(c:ae):FB:=f90 (BA ac aa (ct90 c))
noncomputable def w90(c:ae):FB:=memo (wr90 c)
theorem ok90{c:ae}(hc:Cok c):Ent 90 (w90 c):=aq (ay (f:=fun A=>f90 A) (ct:=ct90) (fun _ _ _ _=>rfl) (congrFun (congrFun e90 RT) HTr) i90 (af hc (aC (ok38 hc) (aC (ok39 hc) aN)))) rfl (by kernel_rfl)
/-- crimp/sheets.Count -/
noncomputable def ct113(c:ae):ae:=tblF [(32,w32 c)] c
noncomputable def wr113(c:ae):FB:=f113 (BA ac aa (ct113 c))
noncomputable def w113(c:ae):FB:=memo (wr113 c)
theorem ok113{c:ae}(hc:Cok c):Ent 113 (w113 c):=aq (ay (f:=fun A=>f113 A) (ct:=ct113) (fun _ _ _ _=>rfl) (congrFun (congrFun e113 RT) HTr) i113 (af hc (aC (ok32 hc) aN))) rfl (by kernel_rfl)
/-- (crimp/sheets.Sheet).all$1 -/
noncomputable def ct112(c:ae):ae:=tblF [(61,w61 c),(113,w113 c)] c
noncomputable def wr112(c:ae):FB:=f112 (BA ac aa (ct112 c))
noncomputable def w112(c:ae):FB:=wr112 c
theorem ok112{c:ae}(hc:Cok c):Ent 112 (w112 c):=ay (f:=fun A=>f112 A) (ct:=ct112) (fun _ _ _ _=>rfl) (congrFun (congrFun e112 RT) HTr) i112 (af hc (aC (ok61 hc) (aC (ok113 hc) aN)))
theorem y_of{κ:Nat}{g:ae→List Value→Nat→FB}{ct:ae→ae}{c:ae}(h0:∀vs l ls h K,mp (BA ac aa (ct c)) (xc 0) ac drN (aa κ) vs l ls h K=g c vs l ls h K)(hc:Cok (ct c)):YOk cc ac aa κ (g c):=by
 intro vs l ls h K w st pd xs e hy hk
 rw[←h0]at hk
 obtain⟨b,h',a1,a3⟩:=sA (X:=xc 0) (BA_ok (w:=w) hc) pP (gY e) rfl rfl rfl rfl hy hk
 exact⟨b,h',a1,a3⟩
noncomputable def ctY112(c:ae):ae:=tblF [(21,w21 c)] c
noncomputable def bY112(c:ae)(vs:List Value)(lp:Nat):FB:=fun ls h K=>ucVB vs (fun x8 a9=>chkB x8 ( ucVB a9 (fun V b0=>chkB V ( uc0B b0 ( unIB ls (fun n12 b1=>unIB b1 (fun n14 b2=>unIB b2 (fun n16 b3=>unIB b3 (fun n18 b4=>un0B b4 (newB (.cells [(.int .i64 (.ofNat (nat_lit 0))),(.int .i64 (.ofNat (nat_lit 0))),(.int .u8 (.ofNat (nat_lit 0)))] 3 true) h (fun O h21=>stB (.pointer (some ⟨O,0,none⟩)) [(.int .i64 n14),(.int .i64 n16),(.int .u8 n18)] h21 (fun f1 h23=>lp1B lp h23 (fun h24=>lgB cc 3 x8 h24 (fun b5=>ucIB .i64 b5 (fun n26 b6=>ucIB .i64 b6 (fun n28 b7=>ucVB b7 (fun a0 b8=>chkB a0 ( uc0B b8 ( optB (fdP 1 (.pointer (some ⟨O,0,none⟩))) (fun a1=>chkB a1 ( optB (fdP 0 a1) (fun a2=>chkB a2 ( lgB cc 1 a2 h24 (fun b9=>ucIB .i64 b9 (fun n35 c0=>uc0B c0 ( optB (fdP 1 (.pointer (some ⟨O,0,none⟩))) (fun a3=>chkB a3 ( optB (fdP 1 a3) (fun a4=>chkB a4 ( lgB cc 1 a4 h24 (fun c1=>ucIB .u8 c1 (fun n40 d0=>uc0B d0 ( tR (ctY112 c) 21 [.i n26,.i n28,.v a0,.i n35,.i n40] h24 (fun d1 U=>unIB d1 (fun n44 d2=>unIB d2 (fun n46 d3=>un0B d3 (joinB (fun d4 d5=>un0B d4 (lp2B lp none d5 (fun d6=>K [.b true] d6))) (fun a5=>cB ( a5 [] U) ( lgB cc 1 V U (fun d7=>ucVB d7 (fun a6 d8=>chkB a6 ( uc0B d8 ( optB (fdP 0 (.pointer (some ⟨O,0,none⟩))) (fun a7=>chkB a7 ( lgB cc 1 a7 U (fun d9=>ucIB .i64 d9 (fun n58 e0=>uc0B e0 ( newB (.cells [(.int .i64 n58),(.int .u8 n44)] 2 true) U (fun e1 h61=>apB aa cc 2 16 a6 (.slice (some ⟨e1,0,(some 12)⟩) 1 2) h61 (fun e2 e3=>ucVB e2 (fun a8 f0=>chkB a8 ( uc0B f0 ( stB V [a8] e3 (fun f2 h67=>a5 [] h67)))))))))))))))) (notK (eqZK n44 (.ofNat (nat_lit 0))))))))))))))))))))))))))))))))))))))))))
theorem pfY112(c:ae)(vs:List Value)(lp:Nat)(ls:List Lf)(h:HTr)(K:List Lf→HTr→RT):y112 (BA ac aa (ctY112 c)) vs lp ls h K=bY112 c vs lp ls h K:=lM (fun x8 l9=>fZ (lM (fun x10 l11=>fZ (ie (jC (fun n12 l13=>jC (fun n14 l15=>jC (fun n16 l17=>jC (fun n18 l19=>q_un0 (q_new (fun m20 h21=>q_st (fun l22 h23=>q_lp1 (fun h24=>q_lg (fun l25=>rG (fun n26 l27=>rG (fun n28 l29=>lM (fun x30 l31=>fZ (ie (q_opt (fun x32=>fZ (q_opt (fun x33=>fZ (q_lg (fun l34=>rG (fun n35 l36=>ie (q_opt (fun x37=>fZ (q_opt (fun x38=>fZ (q_lg (fun l39=>rG (fun n40 l41=>ie (q_callD (fun l42 h43=>jC (fun n44 l45=>jC (fun n46 l47=>q_un0 (q_neq (q_join (fun l49 h50=>q_un0 (q_lp2 (fun h51=>rfl))) (fun j52=>q_cond (q_lg (fun l53=>lM (fun x54 l55=>fZ (ie (q_opt (fun x56=>fZ (q_lg (fun l57=>rG (fun n58 l59=>ie (q_new (fun m60 h61=>q_ap (fun l62 h63=>lM (fun x64 l65=>fZ (ie (q_st (fun l66 h67=>rfl)))))))))))))))) (rfl))))))))))))))))))))))))))))))))))))))))
theorem okY112{c:ae}(hc:Cok c):YOk cc ac aa 112 (bY112 c):=y_of (g:=bY112) (ct:=ctY112) (fun vs l ls h K=>(congrFun (congrFun (congrFun (congrFun (congrFun (congrFun (congrFun (congrFun ey112 RT) HTr) _) vs) l) ls) h) K).symm.trans (pfY112 c vs l ls h K)) (af hc (by
  intro p hp
  simp only[List.mem_cons,List.not_mem_nil,or_false]at hp
  subst hp
  exact ok21 hc))
noncomputable def ctY400(c:ae):ae:=tblF [] c
noncomputable def bY400(c:ae)(vs:List Value)(lp:Nat):FB:=fun ls h K=>ucVB vs (fun x8 V=>chkB x8 ( uc0B V ( unIB ls (fun n10 a0=>unIB a0 (fun n12 a1=>unIB a1 (fun n14 a2=>unIB a2 (fun n16 a3=>un0B a3 (lp1B lp h (fun h18=>lgB cc 1 x8 h18 (fun a4=>ucVB a4 (fun O a5=>chkB O ( uc0B a5 ( newB (.cells [(.int .i64 n10)] 1 true) h18 (fun a6 h23=>apB aa cc 1 8 O (.slice (some ⟨a6,0,(some 11)⟩) 1 2) h23 (fun a7 a8=>ucVB a7 (fun U a9=>chkB U ( uc0B a9 ( stB x8 [U] a8 (fun b2 b0=>lp2B lp none b0 (fun b1=>K [.b true] b1))))))))))))))))))))
theorem pfY400(c:ae)(vs:List Value)(lp:Nat)(ls:List Lf)(h:HTr)(K:List Lf→HTr→RT):y400 (BA ac aa (ctY400 c)) vs lp ls h K=bY400 c vs lp ls h K:=lM (fun x8 l9=>fZ (ie (jC (fun n10 l11=>jC (fun n12 l13=>jC (fun n14 l15=>jC (fun n16 l17=>q_un0 (q_lp1 (fun h18=>q_lg (fun l19=>lM (fun x20 l21=>fZ (ie (q_new (fun m22 h23=>q_ap (fun l24 h25=>lM (fun x26 l27=>fZ (ie (q_st (fun l28 h29=>q_lp2 (fun h30=>rfl))))))))))))))))))))
theorem okY400{c:ae}(hc:Cok c):YOk cc ac aa 400 (bY400 c):=y_of (g:=bY400) (ct:=ctY400) (fun vs l ls h K=>(congrFun (congrFun (congrFun (congrFun (congrFun (congrFun (congrFun (congrFun ey400 RT) HTr) _) vs) l) ls) h) K).symm.trans (pfY400 c vs l ls h K)) (af hc (by
  intro p hp
  cases hp))
noncomputable def ctY1248(c:ae):ae:=tblF [] c
noncomputable def py(c:ae)(vs:List Value)(lp:Nat):FB:=fun ls h K=>ucVB vs (fun x8 a0=>chkB x8 ( uc0B a0 ( unIB ls (fun n10 a1=>unIB a1 (fun n12 a2=>un0B a2 (newB (.cells [(.int .i64 (.ofNat (nat_lit 0))),(.int .u8 (.ofNat (nat_lit 0)))] 2 true) h (fun O a3=>stB (.pointer (some ⟨O,0,none⟩)) [(.int .i64 n10),(.int .u8 n12)] a3 (fun b5 a4=>lp1B lp a4 (fun h18=>lgB cc 1 x8 h18 (fun a5=>ucVB a5 (fun U a6=>chkB U ( uc0B a6 ( lgB cc 2 (.pointer (some ⟨O,0,none⟩)) h18 (fun a7=>ucIB .i64 a7 (fun n23 a8=>ucIB .u8 a8 (fun n25 a9=>uc0B a9 ( newB (.cells [(.int .i64 n23),(.int .u8 n25)] 2 true) h18 (fun b0 b1=>apB aa cc 2 16 U (.slice (some ⟨b0,0,(some 12)⟩) 1 2) b1 (fun b2 b3=>ucVB b2 (fun V b4=>chkB V ( uc0B b4 ( stB x8 [V] b3 (fun b6 h34=>lp2B lp none h34 (fun h35=>K [.b true] h35))))))))))))))))))))))))
theorem pfY1248(c:ae)(vs:List Value)(lp:Nat)(ls:List Lf)(h:HTr)(K:List Lf→HTr→RT):y1248 (BA ac aa (ctY1248 c)) vs lp ls h K=py c vs lp ls h K:=lM (fun x8 l9=>fZ (ie (jC (fun n10 l11=>jC (fun n12 l13=>q_un0 (q_new (fun m14 h15=>q_st (fun l16 h17=>q_lp1 (fun h18=>q_lg (fun l19=>lM (fun x20 l21=>fZ (ie (q_lg (fun l22=>rG (fun n23 l24=>rG (fun n25 l26=>ie (q_new (fun m27 h28=>q_ap (fun l29 h30=>lM (fun x31 l32=>fZ (ie (q_st (fun l33 h34=>q_lp2 (fun h35=>rfl))))))))))))))))))))))))
theorem okY1248{c:ae}(hc:Cok c):YOk cc ac aa 1248 (py c):=y_of (g:=py) (ct:=ctY1248) (fun vs l ls h K=>(congrFun (congrFun (congrFun (congrFun (congrFun (congrFun (congrFun (congrFun ey1248 RT) HTr) _) vs) l) ls) h) K).symm.trans (pfY1248 c vs l ls h K)) (af hc (by
  intro p hp
  cases hp))
noncomputable def tabW(c:ae):Tr FB:=(.node nf (.node nf (.node nf (.node (w7 c) (.node (w15 c) (.node (w31 c) (.node (w63 c) .leaf .leaf) .leaf) (.node (w47 c) (.node (w79 c) .leaf .leaf) .leaf)) (.node (w23 c) (.node (w39 c) .leaf .leaf) (.node (w55 c) (.node (w87 c) .leaf .leaf) .leaf))) (.node nf (.node (w19 c) (.node (w35 c) (.node (w67 c) .leaf .leaf) (.node (w99 c) .leaf .leaf)) (.node (w51 c) (.node (w83 c) .leaf .leaf) .leaf)) (.node (w27 c) (.node (w43 c) .leaf .leaf) (.node (w59 c) .leaf .leaf)))) (.node (w5 c) (.node (w9 c) (.node (w17 c) (.node (w33 c) (.node (w65 c) .leaf .leaf) (.node (w97 c) .leaf .leaf)) (.node (w49 c) (.node (w81 c) .leaf .leaf) (.node (w113 c) .leaf .leaf))) (.node (w25 c) (.node (w41 c) .leaf .leaf) (.node (w57 c) (.node (w89 c) .leaf .leaf) .leaf))) (.node (w13 c) (.node (w21 c) (.node (w37 c) .leaf .leaf) (.node (w53 c) (.node (w85 c) .leaf .leaf) .leaf)) (.node (w29 c) (.node (w45 c) (.node (w77 c) .leaf .leaf) (.node (w109 c) .leaf .leaf)) (.node (w61 c) .leaf .leaf))))) (.node nf (.node (w4 c) (.node (w8 c) (.node (w16 c) (.node (w32 c) (.node (w64 c) .leaf .leaf) (.node (w96 c) .leaf .leaf)) (.node (w48 c) (.node (w80 c) .leaf .leaf) (.node (w112 c) .leaf .leaf))) (.node (w24 c) (.node (w40 c) .leaf .leaf) (.node (w56 c) (.node (w88 c) .leaf .leaf) .leaf))) (.node (w12 c) (.node (w20 c) (.node (w36 c) (.node (w68 c) .leaf .leaf) (.node (w100 c) .leaf .leaf)) (.node (w52 c) (.node (w84 c) .leaf .leaf) .leaf)) (.node (w28 c) (.node (w44 c) .leaf (.node (w108 c) .leaf .leaf)) (.node (w60 c) .leaf .leaf)))) (.node (w6 c) (.node (w10 c) (.node (w18 c) (.node (w34 c) (.node (w66 c) .leaf .leaf) (.node (w98 c) .leaf .leaf)) (.node (w50 c) (.node (w82 c) .leaf .leaf) (.node (w114 c) .leaf .leaf))) (.node (w26 c) (.node (w42 c) .leaf .leaf) (.node (w58 c) (.node (w90 c) .leaf .leaf) .leaf))) (.node (w14 c) (.node (w22 c) (.node (w38 c) .leaf .leaf) (.node (w54 c) (.node (w86 c) .leaf .leaf) .leaf)) (.node (w30 c) (.node (w46 c) (.node (w78 c) .leaf .leaf) (.node (w110 c) .leaf .leaf)) (.node (w62 c) .leaf .leaf))))))
noncomputable def stepF(c:ae):ae:=fun ck=>match ck with
 | .f f=>match Nat.blt f 115 with
  |true=>(bi f).get nf (tabW c)
  |false=>nf
 | .y κ vs l=>lookY [(112,bY112 c),(400,bY400 c),(1248,py c)] κ (fun vs l ls h K=>mp (BA ac aa c) (xc 0) ac drN (aa κ) vs l ls h K) vs l
noncomputable def runF(n:Nat):ae:=Nat.rec (motive:=fun _=>ae) (fun _ _ _ _=>none) (fun _ c=>stepF c) n
theorem di{k:Nat}(h1:(fun c=>(bi k).get nf (tabW c))=fun _=>nf)(c:ae):Ent k ((bi k).get nf (tabW c)):=by
 intro ls h K w hls hk
 rw[congrFun h1 c]at hk
 cases hk
theorem az{k:Nat}{g:ae→FB}(h1:(fun c=>(bi k).get nf (tabW c))=g){c:ae}(h:Ent k (g c)):Ent k ((bi k).get nf (tabW c)):=by
 rw[congrFun h1 c];exact h
theorem tabW_ok{c:ae}(hc:Cok c):∀f,Nat.blt f 115=true→Ent f ((bi f).get nf (tabW c))
 |0,_=>di (by kernel_rfl) c
 |1,_=>di (by kernel_rfl) c
 |2,_=>di (by kernel_rfl) c
 |3,_=>di (by kernel_rfl) c
 |4,_=>az (g:=fun c=>w4 c) (by kernel_rfl) (ok4 hc)
 |5,_=>az (g:=fun c=>w5 c) (by kernel_rfl) (ok5 hc)
 |6,_=>az (g:=fun c=>w6 c) (by kernel_rfl) (ok6 hc)
 |7,_=>az (g:=fun c=>w7 c) (by kernel_rfl) (ok7 hc)
 |8,_=>az (g:=fun c=>w8 c) (by kernel_rfl) (ok8 hc)
 |9,_=>az (g:=fun c=>w9 c) (by kernel_rfl) (ok9 hc)
 |10,_=>az (g:=fun c=>w10 c) (by kernel_rfl) (ok10 hc)
 |11,_=>di (by kernel_rfl) c
 |12,_=>az (g:=fun c=>w12 c) (by kernel_rfl) (ok12 hc)
 |13,_=>az (g:=fun c=>w13 c) (by kernel_rfl) (ok13 hc)
 |14,_=>az (g:=fun c=>w14 c) (by kernel_rfl) (ok14 hc)
 |15,_=>az (g:=fun c=>w15 c) (by kernel_rfl) (ok15 hc)
 |16,_=>az (g:=fun c=>w16 c) (by kernel_rfl) (ok16 hc)
 |17,_=>az (g:=fun c=>w17 c) (by kernel_rfl) (ok17 hc)
 |18,_=>az (g:=fun c=>w18 c) (by kernel_rfl) (ok18 hc)
 |19,_=>az (g:=fun c=>w19 c) (by kernel_rfl) (ok19 hc)
 |20,_=>az (g:=fun c=>w20 c) (by kernel_rfl) (ok20 hc)
 |21,_=>az (g:=fun c=>w21 c) (by kernel_rfl) (ok21 hc)
 |22,_=>az (g:=fun c=>w22 c) (by kernel_rfl) (ok22 hc)
 |23,_=>az (g:=fun c=>w23 c) (by kernel_rfl) (ok23 hc)
 |24,_=>az (g:=fun c=>w24 c) (by kernel_rfl) (ok24 hc)
 |25,_=>az (g:=fun c=>w25 c) (by kernel_rfl) (ok25 hc)
 |26,_=>az (g:=fun c=>w26 c) (by kernel_rfl) (ok26 hc)
 |27,_=>az (g:=fun c=>w27 c) (by kernel_rfl) (ok27 hc)
 |28,_=>az (g:=fun c=>w28 c) (by kernel_rfl) (ok28 hc)
 |29,_=>az (g:=fun c=>w29 c) (by kernel_rfl) (ok29 hc)
 |30,_=>az (g:=fun c=>w30 c) (by kernel_rfl) (ok30 hc)
 |31,_=>az (g:=fun c=>w31 c) (by kernel_rfl) (ok31 hc)
 |32,_=>az (g:=fun c=>w32 c) (by kernel_rfl) (ok32 hc)
 |33,_=>az (g:=fun c=>w33 c) (by kernel_rfl) (ok33 hc)
 |34,_=>az (g:=fun c=>w34 c) (by kernel_rfl) (ok34 hc)
 |35,_=>az (g:=fun c=>w35 c) (by kernel_rfl) (ok35 hc)
 |36,_=>az (g:=fun c=>w36 c) (by kernel_rfl) (ok36 hc)
 |37,_=>az (g:=fun c=>w37 c) (by kernel_rfl) (ok37 hc)
 |38,_=>az (g:=fun c=>w38 c) (by kernel_rfl) (ok38 hc)
 |39,_=>az (g:=fun c=>w39 c) (by kernel_rfl) (ok39 hc)
 |40,_=>az (g:=fun c=>w40 c) (by kernel_rfl) (ok40 hc)
 |41,_=>az (g:=fun c=>w41 c) (by kernel_rfl) (ok41 hc)
 |42,_=>az (g:=fun c=>w42 c) (by kernel_rfl) (ok42 hc)
 |43,_=>az (g:=fun c=>w43 c) (by kernel_rfl) (ok43 hc)
 |44,_=>az (g:=fun c=>w44 c) (by kernel_rfl) (ok44 hc)
 |45,_=>az (g:=fun c=>w45 c) (by kernel_rfl) (ok45 hc)
 |46,_=>az (g:=fun c=>w46 c) (by kernel_rfl) (ok46 hc)
 |47,_=>az (g:=fun c=>w47 c) (by kernel_rfl) (ok47 hc)
 |48,_=>az (g:=fun c=>w48 c) (by kernel_rfl) (ok48 hc)
 |49,_=>az (g:=fun c=>w49 c) (by kernel_rfl) (ok49 hc)
 |50,_=>az (g:=fun c=>w50 c) (by kernel_rfl) (ok50 hc)
 |51,_=>az (g:=fun c=>w51 c) (by kernel_rfl) (ok51 hc)
 |52,_=>az (g:=fun c=>w52 c) (by kernel_rfl) (ok52 hc)
 |53,_=>az (g:=fun c=>w53 c) (by kernel_rfl) (ok53 hc)
 |54,_=>az (g:=fun c=>w54 c) (by kernel_rfl) (ok54 hc)
 |55,_=>az (g:=fun c=>w55 c) (by kernel_rfl) (ok55 hc)
 |56,_=>az (g:=fun c=>w56 c) (by kernel_rfl) (ok56 hc)
 |57,_=>az (g:=fun c=>w57 c) (by kernel_rfl) (ok57 hc)
 |58,_=>az (g:=fun c=>w58 c) (by kernel_rfl) (ok58 hc)
 |59,_=>az (g:=fun c=>w59 c) (by kernel_rfl) (ok59 hc)
 |60,_=>az (g:=fun c=>w60 c) (by kernel_rfl) (ok60 hc)
 |61,_=>az (g:=fun c=>w61 c) (by kernel_rfl) (ok61 hc)
 |62,_=>az (g:=fun c=>w62 c) (by kernel_rfl) (ok62 hc)
 |63,_=>az (g:=fun c=>w63 c) (by kernel_rfl) (ok63 hc)
 |64,_=>az (g:=fun c=>w64 c) (by kernel_rfl) (ok64 hc)
 |65,_=>az (g:=fun c=>w65 c) (by kernel_rfl) (ok65 hc)
 |66,_=>az (g:=fun c=>w66 c) (by kernel_rfl) (ok66 hc)
 |67,_=>az (g:=fun c=>w67 c) (by kernel_rfl) (ok67 hc)
 |68,_=>az (g:=fun c=>w68 c) (by kernel_rfl) (ok68 hc)
 |69,_=>di (by kernel_rfl) c
 |70,_=>di (by kernel_rfl) c
 |71,_=>di (by kernel_rfl) c
 |72,_=>di (by kernel_rfl) c
 |73,_=>di (by kernel_rfl) c
 |74,_=>di (by kernel_rfl) c
 |75,_=>di (by kernel_rfl) c
 |76,_=>di (by kernel_rfl) c
 |77,_=>az (g:=fun c=>w77 c) (by kernel_rfl) (ok77 hc)
 |78,_=>az (g:=fun c=>w78 c) (by kernel_rfl) (ok78 hc)
 |79,_=>az (g:=fun c=>w79 c) (by kernel_rfl) (ok79 hc)
 |80,_=>az (g:=fun c=>w80 c) (by kernel_rfl) (ok80 hc)
 |81,_=>az (g:=fun c=>w81 c) (by kernel_rfl) (ok81 hc)
 |82,_=>az (g:=fun c=>w82 c) (by kernel_rfl) (ok82 hc)
 |83,_=>az (g:=fun c=>w83 c) (by kernel_rfl) (ok83 hc)
 |84,_=>az (g:=fun c=>w84 c) (by kernel_rfl) (ok84 hc)
 |85,_=>az (g:=fun c=>w85 c) (by kernel_rfl) (ok85 hc)
 |86,_=>az (g:=fun c=>w86 c) (by kernel_rfl) (ok86 hc)
 |87,_=>az (g:=fun c=>w87 c) (by kernel_rfl) (ok87 hc)
 |88,_=>az (g:=fun c=>w88 c) (by kernel_rfl) (ok88 hc)
 |89,_=>az (g:=fun c=>w89 c) (by kernel_rfl) (ok89 hc)
 |90,_=>az (g:=fun c=>w90 c) (by kernel_rfl) (ok90 hc)
 |91,_=>di (by kernel_rfl) c
 |92,_=>di (by kernel_rfl) c
 |93,_=>di (by kernel_rfl) c
 |94,_=>di (by kernel_rfl) c
 |95,_=>di (by kernel_rfl) c
 |96,_=>az (g:=fun c=>w96 c) (by kernel_rfl) (ok96 hc)
 |97,_=>az (g:=fun c=>w97 c) (by kernel_rfl) (ok97 hc)
 |98,_=>az (g:=fun c=>w98 c) (by kernel_rfl) (ok98 hc)
 |99,_=>az (g:=fun c=>w99 c) (by kernel_rfl) (ok99 hc)
 |100,_=>az (g:=fun c=>w100 c) (by kernel_rfl) (ok100 hc)
 |101,_=>di (by kernel_rfl) c
 |102,_=>di (by kernel_rfl) c
 |103,_=>di (by kernel_rfl) c
 |104,_=>di (by kernel_rfl) c
 |105,_=>di (by kernel_rfl) c
 |106,_=>di (by kernel_rfl) c
 |107,_=>di (by kernel_rfl) c
 |108,_=>az (g:=fun c=>w108 c) (by kernel_rfl) (ok108 hc)
 |109,_=>az (g:=fun c=>w109 c) (by kernel_rfl) (ok109 hc)
 |110,_=>az (g:=fun c=>w110 c) (by kernel_rfl) (ok110 hc)
 |111,_=>di (by kernel_rfl) c
 |112,_=>az (g:=fun c=>w112 c) (by kernel_rfl) (ok112 hc)
 |113,_=>az (g:=fun c=>w113 c) (by kernel_rfl) (ok113 hc)
 |114,_=>az (g:=fun c=>w114 c) (by kernel_rfl) (ok114 hc)
 |n+115,h=>by rw[Nat.blt_eq]at h;omega
theorem stepF_ok{c:ae}(hc:Cok c):Cok (stepF c):=by
 refine⟨fun f ls h K w hls hk=>?_,fun κ vs l ls h K w st pd xs e hy hk=>?_⟩
 ·have hk:(match Nat.blt f 115 with|true=>(bi f).get nf (tabW c)|false=>nf) ls h K=some w:=hk
  cases e:Nat.blt f 115 with
  |true=>rw[e]at hk;exact tabW_ok hc f e ls h K w hls hk
  |false=>rw[e]at hk;cases hk
 ·have hd:YOk cc ac aa κ (fun vs l ls h K=>mp (BA ac aa c) (xc 0) ac drN (aa κ) vs l ls h K):=y_of (g:=fun c vs l ls h K=>mp (BA ac aa c) (xc 0) ac drN (aa κ) vs l ls h K) (ct:=fun c=>c) (fun _ _ _ _ _=>rfl) hc
  refine sR hd (l:=[(112,bY112 c),(400,bY400 c),(1248,py c)]) (fun p hp=>?_) vs l ls h K w st pd xs e hy hk
  simp only[List.mem_cons,List.not_mem_nil,or_false]at hp
  rcases hp with rfl|rfl|rfl
  ·exact okY112 hc
  ·exact okY400 hc
  ·exact okY1248 hc
theorem lP:∀n,Cok (runF n)
 |0=>⟨fun _ _ _ _ _ _ h=>by(cases h),fun _ _ _ _ _ _ _ _ _ _ _ _ h=>by(cases h)⟩
 |n+1=>stepF_ok (lP n)
end Go.Am

/-
 THE ALGEBRA OF PROPOSITIONS OVER THE HEAPS OF RUNS;what a run shows holds in it.
-/
namespace Go.Am
namespace Sx
section
variable [Val] [Kno]
def peekH(T:Nat→Site)(f:Pk)(h:HL)(K:List Value→Prop):Prop:=∃cs,f.run (getH T h)=some cs∧K cs
def heapH(T:Nat→Site)(f:Hp)(h:HL)(K:List Value→HL→Prop):Prop:=∃acts cs,f.run (getH T h) h.length=some (acts,cs)∧K cs (bX h acts)
def callH(C:Cfg)(Sg:FuncId→Option Sig)(T:Nat→Site)(g:FuncId)(ls:List Lf)(h:HL)(K:List Lf→HL→Prop):Prop:=∃rs h',au C Sg g ls (absH T h) rs (absH T h')∧K rs h'
def callvH(C:Cfg)(T:Nat→Site)(v:Value)(args:List Value)(hs:List SK)(h:HL)(K:List Lf→HL→Prop):Prop:=∃rs h',tM C v args hs (absH T h) rs (absH T h')∧K rs h'
noncomputable def itH(F:(List Lf→HL→Prop)→List Lf→HL→Prop)(n:Nat):List Lf→HL→Prop:=
 match n with
 |0=>fun _ _=>False
 |n+1=>F (itH F n)
def loopH(F:(List Lf→HL→Prop)→List Lf→HL→Prop)(ls:List Lf)(h:HL):Prop:=∃n,itH F n ls h
def rfunH(C:Cfg)(T:Nat→Site)(κ:Nat)(v:Value)(vals:List Value)(h:HL)(K:Option Code→HL→Prop):Prop:=
 ∃g first cap r H1 lp h2,v = .func (.func g) first cap∧
  gc C g (first.toList++[.func (.yield (absH T h).length) #[] #[]]++cap.toList) (absH T h++[.loop (lpOf (T κ) κ vals)]) r H1∧
  dh H1 (absH T h).length=some lp∧lp.state≠.busy∧absH T h2=H1.set (absH T h).length (.loop { lp with state:=.exhausted })∧K lp.pending h2
def lp1H(T:Nat→Site)(l:Nat)(h:HL)(K:HL→Prop):Prop:=∃lp h',dh (absH T h) l=some lp∧lp.state = .ready∧absH T h'=(absH T h).set l (.loop { lp with state:=.busy })∧K h'
def lp2H(T:Nat→Site)(l:Nat)(j:Option Code)(h:HL)(K:HL→Prop):Prop:=∃lp h',dh (absH T h) l=some lp∧absH T h'=(absH T h).set l (.loop { lp with state:=if j.isNone then .ready else .done,pending:=j })∧K h'
noncomputable def PH(C:Cfg)(Sg:FuncId→Option Sig)(T:Nat→Site):Alg Prop HL where
 fail:=False
 cond:=condP
 ari:=ariP
 shf:=fun op k a k' b K=>∃n,ShRun op k a k' b n∧K n
 cmp:=cmpP
 eqs:=fun l K=>K (bZ l)
 conv:=fun k a K=>K (k.wrap a)
 sel:=fun t a b K=>K (if t then a else b)
 opt:=optP
 chk:=fun v K=>bj v=true∧K
 unI:=unIP
 unB:=unBP
 unV:=unVP
 un0:=un0P
 ucI:=ucIP
 ucB:=ucBP
 ucV:=ucVP
 uc0:=uc0P
 peek:=peekH T
 heap:=heapH T
 new:=fun o h K=>K h.length (h++[.o o])
 call:=callH C Sg T
 callv:=callvH C T
 join:=fun b m=>m b
 loop:=loopH
 rfun:=rfunH C T
 pend:=pendP
 lp1:=lp1H T
 lp2:=lp2H T
theorem PH_ok(C:Cfg)(Sg:FuncId→Option Sig)(T:Nat→Site):AlgOk (PH C Sg T) C Sg T id (absH T) where
 fail:=(ez C Sg T).fail
 cond:=(ez C Sg T).cond
 ari:=(ez C Sg T).ari
 shf:=(ez C Sg T).shf
 cmp:=(ez C Sg T).cmp
 eqs:=(ez C Sg T).eqs
 conv:=(ez C Sg T).conv
 sel:=(ez C Sg T).sel
 opt:=(ez C Sg T).opt
 chk:=(ez C Sg T).chk
 unI:=(ez C Sg T).unI
 unB:=(ez C Sg T).unB
 unV:=(ez C Sg T).unV
 un0:=(ez C Sg T).un0
 ucI:=(ez C Sg T).ucI
 ucB:=(ez C Sg T).ucB
 ucV:=(ez C Sg T).ucV
 uc0:=(ez C Sg T).uc0
 peek:=by
  intro f h K hk
  obtain⟨cs,h1,h2⟩:=hk
  exact⟨cs,by rw[←kU];exact h1,h2⟩
 heap:=by
  intro f h K hk
  obtain⟨acts,cs,h1,h2⟩:=hk
  exact⟨acts,cs,_,by rw[←kU,dn];exact h1,iz T acts h,h2⟩
 new:=fun o h K hk=>⟨_,gM T h _,by rw[dn];exact hk⟩
 call:=fun g ls h K hk=>hk
 callv:=fun v args hs h K hk=>hk
 join:=fun b m h=>h
 loop:=by
  intro F ls h hk
  obtain⟨n,hk⟩:=hk
  exact⟨itH F,fun ls h=>(id:False→False),fun n ls h=>rfl,n,hk⟩
 rfun:=fun κ v vals h K hk=>hk
 pend:=(ez C Sg T).pend
 lp1:=fun l h K hk=>hk
 lp2:=fun l j h K hk=>hk
section
variable {C:Cfg} {Sg:FuncId→Option Sig} {T:Nat→Site} {call:ae} (hc:CallBOk C Sg T call)
include hc
theorem s_shf{op:BinOp}{k k':IntKind}{a b:Int}{K:Int→RT}{K':Int→Prop}(hk:∀n,K n=yes→K' n)(h:(BA Sg T call).shf op k a k' b K=yes):(PH C Sg T).shf op k a k' b K':=by
 obtain⟨n,h1,h2⟩:=shfB_ok (w:=[]) h
 exact⟨n,h1,hk _ h2⟩
inductive SL2:List (Nat×RT)→List (Nat×Prop)→Prop
 |nil:SL2 [] []
 |cons {id:Nat} {x:RT} {x':Prop} {l:List (Nat×RT)} {l':List (Nat×Prop)} (hx:x=yes→x') (hl:SL2 l l'):SL2 ((id,x) :: l) ((id,x') :: l')
omit hc in
end
theorem sN{F:(List Lf→HL→Prop)→List Lf→HL→Prop}(Inv:Nat→List Lf→HL→Prop)
  (step:∀m ls h,Inv m ls h→∀self:List Lf→HL→Prop,(∀m' ls h,m'<m→Inv m' ls h→self ls h)→F self ls h):∀n m ls h,m<n→Inv m ls h→itH F n ls h
 |0,_,_,_,hm,_=>absurd hm (Nat.not_lt_zero _)
 |n+1,m,ls,h,hm,hi=>step m ls h hi (itH F n) fun m' ls h h' hi'=>sN Inv step n m' ls h (by omega) hi'
theorem cX{F:(List Lf→HL→Prop)→List Lf→HL→Prop}(Inv:Nat→List Lf→HL→Prop){m:Nat}{ls:List Lf}{h:HL}(hi:Inv m ls h)
  (step:∀m ls h,Inv m ls h→∀self:List Lf→HL→Prop,(∀m' ls h,m'<m→Inv m' ls h→self ls h)→F self ls h):loopH F ls h:=
 ⟨m+1,sN Inv step (m+1) m ls h (Nat.lt_succ_self m) hi⟩
end
end Sx
end Go.Am


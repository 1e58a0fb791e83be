/-
  PART 2 OF THE PROOF (no conditions).
-/
import Derived.Test.YtiimabnndpeioaaGreatDoorSX1
import Derived.Test.YtiimabnndpeioaaGreatDoorProg
set_option linter.unusedSectionVars false
set_option linter.unusedSimpArgs false
set_option linter.unusedVariables false
set_option linter.constructorNameAsVariable false
set_option linter.defProp false
noncomputable section
set_option maxRecDepth 100000
namespace Go.Am
inductive Lf where
 |i (n:Int)
 |b (t:Bool)
 |v (x:Value)
inductive LK where
 |i (k:TF)
 |b
 |v
abbrev _root_.TE:=List LK
inductive SK where
 |leaf (k:LK)
 |agg (ks:TE)
inductive SL where
 |i (k:TF) (n:Int)
 |b (t:Bool)
 |l (t:Bool)
 |v (x:Value)
inductive S0 where
 |leaf (l:SL)
 |agg (cs:List SL)
inductive SV where
 |st (x:S0)
 |tup (xs:List S0)
 |lad (s off:Nat)
 |ldx (s base:Nat) (ix:List (Int×Nat))
 |gad (g off:Nat)
 |gdx (g base:Nat) (ix:List (Int×Nat))
 |un
 |no
inductive LR where
 |unk
 |nil
 |any (n:Nat)
 |row (cs:List SL)
structure Env where
 tm:List SV
 lc:List LR
def SL.val:SL->Value
 | .i k n=>.int k n
 | .b t=>.bool t
 | .l t=>.bool t
 | .v x=>x
def SL.lf:SL->Lf
 | .i _ n=>.i n
 | .b t=>.b t
 | .l t=>.b t
 | .v x=>.v x
def S0.val:S0->Value
 | .leaf l=>l.val
 | .agg cs=>.agg ⟨cs.map SL.val⟩
def S0.cells:S0->List SL
 | .leaf l=>[l]
 | .agg cs=>cs
def A1(a:Nat):List (Int×Nat)->Nat
 | []=>a
 |p :: l=>A1 (a+p.1.toNat*p.2) l
def SV.val:SV->Value
 | .st x=>x.val
 | .tup xs=>.tuple ⟨xs.map S0.val⟩
 | .lad s off=>.pointer (some ⟨s,off,some 0⟩)
 | .ldx s a ix=>.pointer (some ⟨s,A1 a ix,some 0⟩)
 | .gad g off=>.pointer (some ⟨g,off,some 1⟩)
 | .gdx g a ix=>.pointer (some ⟨g,A1 a ix,some 1⟩)
 | .un=>undef
 | .no=>undef
def aC(x:Value):Bool:=noLoc x&&aR x&&aJ x && !aA x
def BL(x:Value):Option Unit:=if bh x then some ()else none
def Ei:Value->SL
 | .int k n=>.i k n
 | .bool t=>.l t
 |v=>.v v
def Dw:Value->Option S0
 | .agg cs=>match cs.toList.all scalar with
  |true=>some (.agg (cs.toList.map Ei))
  |false=>none
 |v=>match scalar v with
  |true=>some (.leaf (Ei v))
  |false=>none
def kNo(k:TF):Nat:=@IntKind.rec (λ_=>Nat) 0 1 2 3 4 5 6 7 k
def dG(a b:TF):Bool:=Nat.beq (kNo a) (kNo b)
def SL.is:SL->LK->Bool
 | .i k _,.i a=>dG k a
 | .b _,.b=>true
 | .l _,.b=>true
 | .v _,.v=>true
 |_,_=>false
def aZ:List SL->TE->Bool
 | [],[]=>true
 |c :: cs,k :: ks=>c.is k&&aZ cs ks
 |_,_=>false
def S0.is:S0->SK->Bool
 | .leaf l,.leaf k=>l.is k
 | .agg cs,.agg ks=>aZ cs ks
 |_,_=>false
def SL.lk:SL->LK
 | .i k _=>.i k
 | .b _=>.b
 | .l _=>.b
 | .v _=>.v
structure Live where
 tm:List (Nat×SK)
 rows:List (Nat×List LK)
abbrev _root_.TH:=List SK
inductive AC where
 |skip
 |ret
 |exit (id:Nat)
 |label (l:Nat)
 |seq (a b:AC)
 |scope (b:AC)
 |region (id:Nat) (ops:Tl) (draw:Bool) (hs:List (TH)) (j:Option Live)
 |cond (c:TG) (a b:AC) (j:Option Live)
 |block (id:Nat) (b:AC) (j:Option Live)
 |loop (b:AC) (l:Live)
 |rangeFunc (f:TG) (κ:Nat) (ids:Tx)
structure Site where
 nt:Nat
 caps:List (Nat×SK)
 params:List (Nat×SK)
 assign:AC
 body:AC
def AC.erase(T:Nat->Tmp->Code):AC->Code
 | .skip=>.skip
 | .ret=>.ret
 | .exit id=>.exit id
 | .label l=>.label l
 | .seq a b=>.seq (a.erase T) (b.erase T)
 | .scope b=>.scope (b.erase T)
 | .region id ops d _ _=>.region id ops d
 | .cond c a b _=>.cond c (a.erase T) (b.erase T)
 | .block id b _=>.block id (b.erase T)
 | .loop b _=>.loop (b.erase T)
 | .rangeFunc f κ _=>match f with
  | .tmp t=>T κ t
  |_=> .refuse ""
def xJ:Nat->Tmp->Code:=λ_ _=> .refuse ""
def iR(s:Site)(t:Tmp):Code:=.rangeFunc (.tmp t) (s.params.map (·.1)).toArray (s.assign.erase xJ) (s.body.erase xJ)
def DD:Code->List Nat
 | .region _ ops _=>ops.toList.filterMap (·.dst)
 | .seq a b=>DD a++DD b
 | .cond _ a b=>DD a++DD b
 | .block _ b=>DD b
 | .loop b=>DD b
 | .scope b=>DD b
 |_=>[]
def jt(pts:Tx)(o:Oper):To:=
 match o.op with
 | .box .. | .alloc _=>match o.dst with
  |some d=>if pts.getD d 0=d+2 then some d else none
  |none=>none
 | .store _ a _=>match mE pts a with
  |s+2=>some s
  |_=>none
 |_=>none
def CB(pts:Tx):Code->List Nat
 | .region _ ops _=>ops.toList.filterMap (jt pts)
 | .seq a b=>CB pts a++CB pts b
 | .cond _ a b=>CB pts a++CB pts b
 | .block _ b=>CB pts b
 | .loop b=>CB pts b
 | .scope b=>CB pts b
 | .rangeFunc _ _ a b=>CB pts a++CB pts b
 |_=>[]
section
variable {R:Type}
def fN(n:Nat)(k:Nat->R):R:=Nat.rec (motive:=λ_=>R) (k n) (λm _=>k m) (Nat.succ n)
def fI(n:Int)(k:Int->R):R:=Int.rec (motive:=λ_=>R) (λm=>fN m λm=>k (.ofNat m)) (λm=>fN m λm=>k (.negSucc m)) n
def fQ(n:Nat)(k:Nat->R):fN n k=k n:=rfl
def jJ(n:Int)(k:Int->R):fI n k=k n:=by cases n<;>rfl
end
def O2(a b:Int):Bool:=Int.rec (λm=>Int.rec (λn=>Nat.ble m n) (λ_=>false) b) (λm=>Int.rec (λ_=>true) (λn=>Nat.ble n m) b) a
def leZ_iff{a b:Int}:O2 a b=true↔a<=b:=by
 cases a<;>cases b<;>simp only[O2,Ds,Bq,false_iff,true_iff,Eo]<;>omega
def Hg{α:Type}(l:List α):Nat->Nat->Option (List α):=
 List.rec (motive:=λ_=>Nat->Nat->Option (List α))
  (λb n=>Nat.rec (Nat.rec (some []) (λ_ _=>none) n) (λ_ _=>none) b)
  (λa _ c b n=>Nat.rec (Nat.rec (some []) (λm _=>Option.rec none (λl=>some (a :: l)) (c 0 m)) n) (λo _=>c o n) b) l
def nM{α:Type}:∀(l:List α) (off n:Nat),Hg l off n=if off+n<=l.length then some ((l.drop off).take n)else none
 | [],0,0=>rfl
 | [],0,n+1=>by rw[ra (by simp)];rfl
 | [],o+1,n=>by rw[ra (by simp)];rfl
 |a :: l,0,0=>by rw[mc (by simp)];rfl
 |a :: l,0,n+1=>by
  show(Option.rec none (λl=>some (a :: l)) (Hg l 0 n):Option (List α))=_;rw[nM l 0 n];by_cases h:0+n<=l.length
  ·rw[mc h,mc (by simp at h ⊢;omega)];rfl
  ·rw[ra h,ra (by simp at h ⊢;omega)]
 |a :: l,o+1,n=>by
  show Hg l o n=_;rw[nM l o n];by_cases h:o+n<=l.length
  ·rw[mc h,mc (by simp at h ⊢;omega)];rfl
  ·rw[ra h,ra (by simp at h ⊢;omega)]
def Qh{α:Type}(l:List α):Nat->List α->Option (List α):=
 List.rec (motive:=λ_=>Nat->List α->Option (List α))
  (λd c=>Nat.rec (List.rec (some []) (λ_ _ _=>none) c) (λ_ _=>none) d)
  (λa t e d c=>Nat.rec (List.rec (some (a :: t)) (λb f _=>Option.rec none (λl=>some (b :: l)) (e 0 f)) c) (λo _=>Option.rec none (λl=>some (a :: l)) (e o c)) d) l
def wA{α:Type}:∀(l:List α) (off:Nat) (new:List α),Qh l off new=if off+new.length<=l.length then some (l.take off++new++l.drop (off+new.length))else none
 | [],0,[]=>rfl
 | [],0,b :: bs=>by rw[ra (by simp)];rfl
 | [],o+1,new=>by rw[ra (by simp)];rfl
 |a :: l,0,[]=>by rw[mc (by simp)];rfl
 |a :: l,0,b :: bs=>by
  show(Option.rec none (λl=>some (b :: l)) (Qh l 0 bs):Option (List α))=_;rw[wA l 0 bs];by_cases h:0+bs.length<=l.length
  ·rw[mc h,mc (by simp at h ⊢;omega)];simp
  ·rw[ra h,ra (by simp at h ⊢;omega)]
 |a :: l,o+1,new=>by
  show(Option.rec none (λl=>some (a :: l)) (Qh l o new):Option (List α))=_;rw[wA l o new];by_cases h:o+new.length<=l.length
  ·rw[mc h,mc (by simp at h ⊢;omega)];simp[Nat.add_right_comm]
  ·rw[ra h,ra (by simp at h ⊢;omega)]
abbrev cO:=Nat->Option HObj
inductive Act1 where
 |set (i:Nat) (o:HObj)
 |push (o:HObj)
def Act1.on(H:Tp):Act1->List HObj
 | .set i o=>H.set i o
 | .push o=>H++[o]
def gE(H:Tp)(l:List Act1):Tp:=l.foldl Act1.on H
def gT(g:cO)(id:Nat):Option (Tk):=
 match g id with
 |some (.cells a _ _)=>some a
 |_=>none
def ldP(n:Nat)(p:Value)(g:cO):Option (Tk):=
 match p with
 | .pointer (some a)=>match a.spot with
  |none=>(gT g a.block).bind λb=>cut b a.off n
  |some _=>none
 |_=>none
def VP(C:Cfg)(n:Nat)(p:Value)(g:cO):Option (Tk):=
 match p with
 | .pointer (some a)=>match a.spot with
  |none=>(gT g a.block).bind λb=>cut b a.off n
  |some k=>match Nat.beq k 1 with
   |true=>(C.G a.block).bind λb=>cut b a.off n
   |false=>none
 |_=>none
def E5(p:Value)(new:Tk)(g:cO)(_:Nat):Option (List Act1×List Value):=
 match p with
 | .pointer (some a)=>match a.spot with
  |none=>match g a.block with
   |some (.cells c e true)=>(splice c a.off new).map λb=>([.set a.block (.cells b e true)],[])
   |_=>none
  |some _=>none
 |_=>none
def IQ(C:Cfg)(esz:Nat)(g:cO):Value->Option (List Value×Nat)
 | .slice none 0 0=>some ([],0)
 | .slice (some a) len _=>
  if a.spot=some 1 then((C.G a.block).bind λvs=>cut vs a.off (len*esz)).map λx=>(x,len)
  else if a.spot=qs esz then
   match g a.block with
   |some (.cells vs e _)=>if e=esz then(cut vs a.off (len*esz)).map λx=>(x,len)else none
   |_=>none
  else none
 | .string s=>if esz=1 then some (s.data.toList.map λb=>.int .u8 b.toNat,s.size)else none
 |_=>none
def Cd(C:Cfg)(esz bytes:Nat)(s x:Value)(g:cO)(n0:Nat):Option (List Act1×List Value):=
 match IQ C esz g x with
 |none=>none
 |some (c,n)=>
  match s with
  | .slice none 0 0=>
   if n=0 then some ([],[.slice none 0 0])
   else if bb n bytes then some ([.push (.cells c esz true)],[.slice (some ⟨n0,0,qs esz⟩) n 0])else none
  | .slice (some a) b i=>
   if a.spot≠qs esz then none else
   match g a.block with
   |some (.cells h e rw)=>
    if e≠esz then none else
    match cut h a.off (b*esz)with
    |none=>none
    |some d=>
     match i with
     |0=>
      if n=0 then some ([],[.slice (some a) b 0])
      else if rw&&bb (b+n) bytes then
       some ([.set a.block .dead,.push (.cells (d++c) esz true)],[.slice (some ⟨n0,0,qs esz⟩) (b+n) 0])
      else none
     |cap+1=>
      if b+n<=cap then
       if rw then(splice h (a.off+b*esz) c).map λf=>([.set a.block (.cells f e true)],[.slice (some a) (b+n) (cap+1)])
       else if n=0 then some ([],[.slice (some a) b (cap+1)])else none
      else if bb (b+n) bytes then
       some ([.push (.cells (d++c) esz true)],[.slice (some ⟨n0,0,qs esz⟩) (b+n) 0])
      else none
   |_=>none
  |_=>none
def cpG(C:Cfg)(esz:Nat)(d x:Value)(g:cO)(_:Nat):Option (List Act1×List Value):=none
def clG(esz:Nat)(z:Tk)(x:Value)(g:cO)(_:Nat):Option (List Act1×List Value):=none
def C3(esz:Nat)(x:Value)(d e f:Option Int):Ti:=
 match x with
 | .slice (some a) b g=>
  if a.spot≠some 1/\a.spot≠qs esz then none else
  if 0<=d.getD 0/\d.getD 0<=e.getD b/\cW b g e f then
   fN (a.off+(d.getD 0).toNat*esz) λo=>fN ((e.getD b).toNat - (d.getD 0).toNat) λn=>fN (bT g (d.getD 0).toNat f) λc=>
   some (.slice (some { a with off:=o }) n c)
  else none
 | .slice none 0 0=>if d.getD 0=0/\e.getD 0=0/\f.getD 0=0/\(f.isNone∨e.isSome)then some (.slice none 0 0)else none
 |_=>none
def Mq(s:To):To:=match s with
 |none=>none
 |some k=>match Nat.beq k 1 with
  |true=>some 1
  |false=>none
def Ax(esz:Nat)(x:Value)(i:Int):Ti:=
 match x with
 | .slice (some a) b _=>Int.rec (λj=>match Nat.blt j b with
  |true=>fN (Nat.add a.off (Nat.mul j esz)) λo=>some (.pointer (some ⟨a.block,o,Mq a.spot⟩))
  |false=>none) (λ_=>none) i
 |_=>none
def Mt(s:To):Mq s=if s=some 1 then some 1 else none:=by
 unfold Mq;cases s with
 |none=>rfl
 |some k=>
  cases e:Nat.beq k 1 with
  |true=>rw[AW e];rfl
  |false=>
   rw[ra (λh=>by cases h;cases e)];simp only[e]
def ut(esz:Nat)(x:Value)(i:Int):Ax esz x i=match (motive:=Value->Ti) x with
 | .slice (some a) len _=>
  if 0<=i/\i<(len:Int)then some (.pointer (some ⟨a.block,a.off+i.toNat*esz,if a.spot=some 1 then some 1 else none⟩))else none
 |_=>none:=by
 unfold Ax;split
 next a len _=>
  cases i with
  |ofNat j=>
   simp only[fQ,Mt];cases e:Nat.blt j len with
   |true=>
    rw[BW]at e;have b:0<=Int.ofNat j/\Int.ofNat j<(len:Int):=⟨B8 j,by show(j:Int)<len;omega⟩;rw[mc b];rfl
   |false=>
    have:¬j<len:=λh=>by rw[←BW,e]at h;cases h
    have b:¬(0<=Int.ofNat j/\Int.ofNat j<(len:Int)):=λh=>this (by have c:(j:Int)<len:=h.2;omega);rw[ra b]
  |negSucc j=>
   have b:¬(0<=Int.negSucc j/\Int.negSucc j<(len:Int)):=λh=>by have:=h.1;omega
   rw[ra b]
 ·rfl
def OT(len esz:Nat)(x:Value)(i:Int):Ti:=
 match x with
 | .pointer (some a)=>if 0<=i/\i<(len:Int)then some (.pointer (some { a with off:=a.off+i.toNat*esz }))else none
 |_=>none
def Aw(off:Nat)(x:Value):Ti:=
 match x with
 | .pointer (some a)=>some (.pointer (some { a with off:=a.off+off }))
 |_=>none
def Ae(x:Value):Ti:=
 match x with
 | .pointer (some a)=>some (.pointer (some a))
 | .func (.func f) a b=>some (.func (.func f) a b)
 | .func (.yield f) a b=>some (.func (.yield f) a b)
 |_=>none
def Hl(a:List UInt8):List UInt8->Bool:=
 List.rec (motive:=λ_=>List UInt8->Bool) (λb=>List.rec true (λ_ _ _=>false) b)
  (λx _ c b=>List.rec false (λy t _=>Bool.rec false (c t) (Nat.beq x.toNat y.toNat)) b) a
def xa:∀(a b:List UInt8),Hl a b=true↔a=b
 | [],[]=>⟨λ_=>rfl,λ_=>rfl⟩
 | [],_ :: _=>⟨λh=>(by cases h),λh=>(by cases h)⟩
 |_ :: _,[]=>⟨λh=>(by cases h),λh=>(by cases h)⟩
 |x :: a,y :: b=>by
  show(Bool.rec false (Hl a b) (Nat.beq x.toNat y.toNat):Bool)=true↔_;cases e:Nat.beq x.toNat y.toNat with
  |true=>
   have:x=y:=UInt8.toNat_inj.1 (AW e);show Hl a b=true↔_;rw[xa a b,this];simp
  |false=>
   constructor
   ·intro h;cases h
   ·intro h;cases h;rw[show Nat.beq x.toNat x.toNat=true from Er _]at e;cases e
def GH(x y:Value):Option Bool:=match x with
 | .string a=>match y with
  | .string b=>some (Hl a.data.toList b.data.toList)
  |_=>none
 |_=>none
def DX:Value->Option Int
 | .slice _ n _=>some n
 |_=>none
def Ej(s:ByteArray)(j:Int):Option Int:=match j with
 | .ofNat n=>(s.data.toList[n]?).map λb=>Int.ofNat b.toNat
 |_=>none
def MD{s:ByteArray}{j b:Int}(h:Ej s j=some b):0<=j/\(s[j.toNat]?).map (λb=>Value.int .u8 b.toNat)=some (.int .u8 b):=by
 unfold Ej at h;split at h
 next n=>
  obtain⟨x,c,rfl⟩:=qag.1 h;refine⟨B8 n,?_⟩;have:s[n]?=some x:=by
   rw[qda]at c;obtain⟨a,d⟩:=qaQ.1 c;have e:n<s.size:=a;rw[getElem?_pos s n e];exact congrArg some d
  show(s[n]?).map _=_;rw[this];rfl
 ·cases h
def NR:Value->Option Int
 | .slice (some _) _ (n+1)=>some n
 | .slice none 0 0=>some 0
 |_=>none
def lenM(m:Value)(g:cO):Option (Tk):=
 match m with
 | .map (some id)=>match g id with
  |some (.map a _)=>some [.int .i64 a.length]
  |_=>none
 |_=>none
def Cf(len:Nat)(i:Int):Option Unit:=Int.rec (λj=>match Nat.blt j len with
 |true=>some ()
 |false=>none) (λ_=>none) i
def Kq(len:Nat)(i:Int):Cf len i=if 0<=i/\i<(len:Int)then some ()else none:=by
 unfold Cf;cases i with
 |ofNat j=>
  simp only;cases e:Nat.blt j len with
  |true=>rw[BW]at e;rw[mc ⟨B8 j,by show(j:Int)<len;omega⟩]
  |false=>
   have:¬j<len:=λh=>by rw[←BW,e]at h;cases h
   rw[ra (λh=>this (by have a:(j:Int)<len:=h.2;omega))]
 |negSucc j=>rw[ra (λh=>by have:=h.1;omega)]
def Cp(l c:Int):Option Unit:=if 0<=l/\l<=c/\c<=1048576 then some ()else none
abbrev _root_.TB:=List Lf
def mG(cs:TB)(a:Nat)(ix:List (Int×Nat))(n:Nat):Option (TB):=Hg cs (A1 a ix) n
def LC(cs:TB)(a:Nat)(ix:List (Int×Nat))(n:Nat):mG cs a ix n=if A1 a ix+n<=cs.length then some ((cs.drop (A1 a ix)).take n)else none:=nM _ _ _
def LN(cs:TB)(a:Nat)(ix:List (Int×Nat))(new:TB):Option (TB):=Qh cs (A1 a ix) new
def PV(cs:TB)(a:Nat)(ix:List (Int×Nat))(new:TB):LN cs a ix new=if A1 a ix+new.length<=cs.length then some (cs.take (A1 a ix)++new++cs.drop (A1 a ix+new.length))else none:=wA _ _ _
def mI(vs:Tk)(a:Nat)(ix:List (Int×Nat))(n:Nat):Option (Tk):=Hg vs (A1 a ix) n
def LD(vs:Tk)(a:Nat)(ix:List (Int×Nat))(n:Nat):mI vs a ix n=cut vs (A1 a ix) n:=nM _ _ _
def ldGv(C:Cfg)(n:Nat)(p:Value):Option (Tk):=
 match p with
 | .pointer (some a)=>if a.spot=some 1 then(C.G a.block).bind λb=>cut b a.off n else none
 |_=>none
inductive Pk where
 |ld (n:Nat) (p:Value)
 |lg (C:Cfg) (n:Nat) (p:Value)
 |fn (f:cO->Option (Tk))
def Pk.run:Pk->cO->Option (Tk)
 | .ld n p=>ldP n p
 | .lg C n p=>VP C n p
 | .fn f=>f
inductive Hp where
 |st (p:Value) (new:Tk)
 |ap (C:Cfg) (esz bytes:Nat) (s x:Value)
 |fn (f:cO->Nat->Option (List Act1×List Value))
def Hp.run:Hp->cO->Nat->Option (List Act1×List Value)
 | .st p new=>E5 p new
 | .ap C esz bytes s x=>Cd C esz bytes s x
 | .fn f=>f
structure Alg(R HT:Type):Type 1 where
 fail:R
 cond:Bool->R->R->R
 ari:BinOp->TF->Int->Int->(Int->R)->R
 shf:BinOp->TF->Int->TF->Int->(Int->R)->R
 cmp:BinOp->Int->Int->(Bool->R)->R
 eqs:List (Lf×Lf)->(Bool->R)->R
 conv:TF->Int->(Int->R)->R
 sel:Bool->Int->Int->(Int->R)->R
 opt:{α:Type}->Option α->(α->R)->R
 chk:Value->R->R
 unI:TB->(Int->TB->R)->R
 unB:TB->(Bool->TB->R)->R
 unV:TB->(Value->TB->R)->R
 un0:TB->R->R
 ucI:TF->Tk->(Int->Tk->R)->R
 ucB:Tk->(Bool->Tk->R)->R
 ucV:Tk->(Value->Tk->R)->R
 uc0:Tk->R->R
 peek:Pk->HT->(Tk->R)->R
 heap:Hp->HT->(Tk->HT->R)->R
 new:HObj->HT->(Nat->HT->R)->R
 call:TK->TB->HT->(TB->HT->R)->R
 callv:Value->Tk->TH->HT->(TB->HT->R)->R
 join:(TB->HT->R)->((TB->HT->R)->R)->R
 loop:((TB->HT->R)->TB->HT->R)->TB->HT->R
section
variable {R HT:Type} (A:Alg R HT)
def setK{α:Type}(x:α)(l:List α):Nat->(List α->R)->R:=
 List.rec (motive:=λ_=>Nat->(List α->R)->R) (λ_ k=>k [])
  (λa c b i k=>match i with
   |0=>k (x :: c)
   |i+1=>b i λl=>k (a :: l)) l
def IR(ks:TE):TB->(List SL->TB->R)->R:=
 List.rec (motive:=λ_=>TB->(List SL->TB->R)->R) (λa K=>K [] a)
  (λk _ d a K=>match k with
   | .i k=>A.unI a λn r=>d r λc r=>K (.i k n :: c) r
   | .b=>A.unB a λt r=>d r λc r=>K (.b t :: c) r
   | .v=>A.unV a λx r=>d r λc r=>K (.v x :: c) r) ks
def unS(c:SK)(ls:TB)(K:S0->TB->R):R:=
 match c with
 | .leaf k=>match k with
  | .i k=>A.unI ls λn r=>K (.leaf (.i k n)) r
  | .b=>A.unB ls λt r=>K (.leaf (.b t)) r
  | .v=>A.unV ls λx r=>K (.leaf (.v x)) r
 | .agg a=>IR A a ls λd r=>K (.agg d) r
def E9(sks:TH):TB->(List S0->TB->R)->R:=
 List.rec (motive:=λ_=>TB->(List S0->TB->R)->R) (λa K=>K [] a)
  (λc _ b a K=>unS A c a λx r=>b r λd r=>K (x :: d) r) sks
def ucL(ks:TE):Tk->(List SL->Tk->R)->R:=
 List.rec (motive:=λ_=>Tk->(List SL->Tk->R)->R) (λa K=>K [] a)
  (λk _ d a K=>match k with
   | .i k=>A.ucI k a λn r=>d r λc r=>K (.i k n :: c) r
   | .b=>A.ucB a λt r=>d r λc r=>K (.b t :: c) r
   | .v=>A.ucV a λx r=>A.chk x (d r λc r=>K (.v x :: c) r)) ks
def IC(c:SK)(cs:Tk)(K:S0->Tk->R):R:=
 match c with
 | .leaf k=>match k with
  | .i k=>A.ucI k cs λn r=>K (.leaf (.i k n)) r
  | .b=>A.ucB cs λt r=>K (.leaf (.b t)) r
  | .v=>A.ucV cs λx r=>A.chk x (K (.leaf (.v x)) r)
 | .agg a=>ucL A a cs λd r=>K (.agg d) r
def cR:List S0->List Lf
 | []=>[]
 |x :: l=>x.cells.map SL.lf++cR l
def av(l:List S0):Tk:=l.map S0.val
def pkT(tm:List SV):List (Nat×SK)->Option (TB)
 | []=>some []
 |(t,a) :: l=>match tm.getD t .no,pkT tm l with
  | .st x,some ls=>match x.is a with
   |true=>some (x.cells.map SL.lf++ls)
   |false=>none
  |_,_=>none
def pkR(a:List LR):List (Nat×List LK)->Option (TB)
 | []=>some []
 |(s,ks) :: l=>match a.getD s .unk,pkR a l with
  | .row cs,some ls=>match aZ cs ks with
   |true=>some (cs.map SL.lf++ls)
   |false=>none
  |_,_=>none
def pk(c:Env)(lv:Live):Option (TB):=
 match pkT c.tm lv.tm,pkR c.lc lv.rows with
 |some a,some b=>some (a++b)
 |_,_=>none
def SV.inRows(ks:Tx):SV->Bool
 | .tup _=>true
 | .lad s _=>ks.contains s
 | .ldx s _ _=>ks.contains s
 |_=>false
def SU(b ks:Tx)(l:List SV):Nat->(List SV->R)->R:=
 List.rec (motive:=λ_=>Nat->(List SV->R)->R) (λ_ K=>K [])
  (λx _ a i K=>a (i+1) λl=>match b.contains i||x.inRows ks with
   |true=>K (.no :: l)
   |false=>K (x :: l)) l
def rV(n:Nat)(K:Nat->R):R:=Nat.casesOn n (K 0) λm=>K (Nat.succ m)
def Js(d ks:Tx)(c:LR)(l:List LR):Nat->(List LR->R)->R:=
 List.rec (motive:=λ_=>Nat->(List LR->R)->R) (λ_ K=>K [])
  (λx _ b i K=>b (i+1) λl=>match ks.contains i,d.contains i with
   |true,_=>K (c :: l)
   |false,true=>(match x with
    | .row a=>rV a.length λn=>K (.any n :: l)
    | .any n=>K (.any n :: l)
    |_=>K (.unk :: l))
   |false,false=>K (x :: l)) l
def upT(lv:List (Nat×SK)):List S0->List SV->(List SV->R)->R:=
 List.rec (motive:=λ_=>List S0->List SV->(List SV->R)->R) (λ_ tm K=>K tm)
  (λp _ b a tm K=>match a with
   |x :: a=>setK (.st x) tm p.1 λtm=>b a tm K
   | []=>A.fail) lv
def upR(lv:List (Nat×List LK)):TB->List LR->(List LR->TB->R)->R:=
 List.rec (motive:=λ_=>TB->List LR->(List LR->TB->R)->R) (λb a K=>K a b)
  (λp _ d b a K=>IR A p.2 b λc r=>setK (.row c) a p.1 λa=>d r a K) lv
def reE(pts:Tx)(c:Code)(d:LR)(lv:Live)(b:Env)(ls:TB)(K:Env->R):R:=
 SU (DD c) (aQ pts c) b.tm 0 λtm=>Js (CB pts c) (aQ pts c) d b.lc 0 λa=>
  E9 A (lv.tm.map (·.2)) ls λe r=>upT A lv.tm e tm λtm=>upR A lv.rows r a λa r=>A.un0 r (K ⟨tm,a⟩)
abbrev KN(R HT:Type):=Env->HT->R
def uy(pts:Tx)(c:Code)(j:Option Live)(b:Env)(e:KN R HT)(a:KN R HT->R):R:=
 match j with
 |none=>a e
 |some lv=>A.join (λd h=>reE A pts c .unk lv b d λb=>e b h) λf=>a λb h=>match pk b lv with
  |some d=>f d h
  |none=>A.fail
structure Ctxt where
 C:Cfg
 pts:List Nat
 T:Nat->Site
def sval(a:Env):TG->SV
 | .tmp t=>a.tm.getD t .no
 | .const v=>match Dw v with
  |some x=>.st x
  |none=>.no
 | .global g=>match Nat.blt g gB with
  |true=>.gad g 0
  |false=>.no
 | .func f=>.st (.leaf (.v (.func (.func f) #[] #[])))
def sval0(a:Env)(x:TG):Option S0:=
 match sval a x with
 | .st x=>some x
 |_=>none
def svals(a:Env):List Operand->Option (List S0)
 | []=>some []
 |x :: l=>match sval0 a x,svals a l with
  |some x,some l=>some (x :: l)
  |_,_=>none
def EB:TG->Option Nat
 | .const (.int _ (.ofNat n))=>some n
 |_=>none
def my(d:Tn)(x:SV)(a:Env)(h:HT)(K:KN R HT):R:=
 match d with
 |some d=>setK x a.tm d λtm=>K ⟨tm,a.lc⟩ h
 |none=>K a h
def sV(b:Env)(s:Nat):Option (List SL):=
 match b.lc.getD s .unk with
 | .row a=>some a
 |_=>none
def Dy:SK->List LK
 | .leaf k=>[k]
 | .agg ks=>ks
def BM(cs:List SL)(off n:Nat):Option (List SL):=if off+n<=cs.length then some ((cs.drop off).take n)else none
def iH(cs:List SL)(off:Nat)(new:List SL):Option (List SL):=if off+new.length<=cs.length then some (cs.take off++new++cs.drop (off+new.length))else none
def tH(cs:List SL)(ks:TE):Nat->List (Int×Nat)->Bool
 |a,[]=>match BM cs a ks.length with
  |some ds=>aZ ds ks
  |none=>true
 |a,p :: l=>!Nat.beq p.2 0&&(List.range (cs.length+1)).all λj=>tH cs ks (a+j*p.2) l
def Db(a:Bool)(cs:List SL):Option S0:=
 match a,cs with
 |true,cs=>some (.agg cs)
 |false,[c]=>some (.leaf c)
 |_,_=>none
def rO(pl:Nat->Option (Nat×Nat))(cs:List SL):List (Nat×S0)->Option (List SL)
 | []=>some cs
 |(i,x) :: l=>match pl i with
  |some (off,n)=>match Nat.beq x.cells.length n with
   |true=>match iH cs off x.cells with
    |some cs=>rO pl cs l
    |none=>none
   |false=>none
  |none=>none
def Ao(P:TD)(t:TJ):Option Bool:=
 match P.underlying t with
 |some (.struct _)|some (.array _ _)=>some true
 |some _=>some false
 |none=>none
def wK(P:TD)(t:TJ):Option S0:=(eE P t).bind Dw
def jz:SK->Bool
 | .leaf _=>false
 | .agg _=>true
def JM:Bool->Bool->Bool
 |true,true=>true
 |false,false=>true
 |_,_=>false
def Ps(X:Ctxt)(d:Tn)(t:TJ)(x:S0)(a:Env)(h:HT)(K:KN R HT):R:=
 match d with
 |none=>A.fail
 |some d=>match Nat.beq (X.pts.getD d 0) (d+2)with
  |true=>match a.lc.getD d .unk with
   | .nil=>setK (.row x.cells) a.lc d λb=>setK (.lad d 0) a.tm d λtm=>K ⟨tm,b⟩ h
   |_=>A.fail
  |false=>A.new (.cells (x.cells.map SL.val) (lK X.C.P t) true) h λn h=>my (some d) (.st (.leaf (.v (.pointer (some ⟨n,0,none⟩))))) a h K
def Dx(d:Tn)(b:SK)(cs:Tk)(a:Env)(h:HT)(K:KN R HT):R:=
 IC A b cs λx r=>A.uc0 r (my d (.st x) a h K)
def Mc(d:Tn)(b:SK)(ls:TB)(a:Env)(h:HT)(K:KN R HT):R:=
 unS A b ls λx r=>A.un0 r (my d (.st x) a h K)
def KI(X:Ctxt)(d:Tn)(i:SK)(j:Bool)(n:Nat)(a:TG)(e:Env)(h:HT)(K:KN R HT):R:=
 match mE X.pts a,sval e a with
 |0,.st (.leaf (.v p))=>A.peek (.lg X.C n p) h λc=>Dx A d i c e h K
 |1,.gad g f=>match X.C.G g with
  |some m=>match cut m f n with
   |some c=>match c.all scalar,Db j (c.map Ei)with
    |true,some x=>my d (.st x) e h K
    |_,_=>Dx A d i c e h K
   |none=>A.fail
  |none=>A.fail
 |1,.gdx g b k=>match X.C.G g with
  |some m=>A.opt (mI m b k n) λc=>Dx A d i c e h K
  |none=>A.fail
 |1,.st (.leaf (.v p))=>A.opt (ldGv X.C n p) λc=>Dx A d i c e h K
 |s+2,.lad l f=>match Nat.beq s l,(sV e s).bind (λc=>(BM c f n).bind (Db j))with
  |true,some x=>my d (.st x) e h K
  |_,_=>A.fail
 |s+2,.ldx l b k=>match Nat.beq s l,sV e s with
  |true,some c=>match tH c (Dy i) b k&&Nat.beq n (Dy i).length with
   |true=>A.opt (mG (c.map SL.lf) b k n) λo=>Mc A d i o e h K
   |false=>A.fail
  |_,_=>A.fail
 |_,_=>A.fail
def MA(r:LR)(off:Nat)(new:List SL):Option (List SL):=
 match r with
 | .row a=>iH a off new
 | .any n=>match Nat.beq off 0&&Nat.beq n new.length with
  |true=>some new
  |false=>none
 |_=>none
def E6(X:Ctxt)(d:Tn)(t:TJ)(a:TG)(x:S0)(c:Env)(h:HT)(K:KN R HT):R:=
 match Nat.beq x.cells.length (X.C.P.cellsOf t)&&(X.C.P.info? t).isSome with
 |false=>A.fail
 |true=>match mE X.pts a,sval c a with
  |0,.st (.leaf (.v p))=>A.heap (.st p (x.cells.map SL.val)) h λ_ h=>my d .un c h K
  |s+2,.lad i g=>match Nat.beq s i,MA (c.lc.getD s .unk) g x.cells with
   |true,some e=>setK (.row e) c.lc s λf=>my d .un ⟨c.tm,f⟩ h K
   |_,_=>A.fail
  |s+2,.ldx i b j=>match Nat.beq s i,sV c s with
   |true,some e=>match tH e (x.cells.map SL.lk) b j with
    |false=>A.fail
    |true=>A.opt (LN (e.map SL.lf) b j (x.cells.map SL.lf)) λk=>IR A (e.map SL.lk) k λe r=>A.un0 r (setK (.row e) c.lc s λf=>my d .un ⟨c.tm,f⟩ h K)
   |_,_=>A.fail
  |_,_=>A.fail
def isCmp:BinOp->Bool
 | .eql | .neq | .lss | .leq | .gtr | .geq=>true
 |_=>false
def FR:BinOp->Bool
 | .shl | .shr=>true
 |_=>false
def lY(F:TJ->Option (TE)):List Field->Nat->Option (TE)
 | [],_=>some []
 |f :: a,off=>match decide (f.name = "_"),Nat.beq f.offset off,F f.type with
  |false,true,some ks=>(lY F a (off+ks.length)).map (ks ++ ·)
  |_,_,_=>none
def flatK(P:TD):Nat->TJ->Option (TE)
 |0,_=>none
 |d+1,t=>match P.underlying t with
  |some (.int k)=>some [.i k]
  |some .bool=>some [.b]
  |some (.struct a)=>match P.stoodInHeld t,lY (flatK P d) a.toList 0 with
   |false,some ks=>match Nat.beq ks.length (P.cellsOf t)with
    |true=>some ks
    |false=>none
   |_,_=>none
  |some (.array n e)=>match flatK P d e with
   |some ks=>match Nat.beq ks.length (P.cellsOf e)&&Nat.beq (List.replicate n ks).flatten.length (P.cellsOf t)with
    |true=>some (List.replicate n ks).flatten
    |false=>none
   |none=>none
  |_=>none
def Om:Int->Int->Bool
 | .ofNat a,.ofNat b=>Nat.beq a b
 | .negSucc a,.negSucc b=>Nat.beq a b
 |_,_=>false
def gK:TE->Tk->Tk->Option Bool
 | [],[],[]=>some true
 | .i k :: ks,.int a x :: xs,.int b y :: ys=>match dG a k,dG b k,gK ks xs ys with
  |true,true,some r=>(match Om x y with
   |true=>some r
   |false=>some false)
  |_,_,_=>none
 | .b :: ks,.bool x :: xs,.bool y :: ys=>match gK ks xs ys with
  |some r=>(match JM x y with
   |true=>some r
   |false=>some false)
  |none=>none
 |_,_,_=>none
def Ak:TE->Tk->Tk->Option Bool
 | [],_,_=>some true
 | .i k :: ks,.int a x :: xs,.int b y :: ys=>match dG a k,dG b k with
  |true,true=>(match Om x y with
   |true=>Ak ks xs ys
   |false=>some false)
  |_,_=>none
 | .b :: ks,.bool x :: xs,.bool y :: ys=>match JM x y with
  |true=>Ak ks xs ys
  |false=>some false
 |_,_,_=>none
def iW(ks:TE)(cs:Tk):Th->Nat->Option (To)
 | [],_=>some none
 |e :: a,i=>match e.key with
  | .agg ds=>match Ak ks cs ds.toList with
   |some true=>some (some i)
   |some false=>iW ks cs a (i+1)
   |none=>none
  |_=>none
def valI{R:Type}(v:Value)(d:R)(K:TF->Int->R):R:=match v with
 | .int a m=>K a m
 |_=>d
def valB{R:Type}(v:Value)(d:R)(K:Bool->R):R:=match v with
 | .bool a=>K a
 |_=>d
def TQ(a b:Int):Bool:=@Int.rec (λ_=>Bool) (λm=>@Int.rec (λ_=>Bool) (λn=>Nat.beq m n) (λ_=>false) b) (λm=>@Int.rec (λ_=>Bool) (λ_=>false) (λn=>Nat.beq m n) b) a
def JC(ks:TE):Tk->Tk->Option Bool:=
 @List.rec LK (λ_=>Tk->Tk->Option Bool)
  (λ_ _=>some true)
  (λk _ e c d=>@List.rec Value (λ_=>Option Bool) none (λx c _=>@List.rec Value (λ_=>Option Bool) none (λy d _=>
   @LK.rec (λ_=>Option Bool)
    (λk=>valI x none λa m=>valI y none λb n=>@Bool.rec (λ_=>Option Bool) none (@Bool.rec (λ_=>Option Bool) none (@Bool.rec (λ_=>Option Bool) (some false) (e c d) (TQ m n)) (dG b k)) (dG a k))
    (valB x none λa=>valB y none λb=>@Bool.rec (λ_=>Option Bool) (some false) (e c d) (JM a b))
    none k) d) c) ks
def On(a b:Int):TQ a b=Om a b:=by cases a<;>cases b<;>rfl
def vz:∀(ks:TE) (xs ys:Tk),JC ks xs ys=Ak ks xs ys
 | [],_,_=>by simp only[Ak];rfl
 |k :: ks,[],ys=>by cases k<;>rfl
 |k :: ks,x :: xs,[]=>by cases k<;>cases x<;>rfl
 | .v :: ks,x :: xs,y :: ys=>by cases x<;>cases y<;>rfl
 | .b :: ks,x :: xs,y :: ys=>by
  cases x<;>first|(cases y<;>rfl)|skip
  cases y<;>first|rfl|skip
  rename_i a b
  show @Bool.rec (λ_=>Option Bool) (some false) (JC ks xs ys) (JM a b)=_;rw[vz ks xs ys];simp only[Ak];cases JM a b<;>rfl
 | .i k :: ks,x :: xs,y :: ys=>by
  cases x<;>first|(cases y<;>rfl)|skip
  cases y<;>first|rfl|skip
  rename_i a m b n
  show @Bool.rec (λ_=>Option Bool) none (@Bool.rec (λ_=>Option Bool) none (@Bool.rec (λ_=>Option Bool) (some false) (JC ks xs ys) (TQ m n)) (dG b k)) (dG a k)=_;rw[vz ks xs ys,On];simp only[Ak];cases dG a k<;>cases dG b k<;>first|rfl|(cases Om m n<;>rfl)
def FA(ks:TE)(cs:Tk)(c:Th):Nat->Option (To):=
 @List.rec MapEntry (λ_=>Nat->Option (To)) (λ_=>some none) (λe _ d i=>match e.key with
  | .agg a=>@Option.rec Bool (λ_=>Option (To)) none (λb=>@Bool.rec (λ_=>Option (To)) (fN (Nat.succ i) d) (some (some i)) b) (JC ks cs a.toList)
  |_=>none) c
def nh(ks:TE)(cs:Tk):∀(a:Th) (i:Nat),FA ks cs a i=iW ks cs a i
 | [],_=>rfl
 |e :: a,i=>by
  have h:FA ks cs (e :: a) i=match e.key with
   | .agg ds=>@Option.rec Bool (λ_=>Option (To)) none (λb=>@Bool.rec (λ_=>Option (To)) (FA ks cs a (i+1)) (some (some i)) b) (JC ks cs ds.toList)
   |_=>none:=rfl
  rw[h];simp only[iW,vz,nh ks cs a];split
  next ds _=>
   cases Ak ks cs ds.toList with
   |none=>rfl
   |some b=>cases b<;>rfl
  ·rfl
def ug(P:TD)(kt:TJ)(k:Value)(a:Th):Option (To):=
 match k with
 | .agg b=>match Ao P kt,flatK P 10000 kt with
  |some true,some c=>match FA c b.toList a 0 with
   |some r=>some r
   |none=>rQ P kt k a
  |_,_=>rQ P kt k a
 |_=>rQ P kt k a
def DV(P:TD)(kt:TJ)(k:Value):Bool:=
 match k with
 | .agg b=>match Ao P kt with
  |some true=>match flatK P 10000 kt with
   |some a=>match gK a b.toList b.toList with
    |some _=>true
    |none=>iZ P kt k
   |none=>iZ P kt k
  |_=>iZ P kt k
 |_=>iZ P kt k
def Dp(g:cO)(id:Nat):Option (List MapEntry×Nat):=
 match g id with
 |some (.map a c)=>some (a,c)
 |_=>none
def gS(a:Bool)(v:Value):Option (Tk):=
 match v,a with
 | .agg b,true=>some b.toList
 | .agg _,false=>none
 |_,true=>none
 |v,false=>some [v]
def DZ(C:Cfg)(kt:TJ)(b:Bool)(z:Value)(m k:Value)(ok:Bool)(g:cO):Option (Tk):=
 if !DV C.P kt k then none else
 match m with
 | .map none=>(gS b z).map λa=>a++if ok then [.bool false]else []
 | .map (some id)=>
  match Dp g id with
  |none=>none
  |some (c,_)=>
   match ug C.P kt k c with
   |none=>none
   |some none=>(gS b z).map λa=>a++if ok then [.bool false]else []
   |some (some i)=>((fF c i).bind (gS b)).map λa=>a++if ok then [.bool true]else []
 |_=>none
def HX(C:Cfg)(kt:TJ)(m k v:Value)(g:cO)(_:Nat):Option (List Act1×List Value):=
 match m with
 | .map (some id)=>
  if !DV C.P kt k then none else
  match Dp g id with
  |none=>none
  |some (a,c)=>
   match ug C.P kt k a with
   |none=>none
   |some none=>some ([.set id (.map (a++[{ key:=k,val:=v,born:=c }]) (c+1))],[])
   |some (some i)=>
    if (a[i]?).all (λe=>Instr.sameBits 10000 e.key k)then some ([.set id (.map (a.modify i λe=>{ e with key:=k,val:=v }) c)],[])else none
 |_=>none
def meG(C:Cfg)(kt:TJ)(a:Bool)(z:Value)(m k:Value)(g:cO)(_:Nat):Option (List Act1×List Value):=none
def esG(m:Value)(b:Int)(v:Value)(g:cO)(_:Nat):Option (List Act1×List Value):=none
def deG(C:Cfg)(kt:TJ)(m k:Value)(g:cO)(_:Nat):Option (List Act1×List Value):=none
def mf(n:Nat)(x y:Value):Option Bool:=match Nat.beq n (du x),Nat.beq n (du y)with
 |true,true=>lm x y
 |_,_=>none
def uL{P:TD}{t:TJ}{a:TypeDesc}{x y:Value}{b:Bool}(e:P.underlying t=some a)(h:mf (lq a) x y=some b):lm x y=some b/\sE P t x y=true:=by
 unfold mf at h;split at h
 next c d=>
  refine⟨h,?_⟩;unfold sE;rw[e];simp only[wa,beq_iff_eq];exact⟨AW c,AW d⟩
 ·cases h
def rl(ks:TE):Bool:=ks.all λk=>match k with
 | .v=>false
 |_=>true
def SH(X:Ctxt)(d:Tn)(e:BinOp)(t:TJ)(a b:S0)(c:Env)(h:HT)(K:KN R HT):R:=
 match a,b with
 | .leaf (.i k x),.leaf (.i m y)=>
  match FR e,dG k m,isCmp e with
  |true,_,_=>A.shf e k x m y λn=>my d (.st (.leaf (.i k n))) c h K
  |false,true,true=>A.cmp e x y λt=>my d (.st (.leaf (.b t))) c h K
  |false,true,false=>A.ari e k x y λn=>my d (.st (.leaf (.i k n))) c h K
  |_,_,_=>A.fail
 | .agg g,.agg j=>match flatK X.C.P 10000 t,X.C.P.eqGuardType X.C.P.depth t,Ao X.C.P t with
  |some l,false,some true=>match aZ g l&&aZ j l&&rl l with
   |true=>match e with
    | .eql=>A.eqs ((g.map SL.lf).zip (j.map SL.lf)) λt=>my d (.st (.leaf (.b t))) c h K
    | .neq=>A.eqs ((g.map SL.lf).zip (j.map SL.lf)) λt=>my d (.st (.leaf (.b (!t)))) c h K
    |_=>A.fail
   |false=>A.fail
  |_,_,_=>A.fail
 | .leaf (.v x),.leaf (.v y)=>match X.C.P.underlying t with
  |some .string=>match e with
   | .eql=>A.opt (GH x y) λf=>my d (.st (.leaf (.b f))) c h K
   | .neq=>A.opt (GH x y) λf=>my d (.st (.leaf (.b (!f)))) c h K
   |_=>A.fail
  |some o=>match e with
   | .eql=>A.opt (mf (lq o) x y) λf=>my d (.st (.leaf (.b f))) c h K
   | .neq=>A.opt (mf (lq o) x y) λf=>my d (.st (.leaf (.b (!f)))) c h K
   |_=>A.fail
  |none=>A.fail
 | .leaf x,.leaf y=>match x.is .b&&y.is .b,X.C.P.underlying t with
  |true,some .bool=>match e with
   | .eql=>A.eqs [(x.lf,y.lf)] λt=>my d (.st (.leaf (.b t))) c h K
   | .neq=>A.eqs [(x.lf,y.lf)] λt=>my d (.st (.leaf (.b (!t)))) c h K
   |_=>A.fail
  |_,_=>A.fail
 |_,_=>A.fail
def Cq(a:Env):Tg->Option (Option Int)
 |none=>some none
 |some x=>match sval a x with
  | .st (.leaf (.i _ n))=>some (some n)
  |_=>none
def mK(a:TH):SK:=match a with
 | [k]=>k
 |_=>.agg []
def It(d:Tn)(sks:TH)(b:TB)(a:Env)(h:HT)(K:KN R HT):R:=
 match sks with
 | [c]=>Mc A d c b a h K
 | []=>A.un0 b (my d .un a h K)
 |sks=>E9 A sks b λe r=>A.un0 r (my d (.tup e) a h K)
structure Sig where
 ps:List SK
 rs:List SK
def cZ:List S0->TH->Bool
 | [],[]=>true
 |x :: l,k :: ks=>x.is k&&cZ l ks
 |_,_=>false
def mT(X:Ctxt)(d:Tn)(o:SK)(b:Builtin)(xs:List S0)(l:Array TypeId)(f:Env)(h:HT)(K:KN R HT):R:=
 match b,xs,l[0]? with
 | .append,[.leaf (.v s),.leaf (.v x)],some t=>match X.C.P.underlying t with
  |some (.slice e)=>match X.C.P.info? e with
   |some c=>match Nat.beq c.size 0||(kN c).isNone||(l[1]?.any λu=>(X.C.P.underlying u) matches some (.int _)|none)||l[1]?.isNone with
    |true=>A.fail
    |false=>A.heap (.ap X.C c.size c.bytes s x) h λg h=>Dx A d (.leaf .v) g f h K
   |none=>A.fail
  |_=>A.fail
 | .len,[x],some t=>match X.C.P.underlying t,x with
  |some (.slice _),.leaf (.v x)=>A.opt (DX x) λn=>my d (.st (.leaf (.i .i64 n))) f h K
  |some (.map _ _),.leaf (.v x)=>A.peek (.fn (lenM x)) h λg=>Dx A d (.leaf (.i .i64)) g f h K
  |some (.array n _),_=>my d (.st (.leaf (.i .i64 n))) f h K
  |_,_=>A.fail
 | .cap,[x],some t=>match X.C.P.underlying t,x with
  |some (.slice _),.leaf (.v x)=>A.opt (NR x) λn=>my d (.st (.leaf (.i .i64 n))) f h K
  |some (.array n _),_=>my d (.st (.leaf (.i .i64 n))) f h K
  |_,_=>A.fail
 | .copy,[.leaf (.v s),.leaf (.v x)],some t=>match X.C.P.underlying t with
  |some (.slice e)=>match Nat.beq (X.C.P.cellsOf e) 0 with
   |true=>A.fail
   |false=>A.heap (.fn (cpG X.C (X.C.P.cellsOf e) s x)) h λg h=>Dx A d (.leaf (.i .i64)) g f h K
  |_=>A.fail
 | .delete,[.leaf (.v m),k],some t=>match X.C.P.underlying t with
  |some (.map p _)=>A.heap (.fn (deG X.C p m k.val)) h λ_ h=>my d .un f h K
  |_=>A.fail
 | .clear,[.leaf (.v s)],some t=>match X.C.P.underlying t with
  |some (.slice e)=>match Nat.beq (X.C.P.cellsOf e) 0,wK X.C.P e with
   |false,some z=>A.heap (.fn (clG (X.C.P.cellsOf e) (z.cells.map SL.val) s)) h λ_ h=>my d .un f h K
   |_,_=>A.fail
  |_=>A.fail
 | .min,[.leaf (.i k a),.leaf (.i j b)],_=>match dG k j with
  |true=>A.cmp .lss b a λt=>A.sel t b a λn=>my d (.st (.leaf (.i k n))) f h K
  |false=>A.fail
 | .max,[.leaf (.i k a),.leaf (.i j b)],_=>match dG k j with
  |true=>A.cmp .lss a b λt=>A.sel t b a λn=>my d (.st (.leaf (.i k n))) f h K
  |false=>A.fail
 |_,_,_=>A.fail
def kZ(X:Ctxt)(d:Tn)(t:TJ)(x i:TG)(k:Env)(h:HT)(K:KN R HT):R:=
 match X.C.P.underlying t with
 |some (.array c e)=>
  let a:=X.C.P.cellsOf e
  match Nat.beq a 0,sval k x,sval k i,EB i with
  |false,.lad s f,_,some n=>match Nat.blt n c with
   |true=>my d (.lad s (f+n*a)) k h K
   |false=>A.fail
  |false,.gad g f,_,some n=>match Nat.blt n c with
   |true=>my d (.gad g (f+n*a)) k h K
   |false=>A.fail
  |false,.ldx s b l,_,some n=>match Nat.blt n c with
   |true=>my d (.ldx s (b+n*a) l) k h K
   |false=>A.fail
  |false,.gdx g b l,_,some n=>match Nat.blt n c with
   |true=>my d (.gdx g (b+n*a) l) k h K
   |false=>A.fail
  |false,.lad s f,.st (.leaf (.i _ j)),_=>A.opt (Cf c j) λ_=>my d (.ldx s f [(j,a)]) k h K
  |false,.gad g f,.st (.leaf (.i _ j)),_=>A.opt (Cf c j) λ_=>my d (.gdx g f [(j,a)]) k h K
  |false,.ldx s b l,.st (.leaf (.i _ j)),_=>A.opt (Cf c j) λ_=>my d (.ldx s b (l++[(j,a)])) k h K
  |false,.gdx g b l,.st (.leaf (.i _ j)),_=>A.opt (Cf c j) λ_=>my d (.gdx g b (l++[(j,a)])) k h K
  |false,.st (.leaf (.v p)),.st (.leaf (.i _ j)),_=>A.opt (OT c a p j) λq=>A.chk q (my d (.st (.leaf (.v q))) k h K)
  |_,_,_,_=>A.fail
 |some (.slice e)=>
  let a:=X.C.P.cellsOf e
  match Nat.beq a 0,sval k x,sval k i with
  |false,.st (.leaf (.v p)),.st (.leaf (.i _ j))=>A.opt (Ax a p j) λq=>my d (.st (.leaf (.v q))) k h K
  |_,_,_=>A.fail
 |_=>A.fail
def kW(X:Ctxt)(d:Tn)(t:TJ)(x:TG)(f:Nat)(c:Env)(h:HT)(K:KN R HT):R:=
 match X.C.P.underlying t with
 |some (.struct j)=>match j[f]? with
  |some e=>match Nat.beq (X.C.P.cellsOf e.type) 0,sval c x with
   |false,.lad s b=>my d (.lad s (b+e.offset)) c h K
   |false,.gad g b=>my d (.gad g (b+e.offset)) c h K
   |false,.ldx s a i=>my d (.ldx s (a+e.offset) i) c h K
   |false,.gdx g a i=>my d (.gdx g (a+e.offset) i) c h K
   |false,.st (.leaf (.v p))=>A.opt (Aw e.offset p) λq=>A.chk q (my d (.st (.leaf (.v q))) c h K)
   |_,_=>A.fail
  |none=>A.fail
 |_=>A.fail
abbrev _root_.Tc:=FuncId->Option Sig
def UR(X:Ctxt)(Sg:Tc)(o:Oper)(B:TH)(d:Env)(h:HT)(K:KN R HT):R:=
 match o.op with
 | .move x=>match sval d x with
  | .no=>A.fail
  |y=>my o.dst y d h K
 | .assign x=>match sval d x with
  | .no=>A.fail
  |y=>my o.dst y d h K
 | .pick c a b=>match sval d c,sval d a,sval d b with
  | .st (.leaf (.l true)),.st y,_=>my o.dst (.st y) d h K
  | .st (.leaf (.l false)),_,.st y=>my o.dst (.st y) d h K
  | .st (.leaf (.b t)),.st y,.st z=>A.cond t (my o.dst (.st y) d h K) (my o.dst (.st z) d h K)
  |_,_,_=>A.fail
 | .alloc t=>match wK X.C.P t with
  |some x=>Ps A X o.dst t x d h K
  |none=>A.fail
 | .box t x=>match sval d x with
  | .st x=>Ps A X o.dst t x d h K
  |_=>A.fail
 | .build t J=>match wK X.C.P t,ns X.C.P t,svals d (J.toList.map (·.2))with
  |some z,some pl,some D=>match rO pl z.cells ((J.toList.map (·.1)).zip D)with
   |some w=>my o.dst (.st (.agg w)) d h K
   |none=>A.fail
  |_,_,_=>A.fail
 | .buildSlice t n J=>match X.C.P.underlying t,svals d (J.toList.map (·.2))with
  |some (.slice e),some D=>match X.C.P.info? e with
   |some u=>match Nat.beq u.size 0||Nat.blt 16777216 (n*u.size),(kN u).bind Dw with
    |false,some z=>match rO (λi=>some (i*u.size,u.size)) (List.replicate n z.cells).flatten ((J.toList.map (·.1)).zip D)with
     |some w=>A.new (.cells (w.map SL.val) u.size true) h λm h=>my o.dst (.st (.leaf (.v (.slice (some ⟨m,0,qs u.size⟩) n (n+1))))) d h K
     |none=>A.fail
    |_,_=>A.fail
   |none=>A.fail
  |_,_=>A.fail
 | .load t a=>match Ao X.C.P t with
  |some G=>match JM G (jz (mK B))with
   |true=>KI A X o.dst (mK B) G (if G then X.C.P.cellsOf t else 1) a d h K
   |false=>A.fail
  |none=>A.fail
 | .store t a x=>match sval d x with
  | .st x=>E6 A X o.dst t a x d h K
  |_=>A.fail
 | .nilCheck x=>match sval d x with
  | .st (.leaf (.v p))=>A.opt (Ae p) λq=>A.chk q (my o.dst (.st (.leaf (.v q))) d h K)
  | .lad s H=>my o.dst (.lad s H) d h K
  | .gad s H=>my o.dst (.gad s H) d h K
  |_=>A.fail
 | .binOp U t x y _=>match sval0 d x,sval0 d y with
  |some a,some b=>SH A X o.dst U t a b d h K
  |_,_=>A.fail
 | .unOp U _ x=>match U,sval d x with
  | .not,.st (.leaf (.b t))=>my o.dst (.st (.leaf (.b (!t)))) d h K
  | .not,.st (.leaf (.l t))=>my o.dst (.st (.leaf (.l (!t)))) d h K
  | .neg,.st (.leaf (.i k n))=>A.ari .sub k 0 n λn=>my o.dst (.st (.leaf (.i k n))) d h K
  |_,_=>A.fail
 | .convert sT Y x=>match X.C.P.underlying sT,X.C.P.underlying Y,sval d x with
  |some (.int _),some (.int k),.st (.leaf (.i _ n))=>A.conv k n λn=>my o.dst (.st (.leaf (.i k n))) d h K
  |_,_,_=>A.fail
 | .makeFunc Z first L=>match Z,svals d first.toList,svals d L.toList with
  | .func g,some a,some b=>A.chk (.func (.func g) ⟨av a⟩ ⟨av b⟩) (my o.dst (.st (.leaf (.v (.func (.func g) ⟨av a⟩ ⟨av b⟩)))) d h K)
  |_,_,_=>A.fail
 | .makeMap t r=>match oA X.C t (r.map λ_=>.int .i64 0),Cq d r with
  |true,some _=>A.new (.map [] 0) h λn h=>my o.dst (.st (.leaf (.v (.map (some n))))) d h K
  |_,_=>A.fail
 | .makeSlice t l c=>match X.C.P.underlying t,sval d l,sval d c with
  |some (.slice e),.st (.leaf (.i _ l)),.st (.leaf (.i _ c))=>match X.C.P.info? e with
   |some u=>match Nat.beq u.size 0||Nat.blt 4096 u.bytes,(kN u).bind Dw with
    |false,some z=>A.opt (Cp l c) λ_=>
      A.new (.cells (bk (z.cells.map SL.val) c.toNat) u.size true) h λn h=>my o.dst (.st (.leaf (.v (.slice (some ⟨n,0,qs u.size⟩) l.toNat (c.toNat+1))))) d h K
    |_,_=>A.fail
   |none=>A.fail
  |_,_,_=>A.fail
 | .slice t x S O T=>match X.C.P.underlying t,sval d x,Cq d S,Cq d O,Cq d T with
  |some (.slice e),.st (.leaf (.v x)),some S,some O,some T=>match Nat.beq (X.C.P.cellsOf e) 0 with
   |true=>A.fail
   |false=>A.opt (C3 (X.C.P.cellsOf e) x S O T) λq=>A.chk q (my o.dst (.st (.leaf (.v q))) d h K)
  |_,_,_,_,_=>A.fail
 | .fieldAddr t x f=>kW A X o.dst t x f d h K
 | .indexAddr t x i=>kZ A X o.dst t x i d h K
 | .field t x f=>match X.C.P.underlying t,sval d x with
  |some (.struct fs),.st (.agg w)=>match fs[f]? with
   |some N=>match (Ao X.C.P N.type).bind (λI=>(BM w N.offset (if I then X.C.P.cellsOf N.type else 1)).bind (Db I))with
    |some x=>my o.dst (.st x) d h K
    |none=>A.fail
   |none=>A.fail
  |_,_=>A.fail
 | .index t x i=>match X.C.P.underlying t,sval d x,sval d i with
  |some (.array Q e),.st (.agg w),.st (.leaf (.i _ j))=>match Ao X.C.P e with
   |some I=>match JM I (jz (mK B))&&tH w (Dy (mK B)) 0 [(j,X.C.P.cellsOf e)]&&Nat.beq (if I then X.C.P.cellsOf e else 1) (Dy (mK B)).length with
    |false=>A.fail
    |true=>A.opt (Cf Q j) λ_=>A.opt (mG (w.map SL.lf) 0 [(j,X.C.P.cellsOf e)] (if I then X.C.P.cellsOf e else 1)) λls=>Mc A o.dst (mK B) ls d h K
   |none=>A.fail
  |some .string,.st (.leaf (.v (.string s))),.st (.leaf (.i _ j))=>A.opt (Ej s j) λb=>my o.dst (.st (.leaf (.i .u8 b))) d h K
  |_,_,_=>A.fail
 | .lookup t m k ok=>match X.C.P.underlying t,sval d m,sval0 d k with
  |some (.map E M),.st (.leaf (.v m)),some k=>match eE X.C.P M with
   |some z=>match B,ok with
    | [F],false=>A.peek (.fn (DZ X.C E (jz F) z m k.val false)) h λw=>IC A F w λx r=>A.uc0 r (my o.dst (.st x) d h K)
    | [F,.leaf .b],true=>A.peek (.fn (DZ X.C E (jz F) z m k.val true)) h λw=>IC A F w λx r=>A.ucB r λt r=>A.uc0 r (my o.dst (.tup [x,.leaf (.b t)]) d h K)
    |_,_=>A.fail
   |none=>A.fail
  |_,_,_=>A.fail
 | .mapUpdate t m k v=>match X.C.P.underlying t,sval d m,sval0 d k,sval0 d v with
  |some (.map E _),.st (.leaf (.v m)),some k,some v=>A.heap (.fn (HX X.C E m k.val v.val)) h λ_ h=>my o.dst .un d h K
  |_,_,_,_=>A.fail
 | .insert t m k v=>match X.C.P.underlying t,sval d m,sval0 d k,sval0 d v with
  |some (.map E _),.st (.leaf (.v m)),some k,some v=>A.heap (.fn (HX X.C E m k.val v.val)) h λ_ h=>my o.dst .un d h K
  |_,_,_,_=>A.fail
 | .mapEntry t m k=>match X.C.P.underlying t,sval d m,sval0 d k with
  |some (.map E M),.st (.leaf (.v m)),some k=>match eE X.C.P M with
   |some z=>match B with
    | [F,.leaf (.i .i64)]=>A.heap (.fn (meG X.C E (jz F) z m k.val)) h λw h=>IC A F w λx r=>A.ucI .i64 r λn r=>A.uc0 r (my o.dst (.tup [x,.leaf (.i .i64 n)]) d h K)
    |_=>A.fail
   |none=>A.fail
  |_,_,_=>A.fail
 | .entryStore _ m s v=>match sval d m,sval d s,sval0 d v with
  | .st (.leaf (.v m)),.st (.leaf (.i _ b)),some v=>A.heap (.fn (esG m b v.val)) h λ_ h=>my o.dst .un d h K
  |_,_,_=>A.fail
 | .extract t i=>match sval d t with
  | .tup D=>match D[i]? with
   |some x=>my o.dst (.st x) d h K
   |none=>A.fail
  |_=>A.fail
 | .call c=>match svals d c.args.toList with
  |some D=>match c.callee with
   | .builtin b=>mT A X o.dst (mK B) b D c.argTypes d h K
   | .value f=>match sval d f with
    | .st (.leaf (.v v))=>match f with
     | .func g=>match Sg g with
      |some W=>match cZ D W.ps with
       |true=>A.call g (cR D) h λV h=>It A o.dst W.rs V d h K
       |false=>A.fail
      |none=>A.fail
     |_=>A.callv v (av D) B h λV h=>It A o.dst B V d h K
    |_=>A.fail
   |_=>A.fail
  |none=>A.fail
 |_=>A.fail
def UT(X:Ctxt)(Sg:Tc)(ops:Tl)(o:Oper)(e:TH)(a:Env)(h:HT)(K:KN R HT):R:=
 match o.guard with
 |none=>UR A X Sg o e a h K
 |some (j,c)=>match (ops[j]?).bind (·.dst)with
  |some d=>match a.tm.getD d .no with
   | .st (.leaf (.l b))=>match b==c with
    |true=>UR A X Sg o e a h K
    |false=>my o.dst .un a h K
   | .un=>my o.dst .un a h K
   | .st (.leaf (.b t))=>match c with
    |true=>A.cond t (setK (.st (.leaf (.l true))) a.tm d λtm=>UR A X Sg o e ⟨tm,a.lc⟩ h K) (setK (.st (.leaf (.l false))) a.tm d λtm=>my o.dst .un ⟨tm,a.lc⟩ h K)
    |false=>A.cond t (setK (.st (.leaf (.l true))) a.tm d λtm=>my o.dst .un ⟨tm,a.lc⟩ h K) (setK (.st (.leaf (.l false))) a.tm d λtm=>UR A X Sg o e ⟨tm,a.lc⟩ h K)
   |_=>A.fail
  |none=>A.fail
abbrev _root_.Tu:=List Oper
def H5(X:Ctxt)(Sg:Tc)(ops:Tl)(l:Tu):List (TH)->Env->HT->KN R HT->R:=
 List.rec (motive:=λ_=>List (TH)->Env->HT->KN R HT->R) (λ_ a h K=>K a h)
  (λo _ c b a h K=>UT A X Sg ops o (b.headD []) a h λa h=>c b.tail a h K) l
end
namespace Sx
def gZ(_ _:Oper):Bool:=false
def Fg(a:Tx)(o:Oper):Nat:=
 o.after.toList.foldl (λm e=>match Region.binds .any e with
  |true=>Nat.lor (Nat.lor m (Nat.shiftLeft 1 e.on)) (a.getD e.on 0)
  |false=>m) 0
def CR:Tu->Tx->List Nat
 | [],a=>a
 |o :: l,a=>CR l (a++[Fg a o])
def adr:Value->List Nat
 | .pointer (some a)=>match a.spot with
  |none=>[a.block]
  |some _=>[]
 | .slice (some a) _ _=>match a.spot with
  |some 1=>[]
  |_=>[a.block]
 | .map (some id)=>[id]
 |_=>[]
def V9:Value->List Nat
 | .pointer (some a)=>match a.spot with
  |none=>[a.block]
  |some _=>[]
 |_=>[]
def V8:Value->List Nat
 | .map (some id)=>[id]
 |_=>[]
def dg(pts:Tx)(o:Oper):List Operand×Nat:=
 match o.op with
 | .load _ a=>match mE pts a with
  |0=>([a],0)
  |_=>([],0)
 | .store _ a _=>match mE pts a with
  |0=>([a],0)
  |_=>([],0)
 | .slice _ x _ _ _=>([x],1)
 | .lookup _ m _ _=>([m],0)
 | .mapUpdate _ m _ _ | .insert _ m _ _ | .mapEntry _ m _ | .entryStore _ m _ _=>([m],0)
 | .call c=>match c.callee with
  | .builtin b=>match b with
   | .append | .copy=>(c.args.toList,0)
   | .delete | .clear=>(c.args.toList.take 1,0)
   | .len=>(c.args.toList,2)
   |_=>([],0)
  |_=>([],0)
 |_=>([],0)
def adrK:Nat->Value->List Nat
 |0,v=>adr v
 |1,v=>V9 v
 |_,v=>V8 v
def eO(pts:Tx)(o:Oper):List Operand:=
 match o.op with
 | .store _ a _=>match mE pts a with
  |0=>[a]
  |_=>[]
 | .mapUpdate _ m _ _ | .insert _ m _ _ | .mapEntry _ m _ | .entryStore _ m _ _=>[m]
 | .call c=>match c.callee with
  | .builtin b=>match b with
   | .append | .copy | .delete | .clear=>c.args.toList.take 1
   |_=>[]
  |_=>[]
 |_=>[]
def BB(pts:Tx)(o:Oper):Nat:=
 match o.op with
 | .load _ a=>match mE pts a with
  |0=>1
  |_=>0
 | .store _ a _=>match mE pts a with
  |0=>2
  |_=>0
 | .alloc _ | .box _ _=>match dt pts o with
  |true=>2
  |false=>0
 | .buildSlice _ _ _ | .makeMap _ _ | .makeSlice _ _ _ | .mapUpdate _ _ _ _ | .mapEntry _ _ _ | .entryStore _ _ _ _ | .insert _ _ _ _=>2
 | .lookup _ _ _ _ | .slice _ _ _ _ _=>1
 | .call c=>match c.callee with
  | .builtin b=>match b with
   | .append | .copy | .delete | .clear=>2
   | .len=>1
   |_=>0
  |_=>0
 |_=>0
def Jw(pts:Tx)(a b:Oper):Bool:=Nat.ble 3 (BB pts a+BB pts b) && !gZ a b
def tV(pts:Tx)(b:Oper)(m i:Nat):Tu->Nat->List (Nat×Nat)
 | [],_=>[]
 |a :: l,k=>match Nat.testBit m k || !Jw pts a b with
  |true=>tV pts b m i l (k+1)
  |false=>(k,i) :: tV pts b m i l (k+1)
def wX(pts:Tx)(ms:Tx):Tu->Tu->Nat->List (Nat×Nat)
 |_,[],_=>[]
 |pre,b :: l,i=>tV pts b (ms.getD i 0) i pre 0++wX pts ms (pre++[b]) l (i+1)
def wY(pts:Tx)(ops:Tl):List (Nat×Nat):=wX pts (CR ops.toList []) [] ops.toList 0
def memN(x:Nat):Tx->Bool
 | []=>false
 |y :: l=>match Nat.beq x y with
  |true=>true
  |false=>memN x l
def disjN:Tx->Tx->Bool
 | [],_=>true
 |x :: l,m=>match memN x m with
  |true=>false
  |false=>disjN l m
def sepL:List (Value×Nat×Value)->Option Unit
 | []=>some ()
 |p :: l=>match disjN (adr p.1) (adrK p.2.1 p.2.2)with
  |true=>sepL l
  |false=>none
def YF:SV->Option (Tk)
 | .st (.leaf (.v x))=>some [x]
 | .no=>none
 |_=>some []
def rH(c:Env):List Operand->Option (Tk)
 | []=>some []
 |x :: l=>match YF (sval c x),rH c l with
  |some a,some b=>some (a++b)
  |_,_=>none
def MU(pts:Tx)(o:Oper):List Operand:=eO pts o++match BB pts o,o.dst with
 |2,some d=>[.tmp d]
 |_,_=>[]
def DP(a:Tk)(k:Nat)(vs:Tk):List (Value×Nat×Value):=a.flatMap λu=>vs.map λv=>(u,k,v)
def E1(pts:Tx)(c:Env)(a b:Oper):Option (List (Value×Nat×Value)):=
 match rH c (MU pts a),rH c (MU pts b),rH c (dg pts a).1,rH c (dg pts b).1 with
 |some d,some e,some f,some g=>some (DP d (dg pts b).2 g++DP d 0 e++DP e (dg pts a).2 f)
 |_,_,_,_=>none
def sY(pts:Tx)(ops:Tl)(c:Env):List (Nat×Nat)->Option (List (Value×Nat×Value))
 | []=>some []
 |p :: l=>match ops[p.1]?,ops[p.2]?,sY pts ops c l with
  |some a,some b,some r=>(E1 pts c a b).map λx=>x++r
  |_,_,_=>none
def sepK{R a:Type}(A:Alg R a)(pts:Tx)(ops:Tl)(ps:List (Nat×Nat))(c:KN R a):KN R a:=
 match ps with
 | []=>c
 |ps=>λb h=>match sY pts ops b ps with
  |some l=>A.opt (sepL l) λ_=>c b h
  |none=>A.fail
def splOf:List (Nat×Nat)->Option (Nat×Nat)
 | []=>none
 |p :: l=>match l with
  | []=>match Nat.ble 1000 p.1 with
   |true=>some (p.1 - 1000,p.2)
   |false=>none
  |_=>none
def Od(x y:Value):Option Unit:=match x with
 | .func (.yield l) a b=>match y with
  | .func (.yield m) c d=>match Nat.beq l m,a.toList,b.toList,c.toList,d.toList with
   |true,[],[],[],[]=>some ()
   |_,_,_,_,_=>none
  |_=>none
 |_=>none
def N9:SV->Option Value
 | .st (.leaf (.v x))=>some x
 |_=>none
def reK{R a:Type}(A:Alg R a)(X:Ctxt)(Sg:Tc)(ops:Tl)(k:Nat)(e:TH)(b:Env)(h:a)(f:KN R a):R:=
 match ops[k]? with
 |some o=>match o.dst with
  |some d=>UT A X Sg ops o e b h λc _=>match N9 (b.tm.getD d .no),N9 (c.tm.getD d .no)with
   |some x,some y=>A.opt (Od x y) λ_=>f b h
   |_,_=>A.fail
  |none=>A.fail
 |none=>A.fail
def manyOf(l:List (Nat×Nat)):Option (List (Nat×Nat)):=match l with
 | []=>none
 |p :: l=>match Nat.ble 5000 p.1 with
  |true=>some l
  |false=>none
def eqNt:Int->Int->Bool
 | .ofNat a,.ofNat b=>Nat.beq a b
 | .negSucc a,.negSucc b=>Nat.beq a b
 |_,_=>false
def TP:To->To->Bool
 |none,none=>true
 |some a,some b=>Nat.beq a b
 |_,_=>false
def EF:Option Addr->Option Addr->Bool
 |none,none=>true
 |some a,some b=>match Nat.beq a.block b.block,Nat.beq a.off b.off with
  |true,true=>TP a.spot b.spot
  |_,_=>false
 |_,_=>false
def eqVl(x y:Value):Option Unit:=match x with
 | .pointer a=>match y with
  | .pointer b=>match EF a b with
   |true=>some ()
   |false=>none
  |_=>none
 | .slice a n c=>match y with
  | .slice b m d=>match EF a b,Nat.beq n m,Nat.beq c d with
   |true,true,true=>some ()
   |_,_,_=>none
  |_=>none
 | .map a=>match y with
  | .map b=>match TP a b with
   |true=>some ()
   |false=>none
  |_=>none
 |_=>Od x y
def eqIn(x y:Int):Option Unit:=match eqNt x y with
 |true=>some ()
 |false=>none
def YG(x y:Bool):Option Unit:=match x,y with
 |true,true=>some ()
 |false,false=>some ()
 |_,_=>none
def L9{R c:Type}(A:Alg R c)(x y:SL)(K:R):R:=match x with
 | .i k n=>match y with
  | .i d m=>match dG k d with
   |true=>A.opt (eqIn n m) λ_=>K
   |false=>A.fail
  |_=>A.fail
 | .b t=>match y with
  | .b u=>A.opt (YG t u) λ_=>K
  |_=>A.fail
 | .v a=>match y with
  | .v b=>A.opt (eqVl a b) λ_=>K
  |_=>A.fail
 | .l _=>A.fail
def Gv{R a:Type}(A:Alg R a):List SL->List SL->R->R
 | [],[],K=>K
 |x :: l,y :: m,K=>L9 A x y (Gv A l m K)
 |_,_,_=>A.fail
def samS{R c:Type}(A:Alg R c)(x y:SV)(K:R):R:=match x with
 | .st (.leaf a)=>match y with
  | .st (.leaf b)=>L9 A a b K
  |_=>A.fail
 | .st (.agg a)=>match y with
  | .st (.agg b)=>Gv A a b K
  |_=>A.fail
 |_=>A.fail
def opsM{R a:Type}(A:Alg R a)(X:Ctxt)(Sg:Tc)(ops:Tl)(l:Tu):List (TH)->Env->a->(Env->a->List a->R)->R:=
 List.rec (motive:=λ_=>List (TH)->Env->a->(Env->a->List a->R)->R) (λ_ b h K=>K b h [])
  (λo _ g d b h K=>UT A X Sg ops o (d.headD []) b h λb h=>g d.tail b h λc e f=>K c e (h :: f)) l
def atM{α:Type}(h0:α)(a:List α)(p:Nat×Nat):α:=(h0 :: a).getD (match Nat.ble p.1 p.2 with
 |true=>p.2+1
 |false=>p.2) h0
def reM{R a:Type}(A:Alg R a)(X:Ctxt)(Sg:Tc)(ops:Tl)(f:List (TH))(b:Env)(h0:a)(e:List a)(K:R):List (Nat×Nat)->R
 | []=>K
 |p :: l=>match ops[p.1]? with
  |some o=>match o.dst with
   |some d=>UT A X Sg ops o (f.getD p.1 []) b (atM h0 e p) λc _=>samS A (b.tm.getD d .no) (c.tm.getD d .no) (reM A X Sg ops f b h0 e K l)
   |none=>A.fail
  |none=>A.fail
def regE{R d:Type}(A:Alg R d)(X:Ctxt)(Sg:Tc)(ops:Tl)(b:List (TH))(f:List (Nat×Nat))(a:Env)(h:d)(e:KN R d):R:=
 match manyOf f with
 |some l=>opsM A X Sg ops ops.toList b a h λc g i=>reM A X Sg ops b c h i (e c g) l
 |none=>match splOf f with
  |none=>H5 A X Sg ops ops.toList b a h (sepK A X.pts ops f e)
  |some p=>H5 A X Sg ops (ops.toList.take (p.2+1)) b a h λa h=>reK A X Sg ops p.1 (b.getD p.1 []) a h λa h=>
   H5 A X Sg ops (ops.toList.drop (p.2+1)) (b.drop (p.2+1)) a h e
end Sx
abbrev Dr:=List Nat->Tl->Option (List (Nat×Nat))
section
variable {R HT:Type} (A:Alg R HT)
def ud(e:Exit)(id:Nat):Bool:=match e with
 | .exit i=>Nat.beq i id
 |_=>false
def drX(b:Dr)(a:Bool)(pts:Tx)(ops:Tl):Option (List (Nat×Nat)):=match a with
 |true=>b pts ops
 |false=>some []
def exec(X:Ctxt)(Sg:Tc)(s:Dr)(c:AC):Env->HT->KN R HT->(Exit->KN R HT)->R:=
 AC.rec (motive:=λ_=>Env->HT->KN R HT->(Exit->KN R HT)->R)
  (λd h f _=>f d h)
  (λd h _ g=>g .ret d h)
  (λid d h _ g=>g (.exit id) d h)
  (λ_ d h f _=>f d h)
  (λ_ _ i k d h f g=>i d h (λd h=>k d h f g) g)
  (λ_ o d h f g=>o d h f g)
  (λid n m u j d h f _=>match drX s m X.pts n with
   |none=>A.fail
   |some v=>uy A X.pts (.region id n m) j d f λf=>Sx.regE A X Sg n u v d h f)
  (λc a b j i k d h f g=>match sval d c with
   | .st (.leaf (.l true))=>i d h f g
   | .st (.leaf (.l false))=>k d h f g
   | .st (.leaf (.b t))=>uy A X.pts (.cond c (a.erase λκ t=>iR (X.T κ) t) (b.erase λκ t=>iR (X.T κ) t)) j d f λf=>A.cond t (i d h f g) (k d h f g)
   |_=>A.fail)
  (λid b j o d h f g=>uy A X.pts (b.erase λκ t=>iR (X.T κ) t) j d f λf=>o d h f λe=>match ud e id with
   |true=>f
   |false=>g e)
  (λb lv o d h _ g=>match pk d lv with
   |none=>A.fail
   |some q=>match lv.rows.all λp=>!(aQ X.pts (b.erase λκ t=>iR (X.T κ) t)).contains p.1 with
    |false=>A.fail
    |true=>A.loop (λr q h=>reE A X.pts (b.erase λκ t=>iR (X.T κ) t) .nil lv d q λd=>o d h (λd h=>match pk d lv with
     |some q=>r q h
     |none=>A.fail) g) q h)
  (λ_ _ _ _ _ _ _=>A.fail) c
def Ey(cs:List SL)(K:R):R:=
 List.rec K (λc _ a=>match c with
  | .v x=>A.opt (BL x) λ_=>a
  |_=>a) cs
def gF(a:Bool)(x:S0)(K:R):R:=
 match a,x with
 |true,.agg b=>Ey A b K
 |_,_=>K
def Dh(X:Ctxt)(c:Bool)(j:Env)(h:HT)(l:List ResultVar):TH->TB->(TB->HT->R)->R:=
 List.rec (motive:=λ_=>TH->TB->(TB->HT->R)->R) (λb d K=>match b with
   | []=>K d h
   |_=>A.fail)
  (λm _ i b d K=>match b with
   | []=>A.fail
   |g :: b=>match m with
    | .tmp t=>match j.tm.getD t .no with
     | .st x=>match x.is g with
      |true=>gF A c x (i b (d++x.cells.map SL.lf) K)
      |false=>A.fail
     |_=>A.fail
    | .cell a t=>match Ao X.C.P t with
     |some e=>
      let n:=if e then X.C.P.cellsOf t else 1
      match j.tm.getD a .no with
      | .lad s k=>match (sV j s).bind (λf=>(BM f k n).bind (Db e))with
       |some x=>match x.is g with
        |true=>gF A c x (i b (d++x.cells.map SL.lf) K)
        |false=>A.fail
       |none=>A.fail
      | .st (.leaf (.v p))=>match e,g with
       |true,.agg _=>A.peek (.ld n p) h λf=>IC A g f λx r=>A.uc0 r (gF A c x (i b (d++x.cells.map SL.lf) K))
       |false,.leaf _=>A.peek (.ld n p) h λf=>IC A g f λx r=>A.uc0 r (gF A c x (i b (d++x.cells.map SL.lf) K))
       |_,_=>A.fail
      |_=>A.fail
     |none=>A.fail) l
structure Fn1 where
 sg:Sig
 nt:Nat
 rvs:List ResultVar
 code:AC
def ak(X:Ctxt)(Sg:Tc)(d:Dr)(a:Fn1)(ls:TB)(h:HT)(K:TB->HT->R):R:=
 E9 A a.sg.ps ls λc r=>A.un0 r (
  exec A X Sg d a.code ⟨c.map .st++List.replicate (a.nt - c.length) .no,List.replicate a.nt .nil⟩ h
   (λb h=>Dh A X (Nat.blt 1 a.rvs.length) b h a.rvs a.sg.rs [] K)
   λe b h=>match e with
    | .ret=>Dh A X (Nat.blt 1 a.rvs.length) b h a.rvs a.sg.rs [] K
    |_=>A.fail)
end
inductive An where
 |r (hs:List (TH)) (j:Option Live)
 |c (j:Option Live)
 |b (j:Option Live)
 |l (lv:Live)
 |f (κ:Nat) (ids:Tx)
abbrev lv:SK:=.leaf .v
abbrev lb:SK:=.leaf .b
abbrev li:SK:=.leaf (.i .i64)
def tI:Code->List An->AC×List An
 | .skip,l=>(.skip,l)
 | .ret,l=>(.ret,l)
 | .exit id,l=>(.exit id,l)
 | .label n,l=>(.label n,l)
 | .seq a b,l=>
  let x:=tI a l
  let y:=tI b x.2
  (.seq x.1 y.1,y.2)
 | .scope b,l=>
  let x:=tI b l
  (.scope x.1,x.2)
 | .region id g d,.r h j :: l=>(.region id g d h j,l)
 | .cond c a b,.c j :: l=>
  let x:=tI a l
  let y:=tI b x.2
  (.cond c x.1 y.1 j,y.2)
 | .block id b,.b j :: l=>
  let x:=tI b l
  (.block id x.1 j,x.2)
 | .loop b,.l lv :: l=>
  let x:=tI b l
  (.loop x.1 lv,x.2)
 | .rangeFunc f _ _ _,.f κ e :: l=>(.rangeFunc f κ e,l)
 |_,l=>(.exit 1000000,l)
def S1(P:TD)(f:TK):Code:=((P.funcs[f]?).bind (·.body)).getD .skip
def fn1(P:TD)(f:TK)(sg:Sig)(b:List An):Fn1:=
 match P.funcs[f]? with
 |some a=>⟨sg,a.ntmps,a.results.toList,(tI (S1 P f) b).1⟩
 |none=>⟨sg,0,[],.skip⟩
abbrev g00:SK:=.agg [.i .i64,.i .i64,.i .u8]
abbrev g01:SK:=.agg [.i .u8,.i .i64,.i .i64]
abbrev g02:SK:=.leaf (.i .u8)
abbrev g03:SK:=.agg [.i .i64,.i .i64]
abbrev g04:SK:=.agg [.i .i64,.i .i64,.v]
abbrev g05:SK:=.agg [.i .i64,.i .u8]
abbrev g06:SK:=.agg [.i .u8,.i .i64]
abbrev g07:SK:=.agg [.i .i64,.i .u8,.i .u8]
abbrev g08:SK:=.agg [.i .i64,.i .i64,.v,.i .u8,.i .i64,.i .i64,.v]
abbrev g09:SK:=.agg [.i .i64,.i .i64,.i .u8,.i .i64,.i .i64,.i .u8]
abbrev Ck:SK:=.agg [.i .i64,.i .i64,.i .i64,.i .i64]
abbrev C7:SK:=.agg [.i .i64,.i .i64,.i .u8,.i .i64,.i .i64,.i .u8,.v,.v,.v]
abbrev C8:SK:=.agg [.i .i64,.i .i64,.i .u8,.v]
abbrev Kj:SK:=.leaf (.i .u64)
abbrev Kk:SK:=.agg [.i .u8,.i .u8,.v,.v]
abbrev Zm:SK:=.agg [.i .i64,.i .i64,.i .u8,.i .i64,.i .i64,.i .i64,.i .u8,.i .i64,.i .i64,.i .u8,.i .i64,.i .i64,.i .u8,.i .i64,.i .i64,.i .i64,.i .i64]
abbrev jw:An:=.r [] none
abbrev rv:An:=.c none
abbrev ts:An:=.b none
abbrev rN(x:List (TH)):An:=.r x none
open Go.Proofs
def T2:Tk:=[.int .i64 1,.int .i64 0,.int .i64 0,.int .i64 1,.int .i64 0,.int .i64 (-1),.int .i64 1,.int .i64 0,.int .i64 (-1),.int .i64 0,.int .i64 0,.int .i64 (-1),.int .i64 0,.int .i64 1,.int .i64 (-1),.int .i64 0,.int .i64 (-1),.int .i64 0,.int .i64 0,.int .i64 1,.int .i64 0,.int .i64 (-1),.int .i64 (-1),.int .i64 0,.int .i64 1,.int .i64 0,.int .i64 0,.int .i64 (-1),.int .i64 0,.int .i64 1,.int .i64 1,.int .i64 0]
def T0:Tk:=[.int .i64 0,.int .i64 (-1),.int .u8 2,.int .i64 0,.int .i64 0,.int .i64 (-1),.int .u8 2,.int .i64 0,.int .i64 0,.int .u8 1,.int .i64 0,.int .i64 0,.int .u8 3,.int .i64 0,.int .i64 0,.int .i64 2,.int .i64 0,.int .i64 1,.int .i64 0,.int .u8 1,.int .i64 1,.int .i64 1,.int .i64 0,.int .u8 3,.int .i64 0,.int .i64 0,.int .u8 0,.int .i64 0,.int .i64 0,.int .u8 2,.int .i64 2,.int .i64 2,.int .i64 2,.int .i64 0,.int .i64 0,.int .i64 1,.int .u8 2,.int .i64 1,.int .i64 0,.int .i64 1,.int .u8 0,.int .i64 0,.int .i64 0,.int .u8 3,.int .i64 0,.int .i64 0,.int .u8 1,.int .i64 2,.int .i64 2,.int .i64 0,.int .i64 2,.int .i64 (-1),.int .i64 0,.int .u8 1,.int .i64 0,.int .i64 (-1),.int .i64 0,.int .u8 1,.int .i64 0,.int .i64 0,.int .u8 2,.int .i64 0,.int .i64 0,.int .u8 0,.int .i64 0,.int .i64 0,.int .i64 0,.int .i64 2]
def ptsTab:List (Tx):=[
 [],
 [],
 [0],
 [0,3,0,5,0,0,0,0,0,0,0,0,0,0,0,0,5,0,5,0,5,0,0,0,0,0,5,0,5,0,0,0,0,5,0,0,0,0,0,0,0,0,0,0,0,0,0,0,0,0,0,5,0,0,0,5,0,0,0,0,0,0,0,0,0,0,0,0,5,0,0,0,5],
 [0,3,0,5,0,0,0,0,0,0,0,0,0,0,5,0,5,0,5,0,0,0,0,0,0,0,5,0,5,0,0,0,0,5,0,0,0,0,0,0,0,0,5,0,0,0,5,0,0,0,0,0,0,0,0,0,0,0,0,5,0,0,0,5,0,0,0,0,0,0,0,0,0,0,0,0,0,0,0,0,0,0,5],
 [0,0,0,5,6,7,0,9,0,0,0,0,0,15,0,0,0,0,6,0,0,0,7,0,0,0,7,0,0,0,0,7,0,0,0,0,7,0,0,0,0,0,9,0,9,0,0,6,0,0,0,0,0,6,0,0,0,0,0,0,0,0,0,0,0,0,0,0,0,0,0,0,0,0,0,0,0,0,0,0,0,0,0,0,0,0,0,0,0,0,0,0,0,9,0,9,0,0,0,0,9,0,9,0,0,0,0,0,0,9,0,9,0,0,0,0,0,0,0,0,0,0,0,0,0,0,0,0,0,0,0,9,0,0,0,0,0,0,0,0,9,0,9],
 [0,3,4,5,0,0,0,0,0,0,3,0,0,0,0,3,0,0,0,0,0,0,3,0,0,0,0,0,0,0,0,0,0,0,0,0,0,0,0,3,0,0,0,0,0,0,0,0,0,0,0,3,0,0,0,0,0,0,3,0,0,0,0,0,0,0,0,0,0,3,0,0,0,0,0,0,0,0,0,5,0,3,0,0,0,0,0,0,5,0,0,0,0,0,0,3,0,0,0,0,0,0,0,0,0,3],
 [0,0,0,5,6,0,0,0,0,0,0,13,0,0,0,0,0,0,20,0,0,0,0,0,0,0,0,5,0,0,0,0,0,0,0,0,0,0,0,0,0,0,0,0,0,0,0,0,0,0,0,0,0,0,0,0,0,0,13],
 [0,0,4,5,0,0,0,0,0,0,0,0,0,0,16,4,4,0,0,4,4,0,0,0,0,0,0,0,0,0,0,0,0,0,0,0,0,0,0,0,0,0,0,0,0,0,0,0,0,0,0,0,4,0,0,0,0,0,0,0,0,0,0,0,0,0,0,0,0,0,0,4,0,0,0,4],
 [0,3,0,0,0,7,0,0,0,3,3,0,0,3,3,0,0,0,0,3,0,0,0,0,0,3,0,0,0,0,0,0,0,0,3,0,7,0,0,0,0,0,0,3,0,7,0,0,0,7,0,0,0,0,0,7,0,0,0,0,7,0,0,0,0,0,0,3,0,0,0,0,7,0,0,0,0,0,0,0,7],
 [0,0,0,0,0,0,8,0,0,0,12,13,0,0,0,0,0,0,0,0,0,0,0,0,0,0,0,0,0,0,0,0,0,0,0,0,0,0,0,0,8,0,0,0,0,0,0,0,0,8],
 [0,0,0,0,6,7,0,0,0,0,0,0,0,15,0,0,0,0,0,0,0,0,0,0,0,0,0,0,15,0,0,0,0,0,0,0,0,0,0,0,0,0,0,0,0,0,6,0,0,0,0,0,6,0,0,0,0,0,0,0,0,0,0,0,0,0,0,0,0,0,0,0,0,0,0,0,0,0,0,6,0,0,0,0,6,0,0,0,0,0,0,0,0,0,0,0,0,0,0,0,0,0,0,0,0,0,0,0,0,0,0,0,0,0,7,0,6,0,6,0,0,0,0,0,0,0,0,0,0,0,7,0,6,0,6,0,0,0,0,0,0,0,0,0,0,0,0,0,0,6,0,0,0,0,6,0,0,0,0,0,0,0,0,0,0,0,0,0,0,0,0,0,0,0,0,0,0,0,0,6,0,0,0,0,0,6,0,0,0,0,0,0,6,0,0,0,0,0,0,0,6,0,0,0,0,0,6,0,0,0,0,0,6],
 [0,0,4,5,0,4,0,5,0,0,0,4,0,5,0,0,0,4,0,5,0,0,0,4,0,5,0,0,0,4,0,5],
 [0,3,4,5,6,7,8,0,10,0,12,13,14,15,0,0,0,0,0,0,3,0,3,0,3,0,0,0,0,0,0,0,3,0,3,0,3,0,0,0,0,0,0,0,0,0,0,0,0,0,8,0,0,0,0,0,8,0,0,0,0,0,0,0,8,0,0,8,0,0,0,0,0,0,10,0,0,0,0,0,10,0,0,0,0,0,0,10,0,0,0,0,0,0,0,0,0,12,0,12,0,12,0,0,0,0,0,0,0,12,0,12,0,12,0,0,0,0,0,0,0,0,0,0,0,0,0,13,0,0,0,0,0,13,0,0,0,0,0,0,0,14,0,0,0,0,0,14,0,0,0,0,0,0,14],
 [0,0,0,0,0,7,0,0,0,0,0,0,0,0,0,0,0,0,0,0,0,0,7],
 [0,0,4,0,0,7,0,0,10,0,0,0,0,0,16,0,0,0,20,0,0,4,0,4,0,0,0,0,0,0,0,0,0,0,0,0,0,0,0,0,0,0,0,0,0,0,0,4,0,0,0,0,0,7,0,0,0,0,0,0,0,0,0,0,0,0,0,0,16,0,0,0,0,16,0,0,0,0,0,0,0,0,0,0,0,0,16,0,20,0,0,0,20,0,16,0,0,0,0,16,0,20,0,0,0,0,20,0,16,0,0,0,16,0,20,0,0,0,0,20,0,16,0,0,0,0,0,0,0,7,0,0,0,0,0,0,0,0,0,7,0,0,0,0,7,0,0,0,0,0,7,0,0,0,0,7],
 [0,0,0,5,6,0,0,0,0,0,0,0,0,15,0,17,0,0,0,0,0,0,0,0,0,0,0,5,0,0,0,0,0,0,0,0,0,0,0,0,0,0,0,0,0,0,0,0,0,0,0,0,0,0,15],
 [0,0,0,0,0,7,8,0,10,11,12,0,0,0,0,0,0,19,0,0,0,0,0,0,0,0,0,0,0,0,0,0,0,0,0,0,0,0,0,0,0,0,0,0,0,0,0,0,0,0,19,0,0,0,0,19],
 [0,3,0,3,0,0,0,0,3,0,0,0,0,3,0,0,0,0,3,0,3],
 [],
 [0,0,0,0,6,7,0,0,0,0,0,0,0,0,0,0,0,0,0,0,7,0,7,7,0,0,0,0,0,0,0,0,7],
 [0,3,0,0,0,0,8,0,0,0,0,0,0,0,0,0,0,0,0,0,0,0,0,0,0,0,0,0,0,0,0,8,0,0,0,0,0,0,0,0,8,0,0,0,0,0,0,0,0,8],
 [0,0,4,5,6,7,8,0,0,0,12,0,0,0,0,0,0,0,0,0,0,5,0,0,4,4,0,0,4,4,0,0,0,4,0,0,0,4,0,0,0,0,0,4,0,0,0,0,5,0,12,0,0,5,0,0,0,12,0,0,12,0,0,0,0,0,12,0,0,0,0,0,0,0,0,12,0,0,0,0,0,0,12,0,0,0,0,0,4,0,0,0,8,0,0,12,0,0,0,0,0,0,0,0,0,0,0,0,0,0,0,0,0,0,0,0,0,0,0,0,0,0,0,0,0,0,0,0,0,5,0,0,0,0,0,0,0,0,0,0,0,0,0,0,0,0,0,0,0,0,0,0,0,0,0,0,0,0,0,0,0,0,0,0,0,0,0,0,0,0,0,0,0,0,8,0,4,0,4,0,0,0,0,0,0,0,0,0,0,0,0,0,0,0,0,0,5,0,0,0,0,0,0,0,0,0,0,0,0,5,0,0,8,8,0,0,0,0,0,0,4,4,0,0,0,0,0,0,0,0,0,0,0,0,0,0,0,0,8,8,8,8,0,0,8,8],
 [0,3,0,0,0,0,3,0,0,3],
 [0,0,4,5],
 [0,0,4,5],
 [0,0,0,0,0,0,8,0,10,0,12],
 [0],
 [0,0,4,5,0,4,0,5,0,0,4,0,5],
 [0],
 [0,0,4,5,0,4,0,5,0,0,4,0,5,0,0,4,0,0,5],
 [0,0,0,0,6],
 [0,0,0,5,0,0,0,9,0,0,0,0,0,9,0,0,0,9,0,0,0,0,9,0,5,0,0,0,0,9,0,5,0,0,0,9,0,5,0,0,9,0,0,0,9],
 [0,0,4,5,6,7,8,9,0,11,0,0,0,0,0,0,0,0,0,0,0,0,0,0,0,0,0,0,0,0,7,0,0,7],
 [0,0,4,5,6,4,0,5,0,0,4,0,5,0,0,0,0,4,0,5,0,0,4,0,5,0,0,0,0,4,0,5,0,0,0,0,4,0,5,0,0,0,0,4,0,4,0,0,0,4,0,4,0,0,0,0,4,0,4,0,0,4,0,4],
 [0,0,4,0,6,0,0,4,0,0,0,0,4],
 [0,0,0,5],
 [0,0,0,5],
 [0,0,4,5,6],
 [0,0,4,0,6,0,0,4,0,0,0,4,0,4,0,0,0,0,0,4,0,0,4,0,0,0,0,4,0,4,0,0,0,4,0,0,4,0,0,0,0,4,0,4,0,4,0,0,0,0,4,0,4,0,4],
 [0],
 [0],
 [0],
 [0,0,0,5,0,0,8,0,0,0,0,0,0,8,0,0,0,8],
 [0,0,0,5,0,0,0,0,0,0,0,13,0,15,0,0,0,5,0,0,0,0,0,0,0,0,13,0,13,0,0,0,0,0,0,0,0,5,0,0,0,0,0,0,15,0,0,0,0,15,0,0,0,15],
 [0],
 [0,3,0,3],
 [0],
 [0,0,0,5,0,0,0,0,10,0,0,0,0,15,0,0,0,0,0,0,0,0,0,0,0,0,0,0,0,0,10,0,0,0,10,0,0,0,0,0,0,0,0,0,0,0,0,0,10,0,0,0,0,0,0,10,0,0,0,0,0,0,0,0,0,0,0,0,0,0,0,0,15],
 [0],
 [0],
 [0,0,4,0,6,0,8,0,0,0,0,0,0,0,0,4,0,0,1,1,1,0,8,0,4,0,0,8,0,4,0,0,8,8],
 [0,0,4,5,0,0,0,9],
 [0],
 [],
 [],
 [0,3,0,0,0,0,0,0,0,0,12,13,0,3,0,3,0,0,0,0,3,0,0,0,0,0,0,0,0,0,0,0,0,3,3,0,0,0,0,0,0,0,0,0,0,0,0,0,0,0,0,0,0,0,0,0,3,3,0,0,0,0,0,0,0,0,3,3],
 [0,3,4,3,0,0,0,3,0,0,0,0,0,3,0,0,0,0,0,3,0,3,0,0,3,0,0,3],
 [0,0,4,5,0,7,0,0,0,7,0,7,0,7,0,7,0,0,7,0,7,0,0,0,4,0,0,0,0,4],
 [0],
 [0,0,0,5],
 [0],
 [0,3,0,3,0,0,0,3,0,0,0,0,3,0,0,0,0,3,0,0,0,0,3,0,3],
 [0,0,4,5,0,0,0,0,0,0,0,0,14,15,0,0,0,0,0,0,0,0,0,0,0,0,0,0,0,0,0,0,0,0,0,0,0,0,0,0,0,0,4],
 [0,0,4,0,6],
 [0,0,4,5,6,0,8],
 [0,0,0,0,6,7,0,9],
 [0,0,0,5,0,0,0,0,10,0,12],
 [0,0,0,5,0,0,0,0,10,0,0,0,0,0,0,0,0,0,0,0,0,0,0,0,0,0,0,0,5],
 [0],
 [0],
 [0,0,0,0,6,0,0,0,0,0,0,0,6,0,6],
 [0],
 [0,0,0,5,6,0,0,0,0,0,5,0,0,0,0,0,0,0,6],
 [0],
 [0,0,0,5,6,0,5,0,6,0,0,0,0,0,0,5,0,0,0,0,0,0,0,6],
 [0],
 [0],
 [0],
 [0],
 [0],
 [0],
 [0],
 [0],
 [0,0,4,5,6,0,0,0,5,0,5,0,4,0,0,0,0,0,4,0,0,0,0,0,0,0,0,0,0,4,0,0,0,0,4],
 [0],
 [0],
 [0,3,4,5,0,0,3,0,0,3,0,0,0,3,0,5,0,0,0,3,0,5,0,0,0,5,0,0,0,0,0,0,0,0,0,0,5,0,0,0,0,5,0,0,0,0,0,5],
 [0,3,4,5,0,0,5,5,0,5,5,0,0,5,5,0,0,0,5,5,0,5,5,0,0,5,5],
 [0],
 [0],
 [0],
 [0],
 [0],
 [0,3,0,3,0,0,0,3,0,0,0,0,3,0,0,0,0,3,0,0,0,0,3],
 [0],
 [],
 [0,0,4,5,6,7,0,0,0,7,0,0,0,7,0,0,0,0,0,7,0,0,0,0,0,7,0,0,7],
 [0,0,4,5,0,4,0,5,0,0,0,4,0,5,0,0,0,4,0,5,0,0,0,4,0,5,0,0,0,4,0,5],
 [0,3,0,0,0,7,8,0,0,3,0,0,0,0,0,3,0,0,3,0,0,0,0,0,0,0,3,0,7,0,7,0,0,0,0,0,0,0,0,0,0,0,0,0,0,3,0,0,0,0,0,3,0,0,0,0,0,0,3],
 [0,0,0,0,0,0,0,0,0,0,0,0,0,15],
 [0,0,4,5,6,0,0,0,0,0,0,0,0,0,0,0,0,0,5,0,1,0,4,0,4,0,0,0,0,4,0,1,0,5,0,1,0,0,0,0,5,0,0,0,5],
 [0,0,4,0,0,0,0,0,0,4,0,0,4],
 [0,0,4,0,6,0,0,4,0,0,0,0,4],
 [0,0,4,5,6,7,8,9,0,11,0,0,5,0,1,1,0,0,0,0,0,0,0,4,4,0,0,0,0,0,0,7,0,7,0,0,0,0,7,0,7,0,0,0,0,0,0,0,0,0,0,11,0,0,0,0,0,9],
 [0,0,4,5,0,0,0,0,0,0,0,0,0,0,0,0,5,0,0,0,0,5,0,4,0,0,0,0,5,0,0,0,0,5,0,4,0,0,0,5,0,4,0,0,5,0,0,0,5],
 [0,0,0,5,0,0,8,0,0,0,0,13,0,0,0,0,0,0,0,0,0,0,5,0,0,0,0,0,0,0,0,0,0,0,5],
 [0],
 [0],
 [0],
 [0],
 [0],
 [0],
 [0],
 [0],
 [],
 [0],
 [0],
 [0],
 [0],
 [0],
 [0,3,4,0,0,7,3,0,0,3,0,0,0,0,0,0,0,3],
 [0],
 [0,3,0,3],
 [0],
 [0,0,0,5,0,0,8],
 [0,3,4,3,0,3],
 [0,0,4,5,0,4,0,5,0,0,4,0,5,0,0,4,0,0,5],
 [0,3,0,0,0,7,3,0,0,0,3,0,0,0,0,0,0,0,7,0,7],
 [0,0,0,0,0,0,0,9,10,0,12,0,14,0,16],
 [0,0,4,5,6,0,8,0,0,0,0,0,0,0,0,0,0,0,0,5],
 [0,3,4,0,0,0,0,0,3,0,0,0,3,0,0,0,0,0,3,0,0,0,0,0,3,0,3,0,0,3,0,0,3],
 [0,0,0,5,0,0,0,0,5,0,0,0,5,0,0,0,0,5,0,0,0,5],
 [0,3,4],
 [0,3,0,0,6],
 [0,0,4,5,6,0,0,0,0,0,0,4,0,4,0,0,0,0,0,0,4,0,4],
 [0,3,4,3,0,0,0,3],
 [0,0,4,5,6,0,0,0,10,0,0,0,0,0,0,0,0,0,0,4,0,1,0,5,0,5,0,0,0,0,0,4,0,0,0,0,4],
 [0,0,0,5],
 [],
 [],
 [],
 [],
 [],
 [0],
 [0],
 [0],
 [0],
 [0],
 [0],
 [0],
 [0],
 [0],
 [0],
 [0],
 [0],
 [0],
 [0],
 [0],
 [0],
 [0],
 [0],
 [0],
 [0],
 [0],
 [0],
 [0],
 [0],
 [0],
 [0],
 [0,0,4,5,6,0,0,9,0,0,0,0,0,0,0,0,0,5,0,5,0,0,0,0,0,0,0,0,0,0,0,0,0,5],
 [0,0,4,0,6,0,8,9,0,0,0,0,0,0,0,0,4,0,1,0,8,0,4,0,8,0,0,0,0,0,0,4,0,4,0,0,0,0,0,0,0,4,0,4,0,0,0,0,8,0,0,4,0,8,0,0,9],
 [0,3,0,3,0,0,0,3,0,0,0,0,3,0,0,0,0,3],
 [0,3,0,3,0,0,0,3,0,0,0,0,3,0,0,0,0,3],
 [0,0,0,0,6],
 [0,0,4,5],
 [],
 [],
 [],
 [],
 [],
 [],
 [],
 [],
 [],
 [],
 [],
 [],
 [],
 [],
 [],
 [],
 [],
 [],
 [],
 [],
 [],
 [],
 [],
 [],
 [],
 [],
 [],
 [],
 [],
 [],
 [],
 [],
 [],
 []]
def cc:Cfg where
 P:=Tryz.prog
 G:=λg=>match g with
  |1=>some T2
  |0=>some T0
  |_=>none
 pts:=λf=>ptsTab.getD f []
def ab:TK->Option Sig
 |2=>some ⟨[],[]⟩
 |3=>some ⟨[Kk],[lb]⟩
 |4=>some ⟨[Kk],[lb]⟩
 |5=>some ⟨[Kk,.agg [.i .u8,.i .u8],g01],[lb]⟩
 |6=>some ⟨[Kk],[g08]⟩
 |7=>some ⟨[g04,g01,lv],[lv,li]⟩
 |8=>some ⟨[g04,g01],[lv,li]⟩
 |9=>some ⟨[g04],[lv]⟩
 |10=>some ⟨[g04,lv,lv,lv,g00,g00],[lv]⟩
 |11=>some ⟨[C7,g08,lv,lv],[li]⟩
 |12=>some ⟨[g00,g00],[li]⟩
 |13=>some ⟨[],[lb]⟩
 |14=>some ⟨[lv,lv],[li]⟩
 |15=>some ⟨[C7,lv],[li]⟩
 |16=>some ⟨[g04,g01,lv],[li]⟩
 |17=>some ⟨[g04,g01,lv,g00,g00],[C7,li]⟩
 |18=>some ⟨[g01],[li]⟩
 |20=>some ⟨[li,li],[g08]⟩
 |21=>some ⟨[g08],[lv]⟩
 |22=>some ⟨[g08,.agg [.i .u8,.i .i64,.i .u8,.b]],[g08]⟩
 |23=>some ⟨[g03],[li]⟩
 |24=>some ⟨[g04,g01],[lv,li]⟩
 |25=>some ⟨[g04,g01],[lv,li]⟩
 |26=>some ⟨[lv,li,g02],[]⟩
 |27=>some ⟨[lv,lv],[]⟩
 |28=>some ⟨[g09,g09],[li]⟩
 |29=>some ⟨[lv],[li]⟩
 |30=>some ⟨[g00,g00],[li]⟩
 |31=>some ⟨[lv,lv],[C7]⟩
 |32=>some ⟨[g03,li,li],[li]⟩
 |33=>some ⟨[g01,g01],[g01]⟩
 |34=>some ⟨[g00,g00],[g01]⟩
 |35=>some ⟨[g03,li],[g00]⟩
 |36=>some ⟨[g03,li,li],[li]⟩
 |37=>some ⟨[lv,g00],[lv]⟩
 |38=>some ⟨[g01,g00],[g00]⟩
 |39=>some ⟨[g00,li],[g00]⟩
 |40=>some ⟨[lv,li],[li]⟩
 |41=>some ⟨[lv,li],[li]⟩
 |42=>some ⟨[lv,li],[li]⟩
 |43=>some ⟨[lv,g00],[lv]⟩
 |44=>some ⟨[C7,g02,lv],[lv,lv,lb]⟩
 |45=>some ⟨[lv,lv],[lb]⟩
 |46=>some ⟨[g01],[lb]⟩
 |47=>some ⟨[li,li],[li]⟩
 |48=>some ⟨[lv,g03],[li]⟩
 |49=>some ⟨[lv,lv],[lb]⟩
 |50=>some ⟨[li,lv,lv],[lb]⟩
 |51=>some ⟨[g00,g02],[g00,li]⟩
 |52=>some ⟨[g00,g00],[g02,li]⟩
 |53=>some ⟨[li],[lb]⟩
 |56=>some ⟨[g08],[lv]⟩
 |57=>some ⟨[g06],[g01]⟩
 |58=>some ⟨[g06,g00],[g02]⟩
 |59=>some ⟨[lv],[lv]⟩
 |60=>some ⟨[g03,li,li],[g02]⟩
 |61=>some ⟨[lv],[lv]⟩
 |62=>some ⟨[g03],[li]⟩
 |63=>some ⟨[g04,g01],[lv,lv,li]⟩
 |64=>some ⟨[g03,li],[g00,li]⟩
 |65=>some ⟨[g01,g00],[g00,li]⟩
 |66=>some ⟨[lv,g00,g00],[lv]⟩
 |67=>some ⟨[g03,li,g02],[li,li]⟩
 |68=>some ⟨[g04,li,g02],[g02,li]⟩
 |69=>some ⟨[lv,li,li,li,lv],[]⟩
 |70=>some ⟨[Kj],[li]⟩
 |71=>some ⟨[lv],[li]⟩
 |72=>some ⟨[lv,lv],[]⟩
 |73=>some ⟨[g03,g03,lv],[li]⟩
 |74=>some ⟨[lv,lv],[]⟩
 |75=>some ⟨[g01,g01,lv],[li]⟩
 |76=>some ⟨[g02,g02],[li]⟩
 |77=>some ⟨[lv],[]⟩
 |78=>some ⟨[lv],[lv]⟩
 |79=>some ⟨[lv],[lv]⟩
 |80=>some ⟨[lv],[lv]⟩
 |81=>some ⟨[lv],[lv]⟩
 |82=>some ⟨[lv],[lv]⟩
 |83=>some ⟨[lv],[lv]⟩
 |84=>some ⟨[g01,g03],[g03]⟩
 |85=>some ⟨[li,li],[li]⟩
 |86=>some ⟨[li,li],[li]⟩
 |87=>some ⟨[g03],[g00]⟩
 |88=>some ⟨[g00],[g03]⟩
 |89=>some ⟨[li,lv,lv],[li]⟩
 |90=>some ⟨[lv,li],[li]⟩
 |91=>some ⟨[lv,lv],[li]⟩
 |92=>some ⟨[li],[lb]⟩
 |93=>some ⟨[li,lv],[lb]⟩
 |94=>some ⟨[g00],[li]⟩
 |95=>some ⟨[lv,lv],[li]⟩
 |97=>some ⟨[g00,g00],[g06]⟩
 |98=>some ⟨[g00,g00],[li]⟩
 |99=>some ⟨[g04],[li]⟩
 |100=>some ⟨[g04],[lv,li]⟩
 |101=>some ⟨[g01,g01],[g01,li]⟩
 |102=>some ⟨[g03,li],[lb]⟩
 |103=>some ⟨[g03,li],[g00]⟩
 |104=>some ⟨[g01,g00],[g00]⟩
 |105=>some ⟨[g03,g00],[li,li]⟩
 |106=>some ⟨[g04,li,g02],[g05,li,lb,li]⟩
 |107=>some ⟨[lv,li,li,lv],[]⟩
 |108=>some ⟨[lv,li,li,lv],[]⟩
 |109=>some ⟨[lv,li,li,lv],[]⟩
 |110=>some ⟨[lv,li,li,lv],[li,li]⟩
 |111=>some ⟨[lv,li,li,lv],[]⟩
 |112=>some ⟨[lv,li,li,lv],[lb]⟩
 |113=>some ⟨[lv,li,li,li,lv],[li]⟩
 |114=>some ⟨[lv,li,li,li,lv],[li,lb]⟩
 |116=>some ⟨[Kj],[li]⟩
 |117=>some ⟨[lv,li,li,li,lv],[]⟩
 |118=>some ⟨[lv,li,li,li,lv],[]⟩
 |119=>some ⟨[g02],[lb]⟩
 |120=>some ⟨[lv,li,li,li],[]⟩
 |121=>some ⟨[g00],[.agg [.i .i64,.i .i64,.i .i64,.i .i64,.i .i64,.i .i64]]⟩
 |122=>some ⟨[lv,lv],[lb]⟩
 |123=>some ⟨[g07],[lb]⟩
 |124=>some ⟨[g02],[lb]⟩
 |125=>some ⟨[g03,li,g02],[g05,li]⟩
 |126=>some ⟨[g07],[g05]⟩
 |127=>some ⟨[g05,g05],[li]⟩
 |128=>some ⟨[g04],[lv]⟩
 |129=>some ⟨[li,g02,lv,lv,lv],[g01]⟩
 |130=>some ⟨[g03,g05],[g06,li]⟩
 |131=>some ⟨[g06],[g01,li]⟩
 |132=>some ⟨[Ck,li,li],[li,li]⟩
 |133=>some ⟨[g01],[g01,li]⟩
 |134=>some ⟨[Ck],[g02]⟩
 |135=>some ⟨[Ck,Ck],[Ck]⟩
 |136=>some ⟨[g00],[g03]⟩
 |137=>some ⟨[g01,g03],[g03,li]⟩
 |138=>some ⟨[lv,g05],[li,lb]⟩
 |144=>some ⟨[lv,li,li,lv],[]⟩
 |145=>some ⟨[lv,li,li,lv],[]⟩
 |146=>some ⟨[lv,li,li,lv],[]⟩
 |147=>some ⟨[lv,li,li,lv],[li,li]⟩
 |148=>some ⟨[lv,li,li,lv],[]⟩
 |149=>some ⟨[lv,li,li,lv],[lb]⟩
 |150=>some ⟨[lv,li,li,li,lv],[li]⟩
 |151=>some ⟨[lv,li,li,li,lv],[li,lb]⟩
 |152=>some ⟨[lv,li,li,lv],[]⟩
 |153=>some ⟨[lv,li,li,lv],[]⟩
 |154=>some ⟨[lv,li,li,lv],[]⟩
 |155=>some ⟨[lv,li,li,lv],[li,li]⟩
 |156=>some ⟨[lv,li,li,lv],[]⟩
 |157=>some ⟨[lv,li,li,lv],[lb]⟩
 |158=>some ⟨[lv,li,li,li,lv],[li]⟩
 |159=>some ⟨[lv,li,li,li,lv],[li,lb]⟩
 |160=>some ⟨[lv,li,li],[]⟩
 |161=>some ⟨[lv,li,li],[]⟩
 |162=>some ⟨[lv,li,li],[]⟩
 |163=>some ⟨[lv,li,li],[li,li]⟩
 |164=>some ⟨[lv,li,li],[]⟩
 |165=>some ⟨[lv,li,li],[lb]⟩
 |166=>some ⟨[li,li],[lb]⟩
 |167=>some ⟨[lv,li,li,li],[li]⟩
 |168=>some ⟨[lv,li,li,li],[li,lb]⟩
 |169=>some ⟨[lv,lv],[li]⟩
 |170=>some ⟨[g03,g05],[g00,li]⟩
 |171=>some ⟨[g00,g02],[g06,li]⟩
 |172=>some ⟨[g06],[li]⟩
 |173=>some ⟨[g03],[li]⟩
 |174=>some ⟨[lv,g05,lv],[li,lb]⟩
 |175=>some ⟨[g07,g05],[li]⟩
 |_=>none
def an4:List An:=[jw,rN [[Kk]],rN [[],[g04],[],[g01],[],[lv]],jw,rv,jw,rN [[],[g04],[],[g01]],rN [[],[g04]],jw,ts,.l ⟨[(9,li)],[]⟩,jw,rv,ts,jw,rN [[],[g04],[],[],[],[lv],[],[],[],[],[g00],[],[],[],[],[g00],[],[],[g04],[],[],[],[lv],[],[],[],[],[g00],[],[],[],[],[g00]],.c (some ⟨[(10,li)],[]⟩),jw,rN [[],[],[],[C7],[],[lv]],rv,jw,jw,jw]
def an6:List An:=[jw,rN [[],[g02],[],[],[],[],[g02]],jw,.b (some ⟨[],[(3,[.i .i64,.i .i64,.v,.i .u8,.i .i64,.i .i64,.v])]⟩),.l ⟨[(4,li)],[(3,[.i .i64,.i .i64,.v,.i .u8,.i .i64,.i .i64,.v])]⟩,rN [[],[],[lv]],rv,ts,rN [[g08]],jw,rv,rN [[g08],[],[],[lv],[],[],[],[g02],[],[],[],[],[],[g06],[],[lv],[],[],[],[g02],[],[],[lv],[],[],[],[g02]],jw,jw,.b (some ⟨[],[]⟩),.l ⟨[(6,li)],[]⟩,rN [[],[],[lv]],rv,ts,rN [[],[lv],[],[lv],[],[],[],[g02],[],[],[lv],[],[],[],[],[lv]],rN [[],[lv],[],[],[],[g02],[],[],[],[],[],[lv],[],[],[],[g02]],rN [[],[],[],[],[],[],[],[li],[],[],[],[li]],jw,rN [[g08]]]
def an7:List An:=[jw,rN [[g04],[g01]],jw,rv,jw,rN [[g04],[],[g03]],rN [[],[g04],[g01]],rN [[],[g04],[g01]],jw,ts,.l ⟨[(54,li)],[]⟩,jw,rv,ts,rN [[],[C8]],rN [[],[lv]],ts,.l ⟨[(61,li)],[]⟩,jw,rv,ts,rN [[],[],[li]],rN [[],[],[],[lv]],jw,jw,rN [[],[],[],[lv]],ts,.l ⟨[(80,li)],[]⟩,jw,rv,ts,jw,jw,ts,.l ⟨[(83,g02)],[]⟩,jw,rv,ts,jw,jw,jw,jw,rN [[],[],[],[lv]],rN [[],[],[],[lv]],rN [[],[],[],[lv]],ts,.l ⟨[(108,li)],[]⟩,jw,rv,ts,rN [[],[],[g09]],rN [[],[],[],[],[],[],[lv],[g09],[lv]],jw,jw]
def an8:List An:=[jw,rN [[],[],[li],[],[],[],[li]],jw,jw,jw,rv,jw,rN [[],[],[g01]],rN [[g04]],jw,ts,.l ⟨[(10,lb)],[]⟩,jw,rv,ts,jw,jw,ts,.l ⟨[(10,lb),(11,li)],[]⟩,jw,rv,ts,jw,.b (some ⟨[(10,lb)],[]⟩),.l ⟨[(10,lb),(12,li)],[]⟩,rN [[],[],[],[],[],[],[lb]],rv,.b (some ⟨[(10,lb)],[]⟩),rN [[],[g03]],jw,rv,rN [[],[],[],[g01]],rN [[],[],[],[],[],[],[g02]],.c (some ⟨[],[(14,[.i .u8,.i .i64,.i .i64])]⟩),rN [[],[g03],[],[],[],[g03],[],[],[],[],[],[],[g01]],rN [[],[],[],[lb],[],[],[],[],[g01],[g01]],.c (some ⟨[],[]⟩),jw,rN [[],[],[],[lb]],.c (some ⟨[(10,lb)],[]⟩),rN [[],[],[],[],[g01]],jw,jw,jw,jw]
def an9:List An:=[jw,rN [[],[],[li],[],[],[],[li]],jw,ts,.l ⟨[(4,li)],[]⟩,rN [[],[],[lv]],rv,ts,rN [[],[lv],[],[],[g07]],jw,ts,.l ⟨[(6,li)],[]⟩,jw,rv,.b (some ⟨[],[]⟩),rN [[],[g03],[],[li]],rN [[],[],[],[],[g03],[],[li],[],[],[],[g02]],rv,rN [[],[],[li],[],[],[],[],[g02]],jw,ts,.l ⟨[(8,li)],[]⟩,jw,rv,ts,rN [[],[g03],[],[],[],[],[li]],.c (some ⟨[],[]⟩),rN [[],[],[],[],[],[],[g02]],jw,jw,jw,jw]
def Wc:List An:=[jw,jw,rN [[],[g00]],jw,ts,.l ⟨[(13,lv),(15,li)],[]⟩,jw,rv,ts,rN [[],[],[],[li]],jw,ts,.l ⟨[(13,lv),(17,li)],[]⟩,jw,rv,.b (some ⟨[(13,lv)],[]⟩),rN [[],[],[],[g01],[],[g03],[],[],[],[],[],[g00]],rv,rN [[],[g03]],rN [[],[],[],[],[],[],[],[],[],[g02]],jw,jw,jw]
def Wd:List An:=[jw,jw,jw,rN [[],[g04],[],[g01],[],[lv],[g00],[g00]],rN [[],[g04],[],[g01],[],[lv],[g00],[g00]],rN [[],[],[],[],[],[],[],[],[lv],[],[],[],[],[],[lv],[],[g03],[],[],[],[],[],[lv],[],[],[lv],[],[],[],[],[],[],[lv],[],[],[],[],[],[lv],[],[li],[],[],[],[],[lv]],rv,jw,jw,rN [[],[g04],[],[g01],[],[lv],[g00],[g00]],rN [[],[g04],[],[g01],[],[lv]],rN [[],[],[],[],[],[],[],[],[lv],[],[],[],[],[],[lv],[],[g01],[],[],[],[],[],[lv],[],[],[],[],[],[lv],[],[li],[],[],[],[],[lv],[],[li]],rv,jw,rN [[g00],[g00]],rN [[C7],[g00],[],[],[g00]]]
def We:List An:=[jw,jw,jw,ts,.l ⟨[(6,li)],[]⟩,jw,rv,ts,rN [[],[],[lv]],jw,ts,.l ⟨[(8,li)],[]⟩,jw,rv,.b (some ⟨[],[]⟩),rN [[],[],[],[],[g02]],rv,jw,jw,ts,.l ⟨[(10,li)],[]⟩,jw,rv,ts,rN [[],[],[],[],[li],[],[],[],[],[],[],[g02]],.c (some ⟨[],[]⟩),jw,rN [[],[],[],[],[g02]],.c (some ⟨[],[]⟩),jw,jw,rv,jw,jw,jw,jw,jw,ts,.l ⟨[(12,li)],[]⟩,jw,rv,ts,jw,ts,.l ⟨[(13,li)],[]⟩,jw,rv,.b (some ⟨[],[]⟩),rN [[],[],[],[],[g02],[],[],[],[],[],[],[g02],[],[],[],[],[],[],[],[li],[],[],[],[],[],[],[],[li]],rv,rN [[],[],[],[],[],[li],[],[],[],[],[],[],[li]],rv,jw,jw,jw,jw]
def Wf:List An:=[jw,jw,jw,rN [[],[g00],[],[g00]],ts,.l ⟨[(6,lb),(27,li)],[(5,[.v,.v])]⟩,jw,rv,ts,rN [[],[],[g00]],rN [[],[g00]],rN [[C7]],rN [[],[],[],[],[lv]],rv,jw,jw,jw,.b (some ⟨[(6,lb)],[]⟩),.l ⟨[(6,lb),(56,li)],[]⟩,jw,rv,ts,rN [[],[],[g03]],jw,ts,.l ⟨[(6,lb),(63,li)],[]⟩,jw,rv,ts,rN [[],[li]],rN [[],[],[li],[],[],[],[],[li]],.c (some ⟨[(6,lb)],[]⟩),jw,jw,jw,ts,.l ⟨[(6,lb),(82,li)],[]⟩,jw,rv,ts,rN [[],[g03]],rN [[],[li],[],[li],[],[],[],[li],[],[li],[],[],[],[],[li],[],[li],[],[],[],[],[li],[],[li],[],[],[],[li],[],[li],[],[],[],[],[li],[],[li]],.c (some ⟨[(6,lb)],[]⟩),jw,jw,jw,jw,rN [[],[lv]],ts,.l ⟨[(6,lb),(132,li)],[]⟩,jw,rv,ts,jw,jw,ts,.l ⟨[(6,lb),(136,li)],[]⟩,jw,rv,ts,jw,rN [[],[lv],[],[],[li],[],[lv],[],[],[li],[],[],[lv],[],[],[li],[],[lv],[],[],[li]],.c (some ⟨[(6,lb)],[]⟩),jw,jw,jw,jw,rv,jw,jw]
def Wh:List An:=[jw,rN [[g04],[g01]],jw,rv,jw,rN [[],[],[g03]],jw,rv,jw,jw,ts,.l ⟨[(35,li)],[]⟩,jw,rv,ts,rN [[],[C8]],rN [[],[lv]],rv,jw,jw,jw,ts,.l ⟨[(46,li)],[]⟩,jw,rv,ts,rN [[],[C8]],jw,ts,.l ⟨[(50,g02)],[]⟩,jw,rv,ts,jw,rN [[],[g00]],jw,rv,jw,jw,jw,jw]
def Wi:List An:=[jw,rN [[g04],[g01]],jw,rv,jw,rN [[g00],[g00]],rN [[],[],[],[g00],[g00]],rv,jw,jw,ts,.l ⟨[(46,li)],[]⟩,jw,rv,ts,rN [[],[C7]],rN [[],[g00],[g00],[],[],[],[g00],[g00]],.c (some ⟨[],[]⟩),rN [[C7]],jw,jw]
def Wj:List An:=[jw,rN [[],[g02],[],[],[],[],[li],[],[],[],[],[li],[],[],[],[],[li],[],[li]],rv,jw,jw]
def Wk:List An:=[jw,jw,jw,ts,.l ⟨[(6,li)],[(5,[.i .i64,.i .i64,.v,.i .u8,.i .i64,.i .i64,.v])]⟩,jw,rv,ts,rN [[],[lv],[],[],[g03]],jw,rN [[g08]]]
def Wl:List An:=[jw,rN [[g08]],jw,jw,ts,.l ⟨[(4,lv),(5,li)],[]⟩,jw,rv,ts,rN [[],[],[],[],[g06]],jw,.b (some ⟨[(7,li)],[]⟩),.l ⟨[(7,li)],[]⟩,rN [[],[],[],[],[],[],[],[],[],[g02],[],[g02],[],[],[],[],[],[],[g02],[],[g02],[],[],[],[],[],[],[li],[],[li]],.c (some ⟨[],[]⟩),ts,jw,rN [[],[],[],[],[],[],[],[],[g06],[g06]],.c (some ⟨[(4,lv)],[]⟩),rN [[],[],[],[],[],[g06]],jw,jw]
def Wm:List An:=[jw,rN [[],[g06]],rN [[],[],[g03],[],[],[],[lv],[],[],[],[g01]],jw,jw,ts,.l ⟨[(8,lv),(7,lv),(9,li)],[(6,[.i .i64,.i .i64,.v,.i .u8,.i .i64,.i .i64,.v])]⟩,rN [[],[],[lv]],rv,.b (some ⟨[(8,lv),(7,lv)],[(6,[.i .i64,.i .i64,.v,.i .u8,.i .i64,.i .i64,.v])]⟩),rN [[],[lv],[],[],[C8]],rN [[],[g06],[],[g00],[],[],[g02]],rv,rN [[],[],[g00],[],[],[lv]],jw,rN [[],[lv]],ts,.l ⟨[(11,lv),(12,li)],[(6,[.i .i64,.i .i64,.v,.i .u8,.i .i64,.i .i64,.v])]⟩,jw,rv,ts,rN [[],[],[lv],[],[],[li]],rN [[],[lv],[],[],[li]],.c (some ⟨[],[(6,[.i .i64,.i .i64,.v,.i .u8,.i .i64,.i .i64,.v])]⟩),rN [[],[g01],[g01]],jw,rN [[],[g01],[],[g00]],jw,jw,ts,.l ⟨[(8,lv),(13,li)],[]⟩,jw,rv,ts,jw,jw,.b (some ⟨[(14,lb)],[]⟩),.l ⟨[(14,lb),(15,li)],[]⟩,jw,rv,.b (some ⟨[(14,lb)],[]⟩),rN [[],[],[],[],[g00],[],[],[],[],[g00]],rv,jw,rN [[],[lb]],.c (some ⟨[],[]⟩),rN [[],[],[],[],[],[],[lv],[],[],[],[],[lv]],rN [[],[],[],[],[],[],[],[lv],[],[],[],[],[],[lv]],jw,jw,.c (some ⟨[(8,lv)],[]⟩),rN [[],[],[],[],[C8]],jw,jw,rN [[],[g04],[],[g01]],rN [[g08]],jw,ts,.l ⟨[(19,li)],[(6,[.i .i64,.i .i64,.v,.i .u8,.i .i64,.i .i64,.v])]⟩,jw,rv,.b (some ⟨[],[(6,[.i .i64,.i .i64,.v,.i .u8,.i .i64,.i .i64,.v])]⟩),rN [[],[],[],[],[g06],[],[g06]],rv,jw,rN [[],[],[],[],[],[li],[],[],[g02],[],[],[lb]],.c (some ⟨[(20,g02)],[]⟩),jw,rN [[],[],[lv],[],[],[],[],[li],[],[],[g03],[],[],[],[],[li],[],[],[],[],[li]],jw,rN [[],[],[lv]],rN [[g08]]]
def Wn:List An:=[jw,rN [[g03]],rv,jw,rN [[],[li],[],[],[li]]]
def Wo:List An:=[jw,rN [[g04],[g01]],jw]
def Wp:List An:=[jw,rN [[g04],[g01]],jw]
def Wq:List An:=[rN [[],[],[],[],[g03]],rN [[g00]],rN [[],[],[],[lv],[],[],[g01],[g00]],rN [[],[],[],[],[lv],[],[],[g00],[g00]],rN [[],[],[],[],[g03]],jw,rv,rN [[],[],[],[],[lv]],jw,rv,rN [[],[],[],[g04]],jw,rN [[],[],[],[lv],[],[],[g00],[],[],[],[g00]],.c (some ⟨[(17,g02)],[]⟩),jw,ts,jw,.c (some ⟨[],[]⟩),rN [[],[],[],[],[lv]],jw,.c (some ⟨[],[]⟩),rN [[],[],[],[],[lv]],rN [[],[],[],[lv],[],[],[li],[],[],[],[lv],[],[],[li]],.c (some ⟨[],[]⟩),rN [[],[],[],[],[lv]],rN [[],[],[],[],[lv]]]
def Wr:List An:=[jw,jw]
def Ws:List An:=[jw,rN [[],[g00],[],[g00],[],[],[g00],[],[g00]]]
def Wt:List An:=[jw,jw,jw,ts,.l ⟨[(8,li)],[]⟩,jw,rv,ts,rN [[],[li]],jw,rv,jw,jw,jw]
def Wu:List An:=[jw,rN [[],[li],[],[li],[],[],[li],[],[li],[],[],[g02],[],[],[g02]]]
def Wv:List An:=[jw,rN [[],[],[],[lv]],rN [[],[],[],[lv]],rN [[],[],[],[lv]],rN [[],[],[],[g00],[],[],[],[g00],[],[],[],[lv],[],[],[],[],[],[lv],[],[],[],[],[],[lv]]]
def Ww:List An:=[jw,rN [[g03]],rN [[],[li],[],[],[],[li],[],[],[],[],[li],[],[li],[],[],[],[],[li],[],[li]],rv,jw,rN [[],[li],[],[li],[],[],[li],[],[],[],[g02]]]
def Wx:List An:=[jw,rN [[g01],[g01]],rN [[g01],[g01]],rN [[g01],[g01]],jw,ts,.l ⟨[(8,g02)],[]⟩,jw,rv,ts,rN [[],[],[li],[],[],[li]],rN [[g01],[],[],[g03],[],[],[g01],[],[],[g03]],.c (some ⟨[],[]⟩),rN [[g01]],jw,jw]
def Wy:List An:=[jw,rN [[],[li],[],[li]],rv,rN [[],[li],[],[li]],rN [[],[li],[],[li]],rv,rN [[],[li],[],[li]],rN [[],[g02],[],[g02],[],[],[],[],[g02],[],[g02]],rv,rN [[],[li],[],[li],[],[],[],[li],[],[li]],rN [[],[li],[],[li],[],[],[li],[],[li]]]
def Wz:List An:=[jw,rN [[],[],[],[li],[],[],[],[],[li]]]
def WA:List An:=[jw,jw,rv,jw,rN [[g03]],jw,rv,jw,jw]
def WB:List An:=[jw,jw,ts,.l ⟨[(5,li)],[]⟩,jw,rv,ts,rN [[],[],[],[],[g00],[g00]],rv,rN [[],[],[],[],[lv]],jw,jw]
def WC:List An:=[jw,rN [[g01],[g00]]]
def WD:List An:=[jw,jw,rv,rN [[],[g02]],ts,jw,rv,rN [[],[li],[],[li]],jw,rv,rN [[],[li],[],[],[li]],jw,rv,rN [[],[li],[],[li]],rN [[],[li],[],[],[li]],jw,rv,rN [[],[li],[],[li],[],[g02]],rN [[],[li],[],[li],[],[g02]]]
def WE:List An:=[jw,rN [[],[],[],[],[],[li]]]
def WF:List An:=[jw,jw,ts,.l ⟨[(5,li)],[]⟩,jw,rv,ts,rN [[],[],[],[],[li]],rv,jw,jw,jw]
def WG:List An:=[jw,jw,ts,.l ⟨[(9,li)],[]⟩,jw,rv,ts,rN [[],[C8]],rN [[],[g00],[g00]],rv,rN [[],[lv]],jw,jw]
def WH:List An:=[jw,jw,jw,rN [[],[lv]],ts,.l ⟨[(7,lv),(20,li)],[]⟩,jw,rv,ts,rN [[],[g03]],rN [[],[],[],[li],[],[li],[],[],[li],[li]],jw,rN [[],[lv]],ts,.l ⟨[(6,lv),(40,li)],[]⟩,jw,rv,ts,rN [[],[g01]],rN [[],[g02]],.c (some ⟨[(6,lv)],[]⟩),rN [[],[],[li],[li],[],[],[li],[li]],jw,jw,rN [[],[],[lb]]]
def WI:List An:=[jw,jw]
def WJ:List An:=[jw,rN [[],[g02]]]
def WK:List An:=[jw,jw,jw,jw,rv,jw,rv,jw,jw,jw,rv,jw,jw,rv,jw,jw,rv,jw,jw]
def WL:List An:=[jw,rN [[g03]],jw,rv,jw,rN [[g03]],jw,ts,.l ⟨[(25,li)],[]⟩,jw,rv,ts,rN [[],[],[C8]],rN [[],[lv]],rN [[],[g00],[],[],[],[],[],[],[],[],[],[],[],[g00],[],[g00],[],[],[],[],[],[],[lv]],.c (some ⟨[],[]⟩),jw,jw,rN [[li]],jw,jw,ts,.l ⟨[(11,li),(68,li)],[]⟩,jw,rv,ts,rN [[],[C8]],rN [[],[lv]],ts,.l ⟨[(11,li),(75,li)],[]⟩,jw,rv,ts,rN [[],[li]],rN [[],[],[],[lb]],rv,jw,jw,jw,jw,jw,rN [[],[li]],rv,jw,jw]
def WM:List An:=[jw,jw]
def WN:List An:=[jw,rN [[lv],[],[],[g00],[],[g00]]]
def WO:List An:=[jw,rN [[g00]],rv,jw,rN [[],[g02],[],[],[],[],[g00]],rN [[],[li],[],[li],[],[],[li],[],[li]],rN [[g00]],rv,jw,rN [[g00]]]
def WP:List An:=[jw,rN [[g00],[],[],[],[g00]],rv,jw,jw,ts,.l ⟨[(17,g02)],[]⟩,jw,rv,ts,jw,rN [[g00]],rN [[],[],[],[g00],[g00]],.c (some ⟨[],[]⟩),jw,jw,jw]
def WS:List An:=[jw,.r [] (some ⟨[(2,lb)],[]⟩)]
def WT:List An:=[jw,rN [[],[g04],[],[g01]],rN [[],[g04]],jw,jw,ts,.l ⟨[(6,lv),(7,li)],[]⟩,jw,rv,ts,jw,ts,.l ⟨[(6,lv),(8,li)],[]⟩,jw,rv,.b (some ⟨[(6,lv)],[]⟩),rN [[],[],[g03]],rN [[],[],[],[],[],[],[],[],[],[],[g02]],rv,rN [[],[],[],[g01],[],[],[g03],[],[],[],[],[],[],[g01],[],[],[g03]],rN [[],[],[],[g00],[g00]],jw,jw,jw]
def WU:List An:=[jw,rN [[],[g02]],ts,jw,rv,rN [[],[li]],jw,rv,rN [[],[li]],jw,rv,rN [[],[li],[],[li]],rN [[],[li],[],[],[li]]]
def WV:List An:=[jw,rN [[g00]],rN [[],[li],[],[li],[],[li],[],[li],[],[],[li],[],[li],[],[],[],[g02],[],[li]],rN [[],[],[li]],rv,jw,jw]
def WW:List An:=[jw,jw,jw,ts,.l ⟨[(4,li)],[]⟩,jw,rv,ts,jw,.b (some ⟨[],[]⟩),.l ⟨[(5,li)],[]⟩,rN [[],[],[],[],[],[],[],[],[g00],[],[],[],[],[g00]],rv,ts,rN [[],[],[],[],[],[],[],[],[C8],[],[],[],[],[C8]],jw,jw,jw]
def WX:List An:=[jw,jw,ts,.l ⟨[(7,li)],[]⟩,jw,rv,ts,rN [[g03]],rv,jw,rv,jw,jw,jw,jw]
def WY:List An:=[jw,jw,ts,.l ⟨[(3,li)],[]⟩,jw,rv,ts,jw,.b (some ⟨[],[]⟩),.l ⟨[(4,li)],[]⟩,rN [[],[],[],[],[],[],[],[],[li],[],[],[],[],[li],[],[],[],[],[],[],[],[li],[],[],[],[],[li],[],[],[],[],[],[],[],[g02],[],[],[],[],[g02]],.c (some ⟨[],[]⟩),ts,rN [[],[],[],[],[],[],[],[],[g07],[],[],[],[],[g07]],jw,jw,jw]
def WZ:List An:=[jw,rN [[],[li],[],[],[],[li],[],[],[],[],[li],[],[],[],[],[li],[],[],[],[],[li],[],[li]],rv,jw,jw]
def W0:List An:=[jw,rN [[g04]],jw,rv,jw,rN [[g01]],rv,jw,rN [[g04]],jw,rv,jw,jw,jw,ts,.l ⟨[(36,li)],[]⟩,jw,rv,ts,rN [[],[],[g01]],rN [[],[g03]],rN [[],[],[g01],[g01]],jw,rv,jw,rN [[],[],[],[],[],[g01],[g00]],jw,rv,jw,jw,jw]
def W1:List An:=[jw,rN [[g03]],jw,rv,jw,rN [[g03]],rv,jw,rN [[g03]]]
def W2:List An:=[jw,rN [[g01],[],[],[],[g00]],rv,jw,rN [[g01],[g00]],rN [[g00]],rv,jw,rN [[g00]]]
def W3:List An:=[jw,rN [[g00],[g00]],.c (some ⟨[],[(4,[.i .i64,.i .i64,.i .u8]),(5,[.i .i64,.i .i64,.i .u8])]⟩),rN [[g00],[g00]],rN [[g00],[g00]],rN [[],[],[],[lv],[g09],[lv]],.c (some ⟨[],[]⟩),rN [[],[],[],[lv],[g09],[g00],[g00]],rN [[],[],[],[],[lv],[g09]],rN [[],[],[],[lv],[g09],[lv]]]
def W4:List An:=[jw,rN [[g03]],jw,rv,jw,rN [[g00]],jw,rv,jw,rN [[g03],[g00]]]
def W5:List An:=[jw,rN [[g04]],jw,rv,jw,rN [[],[lv],[],[],[],[g02]]]
def W6:List An:=[jw,jw,ts,.l ⟨[(3,li),(1,li),(11,lb),(10,lb),(2,li)],[]⟩,.b (some ⟨[(3,li),(1,li),(11,lb),(10,lb),(2,li)],[]⟩),jw,jw,rv,jw,jw,rv,jw,jw,.c (some ⟨[(3,li)],[]⟩),jw,jw,jw,jw,.c (some ⟨[(13,li),(14,li)],[]⟩),jw,jw,jw,jw,.c (some ⟨[],[]⟩),jw,rv,rN [[],[],[],[],[],[],[],[],[g09],[],[],[],[g09],[li]],.c (some ⟨[(1,li)],[]⟩),jw,jw,jw,jw,jw,jw,jw,.c (some ⟨[(10,lb),(1,li),(2,li)],[]⟩),jw,jw,jw,jw,jw,jw]
def W7:List An:=[jw,rv,jw,jw]
def W8:List An:=[jw,jw,ts,.l ⟨[(8,li)],[]⟩,jw,rv,ts,rN [[],[g03]],rN [[],[li],[],[li]],jw,rv,jw,jw,jw]
def W9:List An:=[jw,jw]
def Xa:List An:=[jw,rN [[lv],[],[],[lv],[],[li],[],[li],[lv],[],[],[lv],[],[li],[],[li]]]
def Xb:List An:=[jw,jw]
def Xc:List An:=[jw,rN [[],[g02],[],[g02],[],[lv],[],[],[lv],[],[li],[],[li],[lv],[],[],[lv],[],[li],[],[li]]]
def Xd:List An:=[jw,jw,jw,jw,rv,jw,rv,jw,jw,jw,rv,jw,jw,rv,jw,jw,rv,jw,jw]
def Xe:List An:=[jw,jw]
def Xf:List An:=[jw,jw]
def Xg:List An:=[jw,jw,rv,jw,jw]
def Xh:List An:=[jw,jw]
def Xi:List An:=[jw,jw,rv,jw,jw]
def Xj:List An:=[jw,jw]
def Xk:List An:=[jw,jw,rv,jw,jw]
def Xl:List An:=[jw,rN [[],[li],[],[li]],rN [[],[g02]],.c (some ⟨[(5,li)],[]⟩),jw,jw,ts,.l ⟨[(5,li),(6,li),(7,li)],[]⟩,rN [[],[],[g02]],rv,ts,jw,jw,rN [[],[],[li],[],[],[],[],[li]]]
def Xm:List An:=[jw,jw,rv,jw,jw]
def Xn:List An:=[jw,jw,rv,jw,jw]
def Xo:List An:=[jw,rN [[],[li],[],[],[li]],rN [[],[li],[],[li],[],[],[],[li],[],[li]],ts,jw,.c (some ⟨[],[(3,[.i .i64,.i .i64,.i .u8])]⟩),jw,jw,.c (some ⟨[],[(3,[.i .i64,.i .i64,.i .u8])]⟩),jw,jw,.c (some ⟨[],[(3,[.i .i64,.i .i64,.i .u8])]⟩),jw,jw,rN [[g00]]]
def Xp:List An:=[jw,rN [[g00]],rN [[],[],[li],[],[],[li],[],[],[],[li],[],[],[],[],[li],[],[],[li],[],[],[],[li]]]
def Xq:List An:=[jw,rN [[lv]],.r [[lb]] (some ⟨[],[]⟩),jw]
def Xr:List An:=[jw,jw,ts,.l ⟨[(8,li)],[]⟩,jw,rv,ts,jw,rN [[],[],[],[],[li]],rv,jw,jw,jw]
def Xs:List An:=[jw,jw,ts,.l ⟨[(8,li)],[]⟩,jw,rv,ts,jw,rN [[],[],[],[],[g01],[lb]],rv,jw,jw,jw]
def Xt:List An:=[jw,jw]
def Xu:List An:=[jw,.r [[],[],[],[],[li]] (some ⟨[(3,lb)],[]⟩)]
def Xv:List An:=[jw,rN [[],[li],[],[],[],[li],[],[],[],[],[li],[],[],[],[],[li],[],[],[],[],[g02]],rv,jw,jw]
def Xw:List An:=[jw,jw,ts,.l ⟨[(8,li)],[]⟩,jw,rv,ts,jw,rN [[],[],[],[],[li],[lb]],rv,jw,jw,jw]
def Xx:List An:=[jw,rN [[g00],[g00]],rN [[],[g02]],ts,jw,rv,rN [[],[li]],jw,rv,rN [[],[li]],jw,rv,rN [[],[li]],rN [[],[li]]]
def Xy:List An:=[jw,rN [[],[li],[],[li],[],[],[],[li],[],[li],[],[],[],[li],[],[li],[],[],[],[li],[],[li],[],[],[],[g02],[],[g02]],.c (some ⟨[],[]⟩),jw,jw]
def Xz:List An:=[jw,rN [[],[g03]],jw,rv,jw,rN [[],[lv]],rv,jw,rN [[],[lv]],ts,.l ⟨[(21,li)],[]⟩,jw,rv,ts,rN [[],[g07]],rN [[],[g03],[],[li],[],[g02]],rN [[],[],[],[g05],[g07]],rv,jw,jw,jw,ts,.l ⟨[(8,li)],[]⟩,rN [[],[],[lv]],rv,ts,rN [[],[lv],[],[],[],[g07],[],[],[lv],[],[],[g07]],rv,jw,jw,jw]
def Qy:List An:=[jw,rN [[g04]],rN [[],[g03]],rN [[lv]],jw,jw,jw,ts,.l ⟨[(8,lv)],[]⟩,jw,rv,ts,rN [[],[],[li]],jw,jw,ts,.l ⟨[(8,lv),(35,g02)],[]⟩,jw,rv,.b (some ⟨[(8,lv)],[]⟩),jw,rN [[],[g03]],jw,rv,rN [[],[],[],[g01]],rN [[],[],[],[lb]],.c (some ⟨[(8,lv)],[]⟩),rN [[lv],[],[],[],[g01]],jw,rN [[lv],[],[],[g01],[g01]],rv,jw,jw,rN [[lv]]]
def Qz:List An:=[jw,rN [[g01],[],[],[],[g01]],rv,jw,rN [[],[g02],[],[Ck],[],[li],[],[li]],rN [[],[g02],[],[Ck],[],[g02],[],[Ck],[],[],[],[],[li],[],[],[],[li]]]
def QA:List An:=[jw,.r [[],[],[],[],[],[li],[],[],[li]] (some ⟨[(4,lb)],[]⟩)]
def QB:List An:=[jw,rN [[],[],[],[li],[],[],[],[],[li]]]
def QC:List An:=[jw,rN [[g00],[],[],[g02],[],[],[g03]],rN [[g01],[g03]],jw,rN [[g01],[g03]],rN [[],[li],[],[li],[],[],[],[],[li],[],[li]],rN [[.agg [.i .i64,.i .i64,.i .u8,.i .i64,.i .i64,.i .i64,.i .u8,.i .i64,.i .i64,.i .u8,.i .i64,.i .i64,.i .u8,.i .i64,.i .i64,.i .i64,.i .i64,.i .i64,.i .i64,.i .u8,.i .i64,.i .i64,.i .i64,.i .u8,.i .i64,.i .i64,.i .u8,.i .i64,.i .i64,.i .u8,.i .i64,.i .i64,.i .i64,.i .i64,.i .i64,.i .i64,.i .u8,.i .i64,.i .i64,.i .i64,.i .u8,.i .i64,.i .i64,.i .u8,.i .i64,.i .i64,.i .u8,.i .i64,.i .i64,.i .i64,.i .i64,.i .i64,.i .i64,.i .u8,.i .i64,.i .i64,.i .i64,.i .u8,.i .i64,.i .i64,.i .u8,.i .i64,.i .i64,.i .u8,.i .i64,.i .i64,.i .i64,.i .i64]]],ts,.l ⟨[(47,li)],[(7,[.i .i64,.i .i64,.i .u8])]⟩,jw,rv,ts,rN [[],[Zm]],rN [[],[g03],[g03]],.c (some ⟨[],[(7,[.i .i64,.i .i64,.i .u8])]⟩),jw,jw,rN [[g00]]]
def QD:List An:=[jw,rN [[g03]],jw,rv,jw,rN [[g00],[],[],[],[],[li],[],[],[],[],[li],[],[li],[],[],[],[],[li],[],[],[],[],[li],[],[li]],rv,jw,rN [[],[li],[],[li],[],[],[li],[],[],[],[g02]]]
def QE:List An:=[jw,rN [[g04]],jw,rv,jw,rN [[],[g03]],jw,rv,jw,rN [[],[lv],[g05]],rN [[g05]]]
def QF:List An:=[jw,ts,.l ⟨[(8,li)],[]⟩,jw,rv,ts,jw,.b (some ⟨[],[]⟩),.l ⟨[(9,li)],[]⟩,rN [[],[],[],[],[],[],[],[],[g09],[],[],[],[],[g09],[li]],rv,ts,rN [[],[],[],[],[],[],[],[],[],[g09],[],[],[],[g09]],jw,jw]
def QH:List An:=[jw,jw,.c (some ⟨[(0,Kj),(2,li)],[]⟩),jw,jw,jw,.c (some ⟨[(0,Kj),(2,li)],[]⟩),jw,jw,jw,.c (some ⟨[(0,Kj),(2,li)],[]⟩),jw,jw,jw]
def QI:List An:=[jw,jw,ts,.l ⟨[(3,li),(1,li),(11,lb),(10,lb),(2,li)],[]⟩,.b (some ⟨[(3,li),(1,li),(11,lb),(10,lb),(2,li)],[]⟩),jw,jw,rv,jw,jw,rv,jw,jw,.c (some ⟨[(3,li)],[]⟩),jw,jw,jw,jw,.c (some ⟨[(13,li),(14,li)],[]⟩),jw,jw,jw,jw,.c (some ⟨[],[]⟩),jw,rv,rN [[],[],[],[],[],[],[],[],[g03],[],[],[],[g03],[li]],.c (some ⟨[(1,li)],[]⟩),jw,jw,jw,jw,jw,jw,jw,.c (some ⟨[(10,lb),(1,li),(2,li)],[]⟩),jw,jw,jw,jw,jw,jw]
def QJ:List An:=[jw,jw,ts,.l ⟨[(3,li),(1,li),(11,lb),(10,lb),(2,li)],[]⟩,.b (some ⟨[(3,li),(1,li),(11,lb),(10,lb),(2,li)],[]⟩),jw,jw,rv,jw,jw,rv,jw,jw,.c (some ⟨[(3,li)],[]⟩),jw,jw,jw,jw,.c (some ⟨[(13,li),(14,li)],[]⟩),jw,jw,jw,jw,.c (some ⟨[],[]⟩),jw,rv,rN [[],[],[],[],[],[],[],[],[g01],[],[],[],[g01],[li]],.c (some ⟨[(1,li)],[]⟩),jw,jw,jw,jw,jw,jw,jw,.c (some ⟨[(10,lb),(1,li),(2,li)],[]⟩),jw,jw,jw,jw,jw,jw]
def QK:List An:=[jw,jw]
def QL:List An:=[jw,jw,ts,.l ⟨[(3,li),(1,li),(9,lb),(8,lb),(2,li)],[]⟩,.b (some ⟨[(3,li),(1,li),(9,lb),(8,lb),(2,li)],[]⟩),jw,jw,rv,jw,jw,rv,jw,jw,.c (some ⟨[(3,li)],[]⟩),jw,jw,jw,jw,.c (some ⟨[(11,li),(12,li)],[]⟩),jw,jw,jw,jw,.c (some ⟨[],[]⟩),jw,rv,rN [[],[],[],[],[],[],[],[li],[],[],[],[li]],.c (some ⟨[(1,li)],[]⟩),jw,jw,jw,jw,jw,jw,jw,.c (some ⟨[(8,lb),(1,li),(2,li)],[]⟩),jw,jw,jw,jw,jw,jw]
def QM:List An:=[jw,rN [[],[li],[],[],[li]],jw,rN [[],[g02]],ts,jw,rv,rN [[g03]],jw,rv,rN [[g03]],jw,rv,rN [[g03]],rN [[g03]]]
def QN:List An:=[jw,jw]
def QO:List An:=[jw,rN [[],[g02]]]
def QP:List An:=[jw,.r [] (some ⟨[(2,lb)],[]⟩)]
def QQ:List An:=[jw,rN [[g03]],jw,rv,jw,jw]
def QR:List An:=[jw,rN [[],[li],[],[g02]]]
def QS:List An:=[jw,rN [[],[li],[],[li]],rv,rN [[],[li],[],[li]],rN [[],[g02],[],[],[g02]]]
def QT:List An:=[jw,rN [[],[lv]],rN [[],[lv]],ts,.l ⟨[(13,li)],[]⟩,jw,rv,ts,rN [[],[g07]],rN [[],[],[li],[],[g02]],jw,jw]
def QU:List An:=[jw,rN [[],[g03]],rN [[lv],[g05],[lb]],rv,rN [[lv],[],[],[g01]],rN [[],[g03],[g05]],rN [[g06]],rN [[g01],[lv],[],[],[g01]],rN [[g01]]]
def QV:List An:=[jw,rN [[g03],[g05]],jw,rv,jw,rN [[g00],[],[g02]]]
def QW:List An:=[jw,rN [[g06]],rv,jw,rN [[],[g02]],ts,jw,rv,rN [[],[li]],jw,rv,rN [[],[li]],jw,rv,rN [[],[li],[],[li]],rN [[],[li],[],[],[li]]]
def QX:List An:=[jw,rN [[],[li],[],[],[],[li],[],[],[],[],[li],[],[],[],[li]]]
def QY:List An:=[jw,rN [[g01]],rv,jw,rN [[g01]]]
def QZ:List An:=[jw,rN [[.agg [.i .i64,.i .i64,.i .i64,.i .i64,.i .i64,.i .i64,.i .i64,.i .i64,.i .i64,.i .i64,.i .i64,.i .i64,.i .i64,.i .i64,.i .i64,.i .i64,.i .i64,.i .i64,.i .i64,.i .i64,.i .i64,.i .i64,.i .i64,.i .i64,.i .i64,.i .i64,.i .i64,.i .i64,.i .i64,.i .i64,.i .i64,.i .i64]]],ts,.l ⟨[(6,li)],[]⟩,jw,rv,ts,rN [[],[Ck]],rN [[Ck],[Ck]],rv,jw,jw,jw]
def Q0:List An:=[jw,rN [[Ck],[],[li],[],[li]],rN [[Ck],[],[li],[],[li]],jw]
def Q3:List An:=[jw,rN [[],[li],[],[],[],[li]]]
def Q4:List An:=[jw,rN [[g01],[],[],[],[g03]],rv,jw,rN [[],[g02],[],[Ck],[],[li],[],[li]],rN [[],[],[li],[],[],[],[],[li]],rN [[g03]],rv,jw,rN [[g03]]]
def Q5:List An:=[jw,rN [[],[g05]]]
def Q6:List An:=[jw,ts,.l ⟨[(8,li)],[]⟩,jw,rv,ts,jw,.b (some ⟨[],[]⟩),.l ⟨[(9,li)],[]⟩,rN [[],[],[],[],[],[],[],[],[g03],[],[],[],[],[g03],[li]],rv,ts,rN [[],[],[],[],[],[],[],[],[],[g03],[],[],[],[g03]],jw,jw]
def Q7:List An:=[jw,ts,.l ⟨[(8,li)],[]⟩,jw,rv,ts,jw,.b (some ⟨[],[]⟩),.l ⟨[(9,li)],[]⟩,rN [[],[],[],[],[],[],[],[],[g01],[],[],[],[],[g01],[li]],rv,ts,rN [[],[],[],[],[],[],[],[],[],[g01],[],[],[],[g01]],jw,jw]
def Q8:List An:=[jw,ts,.l ⟨[(6,li)],[]⟩,jw,rv,ts,jw,.b (some ⟨[],[]⟩),.l ⟨[(7,li)],[]⟩,rN [[],[],[],[],[],[],[],[li],[],[],[],[],[li]],rv,ts,rN [[],[],[],[],[],[],[],[],[],[li],[],[],[],[li]],jw,jw]
def Q9:List An:=[jw,.r [] (some ⟨[(4,lb)],[]⟩)]
def Ra:List An:=[jw,jw,ts,.l ⟨[(8,li)],[]⟩,jw,rv,ts,jw,rN [[],[],[],[],[g07],[lb]],rv,jw,jw,jw]
def Rb:List An:=[jw,rN [[g03]],jw,rv,jw,rN [[g03],[],[li],[],[g02]],rN [[],[],[],[g05],[g05]],rv,jw,rN [[g03],[],[li]]]
def Rc:List An:=[jw,rN [[g00]],rv,jw,rN [[],[g02],[],[Zm]],rN [[],[g02],[],[li],[],[li]],ts,jw,.c (some ⟨[],[(7,[.i .u8,.i .i64])]⟩),rN [[],[li],[],[li]],jw,.c (some ⟨[],[(7,[.i .u8,.i .i64])]⟩),rN [[],[li],[],[li]],rN [[],[g02]],.c (some ⟨[],[(7,[.i .u8,.i .i64])]⟩),rN [[],[li],[],[li]],rN [[g06]],rv,jw,rN [[g06]]]
def Rd:List An:=[jw,rN [[],[g02],[],[],[],[g02],[],[],[],[],[li],[],[],[],[],[li]],rv,jw,jw]
def Re:List An:=[jw,rN [[],[li],[],[],[],[li],[],[],[],[],[li],[],[],[],[],[li]],rv,jw,jw]
def Rf:List An:=[jw,jw,jw,ts,.l ⟨[(9,li),(10,li)],[]⟩,jw,rv,ts,jw,rN [[],[],[],[],[g07],[g05],[li]],.c (some ⟨[(9,li),(10,li)],[]⟩),jw,jw,.r [[],[],[],[],[],[],[],[],[],[g07],[g05],[li]] (some ⟨[(6,li),(7,lb)],[]⟩)]
def Rg:List An:=[jw,rN [[g07],[],[g05]]]
def aa:Nat->Site
 |_=>⟨0,[],[],.skip,.skip⟩
def xc(f:TK):Ctxt:=⟨cc,ptsTab.getD f [],aa⟩
end Go.Am
end

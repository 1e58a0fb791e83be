/-
  PART 2 OF THE PROOF (no conditions).
-/
import Derived.Test.YtiimabnndpeioaaGreatDoorSO1
import Derived.Test.YtiimabnndpeioaaGreatDoorProg
set_option linter.unusedSectionVars false
set_option linter.unusedSimpArgs false
set_option linter.unusedVariables false
set_option linter.constructorNameAsVariable false
set_option linter.defProp false
noncomputable section
set_option maxRecDepth 100000
namespace Go.Am
inductive Lf where
 |i (n:Int)
 |b (t:Bool)
 |v (x:Value)
inductive LK where
 |i (k:TF)
 |b
 |v
abbrev _root_.TE:=List LK
inductive SK where
 |leaf (k:LK)
 |agg (ks:TE)
inductive SL where
 |i (k:TF) (n:Int)
 |b (t:Bool)
 |l (t:Bool)
 |v (x:Value)
inductive S0 where
 |leaf (l:SL)
 |agg (cs:List SL)
inductive SV where
 |st (x:S0)
 |tup (xs:List S0)
 |lad (s off:Nat)
 |ldx (s base:Nat) (ix:List (Int×Nat))
 |gad (g off:Nat)
 |gdx (g base:Nat) (ix:List (Int×Nat))
 |un
 |no
inductive LR where
 |unk
 |nil
 |any (n:Nat)
 |row (cs:List SL)
structure Env where
 tm:List SV
 lc:List LR
def SL.val:SL->Value
 | .i k n=>.int k n
 | .b t=>.bool t
 | .l t=>.bool t
 | .v x=>x
def SL.lf:SL->Lf
 | .i _ n=>.i n
 | .b t=>.b t
 | .l t=>.b t
 | .v x=>.v x
def S0.val:S0->Value
 | .leaf l=>l.val
 | .agg cs=>.agg ⟨cs.map SL.val⟩
def S0.cells:S0->List SL
 | .leaf l=>[l]
 | .agg cs=>cs
def AH(a:Nat):List (Int×Nat)->Nat
 | []=>a
 |p :: l=>AH (a+p.1.toNat*p.2) l
def SV.val:SV->Value
 | .st x=>x.val
 | .tup xs=>.tuple ⟨xs.map S0.val⟩
 | .lad s off=>.pointer (some ⟨s,off,some 0⟩)
 | .ldx s a ix=>.pointer (some ⟨s,AH a ix,some 0⟩)
 | .gad g off=>.pointer (some ⟨g,off,some 1⟩)
 | .gdx g a ix=>.pointer (some ⟨g,AH a ix,some 1⟩)
 | .un=>undef
 | .no=>undef
def aB(x:Value):Bool:=noLoc x&&aP x&&aG x && !aw x
def Bt(x:Value):Option Unit:=if bg x then some ()else none
def D2:Value->SL
 | .int k n=>.i k n
 | .bool t=>.l t
 |v=>.v v
def Dh:Value->Option S0
 | .agg cs=>match cs.toList.all scalar with
  |true=>some (.agg (cs.toList.map D2))
  |false=>none
 |v=>match scalar v with
  |true=>some (.leaf (D2 v))
  |false=>none
def kNo(k:TF):Nat:=@IntKind.rec (λ_=>Nat) 0 1 2 3 4 5 6 7 k
def dF(a b:TF):Bool:=Nat.beq (kNo a) (kNo b)
def SL.is:SL->LK->Bool
 | .i k _,.i a=>dF k a
 | .b _,.b=>true
 | .l _,.b=>true
 | .v _,.v=>true
 |_,_=>false
def aZ:List SL->TE->Bool
 | [],[]=>true
 |c :: cs,k :: ks=>c.is k&&aZ cs ks
 |_,_=>false
def S0.is:S0->SK->Bool
 | .leaf l,.leaf k=>l.is k
 | .agg cs,.agg ks=>aZ cs ks
 |_,_=>false
def SL.lk:SL->LK
 | .i k _=>.i k
 | .b _=>.b
 | .l _=>.b
 | .v _=>.v
structure Live where
 tm:List (Nat×SK)
 rows:List (Nat×List LK)
abbrev _root_.TH:=List SK
inductive AC where
 |skip
 |ret
 |exit (id:Nat)
 |label (l:Nat)
 |seq (a b:AC)
 |scope (b:AC)
 |region (id:Nat) (ops:Tl) (draw:Bool) (hs:List (TH)) (j:Option Live)
 |cond (c:TG) (a b:AC) (j:Option Live)
 |block (id:Nat) (b:AC) (j:Option Live)
 |loop (b:AC) (l:Live)
 |rangeFunc (f:TG) (κ:Nat) (ids:Tx)
structure Site where
 nt:Nat
 caps:List (Nat×SK)
 params:List (Nat×SK)
 assign:AC
 body:AC
def AC.erase(T:Nat->Tmp->Code):AC->Code
 | .skip=>.skip
 | .ret=>.ret
 | .exit id=>.exit id
 | .label l=>.label l
 | .seq a b=>.seq (a.erase T) (b.erase T)
 | .scope b=>.scope (b.erase T)
 | .region id ops d _ _=>.region id ops d
 | .cond c a b _=>.cond c (a.erase T) (b.erase T)
 | .block id b _=>.block id (b.erase T)
 | .loop b _=>.loop (b.erase T)
 | .rangeFunc f κ _=>match f with
  | .tmp t=>T κ t
  |_=> .refuse ""
def xy:Nat->Tmp->Code:=λ_ _=> .refuse ""
def iO(s:Site)(t:Tmp):Code:=.rangeFunc (.tmp t) (s.params.map (·.1)).toArray (s.assign.erase xy) (s.body.erase xy)
def Dq:Code->List Nat
 | .region _ ops _=>ops.toList.filterMap (·.dst)
 | .seq a b=>Dq a++Dq b
 | .cond _ a b=>Dq a++Dq b
 | .block _ b=>Dq b
 | .loop b=>Dq b
 | .scope b=>Dq b
 |_=>[]
def jq(pts:Tx)(o:Oper):To:=
 match o.op with
 | .box .. | .alloc _=>match o.dst with
  |some d=>if pts.getD d 0=d+2 then some d else none
  |none=>none
 | .store _ a _=>match mf pts a with
  |s+2=>some s
  |_=>none
 |_=>none
def Cm(pts:Tx):Code->List Nat
 | .region _ ops _=>ops.toList.filterMap (jq pts)
 | .seq a b=>Cm pts a++Cm pts b
 | .cond _ a b=>Cm pts a++Cm pts b
 | .block _ b=>Cm pts b
 | .loop b=>Cm pts b
 | .scope b=>Cm pts b
 | .rangeFunc _ _ a b=>Cm pts a++Cm pts b
 |_=>[]
section
variable {R:Type}
def fN(n:Nat)(k:Nat->R):R:=Nat.rec (motive:=λ_=>R) (k n) (λm _=>k m) (Nat.succ n)
def fI(n:Int)(k:Int->R):R:=Int.rec (motive:=λ_=>R) (λm=>fN m λm=>k (.ofNat m)) (λm=>fN m λm=>k (.negSucc m)) n
def fJ(n:Nat)(k:Nat->R):fN n k=k n:=rfl
def jD(n:Int)(k:Int->R):fI n k=k n:=by cases n<;>rfl
end
def OD(a b:Int):Bool:=Int.rec (λm=>Int.rec (λn=>Nat.ble m n) (λ_=>false) b) (λm=>Int.rec (λ_=>true) (λn=>Nat.ble n m) b) a
def leZ_iff{a b:Int}:OD a b=true↔a<=b:=by
 cases a<;>cases b<;>simp only[OD,De,Bf,false_iff,true_iff,D8]<;>omega
def GZ{α:Type}(l:List α):Nat->Nat->Option (List α):=
 List.rec (motive:=λ_=>Nat->Nat->Option (List α))
  (λb n=>Nat.rec (Nat.rec (some []) (λ_ _=>none) n) (λ_ _=>none) b)
  (λa _ c b n=>Nat.rec (Nat.rec (some []) (λm _=>Option.rec none (λl=>some (a :: l)) (c 0 m)) n) (λo _=>c o n) b) l
def nu{α:Type}:∀(l:List α) (off n:Nat),GZ l off n=if off+n<=l.length then some ((l.drop off).take n)else none
 | [],0,0=>rfl
 | [],0,n+1=>by rw[po (by simp)];rfl
 | [],o+1,n=>by rw[po (by simp)];rfl
 |a :: l,0,0=>by rw[mc (by simp)];rfl
 |a :: l,0,n+1=>by
  show(Option.rec none (λl=>some (a :: l)) (GZ l 0 n):Option (List α))=_;rw[nu l 0 n];by_cases h:0+n<=l.length
  ·rw[mc h,mc (by simp at h ⊢;omega)];rfl
  ·rw[po h,po (by simp at h ⊢;omega)]
 |a :: l,o+1,n=>by
  show GZ l o n=_;rw[nu l o n];by_cases h:o+n<=l.length
  ·rw[mc h,mc (by simp at h ⊢;omega)];rfl
  ·rw[po h,po (by simp at h ⊢;omega)]
def PR{α:Type}(l:List α):Nat->List α->Option (List α):=
 List.rec (motive:=λ_=>Nat->List α->Option (List α))
  (λd c=>Nat.rec (List.rec (some []) (λ_ _ _=>none) c) (λ_ _=>none) d)
  (λa t e d c=>Nat.rec (List.rec (some (a :: t)) (λb f _=>Option.rec none (λl=>some (b :: l)) (e 0 f)) c) (λo _=>Option.rec none (λl=>some (a :: l)) (e o c)) d) l
def wl{α:Type}:∀(l:List α) (off:Nat) (new:List α),PR l off new=if off+new.length<=l.length then some (l.take off++new++l.drop (off+new.length))else none
 | [],0,[]=>rfl
 | [],0,b :: bs=>by rw[po (by simp)];rfl
 | [],o+1,new=>by rw[po (by simp)];rfl
 |a :: l,0,[]=>by rw[mc (by simp)];rfl
 |a :: l,0,b :: bs=>by
  show(Option.rec none (λl=>some (b :: l)) (PR l 0 bs):Option (List α))=_;rw[wl l 0 bs];by_cases h:0+bs.length<=l.length
  ·rw[mc h,mc (by simp at h ⊢;omega)];simp
  ·rw[po h,po (by simp at h ⊢;omega)]
 |a :: l,o+1,new=>by
  show(Option.rec none (λl=>some (a :: l)) (PR l o new):Option (List α))=_;rw[wl l o new];by_cases h:o+new.length<=l.length
  ·rw[mc h,mc (by simp at h ⊢;omega)];simp[Nat.add_right_comm]
  ·rw[po h,po (by simp at h ⊢;omega)]
abbrev cL:=Nat->Option HObj
inductive Act1 where
 |set (i:Nat) (o:HObj)
 |push (o:HObj)
def Act1.on(H:Tp):Act1->List HObj
 | .set i o=>H.set i o
 | .push o=>H++[o]
def gA(H:Tp)(l:List Act1):Tp:=l.foldl Act1.on H
def gQ(g:cL)(id:Nat):Option (Tk):=
 match g id with
 |some (.cells a _ _)=>some a
 |_=>none
def ZR(n:Nat)(p:Value)(g:cL):Option (Tk):=
 match p with
 | .pointer (some a)=>match a.spot with
  |none=>(gQ g a.block).bind λb=>cut b a.off n
  |some _=>none
 |_=>none
def Vk(C:Cfg)(n:Nat)(p:Value)(g:cL):Option (Tk):=
 match p with
 | .pointer (some a)=>match a.spot with
  |none=>(gQ g a.block).bind λb=>cut b a.off n
  |some k=>match Nat.beq k 1 with
   |true=>(C.G a.block).bind λb=>cut b a.off n
   |false=>none
 |_=>none
def ES(p:Value)(new:Tk)(g:cL)(_:Nat):Option (List Act1×List Value):=
 match p with
 | .pointer (some a)=>match a.spot with
  |none=>match g a.block with
   |some (.cells c e true)=>(splice c a.off new).map λb=>([.set a.block (.cells b e true)],[])
   |_=>none
  |some _=>none
 |_=>none
def Iy(C:Cfg)(esz:Nat)(g:cL):Value->Option (List Value×Nat)
 | .slice none 0 0=>some ([],0)
 | .slice (some a) len _=>
  if a.spot=some 1 then((C.G a.block).bind λvs=>cut vs a.off (len*esz)).map λx=>(x,len)
  else if a.spot=pu esz then
   match g a.block with
   |some (.cells vs e _)=>if e=esz then(cut vs a.off (len*esz)).map λx=>(x,len)else none
   |_=>none
  else none
 | .string s=>if esz=1 then some (s.data.toList.map λb=>.int .u8 b.toNat,s.size)else none
 |_=>none
def BS(C:Cfg)(esz bytes:Nat)(s x:Value)(g:cL)(n0:Nat):Option (List Act1×List Value):=
 match Iy C esz g x with
 |none=>none
 |some (c,n)=>
  match s with
  | .slice none 0 0=>
   if n=0 then some ([],[.slice none 0 0])
   else if bh n bytes then some ([.push (.cells c esz true)],[.slice (some ⟨n0,0,pu esz⟩) n 0])else none
  | .slice (some a) b i=>
   if a.spot≠pu esz then none else
   match g a.block with
   |some (.cells h e rw)=>
    if e≠esz then none else
    match cut h a.off (b*esz)with
    |none=>none
    |some d=>
     match i with
     |0=>
      if n=0 then some ([],[.slice (some a) b 0])
      else if rw&&bh (b+n) bytes then
       some ([.set a.block .dead,.push (.cells (d++c) esz true)],[.slice (some ⟨n0,0,pu esz⟩) (b+n) 0])
      else none
     |cap+1=>
      if b+n<=cap then
       if rw then(splice h (a.off+b*esz) c).map λf=>([.set a.block (.cells f e true)],[.slice (some a) (b+n) (cap+1)])
       else if n=0 then some ([],[.slice (some a) b (cap+1)])else none
      else if bh (b+n) bytes then
       some ([.push (.cells (d++c) esz true)],[.slice (some ⟨n0,0,pu esz⟩) (b+n) 0])
      else none
   |_=>none
  |_=>none
def cpG(C:Cfg)(esz:Nat)(d x:Value)(g:cL)(_:Nat):Option (List Act1×List Value):=none
def clG(esz:Nat)(z:Tk)(x:Value)(g:cL)(_:Nat):Option (List Act1×List Value):=none
def CR(esz:Nat)(x:Value)(d e f:Option Int):Ti:=
 match x with
 | .slice (some a) b g=>
  if a.spot≠some 1/\a.spot≠pu esz then none else
  if 0<=d.getD 0/\d.getD 0<=e.getD b/\cV b g e f then
   fN (a.off+(d.getD 0).toNat*esz) λo=>fN ((e.getD b).toNat - (d.getD 0).toNat) λn=>fN (bT g (d.getD 0).toNat f) λc=>
   some (.slice (some { a with off:=o }) n c)
  else none
 | .slice none 0 0=>if d.getD 0=0/\e.getD 0=0/\f.getD 0=0/\(f.isNone∨e.isSome)then some (.slice none 0 0)else none
 |_=>none
def L5(s:To):To:=match s with
 |none=>none
 |some k=>match Nat.beq k 1 with
  |true=>some 1
  |false=>none
def Ah(esz:Nat)(x:Value)(i:Int):Ti:=
 match x with
 | .slice (some a) b _=>Int.rec (λj=>match Nat.blt j b with
  |true=>fN (Nat.add a.off (Nat.mul j esz)) λo=>some (.pointer (some ⟨a.block,o,L5 a.spot⟩))
  |false=>none) (λ_=>none) i
 |_=>none
def L6(s:To):L5 s=if s=some 1 then some 1 else none:=by
 unfold L5;cases s with
 |none=>rfl
 |some k=>
  cases e:Nat.beq k 1 with
  |true=>rw[AE e];rfl
  |false=>
   rw[po (λh=>by cases h;cases e)];simp only[e]
def tX(esz:Nat)(x:Value)(i:Int):Ah esz x i=match (motive:=Value->Ti) x with
 | .slice (some a) len _=>
  if 0<=i/\i<(len:Int)then some (.pointer (some ⟨a.block,a.off+i.toNat*esz,if a.spot=some 1 then some 1 else none⟩))else none
 |_=>none:=by
 unfold Ah;split
 next a len _=>
  cases i with
  |ofNat j=>
   simp only[fJ,L6];cases e:Nat.blt j len with
   |true=>
    rw[BH]at e;have b:0<=Int.ofNat j/\Int.ofNat j<(len:Int):=⟨Cb j,by show(j:Int)<len;omega⟩;rw[mc b];rfl
   |false=>
    have:¬j<len:=λh=>by rw[←BH,e]at h;cases h
    have b:¬(0<=Int.ofNat j/\Int.ofNat j<(len:Int)):=λh=>this (by have c:(j:Int)<len:=h.2;omega);rw[po b]
  |negSucc j=>
   have b:¬(0<=Int.negSucc j/\Int.negSucc j<(len:Int)):=λh=>by have:=h.1;omega
   rw[po b]
 ·rfl
def Ov(len esz:Nat)(x:Value)(i:Int):Ti:=
 match x with
 | .pointer (some a)=>if 0<=i/\i<(len:Int)then some (.pointer (some { a with off:=a.off+i.toNat*esz }))else none
 |_=>none
def Ag(off:Nat)(x:Value):Ti:=
 match x with
 | .pointer (some a)=>some (.pointer (some { a with off:=a.off+off }))
 |_=>none
def zN(x:Value):Ti:=
 match x with
 | .pointer (some a)=>some (.pointer (some a))
 | .func (.func f) a b=>some (.func (.func f) a b)
 | .func (.yield f) a b=>some (.func (.yield f) a b)
 |_=>none
def G6(a:List UInt8):List UInt8->Bool:=
 List.rec (motive:=λ_=>List UInt8->Bool) (λb=>List.rec true (λ_ _ _=>false) b)
  (λx _ c b=>List.rec false (λy t _=>Bool.rec false (c t) (Nat.beq x.toNat y.toNat)) b) a
def wM:∀(a b:List UInt8),G6 a b=true↔a=b
 | [],[]=>⟨λ_=>rfl,λ_=>rfl⟩
 | [],_ :: _=>⟨λh=>(by cases h),λh=>(by cases h)⟩
 |_ :: _,[]=>⟨λh=>(by cases h),λh=>(by cases h)⟩
 |x :: a,y :: b=>by
  show(Bool.rec false (G6 a b) (Nat.beq x.toNat y.toNat):Bool)=true↔_;cases e:Nat.beq x.toNat y.toNat with
  |true=>
   have:x=y:=UInt8.toNat_inj.1 (AE e);show G6 a b=true↔_;rw[wM a b,this];simp
  |false=>
   constructor
   ·intro h;cases h
   ·intro h;cases h;rw[show Nat.beq x.toNat x.toNat=true from Ea _]at e;cases e
def Gu(x y:Value):Option Bool:=match x with
 | .string a=>match y with
  | .string b=>some (G6 a.data.toList b.data.toList)
  |_=>none
 |_=>none
def DJ:Value->Option Int
 | .slice _ n _=>some n
 |_=>none
def D3(s:ByteArray)(j:Int):Option Int:=match j with
 | .ofNat n=>(s.data.toList[n]?).map λb=>Int.ofNat b.toNat
 |_=>none
def Mf{s:ByteArray}{j b:Int}(h:D3 s j=some b):0<=j/\(s[j.toNat]?).map (λb=>Value.int .u8 b.toNat)=some (.int .u8 b):=by
 unfold D3 at h;split at h
 next n=>
  obtain⟨x,c,rfl⟩:=qag.1 h;refine⟨Cb n,?_⟩;have:s[n]?=some x:=by
   rw[qc9]at c;obtain⟨a,d⟩:=qaP.1 c;have e:n<s.size:=a;rw[getElem?_pos s n e];exact congrArg some d
  show(s[n]?).map _=_;rw[this];rfl
 ·cases h
def I6:Value->Option Int
 | .slice (some _) _ (n+1)=>some n
 | .slice none 0 0=>some 0
 |_=>none
def ZS(m:Value)(g:cL):Option (Tk):=
 match m with
 | .map (some id)=>match g id with
  |some (.map a _)=>some [.int .i64 a.length]
  |_=>none
 |_=>none
def BM(len:Nat)(i:Int):Option Unit:=Int.rec (λj=>match Nat.blt j len with
 |true=>some ()
 |false=>none) (λ_=>none) i
def Kb(len:Nat)(i:Int):BM len i=if 0<=i/\i<(len:Int)then some ()else none:=by
 unfold BM;cases i with
 |ofNat j=>
  simp only;cases e:Nat.blt j len with
  |true=>rw[BH]at e;rw[mc ⟨Cb j,by show(j:Int)<len;omega⟩]
  |false=>
   have:¬j<len:=λh=>by rw[←BH,e]at h;cases h
   rw[po (λh=>this (by have a:(j:Int)<len:=h.2;omega))]
 |negSucc j=>rw[po (λh=>by have:=h.1;omega)]
def B7(l c:Int):Option Unit:=if 0<=l/\l<=c/\c<=1048576 then some ()else none
abbrev _root_.TB:=List Lf
def iW(cs:TB)(a:Nat)(ix:List (Int×Nat))(n:Nat):Option (TB):=GZ cs (AH a ix) n
def Li(cs:TB)(a:Nat)(ix:List (Int×Nat))(n:Nat):iW cs a ix n=if AH a ix+n<=cs.length then some ((cs.drop (AH a ix)).take n)else none:=nu _ _ _
def Pu(cs:TB)(a:Nat)(ix:List (Int×Nat))(new:TB):Option (TB):=PR cs (AH a ix) new
def Pv(cs:TB)(a:Nat)(ix:List (Int×Nat))(new:TB):Pu cs a ix new=if AH a ix+new.length<=cs.length then some (cs.take (AH a ix)++new++cs.drop (AH a ix+new.length))else none:=wl _ _ _
def mh(vs:Tk)(a:Nat)(ix:List (Int×Nat))(n:Nat):Option (Tk):=GZ vs (AH a ix) n
def Lj(vs:Tk)(a:Nat)(ix:List (Int×Nat))(n:Nat):mh vs a ix n=cut vs (AH a ix) n:=nu _ _ _
def ZQ(C:Cfg)(n:Nat)(p:Value):Option (Tk):=
 match p with
 | .pointer (some a)=>if a.spot=some 1 then(C.G a.block).bind λb=>cut b a.off n else none
 |_=>none
inductive Pk where
 |ld (n:Nat) (p:Value)
 |lg (C:Cfg) (n:Nat) (p:Value)
 |fn (f:cL->Option (Tk))
def Pk.run:Pk->cL->Option (Tk)
 | .ld n p=>ZR n p
 | .lg C n p=>Vk C n p
 | .fn f=>f
inductive Hp where
 |st (p:Value) (new:Tk)
 |ap (C:Cfg) (esz bytes:Nat) (s x:Value)
 |fn (f:cL->Nat->Option (List Act1×List Value))
def Hp.run:Hp->cL->Nat->Option (List Act1×List Value)
 | .st p new=>ES p new
 | .ap C esz bytes s x=>BS C esz bytes s x
 | .fn f=>f
structure Alg(R HT:Type):Type 1 where
 fail:R
 cond:Bool->R->R->R
 ari:BinOp->TF->Int->Int->(Int->R)->R
 shf:BinOp->TF->Int->TF->Int->(Int->R)->R
 cmp:BinOp->Int->Int->(Bool->R)->R
 eqs:List (Lf×Lf)->(Bool->R)->R
 conv:TF->Int->(Int->R)->R
 sel:Bool->Int->Int->(Int->R)->R
 opt:{α:Type}->Option α->(α->R)->R
 chk:Value->R->R
 unI:TB->(Int->TB->R)->R
 unB:TB->(Bool->TB->R)->R
 unV:TB->(Value->TB->R)->R
 un0:TB->R->R
 ucI:TF->Tk->(Int->Tk->R)->R
 ucB:Tk->(Bool->Tk->R)->R
 ucV:Tk->(Value->Tk->R)->R
 uc0:Tk->R->R
 peek:Pk->HT->(Tk->R)->R
 heap:Hp->HT->(Tk->HT->R)->R
 new:HObj->HT->(Nat->HT->R)->R
 call:TK->TB->HT->(TB->HT->R)->R
 callv:Value->Tk->TH->HT->(TB->HT->R)->R
 join:(TB->HT->R)->((TB->HT->R)->R)->R
 loop:((TB->HT->R)->TB->HT->R)->TB->HT->R
section
variable {R HT:Type} (A:Alg R HT)
def setK{α:Type}(x:α)(l:List α):Nat->(List α->R)->R:=
 List.rec (motive:=λ_=>Nat->(List α->R)->R) (λ_ k=>k [])
  (λa c b i k=>match i with
   |0=>k (x :: c)
   |i+1=>b i λl=>k (a :: l)) l
def Iz(ks:TE):TB->(List SL->TB->R)->R:=
 List.rec (motive:=λ_=>TB->(List SL->TB->R)->R) (λa K=>K [] a)
  (λk _ d a K=>match k with
   | .i k=>A.unI a λn r=>d r λc r=>K (.i k n :: c) r
   | .b=>A.unB a λt r=>d r λc r=>K (.b t :: c) r
   | .v=>A.unV a λx r=>d r λc r=>K (.v x :: c) r) ks
def unS(c:SK)(ls:TB)(K:S0->TB->R):R:=
 match c with
 | .leaf k=>match k with
  | .i k=>A.unI ls λn r=>K (.leaf (.i k n)) r
  | .b=>A.unB ls λt r=>K (.leaf (.b t)) r
  | .v=>A.unV ls λx r=>K (.leaf (.v x)) r
 | .agg a=>Iz A a ls λd r=>K (.agg d) r
def EW(sks:TH):TB->(List S0->TB->R)->R:=
 List.rec (motive:=λ_=>TB->(List S0->TB->R)->R) (λa K=>K [] a)
  (λc _ b a K=>unS A c a λx r=>b r λd r=>K (x :: d) r) sks
def ucL(ks:TE):Tk->(List SL->Tk->R)->R:=
 List.rec (motive:=λ_=>Tk->(List SL->Tk->R)->R) (λa K=>K [] a)
  (λk _ d a K=>match k with
   | .i k=>A.ucI k a λn r=>d r λc r=>K (.i k n :: c) r
   | .b=>A.ucB a λt r=>d r λc r=>K (.b t :: c) r
   | .v=>A.ucV a λx r=>A.chk x (d r λc r=>K (.v x :: c) r)) ks
def Il(c:SK)(cs:Tk)(K:S0->Tk->R):R:=
 match c with
 | .leaf k=>match k with
  | .i k=>A.ucI k cs λn r=>K (.leaf (.i k n)) r
  | .b=>A.ucB cs λt r=>K (.leaf (.b t)) r
  | .v=>A.ucV cs λx r=>A.chk x (K (.leaf (.v x)) r)
 | .agg a=>ucL A a cs λd r=>K (.agg d) r
def cP:List S0->List Lf
 | []=>[]
 |x :: l=>x.cells.map SL.lf++cP l
def au(l:List S0):Tk:=l.map S0.val
def pkT(tm:List SV):List (Nat×SK)->Option (TB)
 | []=>some []
 |(t,a) :: l=>match tm.getD t .no,pkT tm l with
  | .st x,some ls=>match x.is a with
   |true=>some (x.cells.map SL.lf++ls)
   |false=>none
  |_,_=>none
def pkR(a:List LR):List (Nat×List LK)->Option (TB)
 | []=>some []
 |(s,ks) :: l=>match a.getD s .unk,pkR a l with
  | .row cs,some ls=>match aZ cs ks with
   |true=>some (cs.map SL.lf++ls)
   |false=>none
  |_,_=>none
def pk(c:Env)(lv:Live):Option (TB):=
 match pkT c.tm lv.tm,pkR c.lc lv.rows with
 |some a,some b=>some (a++b)
 |_,_=>none
def SV.inRows(ks:Tx):SV->Bool
 | .tup _=>true
 | .lad s _=>ks.contains s
 | .ldx s _ _=>ks.contains s
 |_=>false
def Sj(b ks:Tx)(l:List SV):Nat->(List SV->R)->R:=
 List.rec (motive:=λ_=>Nat->(List SV->R)->R) (λ_ K=>K [])
  (λx _ a i K=>a (i+1) λl=>match b.contains i||x.inRows ks with
   |true=>K (.no :: l)
   |false=>K (x :: l)) l
def rI(n:Nat)(K:Nat->R):R:=Nat.casesOn n (K 0) λm=>K (Nat.succ m)
def Jd(d ks:Tx)(c:LR)(l:List LR):Nat->(List LR->R)->R:=
 List.rec (motive:=λ_=>Nat->(List LR->R)->R) (λ_ K=>K [])
  (λx _ b i K=>b (i+1) λl=>match ks.contains i,d.contains i with
   |true,_=>K (c :: l)
   |false,true=>(match x with
    | .row a=>rI a.length λn=>K (.any n :: l)
    | .any n=>K (.any n :: l)
    |_=>K (.unk :: l))
   |false,false=>K (x :: l)) l
def upT(lv:List (Nat×SK)):List S0->List SV->(List SV->R)->R:=
 List.rec (motive:=λ_=>List S0->List SV->(List SV->R)->R) (λ_ tm K=>K tm)
  (λp _ b a tm K=>match a with
   |x :: a=>setK (.st x) tm p.1 λtm=>b a tm K
   | []=>A.fail) lv
def upR(lv:List (Nat×List LK)):TB->List LR->(List LR->TB->R)->R:=
 List.rec (motive:=λ_=>TB->List LR->(List LR->TB->R)->R) (λb a K=>K a b)
  (λp _ d b a K=>Iz A p.2 b λc r=>setK (.row c) a p.1 λa=>d r a K) lv
def reE(pts:Tx)(c:Code)(d:LR)(lv:Live)(b:Env)(ls:TB)(K:Env->R):R:=
 Sj (Dq c) (aO pts c) b.tm 0 λtm=>Jd (Cm pts c) (aO pts c) d b.lc 0 λa=>
  EW A (lv.tm.map (·.2)) ls λe r=>upT A lv.tm e tm λtm=>upR A lv.rows r a λa r=>A.un0 r (K ⟨tm,a⟩)
abbrev KN(R HT:Type):=Env->HT->R
def ue(pts:Tx)(c:Code)(j:Option Live)(b:Env)(e:KN R HT)(a:KN R HT->R):R:=
 match j with
 |none=>a e
 |some lv=>A.join (λd h=>reE A pts c .unk lv b d λb=>e b h) λf=>a λb h=>match pk b lv with
  |some d=>f d h
  |none=>A.fail
structure Ctxt where
 C:Cfg
 pts:List Nat
 T:Nat->Site
def sval(a:Env):TG->SV
 | .tmp t=>a.tm.getD t .no
 | .const v=>match Dh v with
  |some x=>.st x
  |none=>.no
 | .global g=>match Nat.blt g gB with
  |true=>.gad g 0
  |false=>.no
 | .func f=>.st (.leaf (.v (.func (.func f) #[] #[])))
def sval0(a:Env)(x:TG):Option S0:=
 match sval a x with
 | .st x=>some x
 |_=>none
def svals(a:Env):List Operand->Option (List S0)
 | []=>some []
 |x :: l=>match sval0 a x,svals a l with
  |some x,some l=>some (x :: l)
  |_,_=>none
def Ek:TG->Option Nat
 | .const (.int _ (.ofNat n))=>some n
 |_=>none
def oo(d:Tn)(x:SV)(a:Env)(h:HT)(K:KN R HT):R:=
 match d with
 |some d=>setK x a.tm d λtm=>K ⟨tm,a.lc⟩ h
 |none=>K a h
def sG(b:Env)(s:Nat):Option (List SL):=
 match b.lc.getD s .unk with
 | .row a=>some a
 |_=>none
def Dj:SK->List LK
 | .leaf k=>[k]
 | .agg ks=>ks
def Bu(cs:List SL)(off n:Nat):Option (List SL):=if off+n<=cs.length then some ((cs.drop off).take n)else none
def iD(cs:List SL)(off:Nat)(new:List SL):Option (List SL):=if off+new.length<=cs.length then some (cs.take off++new++cs.drop (off+new.length))else none
def tj(cs:List SL)(ks:TE):Nat->List (Int×Nat)->Bool
 |a,[]=>match Bu cs a ks.length with
  |some ds=>aZ ds ks
  |none=>true
 |a,p :: l=>!Nat.beq p.2 0&&(List.range (cs.length+1)).all λj=>tj cs ks (a+j*p.2) l
def CX(a:Bool)(cs:List SL):Option S0:=
 match a,cs with
 |true,cs=>some (.agg cs)
 |false,[c]=>some (.leaf c)
 |_,_=>none
def rC(pl:Nat->Option (Nat×Nat))(cs:List SL):List (Nat×S0)->Option (List SL)
 | []=>some cs
 |(i,x) :: l=>match pl i with
  |some (off,n)=>match Nat.beq x.cells.length n with
   |true=>match iD cs off x.cells with
    |some cs=>rC pl cs l
    |none=>none
   |false=>none
  |none=>none
def zZ(P:TD)(t:TJ):Option Bool:=
 match P.underlying t with
 |some (.struct _)|some (.array _ _)=>some true
 |some _=>some false
 |none=>none
def ww(P:TD)(t:TJ):Option S0:=(ey P t).bind Dh
def ju:SK->Bool
 | .leaf _=>false
 | .agg _=>true
def Jy:Bool->Bool->Bool
 |true,true=>true
 |false,false=>true
 |_,_=>false
def O1(X:Ctxt)(d:Tn)(t:TJ)(x:S0)(a:Env)(h:HT)(K:KN R HT):R:=
 match d with
 |none=>A.fail
 |some d=>match Nat.beq (X.pts.getD d 0) (d+2)with
  |true=>match a.lc.getD d .unk with
   | .nil=>setK (.row x.cells) a.lc d λb=>setK (.lad d 0) a.tm d λtm=>K ⟨tm,b⟩ h
   |_=>A.fail
  |false=>A.new (.cells (x.cells.map SL.val) (lu X.C.P t) true) h λn h=>oo (some d) (.st (.leaf (.v (.pointer (some ⟨n,0,none⟩))))) a h K
def Di(d:Tn)(b:SK)(cs:Tk)(a:Env)(h:HT)(K:KN R HT):R:=
 Il A b cs λx r=>A.uc0 r (oo d (.st x) a h K)
def LQ(d:Tn)(b:SK)(ls:TB)(a:Env)(h:HT)(K:KN R HT):R:=
 unS A b ls λx r=>A.un0 r (oo d (.st x) a h K)
def Kr(X:Ctxt)(d:Tn)(i:SK)(j:Bool)(n:Nat)(a:TG)(e:Env)(h:HT)(K:KN R HT):R:=
 match mf X.pts a,sval e a with
 |0,.st (.leaf (.v p))=>A.peek (.lg X.C n p) h λc=>Di A d i c e h K
 |1,.gad g f=>match X.C.G g with
  |some m=>match cut m f n with
   |some c=>match c.all scalar,CX j (c.map D2)with
    |true,some x=>oo d (.st x) e h K
    |_,_=>Di A d i c e h K
   |none=>A.fail
  |none=>A.fail
 |1,.gdx g b k=>match X.C.G g with
  |some m=>A.opt (mh m b k n) λc=>Di A d i c e h K
  |none=>A.fail
 |1,.st (.leaf (.v p))=>A.opt (ZQ X.C n p) λc=>Di A d i c e h K
 |s+2,.lad l f=>match Nat.beq s l,(sG e s).bind (λc=>(Bu c f n).bind (CX j))with
  |true,some x=>oo d (.st x) e h K
  |_,_=>A.fail
 |s+2,.ldx l b k=>match Nat.beq s l,sG e s with
  |true,some c=>match tj c (Dj i) b k&&Nat.beq n (Dj i).length with
   |true=>A.opt (iW (c.map SL.lf) b k n) λo=>LQ A d i o e h K
   |false=>A.fail
  |_,_=>A.fail
 |_,_=>A.fail
def Md(r:LR)(off:Nat)(new:List SL):Option (List SL):=
 match r with
 | .row a=>iD a off new
 | .any n=>match Nat.beq off 0&&Nat.beq n new.length with
  |true=>some new
  |false=>none
 |_=>none
def ET(X:Ctxt)(d:Tn)(t:TJ)(a:TG)(x:S0)(c:Env)(h:HT)(K:KN R HT):R:=
 match Nat.beq x.cells.length (X.C.P.cellsOf t)&&(X.C.P.info? t).isSome with
 |false=>A.fail
 |true=>match mf X.pts a,sval c a with
  |0,.st (.leaf (.v p))=>A.heap (.st p (x.cells.map SL.val)) h λ_ h=>oo d .un c h K
  |s+2,.lad i g=>match Nat.beq s i,Md (c.lc.getD s .unk) g x.cells with
   |true,some e=>setK (.row e) c.lc s λf=>oo d .un ⟨c.tm,f⟩ h K
   |_,_=>A.fail
  |s+2,.ldx i b j=>match Nat.beq s i,sG c s with
   |true,some e=>match tj e (x.cells.map SL.lk) b j with
    |false=>A.fail
    |true=>A.opt (Pu (e.map SL.lf) b j (x.cells.map SL.lf)) λk=>Iz A (e.map SL.lk) k λe r=>A.un0 r (setK (.row e) c.lc s λf=>oo d .un ⟨c.tm,f⟩ h K)
   |_,_=>A.fail
  |_,_=>A.fail
def ZM:BinOp->Bool
 | .eql | .neq | .lss | .leq | .gtr | .geq=>true
 |_=>false
def FC:BinOp->Bool
 | .shl | .shr=>true
 |_=>false
def lO(F:TJ->Option (TE)):List Field->Nat->Option (TE)
 | [],_=>some []
 |f :: a,off=>match decide (f.name = "_"),Nat.beq f.offset off,F f.type with
  |false,true,some ks=>(lO F a (off+ks.length)).map (ks ++ ·)
  |_,_,_=>none
def flatK(P:TD):Nat->TJ->Option (TE)
 |0,_=>none
 |d+1,t=>match P.underlying t with
  |some (.int k)=>some [.i k]
  |some .bool=>some [.b]
  |some (.struct a)=>match P.stoodInHeld t,lO (flatK P d) a.toList 0 with
   |false,some ks=>match Nat.beq ks.length (P.cellsOf t)with
    |true=>some ks
    |false=>none
   |_,_=>none
  |some (.array n e)=>match flatK P d e with
   |some ks=>match Nat.beq ks.length (P.cellsOf e)&&Nat.beq (List.replicate n ks).flatten.length (P.cellsOf t)with
    |true=>some (List.replicate n ks).flatten
    |false=>none
   |none=>none
  |_=>none
def NY:Int->Int->Bool
 | .ofNat a,.ofNat b=>Nat.beq a b
 | .negSucc a,.negSucc b=>Nat.beq a b
 |_,_=>false
def gH:TE->Tk->Tk->Option Bool
 | [],[],[]=>some true
 | .i k :: ks,.int a x :: xs,.int b y :: ys=>match dF a k,dF b k,gH ks xs ys with
  |true,true,some r=>(match NY x y with
   |true=>some r
   |false=>some false)
  |_,_,_=>none
 | .b :: ks,.bool x :: xs,.bool y :: ys=>match gH ks xs ys with
  |some r=>(match Jy x y with
   |true=>some r
   |false=>some false)
  |none=>none
 |_,_,_=>none
def zW:TE->Tk->Tk->Option Bool
 | [],_,_=>some true
 | .i k :: ks,.int a x :: xs,.int b y :: ys=>match dF a k,dF b k with
  |true,true=>(match NY x y with
   |true=>zW ks xs ys
   |false=>some false)
  |_,_=>none
 | .b :: ks,.bool x :: xs,.bool y :: ys=>match Jy x y with
  |true=>zW ks xs ys
  |false=>some false
 |_,_,_=>none
def iT(ks:TE)(cs:Tk):Th->Nat->Option (To)
 | [],_=>some none
 |e :: a,i=>match e.key with
  | .agg ds=>match zW ks cs ds.toList with
   |some true=>some (some i)
   |some false=>iT ks cs a (i+1)
   |none=>none
  |_=>none
def valI{R:Type}(v:Value)(d:R)(K:TF->Int->R):R:=match v with
 | .int a m=>K a m
 |_=>d
def valB{R:Type}(v:Value)(d:R)(K:Bool->R):R:=match v with
 | .bool a=>K a
 |_=>d
def SD(a b:Int):Bool:=@Int.rec (λ_=>Bool) (λm=>@Int.rec (λ_=>Bool) (λn=>Nat.beq m n) (λ_=>false) b) (λm=>@Int.rec (λ_=>Bool) (λ_=>false) (λn=>Nat.beq m n) b) a
def Jo(ks:TE):Tk->Tk->Option Bool:=
 @List.rec LK (λ_=>Tk->Tk->Option Bool)
  (λ_ _=>some true)
  (λk _ e c d=>@List.rec Value (λ_=>Option Bool) none (λx c _=>@List.rec Value (λ_=>Option Bool) none (λy d _=>
   @LK.rec (λ_=>Option Bool)
    (λk=>valI x none λa m=>valI y none λb n=>@Bool.rec (λ_=>Option Bool) none (@Bool.rec (λ_=>Option Bool) none (@Bool.rec (λ_=>Option Bool) (some false) (e c d) (SD m n)) (dF b k)) (dF a k))
    (valB x none λa=>valB y none λb=>@Bool.rec (λ_=>Option Bool) (some false) (e c d) (Jy a b))
    none k) d) c) ks
def NZ(a b:Int):SD a b=NY a b:=by cases a<;>cases b<;>rfl
def vf:∀(ks:TE) (xs ys:Tk),Jo ks xs ys=zW ks xs ys
 | [],_,_=>by simp only[zW];rfl
 |k :: ks,[],ys=>by cases k<;>rfl
 |k :: ks,x :: xs,[]=>by cases k<;>cases x<;>rfl
 | .v :: ks,x :: xs,y :: ys=>by cases x<;>cases y<;>rfl
 | .b :: ks,x :: xs,y :: ys=>by
  cases x<;>first|(cases y<;>rfl)|skip
  cases y<;>first|rfl|skip
  rename_i a b
  show @Bool.rec (λ_=>Option Bool) (some false) (Jo ks xs ys) (Jy a b)=_;rw[vf ks xs ys];simp only[zW];cases Jy a b<;>rfl
 | .i k :: ks,x :: xs,y :: ys=>by
  cases x<;>first|(cases y<;>rfl)|skip
  cases y<;>first|rfl|skip
  rename_i a m b n
  show @Bool.rec (λ_=>Option Bool) none (@Bool.rec (λ_=>Option Bool) none (@Bool.rec (λ_=>Option Bool) (some false) (Jo ks xs ys) (SD m n)) (dF b k)) (dF a k)=_;rw[vf ks xs ys,NZ];simp only[zW];cases dF a k<;>cases dF b k<;>first|rfl|(cases NY m n<;>rfl)
def Fk(ks:TE)(cs:Tk)(c:Th):Nat->Option (To):=
 @List.rec MapEntry (λ_=>Nat->Option (To)) (λ_=>some none) (λe _ d i=>match e.key with
  | .agg a=>@Option.rec Bool (λ_=>Option (To)) none (λb=>@Bool.rec (λ_=>Option (To)) (fN (Nat.succ i) d) (some (some i)) b) (Jo ks cs a.toList)
  |_=>none) c
def mK(ks:TE)(cs:Tk):∀(a:Th) (i:Nat),Fk ks cs a i=iT ks cs a i
 | [],_=>rfl
 |e :: a,i=>by
  have h:Fk ks cs (e :: a) i=match e.key with
   | .agg ds=>@Option.rec Bool (λ_=>Option (To)) none (λb=>@Bool.rec (λ_=>Option (To)) (Fk ks cs a (i+1)) (some (some i)) b) (Jo ks cs ds.toList)
   |_=>none:=rfl
  rw[h];simp only[iT,vf,mK ks cs a];split
  next ds _=>
   cases zW ks cs ds.toList with
   |none=>rfl
   |some b=>cases b<;>rfl
  ·rfl
def tO(P:TD)(kt:TJ)(k:Value)(a:Th):Option (To):=
 match k with
 | .agg b=>match zZ P kt,flatK P 10000 kt with
  |some true,some c=>match Fk c b.toList a 0 with
   |some r=>some r
   |none=>rE P kt k a
  |_,_=>rE P kt k a
 |_=>rE P kt k a
def DH(P:TD)(kt:TJ)(k:Value):Bool:=
 match k with
 | .agg b=>match zZ P kt with
  |some true=>match flatK P 10000 kt with
   |some a=>match gH a b.toList b.toList with
    |some _=>true
    |none=>iV P kt k
   |none=>iV P kt k
  |_=>iV P kt k
 |_=>iV P kt k
def Db(g:cL)(id:Nat):Option (List MapEntry×Nat):=
 match g id with
 |some (.map a c)=>some (a,c)
 |_=>none
def gP(a:Bool)(v:Value):Option (Tk):=
 match v,a with
 | .agg b,true=>some b.toList
 | .agg _,false=>none
 |_,true=>none
 |v,false=>some [v]
def DL(C:Cfg)(kt:TJ)(b:Bool)(z:Value)(m k:Value)(ok:Bool)(g:cL):Option (Tk):=
 if !DH C.P kt k then none else
 match m with
 | .map none=>(gP b z).map λa=>a++if ok then [.bool false]else []
 | .map (some id)=>
  match Db g id with
  |none=>none
  |some (c,_)=>
   match tO C.P kt k c with
   |none=>none
   |some none=>(gP b z).map λa=>a++if ok then [.bool false]else []
   |some (some i)=>((fA c i).bind (gP b)).map λa=>a++if ok then [.bool true]else []
 |_=>none
def HF(C:Cfg)(kt:TJ)(m k v:Value)(g:cL)(_:Nat):Option (List Act1×List Value):=
 match m with
 | .map (some id)=>
  if !DH C.P kt k then none else
  match Db g id with
  |none=>none
  |some (a,c)=>
   match tO C.P kt k a with
   |none=>none
   |some none=>some ([.set id (.map (a++[{ key:=k,val:=v,born:=c }]) (c+1))],[])
   |some (some i)=>
    if (a[i]?).all (λe=>Instr.sameBits 10000 e.key k)then some ([.set id (.map (a.modify i λe=>{ e with key:=k,val:=v }) c)],[])else none
 |_=>none
def meG(C:Cfg)(kt:TJ)(a:Bool)(z:Value)(m k:Value)(g:cL)(_:Nat):Option (List Act1×List Value):=none
def esG(m:Value)(b:Int)(v:Value)(g:cL)(_:Nat):Option (List Act1×List Value):=none
def deG(C:Cfg)(kt:TJ)(m k:Value)(g:cL)(_:Nat):Option (List Act1×List Value):=none
def lS(n:Nat)(x y:Value):Option Bool:=match Nat.beq n (dt x),Nat.beq n (dt y)with
 |true,true=>kU x y
 |_,_=>none
def uv{P:TD}{t:TJ}{a:TypeDesc}{x y:Value}{b:Bool}(e:P.underlying t=some a)(h:lS (kV a) x y=some b):kU x y=some b/\sa P t x y=true:=by
 unfold lS at h;split at h
 next c d=>
  refine⟨h,?_⟩;unfold sa;rw[e];simp only[uc,beq_iff_eq];exact⟨AE c,AE d⟩
 ·cases h
def qU(ks:TE):Bool:=ks.all λk=>match k with
 | .v=>false
 |_=>true
def R7(X:Ctxt)(d:Tn)(e:BinOp)(t:TJ)(a b:S0)(c:Env)(h:HT)(K:KN R HT):R:=
 match a,b with
 | .leaf (.i k x),.leaf (.i m y)=>
  match FC e,dF k m,ZM e with
  |true,_,_=>A.shf e k x m y λn=>oo d (.st (.leaf (.i k n))) c h K
  |false,true,true=>A.cmp e x y λt=>oo d (.st (.leaf (.b t))) c h K
  |false,true,false=>A.ari e k x y λn=>oo d (.st (.leaf (.i k n))) c h K
  |_,_,_=>A.fail
 | .agg g,.agg j=>match flatK X.C.P 10000 t,X.C.P.eqGuardType X.C.P.depth t,zZ X.C.P t with
  |some l,false,some true=>match aZ g l&&aZ j l&&qU l with
   |true=>match e with
    | .eql=>A.eqs ((g.map SL.lf).zip (j.map SL.lf)) λt=>oo d (.st (.leaf (.b t))) c h K
    | .neq=>A.eqs ((g.map SL.lf).zip (j.map SL.lf)) λt=>oo d (.st (.leaf (.b (!t)))) c h K
    |_=>A.fail
   |false=>A.fail
  |_,_,_=>A.fail
 | .leaf (.v x),.leaf (.v y)=>match X.C.P.underlying t with
  |some .string=>match e with
   | .eql=>A.opt (Gu x y) λf=>oo d (.st (.leaf (.b f))) c h K
   | .neq=>A.opt (Gu x y) λf=>oo d (.st (.leaf (.b (!f)))) c h K
   |_=>A.fail
  |some o=>match e with
   | .eql=>A.opt (lS (kV o) x y) λf=>oo d (.st (.leaf (.b f))) c h K
   | .neq=>A.opt (lS (kV o) x y) λf=>oo d (.st (.leaf (.b (!f)))) c h K
   |_=>A.fail
  |none=>A.fail
 | .leaf x,.leaf y=>match x.is .b&&y.is .b,X.C.P.underlying t with
  |true,some .bool=>match e with
   | .eql=>A.eqs [(x.lf,y.lf)] λt=>oo d (.st (.leaf (.b t))) c h K
   | .neq=>A.eqs [(x.lf,y.lf)] λt=>oo d (.st (.leaf (.b (!t)))) c h K
   |_=>A.fail
  |_,_=>A.fail
 |_,_=>A.fail
def B8(a:Env):Tg->Option (Option Int)
 |none=>some none
 |some x=>match sval a x with
  | .st (.leaf (.i _ n))=>some (some n)
  |_=>none
def mj(a:TH):SK:=match a with
 | [k]=>k
 |_=>.agg []
def Ia(d:Tn)(sks:TH)(b:TB)(a:Env)(h:HT)(K:KN R HT):R:=
 match sks with
 | [c]=>LQ A d c b a h K
 | []=>A.un0 b (oo d .un a h K)
 |sks=>EW A sks b λe r=>A.un0 r (oo d (.tup e) a h K)
structure Sig where
 ps:List SK
 rs:List SK
def cX:List S0->TH->Bool
 | [],[]=>true
 |x :: l,k :: ks=>x.is k&&cX l ks
 |_,_=>false
def mz(X:Ctxt)(d:Tn)(o:SK)(b:Builtin)(xs:List S0)(l:Array TypeId)(f:Env)(h:HT)(K:KN R HT):R:=
 match b,xs,l[0]? with
 | .append,[.leaf (.v s),.leaf (.v x)],some t=>match X.C.P.underlying t with
  |some (.slice e)=>match X.C.P.info? e with
   |some c=>match Nat.beq c.size 0||(kE c).isNone||(l[1]?.any λu=>(X.C.P.underlying u) matches some (.int _)|none)||l[1]?.isNone with
    |true=>A.fail
    |false=>A.heap (.ap X.C c.size c.bytes s x) h λg h=>Di A d (.leaf .v) g f h K
   |none=>A.fail
  |_=>A.fail
 | .len,[x],some t=>match X.C.P.underlying t,x with
  |some (.slice _),.leaf (.v x)=>A.opt (DJ x) λn=>oo d (.st (.leaf (.i .i64 n))) f h K
  |some (.map _ _),.leaf (.v x)=>A.peek (.fn (ZS x)) h λg=>Di A d (.leaf (.i .i64)) g f h K
  |some (.array n _),_=>oo d (.st (.leaf (.i .i64 n))) f h K
  |_,_=>A.fail
 | .cap,[x],some t=>match X.C.P.underlying t,x with
  |some (.slice _),.leaf (.v x)=>A.opt (I6 x) λn=>oo d (.st (.leaf (.i .i64 n))) f h K
  |some (.array n _),_=>oo d (.st (.leaf (.i .i64 n))) f h K
  |_,_=>A.fail
 | .copy,[.leaf (.v s),.leaf (.v x)],some t=>match X.C.P.underlying t with
  |some (.slice e)=>match Nat.beq (X.C.P.cellsOf e) 0 with
   |true=>A.fail
   |false=>A.heap (.fn (cpG X.C (X.C.P.cellsOf e) s x)) h λg h=>Di A d (.leaf (.i .i64)) g f h K
  |_=>A.fail
 | .delete,[.leaf (.v m),k],some t=>match X.C.P.underlying t with
  |some (.map p _)=>A.heap (.fn (deG X.C p m k.val)) h λ_ h=>oo d .un f h K
  |_=>A.fail
 | .clear,[.leaf (.v s)],some t=>match X.C.P.underlying t with
  |some (.slice e)=>match Nat.beq (X.C.P.cellsOf e) 0,ww X.C.P e with
   |false,some z=>A.heap (.fn (clG (X.C.P.cellsOf e) (z.cells.map SL.val) s)) h λ_ h=>oo d .un f h K
   |_,_=>A.fail
  |_=>A.fail
 | .min,[.leaf (.i k a),.leaf (.i j b)],_=>match dF k j with
  |true=>A.cmp .lss b a λt=>A.sel t b a λn=>oo d (.st (.leaf (.i k n))) f h K
  |false=>A.fail
 | .max,[.leaf (.i k a),.leaf (.i j b)],_=>match dF k j with
  |true=>A.cmp .lss a b λt=>A.sel t b a λn=>oo d (.st (.leaf (.i k n))) f h K
  |false=>A.fail
 |_,_,_=>A.fail
def kQ(X:Ctxt)(d:Tn)(t:TJ)(x i:TG)(k:Env)(h:HT)(K:KN R HT):R:=
 match X.C.P.underlying t with
 |some (.array c e)=>
  let a:=X.C.P.cellsOf e
  match Nat.beq a 0,sval k x,sval k i,Ek i with
  |false,.lad s f,_,some n=>match Nat.blt n c with
   |true=>oo d (.lad s (f+n*a)) k h K
   |false=>A.fail
  |false,.gad g f,_,some n=>match Nat.blt n c with
   |true=>oo d (.gad g (f+n*a)) k h K
   |false=>A.fail
  |false,.ldx s b l,_,some n=>match Nat.blt n c with
   |true=>oo d (.ldx s (b+n*a) l) k h K
   |false=>A.fail
  |false,.gdx g b l,_,some n=>match Nat.blt n c with
   |true=>oo d (.gdx g (b+n*a) l) k h K
   |false=>A.fail
  |false,.lad s f,.st (.leaf (.i _ j)),_=>A.opt (BM c j) λ_=>oo d (.ldx s f [(j,a)]) k h K
  |false,.gad g f,.st (.leaf (.i _ j)),_=>A.opt (BM c j) λ_=>oo d (.gdx g f [(j,a)]) k h K
  |false,.ldx s b l,.st (.leaf (.i _ j)),_=>A.opt (BM c j) λ_=>oo d (.ldx s b (l++[(j,a)])) k h K
  |false,.gdx g b l,.st (.leaf (.i _ j)),_=>A.opt (BM c j) λ_=>oo d (.gdx g b (l++[(j,a)])) k h K
  |false,.st (.leaf (.v p)),.st (.leaf (.i _ j)),_=>A.opt (Ov c a p j) λq=>A.chk q (oo d (.st (.leaf (.v q))) k h K)
  |_,_,_,_=>A.fail
 |some (.slice e)=>
  let a:=X.C.P.cellsOf e
  match Nat.beq a 0,sval k x,sval k i with
  |false,.st (.leaf (.v p)),.st (.leaf (.i _ j))=>A.opt (Ah a p j) λq=>oo d (.st (.leaf (.v q))) k h K
  |_,_,_=>A.fail
 |_=>A.fail
def kO(X:Ctxt)(d:Tn)(t:TJ)(x:TG)(f:Nat)(c:Env)(h:HT)(K:KN R HT):R:=
 match X.C.P.underlying t with
 |some (.struct j)=>match j[f]? with
  |some e=>match Nat.beq (X.C.P.cellsOf e.type) 0,sval c x with
   |false,.lad s b=>oo d (.lad s (b+e.offset)) c h K
   |false,.gad g b=>oo d (.gad g (b+e.offset)) c h K
   |false,.ldx s a i=>oo d (.ldx s (a+e.offset) i) c h K
   |false,.gdx g a i=>oo d (.gdx g (a+e.offset) i) c h K
   |false,.st (.leaf (.v p))=>A.opt (Ag e.offset p) λq=>A.chk q (oo d (.st (.leaf (.v q))) c h K)
   |_,_=>A.fail
  |none=>A.fail
 |_=>A.fail
abbrev _root_.Tc:=FuncId->Option Sig
def Un(X:Ctxt)(Sg:Tc)(o:Oper)(B:TH)(d:Env)(h:HT)(K:KN R HT):R:=
 match o.op with
 | .move x=>match sval d x with
  | .no=>A.fail
  |y=>oo o.dst y d h K
 | .assign x=>match sval d x with
  | .no=>A.fail
  |y=>oo o.dst y d h K
 | .pick c a b=>match sval d c,sval d a,sval d b with
  | .st (.leaf (.l true)),.st y,_=>oo o.dst (.st y) d h K
  | .st (.leaf (.l false)),_,.st y=>oo o.dst (.st y) d h K
  | .st (.leaf (.b t)),.st y,.st z=>A.cond t (oo o.dst (.st y) d h K) (oo o.dst (.st z) d h K)
  |_,_,_=>A.fail
 | .alloc t=>match ww X.C.P t with
  |some x=>O1 A X o.dst t x d h K
  |none=>A.fail
 | .box t x=>match sval d x with
  | .st x=>O1 A X o.dst t x d h K
  |_=>A.fail
 | .build t J=>match ww X.C.P t,mV X.C.P t,svals d (J.toList.map (·.2))with
  |some z,some pl,some D=>match rC pl z.cells ((J.toList.map (·.1)).zip D)with
   |some w=>oo o.dst (.st (.agg w)) d h K
   |none=>A.fail
  |_,_,_=>A.fail
 | .buildSlice t n J=>match X.C.P.underlying t,svals d (J.toList.map (·.2))with
  |some (.slice e),some D=>match X.C.P.info? e with
   |some u=>match Nat.beq u.size 0||Nat.blt 16777216 (n*u.size),(kE u).bind Dh with
    |false,some z=>match rC (λi=>some (i*u.size,u.size)) (List.replicate n z.cells).flatten ((J.toList.map (·.1)).zip D)with
     |some w=>A.new (.cells (w.map SL.val) u.size true) h λm h=>oo o.dst (.st (.leaf (.v (.slice (some ⟨m,0,pu u.size⟩) n (n+1))))) d h K
     |none=>A.fail
    |_,_=>A.fail
   |none=>A.fail
  |_,_=>A.fail
 | .load t a=>match zZ X.C.P t with
  |some G=>match Jy G (ju (mj B))with
   |true=>Kr A X o.dst (mj B) G (if G then X.C.P.cellsOf t else 1) a d h K
   |false=>A.fail
  |none=>A.fail
 | .store t a x=>match sval d x with
  | .st x=>ET A X o.dst t a x d h K
  |_=>A.fail
 | .nilCheck x=>match sval d x with
  | .st (.leaf (.v p))=>A.opt (zN p) λq=>A.chk q (oo o.dst (.st (.leaf (.v q))) d h K)
  | .lad s H=>oo o.dst (.lad s H) d h K
  | .gad s H=>oo o.dst (.gad s H) d h K
  |_=>A.fail
 | .binOp U t x y _=>match sval0 d x,sval0 d y with
  |some a,some b=>R7 A X o.dst U t a b d h K
  |_,_=>A.fail
 | .unOp U _ x=>match U,sval d x with
  | .not,.st (.leaf (.b t))=>oo o.dst (.st (.leaf (.b (!t)))) d h K
  | .not,.st (.leaf (.l t))=>oo o.dst (.st (.leaf (.l (!t)))) d h K
  | .neg,.st (.leaf (.i k n))=>A.ari .sub k 0 n λn=>oo o.dst (.st (.leaf (.i k n))) d h K
  |_,_=>A.fail
 | .convert sT Y x=>match X.C.P.underlying sT,X.C.P.underlying Y,sval d x with
  |some (.int _),some (.int k),.st (.leaf (.i _ n))=>A.conv k n λn=>oo o.dst (.st (.leaf (.i k n))) d h K
  |_,_,_=>A.fail
 | .makeFunc Z first L=>match Z,svals d first.toList,svals d L.toList with
  | .func g,some a,some b=>A.chk (.func (.func g) ⟨au a⟩ ⟨au b⟩) (oo o.dst (.st (.leaf (.v (.func (.func g) ⟨au a⟩ ⟨au b⟩)))) d h K)
  |_,_,_=>A.fail
 | .makeMap t r=>match nZ X.C t (r.map λ_=>.int .i64 0),B8 d r with
  |true,some _=>A.new (.map [] 0) h λn h=>oo o.dst (.st (.leaf (.v (.map (some n))))) d h K
  |_,_=>A.fail
 | .makeSlice t l c=>match X.C.P.underlying t,sval d l,sval d c with
  |some (.slice e),.st (.leaf (.i _ l)),.st (.leaf (.i _ c))=>match X.C.P.info? e with
   |some u=>match Nat.beq u.size 0||Nat.blt 4096 u.bytes,(kE u).bind Dh with
    |false,some z=>A.opt (B7 l c) λ_=>
      A.new (.cells (bk (z.cells.map SL.val) c.toNat) u.size true) h λn h=>oo o.dst (.st (.leaf (.v (.slice (some ⟨n,0,pu u.size⟩) l.toNat (c.toNat+1))))) d h K
    |_,_=>A.fail
   |none=>A.fail
  |_,_,_=>A.fail
 | .slice t x S O T=>match X.C.P.underlying t,sval d x,B8 d S,B8 d O,B8 d T with
  |some (.slice e),.st (.leaf (.v x)),some S,some O,some T=>match Nat.beq (X.C.P.cellsOf e) 0 with
   |true=>A.fail
   |false=>A.opt (CR (X.C.P.cellsOf e) x S O T) λq=>A.chk q (oo o.dst (.st (.leaf (.v q))) d h K)
  |_,_,_,_,_=>A.fail
 | .fieldAddr t x f=>kO A X o.dst t x f d h K
 | .indexAddr t x i=>kQ A X o.dst t x i d h K
 | .field t x f=>match X.C.P.underlying t,sval d x with
  |some (.struct fs),.st (.agg w)=>match fs[f]? with
   |some N=>match (zZ X.C.P N.type).bind (λI=>(Bu w N.offset (if I then X.C.P.cellsOf N.type else 1)).bind (CX I))with
    |some x=>oo o.dst (.st x) d h K
    |none=>A.fail
   |none=>A.fail
  |_,_=>A.fail
 | .index t x i=>match X.C.P.underlying t,sval d x,sval d i with
  |some (.array Q e),.st (.agg w),.st (.leaf (.i _ j))=>match zZ X.C.P e with
   |some I=>match Jy I (ju (mj B))&&tj w (Dj (mj B)) 0 [(j,X.C.P.cellsOf e)]&&Nat.beq (if I then X.C.P.cellsOf e else 1) (Dj (mj B)).length with
    |false=>A.fail
    |true=>A.opt (BM Q j) λ_=>A.opt (iW (w.map SL.lf) 0 [(j,X.C.P.cellsOf e)] (if I then X.C.P.cellsOf e else 1)) λls=>LQ A o.dst (mj B) ls d h K
   |none=>A.fail
  |some .string,.st (.leaf (.v (.string s))),.st (.leaf (.i _ j))=>A.opt (D3 s j) λb=>oo o.dst (.st (.leaf (.i .u8 b))) d h K
  |_,_,_=>A.fail
 | .lookup t m k ok=>match X.C.P.underlying t,sval d m,sval0 d k with
  |some (.map E M),.st (.leaf (.v m)),some k=>match ey X.C.P M with
   |some z=>match B,ok with
    | [F],false=>A.peek (.fn (DL X.C E (ju F) z m k.val false)) h λw=>Il A F w λx r=>A.uc0 r (oo o.dst (.st x) d h K)
    | [F,.leaf .b],true=>A.peek (.fn (DL X.C E (ju F) z m k.val true)) h λw=>Il A F w λx r=>A.ucB r λt r=>A.uc0 r (oo o.dst (.tup [x,.leaf (.b t)]) d h K)
    |_,_=>A.fail
   |none=>A.fail
  |_,_,_=>A.fail
 | .mapUpdate t m k v=>match X.C.P.underlying t,sval d m,sval0 d k,sval0 d v with
  |some (.map E _),.st (.leaf (.v m)),some k,some v=>A.heap (.fn (HF X.C E m k.val v.val)) h λ_ h=>oo o.dst .un d h K
  |_,_,_,_=>A.fail
 | .insert t m k v=>match X.C.P.underlying t,sval d m,sval0 d k,sval0 d v with
  |some (.map E _),.st (.leaf (.v m)),some k,some v=>A.heap (.fn (HF X.C E m k.val v.val)) h λ_ h=>oo o.dst .un d h K
  |_,_,_,_=>A.fail
 | .mapEntry t m k=>match X.C.P.underlying t,sval d m,sval0 d k with
  |some (.map E M),.st (.leaf (.v m)),some k=>match ey X.C.P M with
   |some z=>match B with
    | [F,.leaf (.i .i64)]=>A.heap (.fn (meG X.C E (ju F) z m k.val)) h λw h=>Il A F w λx r=>A.ucI .i64 r λn r=>A.uc0 r (oo o.dst (.tup [x,.leaf (.i .i64 n)]) d h K)
    |_=>A.fail
   |none=>A.fail
  |_,_,_=>A.fail
 | .entryStore _ m s v=>match sval d m,sval d s,sval0 d v with
  | .st (.leaf (.v m)),.st (.leaf (.i _ b)),some v=>A.heap (.fn (esG m b v.val)) h λ_ h=>oo o.dst .un d h K
  |_,_,_=>A.fail
 | .extract t i=>match sval d t with
  | .tup D=>match D[i]? with
   |some x=>oo o.dst (.st x) d h K
   |none=>A.fail
  |_=>A.fail
 | .call c=>match svals d c.args.toList with
  |some D=>match c.callee with
   | .builtin b=>mz A X o.dst (mj B) b D c.argTypes d h K
   | .value f=>match sval d f with
    | .st (.leaf (.v v))=>match f with
     | .func g=>match Sg g with
      |some W=>match cX D W.ps with
       |true=>A.call g (cP D) h λV h=>Ia A o.dst W.rs V d h K
       |false=>A.fail
      |none=>A.fail
     |_=>A.callv v (au D) B h λV h=>Ia A o.dst B V d h K
    |_=>A.fail
   |_=>A.fail
  |none=>A.fail
 |_=>A.fail
def Up(X:Ctxt)(Sg:Tc)(ops:Tl)(o:Oper)(e:TH)(a:Env)(h:HT)(K:KN R HT):R:=
 match o.guard with
 |none=>Un A X Sg o e a h K
 |some (j,c)=>match (ops[j]?).bind (·.dst)with
  |some d=>match a.tm.getD d .no with
   | .st (.leaf (.l b))=>match b==c with
    |true=>Un A X Sg o e a h K
    |false=>oo o.dst .un a h K
   | .un=>oo o.dst .un a h K
   | .st (.leaf (.b t))=>match c with
    |true=>A.cond t (setK (.st (.leaf (.l true))) a.tm d λtm=>Un A X Sg o e ⟨tm,a.lc⟩ h K) (setK (.st (.leaf (.l false))) a.tm d λtm=>oo o.dst .un ⟨tm,a.lc⟩ h K)
    |false=>A.cond t (setK (.st (.leaf (.l true))) a.tm d λtm=>oo o.dst .un ⟨tm,a.lc⟩ h K) (setK (.st (.leaf (.l false))) a.tm d λtm=>Un A X Sg o e ⟨tm,a.lc⟩ h K)
   |_=>A.fail
  |none=>A.fail
abbrev _root_.Tu:=List Oper
def HM(X:Ctxt)(Sg:Tc)(ops:Tl)(l:Tu):List (TH)->Env->HT->KN R HT->R:=
 List.rec (motive:=λ_=>List (TH)->Env->HT->KN R HT->R) (λ_ a h K=>K a h)
  (λo _ c b a h K=>Up A X Sg ops o (b.headD []) a h λa h=>c b.tail a h K) l
end
namespace Sx
def gY(_ _:Oper):Bool:=false
def E2(a:Tx)(o:Oper):Nat:=
 o.after.toList.foldl (λm e=>match Region.binds .any e with
  |true=>Nat.lor (Nat.lor m (Nat.shiftLeft 1 e.on)) (a.getD e.on 0)
  |false=>m) 0
def CC:Tu->Tx->List Nat
 | [],a=>a
 |o :: l,a=>CC l (a++[E2 a o])
def adr:Value->List Nat
 | .pointer (some a)=>match a.spot with
  |none=>[a.block]
  |some _=>[]
 | .slice (some a) _ _=>match a.spot with
  |some 1=>[]
  |_=>[a.block]
 | .map (some id)=>[id]
 |_=>[]
def VE:Value->List Nat
 | .pointer (some a)=>match a.spot with
  |none=>[a.block]
  |some _=>[]
 |_=>[]
def VD:Value->List Nat
 | .map (some id)=>[id]
 |_=>[]
def df(pts:Tx)(o:Oper):List Operand×Nat:=
 match o.op with
 | .load _ a=>match mf pts a with
  |0=>([a],0)
  |_=>([],0)
 | .store _ a _=>match mf pts a with
  |0=>([a],0)
  |_=>([],0)
 | .slice _ x _ _ _=>([x],1)
 | .lookup _ m _ _=>([m],0)
 | .mapUpdate _ m _ _ | .insert _ m _ _ | .mapEntry _ m _ | .entryStore _ m _ _=>([m],0)
 | .call c=>match c.callee with
  | .builtin b=>match b with
   | .append | .copy=>(c.args.toList,0)
   | .delete | .clear=>(c.args.toList.take 1,0)
   | .len=>(c.args.toList,2)
   |_=>([],0)
  |_=>([],0)
 |_=>([],0)
def adrK:Nat->Value->List Nat
 |0,v=>adr v
 |1,v=>VE v
 |_,v=>VD v
def eJ(pts:Tx)(o:Oper):List Operand:=
 match o.op with
 | .store _ a _=>match mf pts a with
  |0=>[a]
  |_=>[]
 | .mapUpdate _ m _ _ | .insert _ m _ _ | .mapEntry _ m _ | .entryStore _ m _ _=>[m]
 | .call c=>match c.callee with
  | .builtin b=>match b with
   | .append | .copy | .delete | .clear=>c.args.toList.take 1
   |_=>[]
  |_=>[]
 |_=>[]
def Bl(pts:Tx)(o:Oper):Nat:=
 match o.op with
 | .load _ a=>match mf pts a with
  |0=>1
  |_=>0
 | .store _ a _=>match mf pts a with
  |0=>2
  |_=>0
 | .alloc _ | .box _ _=>match dq pts o with
  |true=>2
  |false=>0
 | .buildSlice _ _ _ | .makeMap _ _ | .makeSlice _ _ _ | .mapUpdate _ _ _ _ | .mapEntry _ _ _ | .entryStore _ _ _ _ | .insert _ _ _ _=>2
 | .lookup _ _ _ _ | .slice _ _ _ _ _=>1
 | .call c=>match c.callee with
  | .builtin b=>match b with
   | .append | .copy | .delete | .clear=>2
   | .len=>1
   |_=>0
  |_=>0
 |_=>0
def Ji(pts:Tx)(a b:Oper):Bool:=Nat.ble 3 (Bl pts a+Bl pts b) && !gY a b
def tG(pts:Tx)(b:Oper)(m i:Nat):Tu->Nat->List (Nat×Nat)
 | [],_=>[]
 |a :: l,k=>match Nat.testBit m k || !Ji pts a b with
  |true=>tG pts b m i l (k+1)
  |false=>(k,i) :: tG pts b m i l (k+1)
def wI(pts:Tx)(ms:Tx):Tu->Tu->Nat->List (Nat×Nat)
 |_,[],_=>[]
 |pre,b :: l,i=>tG pts b (ms.getD i 0) i pre 0++wI pts ms (pre++[b]) l (i+1)
def wJ(pts:Tx)(ops:Tl):List (Nat×Nat):=wI pts (CC ops.toList []) [] ops.toList 0
def memN(x:Nat):Tx->Bool
 | []=>false
 |y :: l=>match Nat.beq x y with
  |true=>true
  |false=>memN x l
def disjN:Tx->Tx->Bool
 | [],_=>true
 |x :: l,m=>match memN x m with
  |true=>false
  |false=>disjN l m
def sepL:List (Value×Nat×Value)->Option Unit
 | []=>some ()
 |p :: l=>match disjN (adr p.1) (adrK p.2.1 p.2.2)with
  |true=>sepL l
  |false=>none
def Yb:SV->Option (Tk)
 | .st (.leaf (.v x))=>some [x]
 | .no=>none
 |_=>some []
def ru(c:Env):List Operand->Option (Tk)
 | []=>some []
 |x :: l=>match Yb (sval c x),ru c l with
  |some a,some b=>some (a++b)
  |_,_=>none
def MA(pts:Tx)(o:Oper):List Operand:=eJ pts o++match Bl pts o,o.dst with
 |2,some d=>[.tmp d]
 |_,_=>[]
def DB(a:Tk)(k:Nat)(vs:Tk):List (Value×Nat×Value):=a.flatMap λu=>vs.map λv=>(u,k,v)
def EO(pts:Tx)(c:Env)(a b:Oper):Option (List (Value×Nat×Value)):=
 match ru c (MA pts a),ru c (MA pts b),ru c (df pts a).1,ru c (df pts b).1 with
 |some d,some e,some f,some g=>some (DB d (df pts b).2 g++DB d 0 e++DB e (df pts a).2 f)
 |_,_,_,_=>none
def sJ(pts:Tx)(ops:Tl)(c:Env):List (Nat×Nat)->Option (List (Value×Nat×Value))
 | []=>some []
 |p :: l=>match ops[p.1]?,ops[p.2]?,sJ pts ops c l with
  |some a,some b,some r=>(EO pts c a b).map λx=>x++r
  |_,_,_=>none
def sepK{R a:Type}(A:Alg R a)(pts:Tx)(ops:Tl)(ps:List (Nat×Nat))(c:KN R a):KN R a:=
 match ps with
 | []=>c
 |ps=>λb h=>match sJ pts ops b ps with
  |some l=>A.opt (sepL l) λ_=>c b h
  |none=>A.fail
def splOf:List (Nat×Nat)->Option (Nat×Nat)
 | []=>none
 |p :: l=>match l with
  | []=>match Nat.ble 1000 p.1 with
   |true=>some (p.1 - 1000,p.2)
   |false=>none
  |_=>none
def NQ(x y:Value):Option Unit:=match x with
 | .func (.yield l) a b=>match y with
  | .func (.yield m) c d=>match Nat.beq l m,a.toList,b.toList,c.toList,d.toList with
   |true,[],[],[],[]=>some ()
   |_,_,_,_,_=>none
  |_=>none
 |_=>none
def NM:SV->Option Value
 | .st (.leaf (.v x))=>some x
 |_=>none
def reK{R a:Type}(A:Alg R a)(X:Ctxt)(Sg:Tc)(ops:Tl)(k:Nat)(e:TH)(b:Env)(h:a)(f:KN R a):R:=
 match ops[k]? with
 |some o=>match o.dst with
  |some d=>Up A X Sg ops o e b h λc _=>match NM (b.tm.getD d .no),NM (c.tm.getD d .no)with
   |some x,some y=>A.opt (NQ x y) λ_=>f b h
   |_,_=>A.fail
  |none=>A.fail
 |none=>A.fail
def manyOf(l:List (Nat×Nat)):Option (List (Nat×Nat)):=match l with
 | []=>none
 |p :: l=>match Nat.ble 5000 p.1 with
  |true=>some l
  |false=>none
def eqNt:Int->Int->Bool
 | .ofNat a,.ofNat b=>Nat.beq a b
 | .negSucc a,.negSucc b=>Nat.beq a b
 |_,_=>false
def SC:To->To->Bool
 |none,none=>true
 |some a,some b=>Nat.beq a b
 |_,_=>false
def Er:Option Addr->Option Addr->Bool
 |none,none=>true
 |some a,some b=>match Nat.beq a.block b.block,Nat.beq a.off b.off with
  |true,true=>SC a.spot b.spot
  |_,_=>false
 |_,_=>false
def eqVl(x y:Value):Option Unit:=match x with
 | .pointer a=>match y with
  | .pointer b=>match Er a b with
   |true=>some ()
   |false=>none
  |_=>none
 | .slice a n c=>match y with
  | .slice b m d=>match Er a b,Nat.beq n m,Nat.beq c d with
   |true,true,true=>some ()
   |_,_,_=>none
  |_=>none
 | .map a=>match y with
  | .map b=>match SC a b with
   |true=>some ()
   |false=>none
  |_=>none
 |_=>NQ x y
def eqIn(x y:Int):Option Unit:=match eqNt x y with
 |true=>some ()
 |false=>none
def Yc(x y:Bool):Option Unit:=match x,y with
 |true,true=>some ()
 |false,false=>some ()
 |_,_=>none
def LO{R c:Type}(A:Alg R c)(x y:SL)(K:R):R:=match x with
 | .i k n=>match y with
  | .i d m=>match dF k d with
   |true=>A.opt (eqIn n m) λ_=>K
   |false=>A.fail
  |_=>A.fail
 | .b t=>match y with
  | .b u=>A.opt (Yc t u) λ_=>K
  |_=>A.fail
 | .v a=>match y with
  | .v b=>A.opt (eqVl a b) λ_=>K
  |_=>A.fail
 | .l _=>A.fail
def Gh{R a:Type}(A:Alg R a):List SL->List SL->R->R
 | [],[],K=>K
 |x :: l,y :: m,K=>LO A x y (Gh A l m K)
 |_,_,_=>A.fail
def samS{R c:Type}(A:Alg R c)(x y:SV)(K:R):R:=match x with
 | .st (.leaf a)=>match y with
  | .st (.leaf b)=>LO A a b K
  |_=>A.fail
 | .st (.agg a)=>match y with
  | .st (.agg b)=>Gh A a b K
  |_=>A.fail
 |_=>A.fail
def opsM{R a:Type}(A:Alg R a)(X:Ctxt)(Sg:Tc)(ops:Tl)(l:Tu):List (TH)->Env->a->(Env->a->List a->R)->R:=
 List.rec (motive:=λ_=>List (TH)->Env->a->(Env->a->List a->R)->R) (λ_ b h K=>K b h [])
  (λo _ g d b h K=>Up A X Sg ops o (d.headD []) b h λb h=>g d.tail b h λc e f=>K c e (h :: f)) l
def atM{α:Type}(h0:α)(a:List α)(p:Nat×Nat):α:=(h0 :: a).getD (match Nat.ble p.1 p.2 with
 |true=>p.2+1
 |false=>p.2) h0
def reM{R a:Type}(A:Alg R a)(X:Ctxt)(Sg:Tc)(ops:Tl)(f:List (TH))(b:Env)(h0:a)(e:List a)(K:R):List (Nat×Nat)->R
 | []=>K
 |p :: l=>match ops[p.1]? with
  |some o=>match o.dst with
   |some d=>Up A X Sg ops o (f.getD p.1 []) b (atM h0 e p) λc _=>samS A (b.tm.getD d .no) (c.tm.getD d .no) (reM A X Sg ops f b h0 e K l)
   |none=>A.fail
  |none=>A.fail
def regE{R d:Type}(A:Alg R d)(X:Ctxt)(Sg:Tc)(ops:Tl)(b:List (TH))(f:List (Nat×Nat))(a:Env)(h:d)(e:KN R d):R:=
 match manyOf f with
 |some l=>opsM A X Sg ops ops.toList b a h λc g i=>reM A X Sg ops b c h i (e c g) l
 |none=>match splOf f with
  |none=>HM A X Sg ops ops.toList b a h (sepK A X.pts ops f e)
  |some p=>HM A X Sg ops (ops.toList.take (p.2+1)) b a h λa h=>reK A X Sg ops p.1 (b.getD p.1 []) a h λa h=>
   HM A X Sg ops (ops.toList.drop (p.2+1)) (b.drop (p.2+1)) a h e
end Sx
abbrev Dr:=List Nat->Tl->Option (List (Nat×Nat))
section
variable {R HT:Type} (A:Alg R HT)
def tL(e:Exit)(id:Nat):Bool:=match e with
 | .exit i=>Nat.beq i id
 |_=>false
def drX(b:Dr)(a:Bool)(pts:Tx)(ops:Tl):Option (List (Nat×Nat)):=match a with
 |true=>b pts ops
 |false=>some []
def exec(X:Ctxt)(Sg:Tc)(s:Dr)(c:AC):Env->HT->KN R HT->(Exit->KN R HT)->R:=
 AC.rec (motive:=λ_=>Env->HT->KN R HT->(Exit->KN R HT)->R)
  (λd h f _=>f d h)
  (λd h _ g=>g .ret d h)
  (λid d h _ g=>g (.exit id) d h)
  (λ_ d h f _=>f d h)
  (λ_ _ i k d h f g=>i d h (λd h=>k d h f g) g)
  (λ_ o d h f g=>o d h f g)
  (λid n m u j d h f _=>match drX s m X.pts n with
   |none=>A.fail
   |some v=>ue A X.pts (.region id n m) j d f λf=>Sx.regE A X Sg n u v d h f)
  (λc a b j i k d h f g=>match sval d c with
   | .st (.leaf (.l true))=>i d h f g
   | .st (.leaf (.l false))=>k d h f g
   | .st (.leaf (.b t))=>ue A X.pts (.cond c (a.erase λκ t=>iO (X.T κ) t) (b.erase λκ t=>iO (X.T κ) t)) j d f λf=>A.cond t (i d h f g) (k d h f g)
   |_=>A.fail)
  (λid b j o d h f g=>ue A X.pts (b.erase λκ t=>iO (X.T κ) t) j d f λf=>o d h f λe=>match tL e id with
   |true=>f
   |false=>g e)
  (λb lv o d h _ g=>match pk d lv with
   |none=>A.fail
   |some q=>match lv.rows.all λp=>!(aO X.pts (b.erase λκ t=>iO (X.T κ) t)).contains p.1 with
    |false=>A.fail
    |true=>A.loop (λr q h=>reE A X.pts (b.erase λκ t=>iO (X.T κ) t) .nil lv d q λd=>o d h (λd h=>match pk d lv with
     |some q=>r q h
     |none=>A.fail) g) q h)
  (λ_ _ _ _ _ _ _=>A.fail) c
def Eh(cs:List SL)(K:R):R:=
 List.rec K (λc _ a=>match c with
  | .v x=>A.opt (Bt x) λ_=>a
  |_=>a) cs
def gC(a:Bool)(x:S0)(K:R):R:=
 match a,x with
 |true,.agg b=>Eh A b K
 |_,_=>K
def C4(X:Ctxt)(c:Bool)(j:Env)(h:HT)(l:List ResultVar):TH->TB->(TB->HT->R)->R:=
 List.rec (motive:=λ_=>TH->TB->(TB->HT->R)->R) (λb d K=>match b with
   | []=>K d h
   |_=>A.fail)
  (λm _ i b d K=>match b with
   | []=>A.fail
   |g :: b=>match m with
    | .tmp t=>match j.tm.getD t .no with
     | .st x=>match x.is g with
      |true=>gC A c x (i b (d++x.cells.map SL.lf) K)
      |false=>A.fail
     |_=>A.fail
    | .cell a t=>match zZ X.C.P t with
     |some e=>
      let n:=if e then X.C.P.cellsOf t else 1
      match j.tm.getD a .no with
      | .lad s k=>match (sG j s).bind (λf=>(Bu f k n).bind (CX e))with
       |some x=>match x.is g with
        |true=>gC A c x (i b (d++x.cells.map SL.lf) K)
        |false=>A.fail
       |none=>A.fail
      | .st (.leaf (.v p))=>match e,g with
       |true,.agg _=>A.peek (.ld n p) h λf=>Il A g f λx r=>A.uc0 r (gC A c x (i b (d++x.cells.map SL.lf) K))
       |false,.leaf _=>A.peek (.ld n p) h λf=>Il A g f λx r=>A.uc0 r (gC A c x (i b (d++x.cells.map SL.lf) K))
       |_,_=>A.fail
      |_=>A.fail
     |none=>A.fail) l
structure Fn1 where
 sg:Sig
 nt:Nat
 rvs:List ResultVar
 code:AC
def ak(X:Ctxt)(Sg:Tc)(d:Dr)(a:Fn1)(ls:TB)(h:HT)(K:TB->HT->R):R:=
 EW A a.sg.ps ls λc r=>A.un0 r (
  exec A X Sg d a.code ⟨c.map .st++List.replicate (a.nt - c.length) .no,List.replicate a.nt .nil⟩ h
   (λb h=>C4 A X (Nat.blt 1 a.rvs.length) b h a.rvs a.sg.rs [] K)
   λe b h=>match e with
    | .ret=>C4 A X (Nat.blt 1 a.rvs.length) b h a.rvs a.sg.rs [] K
    |_=>A.fail)
end
inductive An where
 |r (hs:List (TH)) (j:Option Live)
 |c (j:Option Live)
 |b (j:Option Live)
 |l (lv:Live)
 |f (κ:Nat) (ids:Tx)
abbrev lv:SK:=.leaf .v
abbrev lb:SK:=.leaf .b
abbrev li:SK:=.leaf (.i .i64)
def tk:Code->List An->AC×List An
 | .skip,l=>(.skip,l)
 | .ret,l=>(.ret,l)
 | .exit id,l=>(.exit id,l)
 | .label n,l=>(.label n,l)
 | .seq a b,l=>
  let x:=tk a l
  let y:=tk b x.2
  (.seq x.1 y.1,y.2)
 | .scope b,l=>
  let x:=tk b l
  (.scope x.1,x.2)
 | .region id g d,.r h j :: l=>(.region id g d h j,l)
 | .cond c a b,.c j :: l=>
  let x:=tk a l
  let y:=tk b x.2
  (.cond c x.1 y.1 j,y.2)
 | .block id b,.b j :: l=>
  let x:=tk b l
  (.block id x.1 j,x.2)
 | .loop b,.l lv :: l=>
  let x:=tk b l
  (.loop x.1 lv,x.2)
 | .rangeFunc f _ _ _,.f κ e :: l=>(.rangeFunc f κ e,l)
 |_,l=>(.exit 1000000,l)
def Sp(P:TD)(f:TK):Code:=((P.funcs[f]?).bind (·.body)).getD .skip
def fn1(P:TD)(f:TK)(sg:Sig)(b:List An):Fn1:=
 match P.funcs[f]? with
 |some a=>⟨sg,a.ntmps,a.results.toList,(tk (Sp P f) b).1⟩
 |none=>⟨sg,0,[],.skip⟩
abbrev g00:SK:=.agg [.i .i64,.i .i64,.i .u8]
abbrev g01:SK:=.agg [.i .u8,.i .i64,.i .i64]
abbrev g02:SK:=.leaf (.i .u8)
abbrev g03:SK:=.agg [.i .i64,.i .i64]
abbrev g04:SK:=.agg [.i .i64,.i .i64,.v]
abbrev g05:SK:=.agg [.i .i64,.i .u8]
abbrev g06:SK:=.agg [.i .u8,.i .i64]
abbrev g07:SK:=.agg [.i .i64,.i .i64,.v,.i .u8,.i .i64,.i .i64,.v]
abbrev g08:SK:=.agg [.i .i64,.i .u8,.i .u8]
abbrev g09:SK:=.agg [.i .i64,.i .i64,.i .u8,.i .i64,.i .i64,.i .u8]
abbrev B4:SK:=.agg [.i .i64,.i .i64,.i .i64,.i .i64]
abbrev CU:SK:=.agg [.i .i64,.i .i64,.i .u8,.i .i64,.i .i64,.i .u8,.v,.v,.v]
abbrev CV:SK:=.agg [.i .i64,.i .i64,.i .u8,.v]
abbrev J4:SK:=.leaf (.i .u64)
abbrev J5:SK:=.agg [.i .u8,.i .u8,.v,.v]
abbrev YS:SK:=.agg [.i .i64,.i .i64,.i .u8,.i .i64,.i .i64,.i .i64,.i .u8,.i .i64,.i .i64,.i .u8,.i .i64,.i .i64,.i .u8,.i .i64,.i .i64,.i .i64,.i .i64]
abbrev jn:An:=.r [] none
abbrev ra:An:=.c none
abbrev ts:An:=.b none
abbrev rN(x:List (TH)):An:=.r x none
open Go.Proofs
def SO:Tk:=[.int .i64 1,.int .i64 0,.int .i64 0,.int .i64 1,.int .i64 0,.int .i64 (-1),.int .i64 1,.int .i64 0,.int .i64 (-1),.int .i64 0,.int .i64 0,.int .i64 (-1),.int .i64 0,.int .i64 1,.int .i64 (-1),.int .i64 0,.int .i64 (-1),.int .i64 0,.int .i64 0,.int .i64 1,.int .i64 0,.int .i64 (-1),.int .i64 (-1),.int .i64 0,.int .i64 1,.int .i64 0,.int .i64 0,.int .i64 (-1),.int .i64 0,.int .i64 1,.int .i64 1,.int .i64 0]
def SN:Tk:=[.int .i64 0,.int .i64 (-1),.int .u8 2,.int .i64 0,.int .i64 0,.int .i64 (-1),.int .u8 2,.int .i64 0,.int .i64 0,.int .u8 1,.int .i64 0,.int .i64 0,.int .u8 3,.int .i64 0,.int .i64 0,.int .i64 2,.int .i64 0,.int .i64 1,.int .i64 0,.int .u8 1,.int .i64 1,.int .i64 1,.int .i64 0,.int .u8 3,.int .i64 0,.int .i64 0,.int .u8 0,.int .i64 0,.int .i64 0,.int .u8 2,.int .i64 2,.int .i64 2,.int .i64 2,.int .i64 0,.int .i64 0,.int .i64 1,.int .u8 2,.int .i64 1,.int .i64 0,.int .i64 1,.int .u8 0,.int .i64 0,.int .i64 0,.int .u8 3,.int .i64 0,.int .i64 0,.int .u8 1,.int .i64 2,.int .i64 2,.int .i64 0,.int .i64 2,.int .i64 (-1),.int .i64 0,.int .u8 1,.int .i64 0,.int .i64 (-1),.int .i64 0,.int .u8 1,.int .i64 0,.int .i64 0,.int .u8 2,.int .i64 0,.int .i64 0,.int .u8 0,.int .i64 0,.int .i64 0,.int .i64 0,.int .i64 2]
def ptsTab:List (Tx):=[
 [],
 [],
 [0],
 [0,3,0,5,0,0,0,0,0,0,0,0,0,0,0,0,5,0,5,0,5,0,0,0,0,0,5,0,5,0,0,0,0,5,0,0,0,0,0,0,0,0,0,0,0,0,0,0,0,0,0,5,0,0,0,5,0,0,0,0,0,0,0,0,0,0,0,0,5,0,0,0,5],
 [0,3,0,5,0,0,0,0,0,0,0,0,0,0,5,0,5,0,5,0,0,0,0,0,0,0,5,0,5,0,0,0,0,5,0,0,0,0,0,0,0,0,5,0,0,0,5,0,0,0,0,0,0,0,0,0,0,0,0,5,0,0,0,5,0,0,0,0,0,0,0,0,0,0,0,0,0,0,0,0,0,0,5],
 [0,0,0,5,6,7,0,9,0,0,0,0,0,15,0,0,0,0,6,0,0,0,7,0,0,0,7,0,0,0,0,7,0,0,0,0,7,0,0,0,0,0,9,0,9,0,0,6,0,0,0,0,0,6,0,0,0,0,0,0,0,0,0,0,0,0,0,0,0,0,0,0,0,0,0,0,0,0,0,0,0,0,0,0,0,0,0,0,0,0,0,0,0,9,0,9,0,0,0,0,9,0,9,0,0,0,0,0,0,9,0,9,0,0,0,0,0,0,0,0,0,0,0,0,0,0,0,0,0,0,0,9,0,0,0,0,0,0,0,0,9,0,9],
 [0,3,4,5,0,0,0,0,0,0,3,0,0,0,0,3,0,0,0,0,0,0,3,0,0,0,0,0,0,0,0,0,0,0,0,0,0,0,0,3,0,0,0,0,0,0,0,0,0,0,0,3,0,0,0,0,0,0,3,0,0,0,0,0,0,0,0,0,0,3,0,0,0,0,0,0,0,0,0,5,0,3,0,0,0,0,0,0,5,0,0,0,0,0,0,3,0,0,0,0,0,0,0,0,0,3],
 [0,0,0,5,6,0,0,0,0,0,0,13,0,0,0,0,0,0,20,0,0,0,0,0,0,0,0,5,0,0,0,0,0,0,0,0,0,0,0,0,0,0,0,0,0,0,0,0,0,0,0,0,0,0,0,0,0,0,13],
 [0,0,4,5,0,0,0,0,0,0,0,0,0,0,16,4,4,0,0,4,4,0,0,0,0,0,0,0,0,0,0,0,0,0,0,0,0,0,0,0,0,0,0,0,0,0,0,0,0,0,0,0,4,0,0,0,0,0,0,0,0,0,0,0,0,0,0,0,0,0,0,4,0,0,0,4],
 [0,3,0,0,0,7,0,0,0,3,3,0,0,3,3,0,0,0,0,3,0,0,0,0,0,3,0,0,0,0,0,0,0,0,3,0,7,0,0,0,0,0,0,3,0,7,0,0,0,7,0,0,0,0,0,7,0,0,0,0,7,0,0,0,0,0,0,3,0,0,0,0,7,0,0,0,0,0,0,0,7],
 [0,0,0,0,0,0,8,0,0,0,12,13,0,0,0,0,0,0,0,0,0,0,0,0,0,0,0,0,0,0,0,0,0,0,0,0,0,0,0,0,8,0,0,0,0,0,0,0,0,8],
 [0,0,0,0,6,7,0,0,0,0,0,0,0,15,0,0,0,0,0,0,0,0,0,0,0,0,0,0,15,0,0,0,0,0,0,0,0,0,0,0,0,0,0,0,0,0,6,0,0,0,0,0,6,0,0,0,0,0,0,0,0,0,0,0,0,0,0,0,0,0,0,0,0,0,0,0,0,0,0,6,0,0,0,0,6,0,0,0,0,0,0,0,0,0,0,0,0,0,0,0,0,0,0,0,0,0,0,0,0,0,0,0,0,0,7,0,6,0,6,0,0,0,0,0,0,0,0,0,0,0,7,0,6,0,6,0,0,0,0,0,0,0,0,0,0,0,0,0,0,6,0,0,0,0,6,0,0,0,0,0,0,0,0,0,0,0,0,0,0,0,0,0,0,0,0,0,0,0,0,6,0,0,0,0,0,6,0,0,0,0,0,0,6,0,0,0,0,0,0,0,6,0,0,0,0,0,6,0,0,0,0,0,6],
 [0,0,4,5,0,4,0,5,0,0,0,4,0,5,0,0,0,4,0,5,0,0,0,4,0,5,0,0,0,4,0,5],
 [0,3,4,5,6,7,8,0,10,0,12,13,14,15,0,0,0,0,0,0,3,0,3,0,3,0,0,0,0,0,0,0,3,0,3,0,3,0,0,0,0,0,0,0,0,0,0,0,0,0,8,0,0,0,0,0,8,0,0,0,0,0,0,0,8,0,0,8,0,0,0,0,0,0,10,0,0,0,0,0,10,0,0,0,0,0,0,10,0,0,0,0,0,0,0,0,0,12,0,12,0,12,0,0,0,0,0,0,0,12,0,12,0,12,0,0,0,0,0,0,0,0,0,0,0,0,0,13,0,0,0,0,0,13,0,0,0,0,0,0,0,14,0,0,0,0,0,14,0,0,0,0,0,0,14],
 [0,0,0,0,0,7,0,0,0,0,0,0,0,0,0,0,0,0,0,0,0,0,7],
 [0,0,4,0,0,7,0,0,10,0,0,0,0,0,16,0,0,0,20,0,0,4,0,4,0,0,0,0,0,0,0,0,0,0,0,0,0,0,0,0,0,0,0,0,0,0,0,4,0,0,0,0,0,7,0,0,0,0,0,0,0,0,0,0,0,0,0,0,16,0,0,0,0,16,0,0,0,0,0,0,0,0,0,0,0,0,16,0,20,0,0,0,20,0,16,0,0,0,0,16,0,20,0,0,0,0,20,0,16,0,0,0,16,0,20,0,0,0,0,20,0,16,0,0,0,0,0,0,0,7,0,0,0,0,0,0,0,0,0,7,0,0,0,0,7,0,0,0,0,0,7,0,0,0,0,7],
 [0,0,0,5,6,0,0,0,0,0,0,0,0,15,0,17,0,0,0,0,0,0,0,0,0,0,0,5,0,0,0,0,0,0,0,0,0,0,0,0,0,0,0,0,0,0,0,0,0,0,0,0,0,0,15],
 [0,0,0,0,0,7,8,0,10,11,12,0,0,0,0,0,0,19,0,0,0,0,0,0,0,0,0,0,0,0,0,0,0,0,0,0,0,0,0,0,0,0,0,0,0,0,0,0,0,0,19,0,0,0,0,19],
 [0,3,0,3,0,0,0,0,3,0,0,0,0,3,0,0,0,0,3,0,3],
 [],
 [0,0,0,0,6,7,0,0,0,0,0,0,0,0,0,0,0,0,0,0,7,0,7,7,0,0,0,0,0,0,0,0,7],
 [0,3,0,0,0,0,8,0,0,0,0,0,0,0,0,0,0,0,0,0,0,0,0,0,0,0,0,0,0,0,0,8,0,0,0,0,0,0,0,0,8,0,0,0,0,0,0,0,0,8],
 [0,0,4,5,6,7,8,0,0,0,12,0,0,0,0,0,0,0,0,0,0,5,0,0,4,4,0,0,4,4,0,0,0,4,0,0,0,4,0,0,0,0,0,4,0,0,0,0,5,0,12,0,0,5,0,0,0,12,0,0,12,0,0,0,0,0,12,0,0,0,0,0,0,0,0,12,0,0,0,0,0,0,12,0,0,0,0,0,4,0,0,0,8,0,0,12,0,0,0,0,0,0,0,0,0,0,0,0,0,0,0,0,0,0,0,0,0,0,0,0,0,0,0,0,0,0,0,0,0,5,0,0,0,0,0,0,0,0,0,0,0,0,0,0,0,0,0,0,0,0,0,0,0,0,0,0,0,0,0,0,0,0,0,0,0,0,0,0,0,0,0,0,0,0,8,0,4,0,4,0,0,0,0,0,0,0,0,0,0,0,0,0,0,0,0,0,5,0,0,0,0,0,0,0,0,0,0,0,0,5,0,0,8,8,0,0,0,0,0,0,4,4,0,0,0,0,0,0,0,0,0,0,0,0,0,0,0,0,8,8,8,8,0,0,8,8],
 [0,3,0,0,0,0,3,0,0,3],
 [0,0,4,5],
 [0,0,4,5],
 [0,0,0,0,0,0,8,0,10,0,12],
 [0],
 [0,0,4,5,0,4,0,5,0,0,4,0,5],
 [0],
 [0,0,4,5,0,4,0,5,0,0,4,0,5,0,0,4,0,0,5],
 [0,0,0,0,6],
 [0,0,0,5,0,0,0,9,0,0,0,0,0,9,0,0,0,9,0,0,0,0,9,0,5,0,0,0,0,9,0,5,0,0,0,9,0,5,0,0,9,0,0,0,9],
 [0,0,4,5,6,7,8,9,0,11,0,0,0,0,0,0,0,0,0,0,0,0,0,0,0,0,0,0,0,0,7,0,0,7],
 [0,0,4,5,6,4,0,5,0,0,4,0,5,0,0,0,0,4,0,5,0,0,4,0,5,0,0,0,0,4,0,5,0,0,0,0,4,0,5,0,0,0,0,4,0,4,0,0,0,4,0,4,0,0,0,0,4,0,4,0,0,4,0,4],
 [0,0,4,0,6,0,0,4,0,0,0,0,4],
 [0,0,0,5],
 [0,0,0,5],
 [0,0,4,5,6],
 [0,0,4,0,6,0,0,4,0,0,0,4,0,4,0,0,0,0,0,4,0,0,4,0,0,0,0,4,0,4,0,0,0,4,0,0,4,0,0,0,0,4,0,4,0,4,0,0,0,0,4,0,4,0,4],
 [0],
 [],
 [],
 [0,0,0,5,0,0,8,0,0,0,0,0,0,8,0,0,0,8],
 [0,0,0,5,0,0,0,0,0,0,0,13,0,15,0,0,0,5,0,0,0,0,0,0,0,0,13,0,13,0,0,0,0,0,0,0,0,5,0,0,0,0,0,0,15,0,0,0,0,15,0,0,0,15],
 [0],
 [0,3,0,3],
 [0],
 [0,0,0,5,0,0,0,0,10,0,0,0,0,15,0,0,0,0,0,0,0,0,0,0,0,0,0,0,0,0,10,0,0,0,10,0,0,0,0,0,0,0,0,0,0,0,0,0,10,0,0,0,0,0,0,10,0,0,0,0,0,0,0,0,0,0,0,0,0,0,0,0,15],
 [0],
 [0],
 [0,0,4,0,6,0,8,0,0,0,0,0,0,0,0,4,0,0,1,1,1,0,8,0,4,0,0,8,0,4,0,0,8,8],
 [0,0,4,5,0,0,0,9],
 [0],
 [],
 [],
 [0,3,0,0,0,0,0,0,0,0,12,13,0,3,0,3,0,0,0,0,3,0,0,0,0,0,0,0,0,0,0,0,0,3,3,0,0,0,0,0,0,0,0,0,0,0,0,0,0,0,0,0,0,0,0,0,3,3,0,0,0,0,0,0,0,0,3,3],
 [0,3,4,3,0,0,0,3,0,0,0,0,0,3,0,0,0,0,0,3,0,3,0,0,3,0,0,3],
 [0,0,4,5,0,7,0,0,0,7,0,7,0,7,0,7,0,0,7,0,7,0,0,0,4,0,0,0,0,4],
 [0],
 [0,0,0,5],
 [0],
 [0,3,0,3,0,0,0,3,0,0,0,0,3,0,0,0,0,3,0,0,0,0,3,0,3],
 [0,0,4,5,0,0,0,0,0,0,0,0,14,15,0,0,0,0,0,0,0,0,0,0,0,0,0,0,0,0,0,0,0,0,0,0,0,0,0,0,0,0,4],
 [0,0,4,0,6],
 [0,0,4,5,6,0,8],
 [0,0,0,0,6,7,0,9],
 [0,0,0,5,0,0,0,0,10,0,12],
 [0,0,0,5,0,0,0,0,10,0,0,0,0,0,0,0,0,0,0,0,0,0,0,0,0,0,0,0,5],
 [0],
 [0],
 [0,0,0,0,6,0,0,0,0,0,0,0,6,0,6],
 [0],
 [0,0,0,5,6,0,0,0,0,0,5,0,0,0,0,0,0,0,6],
 [0],
 [0,0,0,5,6,0,5,0,6,0,0,0,0,0,0,5,0,0,0,0,0,0,0,6],
 [0],
 [0],
 [0],
 [0],
 [0],
 [0],
 [0],
 [0],
 [0,0,4,5,6,0,0,0,5,0,5,0,4,0,0,0,0,0,4,0,0,0,0,0,0,0,0,0,0,4,0,0,0,0,4],
 [0],
 [0],
 [0,3,4,5,0,0,3,0,0,3,0,0,0,3,0,5,0,0,0,3,0,5,0,0,0,5,0,0,0,0,0,0,0,0,0,0,5,0,0,0,0,5,0,0,0,0,0,5],
 [0,3,4,5,0,0,5,5,0,5,5,0,0,5,5,0,0,0,5,5,0,5,5,0,0,5,5],
 [0],
 [0],
 [0],
 [0],
 [0],
 [0,3,0,3,0,0,0,3,0,0,0,0,3,0,0,0,0,3,0,0,0,0,3],
 [0],
 [],
 [0,0,4,5,6,7,0,0,0,7,0,0,0,7,0,0,0,0,0,7,0,0,0,0,0,7,0,0,7],
 [0,0,4,5,0,4,0,5,0,0,0,4,0,5,0,0,0,4,0,5,0,0,0,4,0,5,0,0,0,4,0,5],
 [0,3,0,0,0,7,8,0,0,3,0,0,0,0,0,3,0,0,3,0,0,0,0,0,0,0,3,0,7,0,7,0,0,0,0,0,0,0,0,0,0,0,0,0,0,3,0,0,0,0,0,3,0,0,0,0,0,0,3],
 [0,0,0,0,0,0,0,0,0,0,0,0,0,15],
 [0,0,4,5,6,0,0,0,0,0,0,0,0,0,0,0,0,0,5,0,1,0,4,0,4,0,0,0,0,4,0,1,0,5,0,1,0,0,0,0,5,0,0,0,5],
 [0,0,4,0,0,0,0,0,0,4,0,0,4],
 [0,0,4,0,6,0,0,4,0,0,0,0,4],
 [0,0,4,5,6,7,8,9,0,11,0,0,5,0,1,1,0,0,0,0,0,0,0,4,4,0,0,0,0,0,0,7,0,7,0,0,0,0,7,0,7,0,0,0,0,0,0,0,0,0,0,11,0,0,0,0,0,9],
 [0,0,4,5,0,0,0,0,0,0,0,0,0,0,0,0,5,0,0,0,0,5,0,4,0,0,0,0,5,0,0,0,0,5,0,4,0,0,0,5,0,4,0,0,5,0,0,0,5],
 [0,0,0,5,0,0,8,0,0,0,0,13,0,0,0,0,0,0,0,0,0,0,5,0,0,0,0,0,0,0,0,0,0,0,5],
 [0],
 [0],
 [0],
 [0],
 [0],
 [0],
 [0],
 [0],
 [],
 [0],
 [0],
 [0],
 [0],
 [0],
 [0,3,4,0,0,7,3,0,0,3,0,0,0,0,0,0,0,3],
 [0],
 [0,3,0,3],
 [0],
 [0,0,0,5,0,0,8],
 [0,3,4,3,0,3],
 [0,0,4,5,0,4,0,5,0,0,4,0,5,0,0,4,0,0,5],
 [0,3,0,0,0,7,3,0,0,0,3,0,0,0,0,0,0,0,7,0,7],
 [0,0,0,0,0,0,0,9,10,0,12,0,14,0,16],
 [0,0,4,5,6,0,8,0,0,0,0,0,0,0,0,0,0,0,0,5],
 [0,3,4,0,0,0,0,0,3,0,0,0,3,0,0,0,0,0,3,0,0,0,0,0,3,0,3,0,0,3,0,0,3],
 [0,0,0,5,0,0,0,0,5,0,0,0,5,0,0,0,0,5,0,0,0,5],
 [0,3,4],
 [0,3,0,0,6],
 [0,0,4,5,6,0,0,0,0,0,0,4,0,4,0,0,0,0,0,0,4,0,4],
 [0,3,4,3,0,0,0,3],
 [0,0,4,5,6,0,0,0,10,0,0,0,0,0,0,0,0,0,0,4,0,1,0,5,0,5,0,0,0,0,0,4,0,0,0,0,4],
 [0,0,0,5],
 [],
 [],
 [],
 [],
 [],
 [0],
 [0],
 [0],
 [0],
 [0],
 [0],
 [0],
 [0],
 [0],
 [0],
 [0],
 [0],
 [0],
 [0],
 [0],
 [0],
 [0],
 [0],
 [0],
 [0],
 [0],
 [0],
 [0],
 [0],
 [0],
 [0],
 [0,0,4,5,6,0,0,9,0,0,0,0,0,0,0,0,0,5,0,5,0,0,0,0,0,0,0,0,0,0,0,0,0,5],
 [0,0,4,0,6,0,8,9,0,0,0,0,0,0,0,0,4,0,1,0,8,0,4,0,8,0,0,0,0,0,0,4,0,4,0,0,0,0,0,0,0,4,0,4,0,0,0,0,8,0,0,4,0,8,0,0,9],
 [0,3,0,3,0,0,0,3,0,0,0,0,3,0,0,0,0,3],
 [0,3,0,3,0,0,0,3,0,0,0,0,3,0,0,0,0,3],
 [0,0,0,0,6],
 [0,0,4,5],
 [],
 [],
 [],
 [],
 [],
 [],
 [],
 [],
 [],
 [],
 [],
 [],
 [],
 [],
 [],
 [],
 [],
 [],
 [],
 [],
 [],
 [],
 [],
 [],
 [],
 [],
 [],
 [],
 [],
 [],
 [],
 [],
 [],
 []]
def cc:Cfg where
 P:=Tryz.prog
 G:=λg=>match g with
  |1=>some SO
  |0=>some SN
  |_=>none
 pts:=λf=>ptsTab.getD f []
def ab:TK->Option Sig
 |2=>some ⟨[],[]⟩
 |3=>some ⟨[J5],[lb]⟩
 |4=>some ⟨[J5],[lb]⟩
 |5=>some ⟨[J5,.agg [.i .u8,.i .u8],g01],[lb]⟩
 |6=>some ⟨[J5],[g07]⟩
 |7=>some ⟨[g04,g01,lv],[lv,li]⟩
 |8=>some ⟨[g04,g01],[lv,li]⟩
 |9=>some ⟨[g04],[lv]⟩
 |10=>some ⟨[g04,lv,lv,lv,g00,g00],[lv]⟩
 |11=>some ⟨[CU,g07,lv,lv],[li]⟩
 |12=>some ⟨[g00,g00],[li]⟩
 |13=>some ⟨[],[lb]⟩
 |14=>some ⟨[lv,lv],[li]⟩
 |15=>some ⟨[CU,lv],[li]⟩
 |16=>some ⟨[g04,g01,lv],[li]⟩
 |17=>some ⟨[g04,g01,lv,g00,g00],[CU,li]⟩
 |18=>some ⟨[g01],[li]⟩
 |20=>some ⟨[li,li],[g07]⟩
 |21=>some ⟨[g07],[lv]⟩
 |22=>some ⟨[g07,.agg [.i .u8,.i .i64,.i .u8,.b]],[g07]⟩
 |23=>some ⟨[g03],[li]⟩
 |24=>some ⟨[g04,g01],[lv,li]⟩
 |25=>some ⟨[g04,g01],[lv,li]⟩
 |26=>some ⟨[lv,li,g02],[]⟩
 |27=>some ⟨[lv,lv],[]⟩
 |28=>some ⟨[g09,g09],[li]⟩
 |29=>some ⟨[lv],[li]⟩
 |30=>some ⟨[g00,g00],[li]⟩
 |31=>some ⟨[lv,lv],[CU]⟩
 |32=>some ⟨[g03,li,li],[li]⟩
 |33=>some ⟨[g01,g01],[g01]⟩
 |34=>some ⟨[g00,g00],[g01]⟩
 |35=>some ⟨[g03,li],[g00]⟩
 |36=>some ⟨[g03,li,li],[li]⟩
 |37=>some ⟨[lv,g00],[lv]⟩
 |38=>some ⟨[g01,g00],[g00]⟩
 |39=>some ⟨[g00,li],[g00]⟩
 |40=>some ⟨[lv,li],[li]⟩
 |43=>some ⟨[lv,g00],[lv]⟩
 |44=>some ⟨[CU,g02,lv],[lv,lv,lb]⟩
 |45=>some ⟨[lv,lv],[lb]⟩
 |46=>some ⟨[g01],[lb]⟩
 |47=>some ⟨[li,li],[li]⟩
 |48=>some ⟨[lv,g03],[li]⟩
 |49=>some ⟨[lv,lv],[lb]⟩
 |50=>some ⟨[li,lv,lv],[lb]⟩
 |51=>some ⟨[g00,g02],[g00,li]⟩
 |52=>some ⟨[g00,g00],[g02,li]⟩
 |53=>some ⟨[li],[lb]⟩
 |56=>some ⟨[g07],[lv]⟩
 |57=>some ⟨[g06],[g01]⟩
 |58=>some ⟨[g06,g00],[g02]⟩
 |59=>some ⟨[lv],[lv]⟩
 |60=>some ⟨[g03,li,li],[g02]⟩
 |61=>some ⟨[lv],[lv]⟩
 |62=>some ⟨[g03],[li]⟩
 |63=>some ⟨[g04,g01],[lv,lv,li]⟩
 |64=>some ⟨[g03,li],[g00,li]⟩
 |65=>some ⟨[g01,g00],[g00,li]⟩
 |66=>some ⟨[lv,g00,g00],[lv]⟩
 |67=>some ⟨[g03,li,g02],[li,li]⟩
 |68=>some ⟨[g04,li,g02],[g02,li]⟩
 |69=>some ⟨[lv,li,li,li,lv],[]⟩
 |70=>some ⟨[J4],[li]⟩
 |71=>some ⟨[lv],[li]⟩
 |72=>some ⟨[lv,lv],[]⟩
 |73=>some ⟨[g03,g03,lv],[li]⟩
 |74=>some ⟨[lv,lv],[]⟩
 |75=>some ⟨[g01,g01,lv],[li]⟩
 |76=>some ⟨[g02,g02],[li]⟩
 |77=>some ⟨[lv],[]⟩
 |78=>some ⟨[lv],[lv]⟩
 |79=>some ⟨[lv],[lv]⟩
 |80=>some ⟨[lv],[lv]⟩
 |81=>some ⟨[lv],[lv]⟩
 |82=>some ⟨[lv],[lv]⟩
 |83=>some ⟨[lv],[lv]⟩
 |84=>some ⟨[g01,g03],[g03]⟩
 |85=>some ⟨[li,li],[li]⟩
 |86=>some ⟨[li,li],[li]⟩
 |87=>some ⟨[g03],[g00]⟩
 |88=>some ⟨[g00],[g03]⟩
 |89=>some ⟨[li,lv,lv],[li]⟩
 |90=>some ⟨[lv,li],[li]⟩
 |91=>some ⟨[lv,lv],[li]⟩
 |92=>some ⟨[li],[lb]⟩
 |93=>some ⟨[li,lv],[lb]⟩
 |94=>some ⟨[g00],[li]⟩
 |95=>some ⟨[lv,lv],[li]⟩
 |97=>some ⟨[g00,g00],[g06]⟩
 |98=>some ⟨[g00,g00],[li]⟩
 |99=>some ⟨[g04],[li]⟩
 |100=>some ⟨[g04],[lv,li]⟩
 |101=>some ⟨[g01,g01],[g01,li]⟩
 |102=>some ⟨[g03,li],[lb]⟩
 |103=>some ⟨[g03,li],[g00]⟩
 |104=>some ⟨[g01,g00],[g00]⟩
 |105=>some ⟨[g03,g00],[li,li]⟩
 |106=>some ⟨[g04,li,g02],[g05,li,lb,li]⟩
 |107=>some ⟨[lv,li,li,lv],[]⟩
 |108=>some ⟨[lv,li,li,lv],[]⟩
 |109=>some ⟨[lv,li,li,lv],[]⟩
 |110=>some ⟨[lv,li,li,lv],[li,li]⟩
 |111=>some ⟨[lv,li,li,lv],[]⟩
 |112=>some ⟨[lv,li,li,lv],[lb]⟩
 |113=>some ⟨[lv,li,li,li,lv],[li]⟩
 |114=>some ⟨[lv,li,li,li,lv],[li,lb]⟩
 |116=>some ⟨[J4],[li]⟩
 |117=>some ⟨[lv,li,li,li,lv],[]⟩
 |118=>some ⟨[lv,li,li,li,lv],[]⟩
 |119=>some ⟨[g02],[lb]⟩
 |120=>some ⟨[lv,li,li,li],[]⟩
 |121=>some ⟨[g00],[.agg [.i .i64,.i .i64,.i .i64,.i .i64,.i .i64,.i .i64]]⟩
 |122=>some ⟨[lv,lv],[lb]⟩
 |123=>some ⟨[g08],[lb]⟩
 |124=>some ⟨[g02],[lb]⟩
 |125=>some ⟨[g03,li,g02],[g05,li]⟩
 |126=>some ⟨[g08],[g05]⟩
 |127=>some ⟨[g05,g05],[li]⟩
 |128=>some ⟨[g04],[lv]⟩
 |129=>some ⟨[li,g02,lv,lv,lv],[g01]⟩
 |130=>some ⟨[g03,g05],[g06,li]⟩
 |131=>some ⟨[g06],[g01,li]⟩
 |132=>some ⟨[B4,li,li],[li,li]⟩
 |133=>some ⟨[g01],[g01,li]⟩
 |134=>some ⟨[B4],[g02]⟩
 |135=>some ⟨[B4,B4],[B4]⟩
 |136=>some ⟨[g00],[g03]⟩
 |137=>some ⟨[g01,g03],[g03,li]⟩
 |138=>some ⟨[lv,g05],[li,lb]⟩
 |144=>some ⟨[lv,li,li,lv],[]⟩
 |145=>some ⟨[lv,li,li,lv],[]⟩
 |146=>some ⟨[lv,li,li,lv],[]⟩
 |147=>some ⟨[lv,li,li,lv],[li,li]⟩
 |148=>some ⟨[lv,li,li,lv],[]⟩
 |149=>some ⟨[lv,li,li,lv],[lb]⟩
 |150=>some ⟨[lv,li,li,li,lv],[li]⟩
 |151=>some ⟨[lv,li,li,li,lv],[li,lb]⟩
 |152=>some ⟨[lv,li,li,lv],[]⟩
 |153=>some ⟨[lv,li,li,lv],[]⟩
 |154=>some ⟨[lv,li,li,lv],[]⟩
 |155=>some ⟨[lv,li,li,lv],[li,li]⟩
 |156=>some ⟨[lv,li,li,lv],[]⟩
 |157=>some ⟨[lv,li,li,lv],[lb]⟩
 |158=>some ⟨[lv,li,li,li,lv],[li]⟩
 |159=>some ⟨[lv,li,li,li,lv],[li,lb]⟩
 |160=>some ⟨[lv,li,li],[]⟩
 |161=>some ⟨[lv,li,li],[]⟩
 |162=>some ⟨[lv,li,li],[]⟩
 |163=>some ⟨[lv,li,li],[li,li]⟩
 |164=>some ⟨[lv,li,li],[]⟩
 |165=>some ⟨[lv,li,li],[lb]⟩
 |166=>some ⟨[li,li],[lb]⟩
 |167=>some ⟨[lv,li,li,li],[li]⟩
 |168=>some ⟨[lv,li,li,li],[li,lb]⟩
 |169=>some ⟨[lv,lv],[li]⟩
 |170=>some ⟨[g03,g05],[g00,li]⟩
 |171=>some ⟨[g00,g02],[g06,li]⟩
 |172=>some ⟨[g06],[li]⟩
 |173=>some ⟨[g03],[li]⟩
 |174=>some ⟨[lv,g05,lv],[li,lb]⟩
 |175=>some ⟨[g08,g05],[li]⟩
 |_=>none
def an3:List An:=[jn,rN [[J5]],rN [[],[g04],[],[g01],[],[lv]],rN [[],[g04],[],[g01]],rN [[],[g04]],jn,ra,jn,jn,jn,ts,.l ⟨[(9,li),(10,li)],[]⟩,jn,ra,ts,rN [[],[g04],[],[],[],[lv],[],[],[],[],[g00],[],[],[],[],[g00]],rN [[],[g04],[],[],[],[lv],[],[],[],[],[g00],[],[],[],[],[g00]],rN [[],[],[],[],[],[],[],[],[],[],[CU],[g07]],ra,jn,jn,rN [[],[],[],[],[g00],[],[],[],[],[g00],[],[],[],[],[],[],[],[],[],[],[g00],[],[],[],[],[],[g00],[],[],[],[],[],[],[],[],[g00],[],[],[],[],[],[g00],[],[],[],[],[],[],[g00],[],[],[],[],[],[g00]],.c (some ⟨[],[]⟩),jn,jn,.r [] (some ⟨[(2,lb)],[]⟩)]
def an6:List An:=[jn,rN [[],[g02],[],[],[],[],[g02]],jn,.b (some ⟨[],[(3,[.i .i64,.i .i64,.v,.i .u8,.i .i64,.i .i64,.v])]⟩),.l ⟨[(4,li)],[(3,[.i .i64,.i .i64,.v,.i .u8,.i .i64,.i .i64,.v])]⟩,rN [[],[],[lv]],ra,ts,rN [[g07]],jn,ra,rN [[g07],[],[],[lv],[],[],[],[g02],[],[],[],[],[],[g06],[],[lv],[],[],[],[g02],[],[],[lv],[],[],[],[g02]],jn,jn,.b (some ⟨[],[]⟩),.l ⟨[(6,li)],[]⟩,rN [[],[],[lv]],ra,ts,rN [[],[lv],[],[lv],[],[],[],[g02],[],[],[lv],[],[],[],[],[lv]],rN [[],[lv],[],[],[],[g02],[],[],[],[],[],[lv],[],[],[],[g02]],rN [[],[],[],[],[],[],[],[li],[],[],[],[li]],jn,rN [[g07]]]
def an7:List An:=[jn,rN [[g04],[g01]],jn,ra,jn,rN [[g04],[],[g03]],rN [[],[g04],[g01]],rN [[],[g04],[g01]],jn,ts,.l ⟨[(54,li)],[]⟩,jn,ra,ts,rN [[],[CV]],rN [[],[lv]],ts,.l ⟨[(61,li)],[]⟩,jn,ra,ts,rN [[],[],[li]],rN [[],[],[],[lv]],jn,jn,rN [[],[],[],[lv]],ts,.l ⟨[(80,li)],[]⟩,jn,ra,ts,jn,jn,ts,.l ⟨[(83,g02)],[]⟩,jn,ra,ts,jn,jn,jn,jn,rN [[],[],[],[lv]],rN [[],[],[],[lv]],rN [[],[],[],[lv]],ts,.l ⟨[(108,li)],[]⟩,jn,ra,ts,rN [[],[],[g09]],rN [[],[],[],[],[],[],[lv],[g09],[lv]],jn,jn]
def an8:List An:=[jn,rN [[],[],[li],[],[],[],[li]],jn,jn,jn,ra,jn,rN [[],[],[g01]],rN [[g04]],jn,ts,.l ⟨[(10,lb)],[]⟩,jn,ra,ts,jn,jn,ts,.l ⟨[(10,lb),(11,li)],[]⟩,jn,ra,ts,jn,.b (some ⟨[(10,lb)],[]⟩),.l ⟨[(10,lb),(12,li)],[]⟩,rN [[],[],[],[],[],[],[lb]],ra,.b (some ⟨[(10,lb)],[]⟩),rN [[],[g03]],jn,ra,rN [[],[],[],[g01]],rN [[],[],[],[],[],[],[g02]],.c (some ⟨[],[(14,[.i .u8,.i .i64,.i .i64])]⟩),rN [[],[g03],[],[],[],[g03],[],[],[],[],[],[],[g01]],rN [[],[],[],[lb],[],[],[],[],[g01],[g01]],.c (some ⟨[],[]⟩),jn,rN [[],[],[],[lb]],.c (some ⟨[(10,lb)],[]⟩),rN [[],[],[],[],[g01]],jn,jn,jn,jn]
def an9:List An:=[jn,rN [[],[],[li],[],[],[],[li]],jn,ts,.l ⟨[(4,li)],[]⟩,rN [[],[],[lv]],ra,ts,rN [[],[lv],[],[],[g08]],jn,ts,.l ⟨[(6,li)],[]⟩,jn,ra,.b (some ⟨[],[]⟩),rN [[],[g03],[],[li]],rN [[],[],[],[],[g03],[],[li],[],[],[],[g02]],ra,rN [[],[],[li],[],[],[],[],[g02]],jn,ts,.l ⟨[(8,li)],[]⟩,jn,ra,ts,rN [[],[g03],[],[],[],[],[li]],.c (some ⟨[],[]⟩),rN [[],[],[],[],[],[],[g02]],jn,jn,jn,jn]
def VH:List An:=[jn,jn,rN [[],[g00]],jn,ts,.l ⟨[(13,lv),(15,li)],[]⟩,jn,ra,ts,rN [[],[],[],[li]],jn,ts,.l ⟨[(13,lv),(17,li)],[]⟩,jn,ra,.b (some ⟨[(13,lv)],[]⟩),rN [[],[],[],[g01],[],[g03],[],[],[],[],[],[g00]],ra,rN [[],[g03]],rN [[],[],[],[],[],[],[],[],[],[g02]],jn,jn,jn]
def VI:List An:=[jn,jn,jn,jn,jn,ts,.l ⟨[(12,li),(9,li),(10,li),(11,li),(14,li)],[]⟩,jn,ra,ts,rN [[],[],[lv]],jn,ts,.l ⟨[(12,li),(9,li),(10,li),(11,li),(16,li)],[]⟩,jn,ra,ts,ts,rN [[],[],[],[],[li]],.c (some ⟨[(12,li),(9,li),(10,li),(11,li)],[]⟩),jn,jn,jn,ts,.l ⟨[(17,li),(18,li)],[]⟩,rN [[],[],[lv]],ra,ts,rN [[],[lv],[],[],[li],[],[],[],[],[li]],.c (some ⟨[(17,li)],[]⟩),jn,jn,jn,rN [[],[],[],[],[g02]],.c (some ⟨[(9,li),(10,li),(11,li)],[]⟩),rN [[],[],[lv],[],[],[],[],[lv],[],[],[g03],[],[],[],[],[li],[],[],[],[],[li]],.c (some ⟨[(9,li)],[]⟩),jn,jn,rN [[],[],[],[],[g02],[],[],[],[lv],[],[g00],[],[g00],[],[],[g00],[],[],[],[],[],[li],[],[],[lv],[],[g00],[],[g00],[],[],[g00],[],[],[],[],[],[li]],.c (some ⟨[(9,li),(11,li)],[]⟩),rN [[],[],[lv],[],[],[],[],[lv],[],[],[g01],[],[],[],[],[],[],[li],[],[],[],[],[li]],.c (some ⟨[(9,li)],[]⟩),jn,jn,jn,jn,rN [[],[],[lv],[],[],[],[],[],[lv],[],[],[],[],[],[],[lv]],.c (some ⟨[(9,li)],[]⟩),jn,jn,ts,.l ⟨[(9,li),(19,li)],[]⟩,rN [[],[],[lv]],ra,ts,rN [[],[lv],[],[],[],[li],[],[lv],[],[],[li]],.c (some ⟨[(9,li)],[]⟩),jn,jn,jn]
def VJ:List An:=[jn,rN [[],[li],[],[li],[],[],[],[li],[],[li],[],[],[],[li],[],[li],[],[],[],[li],[],[li],[],[],[],[g02],[],[g02]],.c (some ⟨[],[]⟩),jn,jn]
def VL:List An:=[jn,jn,jn,rN [[],[g04],[],[g01],[],[lv],[g00],[g00]],rN [[],[g04],[],[g01],[],[lv],[g00],[g00]],rN [[],[],[],[],[],[],[],[],[lv],[],[],[],[],[],[lv],[],[g03],[],[],[],[],[],[lv],[],[],[lv],[],[],[],[],[],[],[lv],[],[],[],[],[],[lv],[],[li],[],[],[],[],[lv]],ra,jn,jn,rN [[],[g04],[],[g01],[],[lv],[g00],[g00]],rN [[],[g04],[],[g01],[],[lv]],rN [[],[],[],[],[],[],[],[],[lv],[],[],[],[],[],[lv],[],[g01],[],[],[],[],[],[lv],[],[],[],[],[],[lv],[],[li],[],[],[],[],[lv],[],[li]],ra,jn,rN [[g00],[g00]],rN [[CU],[g00],[],[],[g00]]]
def VM:List An:=[jn,jn,jn,rN [[],[g00],[],[g00]],ts,.l ⟨[(6,lb),(27,li)],[(5,[.v,.v])]⟩,jn,ra,ts,rN [[],[],[g00]],rN [[],[g00]],rN [[CU]],rN [[],[],[],[],[lv]],ra,jn,jn,jn,.b (some ⟨[(6,lb)],[]⟩),.l ⟨[(6,lb),(56,li)],[]⟩,jn,ra,ts,rN [[],[],[g03]],jn,ts,.l ⟨[(6,lb),(63,li)],[]⟩,jn,ra,ts,rN [[],[li]],rN [[],[],[li],[],[],[],[],[li]],.c (some ⟨[(6,lb)],[]⟩),jn,jn,jn,ts,.l ⟨[(6,lb),(82,li)],[]⟩,jn,ra,ts,rN [[],[g03]],rN [[],[li],[],[li],[],[],[],[li],[],[li],[],[],[],[],[li],[],[li],[],[],[],[],[li],[],[li],[],[],[],[li],[],[li],[],[],[],[],[li],[],[li]],.c (some ⟨[(6,lb)],[]⟩),jn,jn,jn,jn,rN [[],[lv]],ts,.l ⟨[(6,lb),(132,li)],[]⟩,jn,ra,ts,jn,jn,ts,.l ⟨[(6,lb),(136,li)],[]⟩,jn,ra,ts,jn,rN [[],[lv],[],[],[li],[],[lv],[],[],[li],[],[],[lv],[],[],[li],[],[lv],[],[],[li]],.c (some ⟨[(6,lb)],[]⟩),jn,jn,jn,jn,ra,jn,jn]
def VN:List An:=[jn,rN [[g04],[g01]],jn,ra,jn,rN [[],[],[g03]],jn,ra,jn,jn,ts,.l ⟨[(35,li)],[]⟩,jn,ra,ts,rN [[],[CV]],rN [[],[lv]],ra,jn,jn,jn,ts,.l ⟨[(46,li)],[]⟩,jn,ra,ts,rN [[],[CV]],jn,ts,.l ⟨[(50,g02)],[]⟩,jn,ra,ts,jn,rN [[],[g00]],jn,ra,jn,jn,jn,jn]
def VO:List An:=[jn,rN [[g04],[g01]],jn,ra,jn,rN [[g00],[g00]],rN [[],[],[],[g00],[g00]],ra,jn,jn,ts,.l ⟨[(46,li)],[]⟩,jn,ra,ts,rN [[],[CU]],rN [[],[g00],[g00],[],[],[],[g00],[g00]],.c (some ⟨[],[]⟩),rN [[CU]],jn,jn]
def VP:List An:=[jn,rN [[],[g02],[],[],[],[],[li],[],[],[],[],[li],[],[],[],[],[li],[],[li]],ra,jn,jn]
def VQ:List An:=[jn,jn,jn,ts,.l ⟨[(6,li)],[(5,[.i .i64,.i .i64,.v,.i .u8,.i .i64,.i .i64,.v])]⟩,jn,ra,ts,rN [[],[lv],[],[],[g03]],jn,rN [[g07]]]
def VS:List An:=[jn,rN [[g07]],jn,jn,ts,.l ⟨[(4,lv),(5,li)],[]⟩,jn,ra,ts,rN [[],[],[],[],[g06]],jn,.b (some ⟨[(7,li)],[]⟩),.l ⟨[(7,li)],[]⟩,rN [[],[],[],[],[],[],[],[],[],[g02],[],[g02],[],[],[],[],[],[],[g02],[],[g02],[],[],[],[],[],[],[li],[],[li]],.c (some ⟨[],[]⟩),ts,jn,rN [[],[],[],[],[],[],[],[],[g06],[g06]],.c (some ⟨[(4,lv)],[]⟩),rN [[],[],[],[],[],[g06]],jn,jn]
def VT:List An:=[jn,rN [[],[g06]],rN [[],[],[g03],[],[],[],[lv],[],[],[],[g01]],jn,jn,ts,.l ⟨[(8,lv),(7,lv),(9,li)],[(6,[.i .i64,.i .i64,.v,.i .u8,.i .i64,.i .i64,.v])]⟩,rN [[],[],[lv]],ra,.b (some ⟨[(8,lv),(7,lv)],[(6,[.i .i64,.i .i64,.v,.i .u8,.i .i64,.i .i64,.v])]⟩),rN [[],[lv],[],[],[CV]],rN [[],[g06],[],[g00],[],[],[g02]],ra,rN [[],[],[g00],[],[],[lv]],jn,rN [[],[lv]],ts,.l ⟨[(11,lv),(12,li)],[(6,[.i .i64,.i .i64,.v,.i .u8,.i .i64,.i .i64,.v])]⟩,jn,ra,ts,rN [[],[],[lv],[],[],[li]],rN [[],[lv],[],[],[li]],.c (some ⟨[],[(6,[.i .i64,.i .i64,.v,.i .u8,.i .i64,.i .i64,.v])]⟩),rN [[],[g01],[g01]],jn,rN [[],[g01],[],[g00]],jn,jn,ts,.l ⟨[(8,lv),(13,li)],[]⟩,jn,ra,ts,jn,jn,.b (some ⟨[(14,lb)],[]⟩),.l ⟨[(14,lb),(15,li)],[]⟩,jn,ra,.b (some ⟨[(14,lb)],[]⟩),rN [[],[],[],[],[g00],[],[],[],[],[g00]],ra,jn,rN [[],[lb]],.c (some ⟨[],[]⟩),rN [[],[],[],[],[],[],[lv],[],[],[],[],[lv]],rN [[],[],[],[],[],[],[],[lv],[],[],[],[],[],[lv]],jn,jn,.c (some ⟨[(8,lv)],[]⟩),rN [[],[],[],[],[CV]],jn,jn,rN [[],[g04],[],[g01]],rN [[g07]],jn,ts,.l ⟨[(19,li)],[(6,[.i .i64,.i .i64,.v,.i .u8,.i .i64,.i .i64,.v])]⟩,jn,ra,.b (some ⟨[],[(6,[.i .i64,.i .i64,.v,.i .u8,.i .i64,.i .i64,.v])]⟩),rN [[],[],[],[],[g06],[],[g06]],ra,jn,rN [[],[],[],[],[],[li],[],[],[g02],[],[],[lb]],.c (some ⟨[(20,g02)],[]⟩),jn,rN [[],[],[lv],[],[],[],[],[li],[],[],[g03],[],[],[],[],[li],[],[],[],[],[li]],jn,rN [[],[],[lv]],rN [[g07]]]
def VU:List An:=[jn,rN [[g03]],ra,jn,rN [[],[li],[],[],[li]]]
def VV:List An:=[jn,rN [[g04],[g01]],jn]
def VW:List An:=[jn,rN [[g04],[g01]],jn]
def VX:List An:=[rN [[],[],[],[],[g03]],rN [[g00]],rN [[],[],[],[lv],[],[],[g01],[g00]],rN [[],[],[],[],[lv],[],[],[g00],[g00]],rN [[],[],[],[],[g03]],jn,ra,rN [[],[],[],[],[lv]],jn,ra,rN [[],[],[],[g04]],jn,rN [[],[],[],[lv],[],[],[g00],[],[],[],[g00]],.c (some ⟨[(17,g02)],[]⟩),jn,ts,jn,.c (some ⟨[],[]⟩),rN [[],[],[],[],[lv]],jn,.c (some ⟨[],[]⟩),rN [[],[],[],[],[lv]],rN [[],[],[],[lv],[],[],[li],[],[],[],[lv],[],[],[li]],.c (some ⟨[],[]⟩),rN [[],[],[],[],[lv]],rN [[],[],[],[],[lv]]]
def VY:List An:=[jn,jn]
def VZ:List An:=[jn,rN [[],[g00],[],[g00],[],[],[g00],[],[g00]]]
def V0:List An:=[jn,jn,jn,ts,.l ⟨[(8,li)],[]⟩,jn,ra,ts,rN [[],[li]],jn,ra,jn,jn,jn]
def V1:List An:=[jn,rN [[],[li],[],[li],[],[],[li],[],[li],[],[],[g02],[],[],[g02]]]
def V2:List An:=[jn,rN [[],[],[],[lv]],rN [[],[],[],[lv]],rN [[],[],[],[lv]],rN [[],[],[],[g00],[],[],[],[g00],[],[],[],[lv],[],[],[],[],[],[lv],[],[],[],[],[],[lv]]]
def V3:List An:=[jn,rN [[g03]],rN [[],[li],[],[],[],[li],[],[],[],[],[li],[],[li],[],[],[],[],[li],[],[li]],ra,jn,rN [[],[li],[],[li],[],[],[li],[],[],[],[g02]]]
def V4:List An:=[jn,rN [[g01],[g01]],rN [[g01],[g01]],rN [[g01],[g01]],jn,ts,.l ⟨[(8,g02)],[]⟩,jn,ra,ts,rN [[],[],[li],[],[],[li]],rN [[g01],[],[],[g03],[],[],[g01],[],[],[g03]],.c (some ⟨[],[]⟩),rN [[g01]],jn,jn]
def V5:List An:=[jn,rN [[],[li],[],[li]],ra,rN [[],[li],[],[li]],rN [[],[li],[],[li]],ra,rN [[],[li],[],[li]],rN [[],[g02],[],[g02],[],[],[],[],[g02],[],[g02]],ra,rN [[],[li],[],[li],[],[],[],[li],[],[li]],rN [[],[li],[],[li],[],[],[li],[],[li]]]
def V6:List An:=[jn,rN [[],[],[],[li],[],[],[],[],[li]]]
def V7:List An:=[jn,jn,ra,jn,rN [[g03]],jn,ra,jn,jn]
def V8:List An:=[jn,jn,ts,.l ⟨[(5,li)],[]⟩,jn,ra,ts,rN [[],[],[],[],[g00],[g00]],ra,rN [[],[],[],[],[lv]],jn,jn]
def V9:List An:=[jn,rN [[g01],[g00]]]
def Wa:List An:=[jn,jn,ra,rN [[],[g02]],ts,jn,ra,rN [[],[li],[],[li]],jn,ra,rN [[],[li],[],[],[li]],jn,ra,rN [[],[li],[],[li]],rN [[],[li],[],[],[li]],jn,ra,rN [[],[li],[],[li],[],[g02]],rN [[],[li],[],[li],[],[g02]]]
def Wb:List An:=[jn,jn,ts,.l ⟨[(5,li)],[]⟩,jn,ra,ts,rN [[],[],[],[li]],ra,jn,jn,jn]
def Wc:List An:=[jn,jn,ts,.l ⟨[(9,li)],[]⟩,jn,ra,ts,rN [[],[CV]],rN [[],[g00],[g00]],ra,rN [[],[lv]],jn,jn]
def Wd:List An:=[jn,jn,jn,rN [[],[lv]],ts,.l ⟨[(7,lv),(20,li)],[]⟩,jn,ra,ts,rN [[],[g03]],rN [[],[],[],[li],[],[li],[],[],[li],[li]],jn,rN [[],[lv]],ts,.l ⟨[(6,lv),(40,li)],[]⟩,jn,ra,ts,rN [[],[g01]],rN [[],[g02]],.c (some ⟨[(6,lv)],[]⟩),rN [[],[],[li],[li],[],[],[li],[li]],jn,jn,rN [[],[],[lb]]]
def We:List An:=[jn,jn]
def Wf:List An:=[jn,rN [[],[g02]]]
def Wh:List An:=[jn,jn,jn,jn,ra,jn,ra,jn,jn,jn,ra,jn,jn,ra,jn,jn,ra,jn,jn]
def Wi:List An:=[jn,rN [[g03]],jn,ra,jn,rN [[g03]],jn,ts,.l ⟨[(25,li)],[]⟩,jn,ra,ts,rN [[],[],[CV]],rN [[],[lv]],rN [[],[g00],[],[],[],[],[],[],[],[],[],[],[],[g00],[],[g00],[],[],[],[],[],[],[lv]],.c (some ⟨[],[]⟩),jn,jn,rN [[li]],jn,jn,ts,.l ⟨[(11,li),(68,li)],[]⟩,jn,ra,ts,rN [[],[CV]],rN [[],[lv]],ts,.l ⟨[(11,li),(75,li)],[]⟩,jn,ra,ts,rN [[],[li]],rN [[],[],[],[lb]],ra,jn,jn,jn,jn,jn,rN [[],[li]],ra,jn,jn]
def Wj:List An:=[jn,jn]
def Wk:List An:=[jn,rN [[lv],[],[],[g00],[],[g00]]]
def Wl:List An:=[jn,rN [[g00]],ra,jn,rN [[],[g02],[],[],[],[],[g00]],rN [[],[li],[],[li],[],[],[li],[],[li]],rN [[g00]],ra,jn,rN [[g00]]]
def Wm:List An:=[jn,rN [[g00],[],[],[],[g00]],ra,jn,jn,ts,.l ⟨[(17,g02)],[]⟩,jn,ra,ts,jn,rN [[g00]],rN [[],[],[],[g00],[g00]],.c (some ⟨[],[]⟩),jn,jn,jn]
def Wn:List An:=[jn,.r [] (some ⟨[(2,lb)],[]⟩)]
def Wo:List An:=[jn,rN [[],[g04],[],[g01]],rN [[],[g04]],jn,jn,ts,.l ⟨[(6,lv),(7,li)],[]⟩,jn,ra,ts,jn,ts,.l ⟨[(6,lv),(8,li)],[]⟩,jn,ra,.b (some ⟨[(6,lv)],[]⟩),rN [[],[],[g03]],rN [[],[],[],[],[],[],[],[],[],[],[g02]],ra,rN [[],[],[],[g01],[],[],[g03],[],[],[],[],[],[],[g01],[],[],[g03]],rN [[],[],[],[g00],[g00]],jn,jn,jn]
def Wp:List An:=[jn,rN [[],[g02]],ts,jn,ra,rN [[],[li]],jn,ra,rN [[],[li]],jn,ra,rN [[],[li],[],[li]],rN [[],[li],[],[],[li]]]
def Wq:List An:=[jn,rN [[g00]],rN [[],[li],[],[li],[],[li],[],[li],[],[],[li],[],[li],[],[],[],[g02],[],[li]],rN [[],[],[li]],ra,jn,jn]
def Wr:List An:=[jn,jn,jn,ts,.l ⟨[(4,li)],[]⟩,jn,ra,ts,jn,.b (some ⟨[],[]⟩),.l ⟨[(5,li)],[]⟩,rN [[],[],[],[],[],[],[],[],[g00],[],[],[],[],[g00]],ra,ts,rN [[],[],[],[],[],[],[],[],[CV],[],[],[],[],[CV]],jn,jn,jn]
def Ws:List An:=[jn,jn,ts,.l ⟨[(7,li)],[]⟩,jn,ra,ts,rN [[g03]],ra,jn,ra,jn,jn,jn,jn]
def Wt:List An:=[jn,jn,ts,.l ⟨[(3,li)],[]⟩,jn,ra,ts,jn,.b (some ⟨[],[]⟩),.l ⟨[(4,li)],[]⟩,rN [[],[],[],[],[],[],[],[],[li],[],[],[],[],[li],[],[],[],[],[],[],[],[li],[],[],[],[],[li],[],[],[],[],[],[],[],[g02],[],[],[],[],[g02]],.c (some ⟨[],[]⟩),ts,rN [[],[],[],[],[],[],[],[],[g08],[],[],[],[],[g08]],jn,jn,jn]
def Wu:List An:=[jn,rN [[],[li],[],[],[],[li],[],[],[],[],[li],[],[],[],[],[li],[],[],[],[],[li],[],[li]],ra,jn,jn]
def Wv:List An:=[jn,rN [[g04]],jn,ra,jn,rN [[g01]],ra,jn,rN [[g04]],jn,ra,jn,jn,jn,ts,.l ⟨[(36,li)],[]⟩,jn,ra,ts,rN [[],[],[g01]],rN [[],[g03]],rN [[],[],[g01],[g01]],jn,ra,jn,rN [[],[],[],[],[],[g01],[g00]],jn,ra,jn,jn,jn]
def Ww:List An:=[jn,rN [[g03]],jn,ra,jn,rN [[g03]],ra,jn,rN [[g03]]]
def Wx:List An:=[jn,rN [[g01],[],[],[],[g00]],ra,jn,rN [[g01],[g00]],rN [[g00]],ra,jn,rN [[g00]]]
def Wy:List An:=[jn,rN [[g00],[g00]],.c (some ⟨[],[(4,[.i .i64,.i .i64,.i .u8]),(5,[.i .i64,.i .i64,.i .u8])]⟩),rN [[g00],[g00]],rN [[g00],[g00]],rN [[],[],[],[lv],[g09],[lv]],.c (some ⟨[],[]⟩),rN [[],[],[],[lv],[g09],[g00],[g00]],rN [[],[],[],[],[lv],[g09]],rN [[],[],[],[lv],[g09],[lv]]]
def Wz:List An:=[jn,rN [[g03]],jn,ra,jn,rN [[g00]],jn,ra,jn,rN [[g03],[g00]]]
def WA:List An:=[jn,rN [[g04]],jn,ra,jn,rN [[],[lv],[],[],[],[g02]]]
def WB:List An:=[jn,jn,ts,.l ⟨[(3,li),(1,li),(11,lb),(10,lb),(2,li)],[]⟩,.b (some ⟨[(3,li),(1,li),(11,lb),(10,lb),(2,li)],[]⟩),jn,jn,ra,jn,jn,ra,jn,jn,.c (some ⟨[(3,li)],[]⟩),jn,jn,jn,jn,.c (some ⟨[(13,li),(14,li)],[]⟩),jn,jn,jn,jn,.c (some ⟨[],[]⟩),jn,ra,rN [[],[],[],[],[],[],[],[],[g09],[],[],[],[g09],[li]],.c (some ⟨[(1,li)],[]⟩),jn,jn,jn,jn,jn,jn,jn,.c (some ⟨[(10,lb),(1,li),(2,li)],[]⟩),jn,jn,jn,jn,jn,jn]
def WC:List An:=[jn,ra,jn,jn]
def WD:List An:=[jn,jn,ts,.l ⟨[(8,li)],[]⟩,jn,ra,ts,rN [[],[g03]],rN [[],[li],[],[li]],jn,ra,jn,jn,jn]
def WE:List An:=[jn,jn]
def WF:List An:=[jn,rN [[lv],[],[],[lv],[],[li],[],[li],[lv],[],[],[lv],[],[li],[],[li]]]
def WG:List An:=[jn,jn]
def WH:List An:=[jn,rN [[],[g02],[],[g02],[],[lv],[],[],[lv],[],[li],[],[li],[lv],[],[],[lv],[],[li],[],[li]]]
def WI:List An:=[jn,jn,jn,jn,ra,jn,ra,jn,jn,jn,ra,jn,jn,ra,jn,jn,ra,jn,jn]
def WJ:List An:=[jn,jn]
def WK:List An:=[jn,jn]
def WL:List An:=[jn,jn,ra,jn,jn]
def WM:List An:=[jn,jn]
def WN:List An:=[jn,jn,ra,jn,jn]
def WO:List An:=[jn,jn]
def WP:List An:=[jn,jn,ra,jn,jn]
def WS:List An:=[jn,rN [[],[li],[],[li]],rN [[],[g02]],.c (some ⟨[(5,li)],[]⟩),jn,jn,ts,.l ⟨[(5,li),(6,li),(7,li)],[]⟩,rN [[],[],[g02]],ra,ts,jn,jn,rN [[],[],[li],[],[],[],[],[li]]]
def WT:List An:=[jn,jn,ra,jn,jn]
def WU:List An:=[jn,jn,ra,jn,jn]
def WV:List An:=[jn,rN [[],[li],[],[],[li]],rN [[],[li],[],[li],[],[],[],[li],[],[li]],ts,jn,.c (some ⟨[],[(3,[.i .i64,.i .i64,.i .u8])]⟩),jn,jn,.c (some ⟨[],[(3,[.i .i64,.i .i64,.i .u8])]⟩),jn,jn,.c (some ⟨[],[(3,[.i .i64,.i .i64,.i .u8])]⟩),jn,jn,rN [[g00]]]
def WW:List An:=[jn,rN [[g00]],rN [[],[],[li],[],[],[li],[],[],[],[li],[],[],[],[],[li],[],[],[li],[],[],[],[li]]]
def WX:List An:=[jn,rN [[lv]],.r [[lb]] (some ⟨[],[]⟩),jn]
def WY:List An:=[jn,jn,ts,.l ⟨[(8,li)],[]⟩,jn,ra,ts,jn,rN [[],[],[],[],[li]],ra,jn,jn,jn]
def WZ:List An:=[jn,jn,ts,.l ⟨[(8,li)],[]⟩,jn,ra,ts,jn,rN [[],[],[],[],[g01],[lb]],ra,jn,jn,jn]
def W0:List An:=[jn,jn]
def W1:List An:=[jn,.r [[],[],[],[],[li]] (some ⟨[(3,lb)],[]⟩)]
def W2:List An:=[jn,rN [[],[li],[],[],[],[li],[],[],[],[],[li],[],[],[],[],[li],[],[],[],[],[g02]],ra,jn,jn]
def W3:List An:=[jn,jn,ts,.l ⟨[(8,li)],[]⟩,jn,ra,ts,jn,rN [[],[],[],[],[li],[lb]],ra,jn,jn,jn]
def W4:List An:=[jn,rN [[g00],[g00]],rN [[],[g02]],ts,jn,ra,rN [[],[li]],jn,ra,rN [[],[li]],jn,ra,rN [[],[li]],rN [[],[li]]]
def W5:List An:=[jn,rN [[],[li],[],[li],[],[],[],[li],[],[li],[],[],[],[li],[],[li],[],[],[],[li],[],[li],[],[],[],[g02],[],[g02]],.c (some ⟨[],[]⟩),jn,jn]
def W6:List An:=[jn,rN [[],[g03]],jn,ra,jn,rN [[],[lv]],ra,jn,rN [[],[lv]],ts,.l ⟨[(21,li)],[]⟩,jn,ra,ts,rN [[],[g08]],rN [[],[g03],[],[li],[],[g02]],rN [[],[],[],[g05],[g08]],ra,jn,jn,jn,ts,.l ⟨[(8,li)],[]⟩,rN [[],[],[lv]],ra,ts,rN [[],[lv],[],[],[],[g08],[],[],[lv],[],[],[g08]],ra,jn,jn,jn]
def P8:List An:=[jn,rN [[g04]],rN [[],[g03]],rN [[lv]],jn,jn,jn,ts,.l ⟨[(8,lv)],[]⟩,jn,ra,ts,rN [[],[],[li]],jn,jn,ts,.l ⟨[(8,lv),(35,g02)],[]⟩,jn,ra,.b (some ⟨[(8,lv)],[]⟩),jn,rN [[],[g03]],jn,ra,rN [[],[],[],[g01]],rN [[],[],[],[lb]],.c (some ⟨[(8,lv)],[]⟩),rN [[lv],[],[],[],[g01]],jn,rN [[lv],[],[],[g01],[g01]],ra,jn,jn,rN [[lv]]]
def P9:List An:=[jn,rN [[g01],[],[],[],[g01]],ra,jn,rN [[],[g02],[],[B4],[],[li],[],[li]],rN [[],[g02],[],[B4],[],[g02],[],[B4],[],[],[],[],[li],[],[],[],[li]]]
def Qa:List An:=[jn,.r [[],[],[],[],[],[li],[],[],[li]] (some ⟨[(4,lb)],[]⟩)]
def Qb:List An:=[jn,rN [[],[],[],[li],[],[],[],[],[li]]]
def Qc:List An:=[jn,rN [[g00],[],[],[g02],[],[],[g03]],rN [[g01],[g03]],jn,rN [[g01],[g03]],rN [[],[li],[],[li],[],[],[],[],[li],[],[li]],rN [[.agg [.i .i64,.i .i64,.i .u8,.i .i64,.i .i64,.i .i64,.i .u8,.i .i64,.i .i64,.i .u8,.i .i64,.i .i64,.i .u8,.i .i64,.i .i64,.i .i64,.i .i64,.i .i64,.i .i64,.i .u8,.i .i64,.i .i64,.i .i64,.i .u8,.i .i64,.i .i64,.i .u8,.i .i64,.i .i64,.i .u8,.i .i64,.i .i64,.i .i64,.i .i64,.i .i64,.i .i64,.i .u8,.i .i64,.i .i64,.i .i64,.i .u8,.i .i64,.i .i64,.i .u8,.i .i64,.i .i64,.i .u8,.i .i64,.i .i64,.i .i64,.i .i64,.i .i64,.i .i64,.i .u8,.i .i64,.i .i64,.i .i64,.i .u8,.i .i64,.i .i64,.i .u8,.i .i64,.i .i64,.i .u8,.i .i64,.i .i64,.i .i64,.i .i64]]],ts,.l ⟨[(47,li)],[(7,[.i .i64,.i .i64,.i .u8])]⟩,jn,ra,ts,rN [[],[YS]],rN [[],[g03],[g03]],.c (some ⟨[],[(7,[.i .i64,.i .i64,.i .u8])]⟩),jn,jn,rN [[g00]]]
def Qd:List An:=[jn,rN [[g03]],jn,ra,jn,rN [[g00],[],[],[],[],[li],[],[],[],[],[li],[],[li],[],[],[],[],[li],[],[],[],[],[li],[],[li]],ra,jn,rN [[],[li],[],[li],[],[],[li],[],[],[],[g02]]]
def Qe:List An:=[jn,rN [[g04]],jn,ra,jn,rN [[],[g03]],jn,ra,jn,rN [[],[lv],[g05]],rN [[g05]]]
def Qf:List An:=[jn,ts,.l ⟨[(8,li)],[]⟩,jn,ra,ts,jn,.b (some ⟨[],[]⟩),.l ⟨[(9,li)],[]⟩,rN [[],[],[],[],[],[],[],[],[g09],[],[],[],[],[g09],[li]],ra,ts,rN [[],[],[],[],[],[],[],[],[],[g09],[],[],[],[g09]],jn,jn]
def Qg:List An:=[jn,jn,.c (some ⟨[(0,J4),(2,li)],[]⟩),jn,jn,jn,.c (some ⟨[(0,J4),(2,li)],[]⟩),jn,jn,jn,.c (some ⟨[(0,J4),(2,li)],[]⟩),jn,jn,jn]
def Qh:List An:=[jn,jn,ts,.l ⟨[(3,li),(1,li),(11,lb),(10,lb),(2,li)],[]⟩,.b (some ⟨[(3,li),(1,li),(11,lb),(10,lb),(2,li)],[]⟩),jn,jn,ra,jn,jn,ra,jn,jn,.c (some ⟨[(3,li)],[]⟩),jn,jn,jn,jn,.c (some ⟨[(13,li),(14,li)],[]⟩),jn,jn,jn,jn,.c (some ⟨[],[]⟩),jn,ra,rN [[],[],[],[],[],[],[],[],[g03],[],[],[],[g03],[li]],.c (some ⟨[(1,li)],[]⟩),jn,jn,jn,jn,jn,jn,jn,.c (some ⟨[(10,lb),(1,li),(2,li)],[]⟩),jn,jn,jn,jn,jn,jn]
def Qi:List An:=[jn,jn,ts,.l ⟨[(3,li),(1,li),(11,lb),(10,lb),(2,li)],[]⟩,.b (some ⟨[(3,li),(1,li),(11,lb),(10,lb),(2,li)],[]⟩),jn,jn,ra,jn,jn,ra,jn,jn,.c (some ⟨[(3,li)],[]⟩),jn,jn,jn,jn,.c (some ⟨[(13,li),(14,li)],[]⟩),jn,jn,jn,jn,.c (some ⟨[],[]⟩),jn,ra,rN [[],[],[],[],[],[],[],[],[g01],[],[],[],[g01],[li]],.c (some ⟨[(1,li)],[]⟩),jn,jn,jn,jn,jn,jn,jn,.c (some ⟨[(10,lb),(1,li),(2,li)],[]⟩),jn,jn,jn,jn,jn,jn]
def Qk:List An:=[jn,jn]
def Ql:List An:=[jn,jn,ts,.l ⟨[(3,li),(1,li),(9,lb),(8,lb),(2,li)],[]⟩,.b (some ⟨[(3,li),(1,li),(9,lb),(8,lb),(2,li)],[]⟩),jn,jn,ra,jn,jn,ra,jn,jn,.c (some ⟨[(3,li)],[]⟩),jn,jn,jn,jn,.c (some ⟨[(11,li),(12,li)],[]⟩),jn,jn,jn,jn,.c (some ⟨[],[]⟩),jn,ra,rN [[],[],[],[],[],[],[],[li],[],[],[],[li]],.c (some ⟨[(1,li)],[]⟩),jn,jn,jn,jn,jn,jn,jn,.c (some ⟨[(8,lb),(1,li),(2,li)],[]⟩),jn,jn,jn,jn,jn,jn]
def Qm:List An:=[jn,rN [[],[li],[],[],[li]],jn,rN [[],[g02]],ts,jn,ra,rN [[g03]],jn,ra,rN [[g03]],jn,ra,rN [[g03]],rN [[g03]]]
def Qn:List An:=[jn,jn]
def Qo:List An:=[jn,rN [[],[g02]]]
def Qp:List An:=[jn,.r [] (some ⟨[(2,lb)],[]⟩)]
def Qq:List An:=[jn,rN [[g03]],jn,ra,jn,jn]
def Qr:List An:=[jn,rN [[],[li],[],[g02]]]
def Qs:List An:=[jn,rN [[],[li],[],[li]],ra,rN [[],[li],[],[li]],rN [[],[g02],[],[],[g02]]]
def Qt:List An:=[jn,rN [[],[lv]],rN [[],[lv]],ts,.l ⟨[(13,li)],[]⟩,jn,ra,ts,rN [[],[g08]],rN [[],[],[li],[],[g02]],jn,jn]
def Qu:List An:=[jn,rN [[],[g03]],rN [[lv],[g05],[lb]],ra,rN [[lv],[],[],[g01]],rN [[],[g03],[g05]],rN [[g06]],rN [[g01],[lv],[],[],[g01]],rN [[g01]]]
def Qv:List An:=[jn,rN [[g03],[g05]],jn,ra,jn,rN [[g00],[],[g02]]]
def Qw:List An:=[jn,rN [[g06]],ra,jn,rN [[],[g02]],ts,jn,ra,rN [[],[li]],jn,ra,rN [[],[li]],jn,ra,rN [[],[li],[],[li]],rN [[],[li],[],[],[li]]]
def Qx:List An:=[jn,rN [[],[li],[],[],[],[li],[],[],[],[],[li],[],[],[],[li]]]
def Qy:List An:=[jn,rN [[g01]],ra,jn,rN [[g01]]]
def Qz:List An:=[jn,rN [[.agg [.i .i64,.i .i64,.i .i64,.i .i64,.i .i64,.i .i64,.i .i64,.i .i64,.i .i64,.i .i64,.i .i64,.i .i64,.i .i64,.i .i64,.i .i64,.i .i64,.i .i64,.i .i64,.i .i64,.i .i64,.i .i64,.i .i64,.i .i64,.i .i64,.i .i64,.i .i64,.i .i64,.i .i64,.i .i64,.i .i64,.i .i64,.i .i64]]],ts,.l ⟨[(6,li)],[]⟩,jn,ra,ts,rN [[],[B4]],rN [[B4],[B4]],ra,jn,jn,jn]
def QA:List An:=[jn,rN [[B4],[],[li],[],[li]],rN [[B4],[],[li],[],[li]],jn]
def QB:List An:=[jn,rN [[],[li],[],[],[],[li]]]
def QC:List An:=[jn,rN [[g01],[],[],[],[g03]],ra,jn,rN [[],[g02],[],[B4],[],[li],[],[li]],rN [[],[],[li],[],[],[],[],[li]],rN [[g03]],ra,jn,rN [[g03]]]
def QD:List An:=[jn,rN [[],[g05]]]
def QE:List An:=[jn,ts,.l ⟨[(8,li)],[]⟩,jn,ra,ts,jn,.b (some ⟨[],[]⟩),.l ⟨[(9,li)],[]⟩,rN [[],[],[],[],[],[],[],[],[g03],[],[],[],[],[g03],[li]],ra,ts,rN [[],[],[],[],[],[],[],[],[],[g03],[],[],[],[g03]],jn,jn]
def QF:List An:=[jn,ts,.l ⟨[(8,li)],[]⟩,jn,ra,ts,jn,.b (some ⟨[],[]⟩),.l ⟨[(9,li)],[]⟩,rN [[],[],[],[],[],[],[],[],[g01],[],[],[],[],[g01],[li]],ra,ts,rN [[],[],[],[],[],[],[],[],[],[g01],[],[],[],[g01]],jn,jn]
def QH:List An:=[jn,ts,.l ⟨[(6,li)],[]⟩,jn,ra,ts,jn,.b (some ⟨[],[]⟩),.l ⟨[(7,li)],[]⟩,rN [[],[],[],[],[],[],[],[li],[],[],[],[],[li]],ra,ts,rN [[],[],[],[],[],[],[],[],[],[li],[],[],[],[li]],jn,jn]
def QI:List An:=[jn,.r [] (some ⟨[(4,lb)],[]⟩)]
def QJ:List An:=[jn,jn,ts,.l ⟨[(8,li)],[]⟩,jn,ra,ts,jn,rN [[],[],[],[],[g08],[lb]],ra,jn,jn,jn]
def QK:List An:=[jn,rN [[g03]],jn,ra,jn,rN [[g03],[],[li],[],[g02]],rN [[],[],[],[g05],[g05]],ra,jn,rN [[g03],[],[li]]]
def QL:List An:=[jn,rN [[g00]],ra,jn,rN [[],[g02],[],[YS]],rN [[],[g02],[],[li],[],[li]],ts,jn,.c (some ⟨[],[(7,[.i .u8,.i .i64])]⟩),rN [[],[li],[],[li]],jn,.c (some ⟨[],[(7,[.i .u8,.i .i64])]⟩),rN [[],[li],[],[li]],rN [[],[g02]],.c (some ⟨[],[(7,[.i .u8,.i .i64])]⟩),rN [[],[li],[],[li]],rN [[g06]],ra,jn,rN [[g06]]]
def QM:List An:=[jn,rN [[],[g02],[],[],[],[g02],[],[],[],[],[li],[],[],[],[],[li]],ra,jn,jn]
def QN:List An:=[jn,rN [[],[li],[],[],[],[li],[],[],[],[],[li],[],[],[],[],[li]],ra,jn,jn]
def QO:List An:=[jn,jn,jn,ts,.l ⟨[(9,li),(10,li)],[]⟩,jn,ra,ts,jn,rN [[],[],[],[],[g08],[g05],[li]],.c (some ⟨[(9,li),(10,li)],[]⟩),jn,jn,.r [[],[],[],[],[],[],[],[],[],[g08],[g05],[li]] (some ⟨[(6,li),(7,lb)],[]⟩)]
def QP:List An:=[jn,rN [[g08],[],[g05]]]
def aa:Nat->Site
 |_=>⟨0,[],[],.skip,.skip⟩
def xc(f:TK):Ctxt:=⟨cc,ptsTab.getD f [],aa⟩
end Go.Am
end

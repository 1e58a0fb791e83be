import Derived.Test.YtohglkignnpogaaGreatDoorOR3
import Derived.LaidMore
import Derived.MakeChecks
import Derived.OpenShut
import Derived.ProofKit
import Derived.Stop.Joined
import Derived.Test.YtohglkignnpogaaGreatDoorRows
import GoSem.ClaimJoined
set_option linter.all false
noncomputable section
set_option maxRecDepth 100000
open Int(ofNat)
open List(range)
namespace Go.Am
theorem m_{p:Prop}(h:p:=by decide):p:=h
theorem d_{p:Prop}(h:p:=by kernel_rfl):p:=h
namespace Sx
inductive MC where
 |no
 |row (s:Nat) (w:Bool)
 |hr
 |hw
 |neu (f:TQ)
abbrev _root_.Tc:=FuncId->Option Nat
def aA(N:Tc)(b_:TC)(o:Oper):Option MC:=
 match o.op with
 | .move _ | .assign _ | .pick _ _ _ | .build _ _ | .nilCheck _ | .unOp _ _ _ | .convert _ _ _ | .fieldAddr _ _ _ | .field _ _ _ | .indexAddr _ _ _ | .index _ _ _ | .extract _ _=>some .no
 | .binOp _ _ _ _ _=>some .no
 | .makeFunc _ _ _=>some .no
 | .load _ a=>match ou b_ a with
  |0=>some .hr
  |1=>some .no
  |s+2=>some (.row s false)
 | .store _ a _=>match ou b_ a with
  |0=>some .hw
  |1=>none
  |s+2=>some (.row s true)
 | .alloc _ | .box _ _=>match o.dst with
  |some d=>if b_.getD d 0=d+2 then some (.row d true)else some .hw
  |none=>none
 | .buildSlice _ _ _ | .makeMap _ _ | .makeSlice _ _ _ | .mapUpdate _ _ _ _ | .mapEntry _ _ _ | .entryStore _ _ _ _ | .insert _ _ _ _=>some .hw
 | .lookup _ _ _ _ | .slice _ _ _ _ _=>some .hr
 | .call c=>match c.callee with
  | .builtin b=>match b with
   | .append | .copy | .delete | .clear=>some .hw
   | .len=>some .hr
   | .cap | .min | .max=>some .no
   |_=>none
  | .value f=>match f with
   | .func g=>some (if N g=some (2*c.args.size)then .neu g else if N g=some (2*c.args.size+1)then .hr else .hw)
   |_=>some .hw
  |_=>none
 |_=>none
def bo(ops:To)(o:Oper):TC:=
 (o.op.operands.toList.filterMap λx=>match x with
  | .tmp t=>some t
  |_=>none) ++
 match o.guard with
 |some (j,_)=>((ops[j]?).bind (·.dst)).toList
 |none=>[]
section
variable [DB]
def execOp_congr{e u4:Tg}{o:Oper}(N:Tc)(b_:TC)(C:aA N b_ o≠none)(h:∀x∈o.op.operands.toList,e x=u4 x):execOp e o=execOp u4 o:=by
 obtain⟨dst,A,B,pos,z,guard⟩:=o;have l:∀ {j:Array Operand},(∀x∈j.toList,e x=u4 x)->j.map e=j.map u4:=by
  simp_all
 have w:∀ {j:Array (Nat×Operand)},(∀x∈j.toList.map (·.2),e x=u4 x)->(j.map λ(i,x)=>(i,e x))=(j.map λ(i,x)=>(i,u4 x)):=by
  grind
 have g:∀ {r:Th},(∀x∈r.toArray.toList,e x=u4 x)->r.map e=r.map u4:=by
  intro r q;cases r with
  |none=>rfl
  |some y=>simp[q y c_]
 cases A<;>simp only[aA,ne_eq,not_true_eq_false,not_false_eq_true,reduceCtorEq]at C<;>simp only[Op.operands]at h
 case move x=>simp only[execOp,h x c_]
 case assign x=>simp only[execOp,h x c_]
 case pick c a b=>simp only[execOp,h c c_,h a c_,h b c_]
 case alloc t=>rfl
 case box t x=>simp only[execOp,h x c_]
 case build t ps=>simp only[execOp,w (by simpa using h)]
 case buildSlice t n ps=>simp only[execOp,w (by simpa using h)]
 case load t a=>simp only[execOp,h a c_]
 case store t a x=>simp only[execOp,h a c_,h x c_]
 case nilCheck x=>simp only[execOp,h x c_]
 case binOp A t x y yt=>simp only[execOp,h x c_,h y c_]
 case unOp A t x=>simp only[execOp,h x c_]
 case convert s d x=>simp only[execOp,h x c_]
 case makeFunc fn a b=>simp only[execOp,l (λx q=>h x (by simp;exact .inl (by simpa using q))),l (λx q=>h x (by simp;exact .inr (by simpa using q)))]
 case makeMap t r=>simp only[execOp,g h]
 case makeSlice t a b=>simp only[execOp,h a c_,h b c_]
 case slice t x a b c=>
  simp only[ZN,Fs]at h;simp only[execOp,h x c_,g (λy u=>h y (.inl (.inl (.inr u)))),g (λy u=>h y (.inl (.inr u))),g (λy u=>h y (.inr u))]
 case fieldAddr t x f=>simp only[execOp,h x c_]
 case field t x f=>simp only[execOp,h x c_]
 case indexAddr t x i=>simp only[execOp,h x c_,h i c_]
 case index t x i=>simp only[execOp,h x c_,h i c_]
 case lookup t x i ok=>simp only[execOp,h x c_,h i c_]
 case mapUpdate t m k v=>simp only[execOp,h m c_,h k c_,h v c_]
 case insert t m k v=>simp only[execOp,h m c_,h k c_,h v c_]
 case mapEntry t m k=>simp only[execOp,h m c_,h k c_]
 case entryStore t m s v=>simp only[execOp,h m c_,h s c_,h v c_]
 case extract t i=>simp only[execOp,h t c_]
 case call c=>
  have p:resolve e c B=resolve u4 c B:=by
   unfold resolve;simp only[Call.operands,ZN,Fs]at h
   grind
  simp only[execOp,p]
def pY{C:m8}{e u4:Tg}{o:Oper}(N:Tc)(b_:TC)(G:aA N b_ o≠none)(h:∀x∈o.op.operands.toList,e x=u4 x):au C b_ e o=au C b_ u4 o:=by
 have u:=execOp_congr N b_ G h;have w:∀(f:TR->Bool),(o.op.operands.toList.all λx=>f (e x))=(o.op.operands.toList.all λx=>f (u4 x)):=by
  grind
 have q:cN C e o=cN C u4 o:=by
  unfold cN;rw[w flat,u]
 have j:∀ {r:Th},(∀x∈r.toArray.toList,e x=u4 x)->r.map e=r.map u4:=by
  intro r u;cases r with
  |none=>rfl
  |some y=>simp[u y c_]
 have B:∀ {l:Array (Nat×Operand)},(∀x∈l.toList.map (·.2),e x=u4 x)->(l.toList.map λp=>(p.1,e p.2))=(l.toList.map λp=>(p.1,u4 p.2)):=by
  intro l u;refine ZP λp q=>?_
  grind
 have A:∀(f:TR->Bool) {l:Array (Nat×Operand)},(∀x∈l.toList.map (·.2),e x=u4 x)->(l.toList.all λp=>f (e p.2))=(l.toList.all λp=>f (u4 p.2)):=by
  grind
 obtain⟨dst,F,H,pos,g,guard⟩:=o;cases F<;>simp only[aA,ne_eq,not_true_eq_false,not_false_eq_true,reduceCtorEq]at G<;>simp only[Op.operands]at h
 case move x=>simp only[au,h x c_]
 case assign x=>simp only[au,h x c_]
 case pick c a b=>simp only[au,h c c_,h a c_,h b c_]
 case alloc t=>rfl
 case box t x=>simp only[au,h x c_]
 case build t ps=>simp only[au,B (by simpa using h),A (λv=>!aD v) (by simpa using h)]
 case buildSlice t n ps=>simp only[au,B (by simpa using h),A (λv=>v.cells.toList.all bg) (by simpa using h)]
 case load t a=>simp only[au,h a c_]
 case store t a x=>simp only[au,h a c_,h x c_]
 case nilCheck x=>simp only[au,h x c_]
 case binOp F t x y yt=>simp only[au,h x c_,h y c_,q]
 case unOp F t x=>simp only[au,q]
 case convert s d x=>simp only[au,q]
 case makeFunc fn a b=>
  have D:a.map e=a.map u4:=u9.1 j_;have E:b.map e=b.map u4:=u9.1 j_;simp only[au,D,E]
 case makeMap t r=>simp only[au,j h]
 case makeSlice t a b=>simp only[au,h a c_,h b c_]
 case slice t x a b c=>
  simp only[ZN,Fs]at h;simp only[au,h x c_,j (λy z=>h y (.inl (.inl (.inr z)))),j (λy z=>h y (.inl (.inr z))),j (λy z=>h y (.inr z)),q]
 case fieldAddr t x f=>simp only[au,h x c_]
 case field t x f=>simp only[au,h x c_]
 case indexAddr t x i=>simp only[au,h x c_,h i c_]
 case index t x i=>simp only[au,h x c_,h i c_]
 case lookup t x i ok=>simp only[au,h x c_,h i c_]
 case mapUpdate t m k v=>simp only[au,h m c_,h k c_,h v c_]
 case insert t m k v=>simp only[au,h m c_,h k c_,h v c_]
 case mapEntry t m k=>simp only[au,h m c_,h k c_]
 case entryStore t m s v=>simp only[au,h m c_,h s c_,h v c_]
 case extract t i=>simp only[au,h t c_]
 case call c=>
  simp only[Call.operands,ZN,Fs]at h;have D:c.args.toList.map e=c.args.toList.map u4:=ZP λx u=>h x (.inr u);have E:∀b,aY C e b (c.args.toList.map e) c.argTypes ⟨dst,.call c,H,pos,g,guard⟩=aY C u4 b (c.args.toList.map u4) c.argTypes ⟨dst,.call c,H,pos,g,guard⟩:=by
   intro b;unfold aY;rw[D,q]
  simp only[au,gZ];cases I:c.callee with
  |builtin b=>exact E b
  |value f=>grind
  |invoke r m=>rfl
structure Ef where
 v:Value
 rw:Option (Nat×Option (Tn))
 hp:Option (Tu)
def Ef.on(e:Ef)(dst:Tq)(g9:St):St:=
 ({ tmps:=g9.tmps,loc:=(match e.rw with|some p=>g9.loc.set p.1 p.2|none=>g9.loc),heap:=e.hp.getD g9.heap }:St).put dst e.v
def D2(N:Tc)(b_:TC)(ops:To)(o:Oper)(g9 j8:St):Prop:=
 (∀t∈bo ops o,j8.tmps[t]?=g9.tmps[t]?)/\match aA N b_ o with
 |some (.row s _)=>j8.loc[s]?=g9.loc[s]?
 |some .hr=>j8.heap=g9.heap
 |some .hw=>j8.heap=g9.heap
 |_=>True
def ER(N:Tc)(B:Below):Prop:=(∀f args H r H',N f=some (2*args.length)->B.call f args H r H'->H'=H/\∀a,B.call f args a r a)/\
 ∀f args H r H',N f=some (2*args.length+1)->B.call f args H r H'->H'=H
def vz(m:Option MC)(e:Ef):Prop:=
 (∀p,e.rw=some p->m=some (.row p.1 true))/\(e.hp≠none->m=some .hw)
def nj{g9 j8:St}{x:TL}(h:∀t,x = .tmp t->j8.tmps[t]?=g9.tmps[t]?):jn j8.tmps x=jn g9.tmps x:=by
 cases x with
 |tmp t=>simp[jn,List.getD_eq_getElem?_getD,h t rfl]
 |_=>rfl
def Bq{N:Tc}{b_:TC}{ops:To}{o:Oper}{g9 j8:St}(h:D2 N b_ ops o g9 j8):∀x∈o.op.operands.toList,jn j8.tmps x=jn g9.tmps x:=by
 intro x b;refine nj λt a=>h.1 t ?_;subst a;simp only[bo,Fs,SD]
 grind
def ot{N:Tc}{b_:TC}{ops:To}{o:Oper}{g9 j8:St}(h:D2 N b_ ops o g9 j8):cE ops j8.tmps o=cE ops g9.tmps o:=by
 unfold cE;split
 .rfl
 next j a c=>
  cases b:(ops[j]?).bind (·.dst)with
  |none=>rfl
  |some d=>
   simp only[Ex];rw[h.1 d (by simp[bo,c,b])]
def wd(N:Tc)(m:Option MC):EZ->Prop
 | .val _=>True
 | .GU s _=>m=some (.row s true)
 | .Ir s _=>m=some (.row s false)
 | .GV s _=>m=some (.row s true)
 | .Gf _=>m=some .hr
 | .Hk _=>m=some .hw
 | .call f args=>(m=some (.neu f)/\N f=some (2*args.length))∨(m=some .hr/\N f=some (2*args.length+1))∨m=some .hw
 | .yield _ _=>m=some .hw
def fz{N:Tc}{m:Option MC}{x:Tk}{e:EZ}(h:x.map EZ.val=some e):wd N m e:=by
 obtain⟨v,_,rfl⟩:=EC.1 h;trivial
def fe{C:m8}{a:Tg}{o:Oper}{N:Tc}{m:Option MC}{e:EZ}(h:cN C a o=some e):wd N m e:=by
 unfold cN at h;split at h
 .split at h
  .split at h
   .cases h;trivial
   .cases h
  .cases h
 .cases h
def Wp{N:Tc}{m:Option MC}{a:Tk}{b:Option EZ}{e:EZ}(c:b=some e->wd N m e)(h:qL a b=some e):wd N m e:=by
 unfold qL at h;split at h
 .cases h;trivial
 .exact c h
def qg{C:m8}{N:Tc}{b_:TC}{o:Oper}{t:TP}{v:TR}{e:EZ}(ho:(∃y,o.op = .box t y)∨o.op = .alloc t)(h:cM C b_ o.dst t v=some e):wd N (aA N b_ o) e:=by
 unfold cM at h;split at h
 .cases h
 .split at h
  .cases h
  next d b=>
   split at h
   .cases h
   .split at h
    next a=>
     cases h;rcases ho with⟨y,ho⟩|ho<;>(simp only[wd,aA,ho,b];rw[qs a])
    next a=>
     cases h;rcases ho with⟨y,ho⟩|ho<;>(simp only[wd,aA,ho,b];rw[rv a])
def jo{C:m8}{N:Tc}{b_:TC}{w:Tg}{o:Oper}{e:EZ}(A:∀g,w (.func g) = .func (.func g) #[] #[])(D:aA N b_ o≠none)(d:au C b_ w o=some e):wd N (aA N b_ o) e:=by
 unfold au at d;split at d
 .cases d;trivial
 .cases d;trivial
 .split at d
  .cases d;trivial
  .cases d
 next t h=>
  obtain⟨z,_,d⟩:=FY.1 d;exact qg (.inr h) d
 next t x h=>
  exact qg (.inl ⟨x,h⟩) d
 .split at d
  .exact fz d
  .cases d
 next t n H h=>
  split at d
  .obtain⟨r,_,rfl⟩:=EC.1 d;simp only[wd,aA,h]
  .cases d
 next t a h=>
  unfold eG at d;split at d
  next j=>
   split at d
   .cases d;simp only[wd,aA,h,j]
   .obtain⟨p,_,rfl⟩:=EC.1 d;simp only[wd,aA,h,j]
  .obtain⟨p,_,d⟩:=FY.1 d;exact fz d
  next s j=>
   obtain⟨p,_,rfl⟩:=EC.1 d;simp only[wd,aA,h,j]
 next t a x h=>
  unfold fF at d;split at d
  .cases d
  .split at d
   next j=>
    obtain⟨p,_,rfl⟩:=EC.1 d;simp only[wd,aA,h,j]
   .cases d
   next s j=>
    obtain⟨p,_,rfl⟩:=EC.1 d;simp only[wd,aA,h,j]
 .split at d<;>cases d<;>trivial
 .split at d
  .split at d
   .split at d
    .cases d;trivial
    .cases d
   .exact fe d
  .split at d
   .split at d
    .cases d;trivial
    .cases d
   .exact fe d
  .exact fe d
 .split at d
  .cases d
  .cases d;trivial
 next t r h=>
  split at d
  .cases d;simp only[wd,aA,h]
  .cases d
 next t l c h=>
  cases d;simp only[wd,aA,h]
 next t x E B F h=>
  split at d
  .split at d
   .exact fz d
   .cases d;simp only[wd,aA,h]
  .exact Wp fe d
 .exact fz d
 .exact fz d
 .exact fz d
 .exact fz d
 next t m k G h=>
  split at d
  .exact fz d
  .cases d;simp only[wd,aA,h]
 next t m k v h=>
  cases d;simp only[wd,aA,h]
 next t m k v h=>
  cases d;simp only[wd,aA,h]
 next t m k h=>
  cases d;simp only[wd,aA,h]
 next t m s v h=>
  cases d;simp only[wd,aA,h]
 .split at d
  .split at d
   .cases d
   .exact fz d
  .cases d
 next c h=>
  unfold gZ at d;simp only at d;cases i:c.callee with
  |invoke r m=>simp_all
  |builtin b=>
   simp only[i]at d;unfold aY at d;split at d
   .split at d
    .cases d
    .cases d;simp only[wd,aA,h,i]
   .split at d
    .cases d;trivial
    .cases d;simp only[wd,aA,h,i]
    .cases d;trivial
    .exact fe d
   .split at d
    .cases d;trivial
    .cases d;trivial
    .cases d;trivial
    .cases d
   .cases d;simp only[wd,aA,h,i]
   .cases d;simp only[wd,aA,h,i]
   .cases d;simp only[wd,aA,h,i]
   .exact fe d
  |value f=>
   simp only[i]at d;split at d
   .cases d
   .split at d
    next g first q u=>
     split at d
     .cases d;cases f with
      |func y=>
       rw[A]at u;cases u;simp only[aA,h,i,wd]
       grind
      |_=>simp only[wd,aA,h,i,or_true]
     .cases d
    next l first q u=>
     split at d
     .cases d;cases f with
      |func y=>simp_all
      |_=>simp only[wd,aA,h,i]
     .cases d
    .cases d
 .exact fe d
 .exact fe d
 .cases d
def jJ{C:m8}{B:Below}{N:Tc}(L:ER N B){b_:TC}{ops:To}{i:Nat}{o:Oper}(I:ops[i]?=some o)(m:aA N b_ o≠none){g9 A:St}(u:aq C B b_ ops i g9 A) :
  ∃e:Ef,A=e.on o.dst g9/\vz (aA N b_ o) e/\∀j8,D2 N b_ ops o g9 j8->aq C B b_ ops i j8 (e.on o.dst j8):=by
 unfold aq at u;simp only[I]at u;have val:∀v:Value,A=g9.put o.dst v->(∀j8,D2 N b_ ops o g9 j8->aq C B b_ ops i j8 (j8.put o.dst v))->
   ∃e:Ef,A=e.on o.dst g9/\vz (aA N b_ o) e/\∀j8,D2 N b_ ops o g9 j8->aq C B b_ ops i j8 (e.on o.dst j8):=by
  intro v j h;exact⟨⟨v,none,none⟩,j,⟨λp c=>(by cases c),λh=>absurd rfl h⟩,h⟩
 split at u
 .exact u.elim
 next J=>
  refine val undef u λj8 b=>?_;unfold aq;simp only[I,ot b,J]
 next J=>
  have step:∀ {j8 D:St},D2 N b_ ops o g9 j8->((∃e,au C b_ (jn j8.tmps) o=some e/\nP B e o.dst j8 D)∨(∃v,oh C j8.tmps o v/\D=j8.put o.dst v))->aq C B b_ ops i j8 D:=by
   intro j8 D b h;unfold aq;simp only[I,ot b,J];exact h
  rcases u with⟨e,n,t⟩|⟨v,j,rfl⟩
  .have k:∀j8,D2 N b_ ops o g9 j8->au C b_ (jn j8.tmps) o=some e:=λj8 b=>by
    rw[pY N b_ m (Bq b)];exact n
   cases e with
   |val v=>
    obtain⟨p,c,rfl⟩:=t;cases c;exact val v rfl λj8 b=>step b (.inl ⟨_,k j8 b,_,rfl,rfl⟩)
   |GU s E=>
    obtain⟨p,c,rfl⟩:=t;simp only[aX]at c;split at c
    next g=>
     cases c;have a:aA N b_ o=some (.row s true):=jo (λ_=>rfl) m n;refine⟨⟨.pointer (some ⟨s,0,some 0⟩),some (s,some E),none⟩,rfl,⟨λp c=>by cases c;exact a,λh=>absurd rfl h⟩,λj8 b=>step b (.inl ⟨_,k j8 b,({ j8 with loc:=j8.loc.set s (some E) },.pointer (some ⟨s,0,some 0⟩)),?_,rfl⟩)⟩;have:=b.2;rw[a]at this;simp only[aX,this,g]
    .cases c
   |Ir s f=>
    obtain⟨p,c,rfl⟩:=t;simp only[aX]at c;split at c
    next E g=>
     obtain⟨v,j,rfl⟩:=EC.1 c;have a:aA N b_ o=some (.row s false):=jo (λ_=>rfl) m n;refine val v rfl λj8 b=>step b (.inl ⟨_,k j8 b,(j8,v),?_,rfl⟩);have:=b.2;rw[a]at this;simp only[aX,this,g,j,FJ]
    .cases c
   |GV s f=>
    obtain⟨p,c,rfl⟩:=t;simp only[aX]at c;split at c
    next E g=>
     obtain⟨z,j,rfl⟩:=EC.1 c;have a:aA N b_ o=some (.row s true):=jo (λ_=>rfl) m n;refine⟨⟨undef,some (s,some z),none⟩,rfl,⟨λp c=>by cases c;exact a,λh=>absurd rfl h⟩,λj8 b=>step b (.inl ⟨_,k j8 b,({ j8 with loc:=j8.loc.set s (some z) },undef),?_,rfl⟩)⟩;have:=b.2;rw[a]at this;simp only[aX,this,g,j,FJ]
    .cases c
   |Gf f=>
    obtain⟨p,c,rfl⟩:=t;simp only[aX]at c;obtain⟨v,j,rfl⟩:=EC.1 c;have a:aA N b_ o=some .hr:=jo (λ_=>rfl) m n;refine val v rfl λj8 b=>step b (.inl ⟨_,k j8 b,(j8,v),?_,rfl⟩);have:=b.2;rw[a]at this;simp only[aX,this,j,FJ]
   |Hk f=>
    obtain⟨p,c,rfl⟩:=t;simp only[aX]at c;obtain⟨q,j,rfl⟩:=EC.1 c;have a:aA N b_ o=some .hw:=jo (λ_=>rfl) m n;refine⟨⟨q.2,none,some q.1⟩,rfl,⟨λp c=>(by cases c),λ_=>a⟩,λj8 b=>step b (.inl ⟨_,k j8 b,({ j8 with heap:=q.1 },q.2),?_,rfl⟩)⟩;have:=b.2;rw[a]at this;simp only[aX,this,j,FJ]
   |call f d=>
    obtain⟨r,H,F,rfl⟩:=t;have a:(aA N b_ o=some (.neu f)/\N f=some (2*d.length))∨(aA N b_ o=some .hr/\N f=some (2*d.length+1))∨aA N b_ o=some .hw:=jo (λ_=>rfl) m n;rcases a with⟨a,G⟩|⟨a,G⟩|a
    .obtain⟨rfl,K⟩:=L.1 f d _ r H G F;exact val r rfl λj8 b=>step b (.inl ⟨_,k j8 b,r,j8.heap,K j8.heap,rfl⟩)
    .obtain rfl:=L.2 f d _ r H G F;refine val r rfl λj8 b=>step b (.inl ⟨_,k j8 b,r,j8.heap,?_,rfl⟩);have:=b.2
     simp_all
    .refine⟨⟨r,none,some H⟩,rfl,⟨λp c=>(by cases c),λ_=>a⟩,λj8 b=>step b (.inl ⟨_,k j8 b,r,H,?_,rfl⟩)⟩;have:=b.2
     simp_all
   |yield l d=>
    obtain⟨r,H,F,rfl⟩:=t;have a:aA N b_ o=some .hw:=jo (λ_=>rfl) m n;refine⟨⟨r,none,some H⟩,rfl,⟨λp c=>(by cases c),λ_=>a⟩,λj8 b=>step b (.inl ⟨_,k j8 b,r,H,?_,rfl⟩)⟩;have:=b.2
    simp_all
  .refine val v rfl λj8 b=>step b (.inr ⟨v,?_,rfl⟩);obtain⟨M,K,O,P⟩:=j;have y:=Bq b;refine⟨M,?_,O,λw=>?_⟩
   .simp_all
   .rw[execOp_congr N b_ m (u4:=λx=>GE (jn g9.tmps x)) λx Q=>by rw[y x Q]];exact P w
def MC.ok2:MC->MC->Bool
 | .no,_=>true
 |_,.no=>true
 | .row s w,.row a w'=>!Nat.beq s a||(!w && !w')
 | .row _ _,_=>true
 |_,.row _ _=>true
 | .neu _,_=>true
 |_,.neu _=>true
 | .hr,.hr=>true
 |_,_=>false
def bA(d:Tq)(l:TC):Bool:=match d with
 |some d=>!l.contains d
 |none=>true
def bi(a b:Tq):Bool:=match a,b with
 |some a,some b=>!Nat.beq a b
 |_,_=>true
def BW(N:Tc)(b_:TC)(ops:To)(a b:Oper):Bool:=
 match aA N b_ a,aA N b_ b with
 |some m,some n=>(m.ok2 n||lG a b)&&bA a.dst (bo ops b)&&bA b.dst (bo ops a)&&bi a.dst b.dst
 |_,_=>false
def uS{g9:St}{d:Tq}{v:TR}{t:Nat}(h:∀x,d=some x->x≠t):(g9.put d v).tmps[t]?=g9.tmps[t]?:=by
 cases d with
 |none=>rfl
 |some x=>simp only[St.put];simp_all
def uT{g9:St}{d:Tq}{v:TR}:(g9.put d v).loc=g9.loc:=by cases d<;>rfl
def md{g9:St}{d:Tq}{v:TR}:(g9.put d v).heap=g9.heap:=by cases d<;>rfl
def uU{g9:St}{d:Tq}{v:TR}:(g9.put d v).tmps=(match d with|some d=>g9.tmps.set d v|none=>g9.tmps):=by cases d<;>rfl
def mX{e:Ef}{d:Tq}{g9:St}:(e.on d g9).tmps=(match d with|some d=>g9.tmps.set d e.v|none=>g9.tmps):=by unfold Ef.on;rw[uU]
def AP{e:Ef}{d:Tq}{g9:St}:(e.on d g9).loc=(match e.rw with|some p=>g9.loc.set p.1 p.2|none=>g9.loc):=by unfold Ef.on;rw[uT]
def eI{e:Ef}{d:Tq}{g9:St}:(e.on d g9).heap=e.hp.getD g9.heap:=by unfold Ef.on;rw[md]
def BJ{N:Tc}{b_:TC}{ops:To}{a b:Oper}{m n:MC}(o:aA N b_ a=some m)(q:aA N b_ b=some n)(c:m.ok2 n=true∨n.ok2 m=true)
  (i:bA a.dst (bo ops b)=true) {e:Ef} (g:vz (aA N b_ a) e) (g9:St):D2 N b_ ops b g9 (e.on a.dst g9):=by
 refine⟨λt hr=>?_,?_⟩
 .unfold Ef.on;refine uS λx r j=>?_;subst j;rw[r]at i;simp only[bA,ZI,qcu,decide_eq_false_iff_not]at i;exact i hr
 .rw[o]at g;rw[q];cases n with
  |no=>trivial
  |neu f=>trivial
  |row s w=>
   show(e.on a.dst g9).loc[s]?=_;rw[AP];cases l:e.rw with
   |none=>rfl
   |some p=>
    have d:=g.1 p l;cases d;have:p.1≠s:=by
     intro j;subst j;rcases c with h|h<;>simp[MC.ok2]at h
    simp_all
  |hr=>
   show(e.on a.dst g9).heap=_;rw[eI];cases k:e.hp with
   |none=>rfl
   |some H=>
    have d:=g.2 (by rw[k];simp);cases d;rcases c with h|h<;>cases h
  |hw=>
   show(e.on a.dst g9).heap=_;rw[eI];cases k:e.hp with
   |none=>rfl
   |some H=>
    have d:=g.2 (by rw[k];simp);cases d;rcases c with h|h<;>cases h
def set_comm{j7:Type}(l:List j7){i j:Nat}(a b:j7)(h:i≠j):(l.set i a).set j b=(l.set j b).set i a:=List.set_comm _ _ h
def Mx{N:Tc}{b_:TC}{a b:Oper}{m n:MC}(k:aA N b_ a=some m)(l:aA N b_ b=some n)(c:m.ok2 n=true)(o:bi a.dst b.dst=true){e f:Ef}
  (r:vz (aA N b_ a) e) (s:vz (aA N b_ b) f) (g9:St):f.on b.dst (e.on a.dst g9)=e.on a.dst (f.on b.dst g9):=by
 have t:(f.on b.dst (e.on a.dst g9)).tmps=(e.on a.dst (f.on b.dst g9)).tmps:=by
  simp only[mX];cases h:a.dst with
  |none=>rfl
  |some x=>
   cases i:b.dst with
   |none=>rfl
   |some y=>
    rw[h,i]at o;have:x≠y:=by
     intro j;subst j;simp[bi]at o
    exact set_comm _ _ _ this
 have u:(f.on b.dst (e.on a.dst g9)).loc=(e.on a.dst (f.on b.dst g9)).loc:=by
  simp only[AP];cases h:e.rw with
  |none=>rfl
  |some p=>
   cases i:f.rw with
   |none=>rfl
   |some q=>
    have d:=r.1 p h;have g:=s.1 q i;rw[k]at d;rw[l]at g;cases d;cases g;have:p.1≠q.1:=by
     intro j;rw[j]at c;simp[MC.ok2]at c
    exact set_comm _ _ _ this
 have v:(f.on b.dst (e.on a.dst g9)).heap=(e.on a.dst (f.on b.dst g9)).heap:=by
  simp only[eI];cases h:e.hp with
  |none=>rfl
  |some p=>
   cases i:f.hp with
   |none=>rfl
   |some q=>
    have d:=r.2 (by rw[h];simp);have g:=s.2 (by rw[i];simp);rw[k]at d;rw[l]at g;cases d;cases g;cases c
 generalize f.on b.dst (e.on a.dst g9)=x at *;generalize e.on a.dst (f.on b.dst g9)=y at *;cases x;simp_all
def zu{ops:To}{o:Oper}{g9 j8:St}(h:∀t∈bo ops o,j8.tmps[t]?=g9.tmps[t]?):cE ops j8.tmps o=cE ops g9.tmps o:=by
 unfold cE;split
 .rfl
 next j a c=>
  cases b:(ops[j]?).bind (·.dst)with
  |none=>rfl
  |some d=>
   simp only[Ex];rw[h d (by simp[bo,c,b])]
def AU{ops:To}{o:Oper}{g9 j8:St}(h:∀t∈bo ops o,j8.tmps[t]?=g9.tmps[t]?):∀x∈o.op.operands.toList,jn j8.tmps x=jn g9.tmps x:=by
 intro x b;refine nj λt a=>h t ?_;subst a;simp only[bo,Fs,SD]
 grind
def CO{C:m8}{B:Below}{N:Tc}(k:ER N B){b_:TC}{ops:To}{i j:Nat}{a b:Oper}(l:ops[i]?=some a)(m:ops[j]?=some b)(d:lG a b=true)
  (e:bA a.dst (bo ops b)=true) (f:bA b.dst (bo ops a)=true) (g:bi a.dst b.dst=true) {g9 j9 c:St}
  (h1:aq C B b_ ops i g9 j9) (h:aq C B b_ ops j j9 c):∃j8,aq C B b_ ops j g9 j8/\aq C B b_ ops i j8 c:=by
 cases d
def Yj{C:m8}{B:Below}{N:Tc}(k:ER N B){b_:TC}{ops:To}{i j:Nat}{a b:Oper}(r:ops[i]?=some a)(s:ops[j]?=some b)(c:BW N b_ ops a b=true){g9 j9 u:St}
  (h1:aq C B b_ ops i g9 j9) (q:aq C B b_ ops j j9 u):∃j8,aq C B b_ ops j g9 j8/\aq C B b_ ops i j8 u:=by
 unfold BW at c;split at c
 next m n d g=>
  simp only[te]at c;obtain⟨⟨⟨c1,l⟩,o⟩,p⟩:=c;rw[GN]at c1;rcases c1 with c1|c1
  case inr=>exact CO k r s c1 l o p h1 q
  obtain⟨e,rfl,v,y⟩:=jJ k r (by rw[d];simp) h1;obtain⟨f,rfl,w,z⟩:=jJ k s (by rw[g];simp) q;have A:D2 N b_ ops b (e.on a.dst g9) g9:=by
   have:=BJ d g (.inl c1) l v g9;refine⟨λt x=>(this.1 t x).symm,?_⟩;have h:=this.2
   grind
  have D:D2 N b_ ops a g9 (f.on b.dst g9):=BJ g d (.inr c1) o w g9;refine⟨f.on b.dst g9,z g9 A,?_⟩;rw[Mx d g c1 p v w g9];exact y _ D
 .cases c
end
end Sx
namespace Sx
section
variable [DB] {C:m8} {B:Below} {N:Tc} {b_:TC} {ops:To}
def sx{i:Nat}{post:TC}:∀(pre:TC),(∀k∈pre,∀g9 j9 a:St,aq C B b_ ops k g9 j9->aq C B b_ ops i j9 a->∃j8,aq C B b_ ops i g9 j8/\aq C B b_ ops k j8 a)->
  ∀g9 a:St,br C B b_ ops (pre++i :: post) g9 a->br C B b_ ops (i :: (pre++post)) g9 a
 | [],_,g9,a,h=>h
 |k :: pre,b,g9,a,⟨j9,h1,d⟩=>by
  obtain⟨c,e,f⟩:=sx pre (λk l=>b k (by simp[l])) j9 a d;obtain⟨j8,g,j⟩:=b k c_ g9 j9 c h1 e;exact⟨j8,g,c,j,f⟩
inductive JY(ops:To)(k:Nat):Nat->Prop
 |edge {i:Nat} {o:Oper} {e:Edge} (ho:ops[i]?=some o) (he:e∈o.after.toList) (hb:Region.binds .any e=true) (hk:e.on=k):JY ops k i
 |step {i:Nat} {o:Oper} {e:Edge} (ho:ops[i]?=some o) (he:e∈o.after.toList) (hb:Region.binds .any e=true) (h:JY ops k e.on):JY ops k i
def PD{b:TC}(d:∀(i k:Nat),(b.getD i 0).testBit k=true->JY ops k i){i:Nat}{o:Oper}(n:ops[i]?=some o){k:Nat}(h:(Le b o).testBit k=true):JY ops k i:=by
 unfold Le at h;have f:∀(l:List Edge) (m:Nat),(∀e∈l,e∈o.after.toList)->(m.testBit k=true->JY ops k i)->
   (l.foldl (λm e=>match Region.binds .any e with
    |true=>Nat.lor (Nat.lor m (Nat.shiftLeft 1 e.on)) (b.getD e.on 0)
    |false=>m) m).testBit k=true->JY ops k i:=by
  intro l
  induction l with
  |nil=>simp_all
  |cons e l r=>
   intro m g q h;simp only[XR]at h;refine r _ (λe p=>g e (by simp[p])) (λj=>?_) h;cases c:Region.binds .any e with
   |false=>simp_all
   |true=>
    simp only[c]at j;have a:((m ||| (1 <<< e.on)) ||| b.getD e.on 0).testBit k=true:=j;rw[Nat.testBit_or,Nat.testBit_or,GN,GN]at a;rcases a with(a|a)|a
    .exact q a
    .rw[Nat.one_shiftLeft,Nat.testBit_two_pow]at a;exact .edge n (g e c_) c (by simpa using a)
    .exact .step n (g e c_) c (d _ _ a)
 exact f _ 0 (λ_ h=>h) (λh=>by simp at h) h
def pH:∀(l:TA) (a:TC),ops.toList.drop a.length=l->(∀(i k:Nat),(a.getD i 0).testBit k=true->JY ops k i)->∀(i k:Nat),((Gy l a).getD i 0).testBit k=true->JY ops k i
 | [],a,_,b=>b
 |o :: l,a,c,b=>by
  have f:ops[a.length]?=some o:=by
   have:(ops.toList.drop a.length)[0]?=some o:=by rw[c];rfl
   simpa using this
  refine pH l (a++[Le a o]) (by rw[HY,←B0,c];rfl) λi k h=>?_;rw[List.getD_eq_getElem?_getD,d8]at h;split at h
  .simp_all
  next d=>
   by_cases e:i=a.length
   .subst e;simp at h;exact PD b f h
   grind
def fV:TA->Nat->Bool
 | [],_=>true
 |o :: l,i=>(o.after.toList.all λe=>!Region.binds .any e||Nat.blt e.on i)&&fV l (i+1)
def tH(N:Tc)(b_:TC)(ops:To)(b:Oper)(m:Nat):TA->Nat->Bool
 | [],_=>true
 |a :: l,k=>(Nat.testBit m k||BW N b_ ops a b)&&tH N b_ ops b m l (k+1)
def uL(N:Tc)(b_:TC)(ops:To)(ms:TC):TA->TA->Nat->Bool
 |_,[],_=>true
 |pre,b :: l,i=>tH N b_ ops b (ms.getD i 0) pre 0&&uL N b_ ops ms (pre++[b]) l (i+1)
def xh(N:Tc)(b_:TC)(ops:To):Bool:=
 fV ops.toList 0&&uL N b_ ops (Gy ops.toList []) [] ops.toList 0
def eY:∀ {l:TA} {i:Nat},fV l i=true->∀(j:Nat) o,l[j]?=some o->∀e∈o.after.toList,Region.binds .any e=true->e.on<i+j
 | [],i,_,j,o,h,_,_,_=>by simp at h
 |o :: l,i,h,j,p,a,e,b,c=>by
  simp only[fV,te,A_]at h;cases j with
  |zero=>
   simp at a;subst a;have:=h.1 e b
   simp_all
  |succ j=>
   have:=eY h.2 j p (by simpa using a) e b c;omega
def rP{b:Oper}{m:Nat}:∀ {l:TA} {k:Nat},tH N b_ ops b m l k=true->∀(j:Nat) a,l[j]?=some a->m.testBit (k+j)=true∨BW N b_ ops a b=true
 | [],k,_,j,a,h=>by simp at h
 |a :: l,k,h,j,c,d=>by
  simp only[tH,te,GN]at h;cases j with
  |zero=>simp_all
  |succ j=>
   have:=rP h.2 j c (by simpa using d)
   grind
def sG{ms:TC}:∀ {l pre:TA} {i:Nat},pre.length=i->uL N b_ ops ms pre l i=true->∀(j:Nat) b,l[j]?=some b->∀(k:Nat) a,k<i+j->(pre++l)[k]?=some a->(ms.getD (i+j) 0).testBit k=true∨BW N b_ ops a b=true
 | [],pre,i,_,_,j,b,h,_,_,_,_=>by simp at h
 |b :: l,pre,i,f,h,j,c,e,k,a,g,d=>by
  simp only[uL,te]at h;cases j with
  |zero=>
   simp at e;subst e;rw[H3 a_]at d;have:=rP h.1 k a d;simpa using this
  |succ j=>
   have:=sG (pre:=pre++[b]) (i:=i+1) (by simp[f]) h.2 j c (by simpa using e) k a a_ (by simpa using d)
   grind
def Cz(h:xh N b_ ops=true){i k:Nat}{a b:Oper}(d:ops[i]?=some b)(c:ops[k]?=some a)(e:k<i):JY ops k i∨BW N b_ ops a b=true:=by
 simp only[xh,te]at h;have:=sG (pre:=[]) (i:=0) rfl h.2 i b (by simpa using d) k a a_ (by simpa using c);rw[F9]at this;exact this.imp (λh=>pH ops.toList [] rfl (λi k h=>by simp at h) i k h) id
def Cy(h:xh N b_ ops=true){i:Nat}{o:Oper}(c:ops[i]?=some o){e:Edge}(b:e∈o.after.toList)(a:Region.binds .any e=true):e.on<i:=by
 simp only[xh,te]at h;have:=eY h.1 i o (by simpa using c) e b a;omega
def F0(n:Nat)(a:Array Bool):TC:=(range n).filter λi=>!a.getD i true
def rH{a:Array Bool}(c:∀(x:Nat) o,a.getD x true=true->ops[x]?=some o->∀e∈o.after.toList,Region.binds .any e=true->a.getD e.on false=true){k i:Nat}(h:JY ops k i)
  (j:∀o,ops[i]?=some o->∀e∈o.after.toList,Region.binds .any e=true->a.getD e.on false=true):a.getD k false=true:=by
 induction h with
 |edge f d b g=>grind
 |step f d b h l=>
  grind
abbrev _root_.Tx:=Nat->Bool
def jh{p:Tx}{i:Nat}:∀ {l:TC},l.Nodup->i∈l.filter p->∃pre post,l.filter p=pre++i :: post/\(l.filter λj=>p j&&j != i)=pre++post/\(∀k∈pre,k∈l.filter p/\k≠i)
 | [],_,h=>by simp at h
 |x :: l,a,h=>by
  rw[w9]at a;by_cases f:x=i
  .subst f;have b:p x=true:=(GH.1 h).2;refine⟨[],l.filter p,by simp[b],?_,c_⟩;simp only[EG,List.filter_cons,b,bne_self_eq_false,Bool.and_false,Fh,if_false];refine qdh λj d=>?_;have:j≠x:=λe=>a.1 (e▸d);simp[this]
  .have c:i∈l.filter p:=by
    grind
   obtain⟨pre,post,g,m,e3⟩:=jh a.2 c
   grind
def nR{p:Tx}:∀ {n:Nat} {pre post:TC} {i:Nat},(range n).filter p=pre++i :: post->∀k∈pre,k<i:=by
 intro n pre post i h k b;have a:((range n).filter p).Pairwise (· < ·):=qcW _ h8;rw[h,bb]at a
 simp_all
def Zf(V:ER N B)(c:xh N b_ ops=true):∀(fuel t:Nat) (a:Array Bool),a.size=ops.size->(F0 ops.size a).length=fuel->
  (∀(x:Nat) o,a.getD x true=true->ops[x]?=some o->∀e∈o.after.toList,Region.binds .any e=true->a.getD e.on false=true)->
  ∀g9 p:St,br C B b_ ops (F0 ops.size a) g9 p->br C B b_ ops (Region.linearise.go .any ops fuel t a []) g9 p
 |0,t,a,_,Y,_,g9,p,h=>by
  have:F0 ops.size a=[]:=Ph.1 Y;rw[this]at h;simpa[Region.linearise.go]using h
 |fuel+1,t,a,Q,Y,u,g9,p,h=>by
  simp only[Region.linearise.go];generalize z:((range ops.size).filter λi=>!a.getD i true&&((ops[i]?).map (·.after.all λe=>!Region.binds .any e||a.getD e.on false)).getD false)=rs;have f:∀i∈rs,i<ops.size/\a.getD i true=false/\∀o,ops[i]?=some o->∀e∈o.after.toList,Region.binds .any e=true->a.getD e.on false=true:=by
   intro i K;rw[←z,GH,CY]at K;obtain⟨h1,H⟩:=K;simp only[te,ZI]at H;refine⟨h1,H.1,λo r e D m=>?_⟩;have I:=H.2;rw[r]at I;simp only[FJ,U0]at I;rw[qcE]at I
   grind
  have P:rs≠[]:=by
   have hu:F0 ops.size a≠[]:=i_;obtain⟨F,tl,n⟩:=qc6 hu;have L:F∈F0 ops.size a:=by rw[n];simp
   have d:=L;rw[F0,GH,CY]at d;have g:F∈rs:=by
    rw[←z,GH,CY];refine⟨d.1,?_⟩;simp only[te];refine⟨d.2,?_⟩;have r:ops[F]?=some ops[F]:=by simp[d.1]
    rw[r];simp only[FJ,U0];rw[qcE];intro e D;cases m:Region.binds .any e with
    |false=>simp
    |true=>
     have ad:=Cy c r (by simpa using D) m;simp only[EX,gu];by_cases Z:a.getD e.on true=true
     .grind
     .exfalso;have E:e.on∈F0 ops.size a:=by
       rw[F0,GH,CY]
       grind
      rw[n]at E;rcases EL.1 E with E|E
      .omega
      .have hs:(F0 ops.size a).Pairwise (· < ·):=qcW _ h8;rw[n,KH]at hs
       grind
   grind
  have b:0<rs.length:=w4.2 P;have v:rs[t%rs.length]?=some (rs[t%rs.length]'(KK _ b)):=Gm (KK _ b);rw[v];simp only;generalize K:rs[t%rs.length]'(KK _ b)=i;have g:i∈rs:=i_;obtain⟨i1,i2,i3⟩:=f i g;rw[linearise_go_acc,List.reverse_singleton,List.singleton_append];have M:i∈(range ops.size).filter λj=>!a.getD j true:=by
   simp_all
  obtain⟨q,post,G,e2,e3⟩:=jh List.nodup_range M;have w:=nR G;have l:F0 ops.size (a.setIfInBounds i true)=q++post:=by
   rw[←e2];unfold F0;refine qdh λj hj=>?_;rw[XM,XM,ZK]
   grind
  have O:=sx (C:=C) (B:=B) (b_:=b_) (ops:=ops) (i:=i) (post:=post) q (λk X g9 S p T U=>by
   obtain⟨m1,m2⟩:=e3 k X;rw[GH,CY]at m1;have W:ops[k]?=some ops[k]:=by simp[m1.1]
   have m:ops[i]?=some ops[i]:=by simp[i1]
   rcases Cz c m W (w k X)with s|J
   .exfalso;have:=rH u s i3
    grind
   .exact Yj V W m J T U) g9 p
  obtain⟨S,T,U⟩:=O (by rw[←G];exact h);refine⟨S,T,Zf V c fuel _ _ (by simp[Q]) ?_ ?_ S p (by rw[l];exact U)⟩
  .rw[l];have:(F0 ops.size a).length=(q++post).length+1:=by
    show(List.filter _ _).length=_;rw[G];simp;omega
   omega
  .intro x o hx r e D m;have A:∀y,a.getD y false=true->(a.setIfInBounds i true).getD y false=true:=by
    intro y hy;rw[XM]at hy ⊢;rw[ZK]
    grind
   by_cases R:x=i
   .simp_all
   .refine A _ (u x o ?_ r e D m);rw[XM,ZK,rv (λe=>R e.symm)]at hx
    simp_all
def C6(d:ER N B)(a:xh N b_ ops=true){g9 b:St}(h:br C B b_ ops (range ops.size) g9 b):eW C B b_ ops g9 b:=by
 refine .inl λt=>?_;have c:F0 ops.size (Array.replicate ops.size false)=range ops.size:=by
  unfold F0
  simp_all
 refine Zf d a ops.size t (Array.replicate ops.size false) c_ (by rw[c];simp) (λx o g f=>?_) g9 b (by rw[c];exact h);have e:x<ops.size:=(JX.1 f).1
 simp_all
end
end Sx
namespace Sx
section
variable [DB] [En] {C:m8}
def Lo(v:Value):Prop:=match v with
 | .pointer (some p)=>p.spot=some 0
 |_=>True
def Bf{v:TR}(h:plain v=true):Lo v:=by
 cases v<;>try trivial
 rename_i a
 cases a<;>first|trivial|(simp[plain,ky,scalar,jV]at h)
def NQ{a:TC}{v:TR}(h:Lo v):Lo (kf a v):=by
 unfold kf
 repeat' split
 all_goals first|exact h|trivial
def I7(b:TC)(g9:St):Prop:=∀a∈b,∀v,g9.tmps[a]?=some v->Lo v
def wQ(N:Tc)(b_ a:TC)(o:Oper):Bool:=
 (match aA N b_ o with
 |some .no=>true
 |some (.row _ _)=>true
 |some (.neu _)=>true
 |_=>false) &&
 match o.dst with
 |some d=>!a.contains d||(Nat.beq (b_.getD d 0) (d+2)&&match o.op with
  | .alloc _=>true
  | .box _ _=>true
  |_=>false)
 |none=>true
def Ho(N:Tc)(b_ c:TC):Code->Bool
 | .skip | .label _ | .ret | .exit _=>true
 | .seq a b=>Ho N b_ c a&&Ho N b_ c b
 | .cond _ a b=>Ho N b_ c a&&Ho N b_ c b
 | .block _ b=>Ho N b_ c b
 | .loop b=>Ho N b_ c b
 | .scope b=>Ho N b_ c b
 | .region _ ops _=>ops.toList.all (wQ N b_ c)
 |_=>false
def IC(N:Tc)(b_:TC)(o:Oper):Bool:=match aA N b_ o with
 |some .no=>true
 |some (.row _ _)=>true
 |some (.neu _)=>true
 |some .hr=>true
 |_=>false
def SJ(N:Tc)(b_:TC):Code->Bool
 | .skip | .label _ | .ret | .exit _=>true
 | .seq a b=>SJ N b_ a&&SJ N b_ b
 | .cond _ a b=>SJ N b_ a&&SJ N b_ b
 | .block _ b=>SJ N b_ b
 | .loop b=>SJ N b_ b
 | .scope b=>SJ N b_ b
 | .region _ ops _=>ops.toList.all (IC N b_)
 |_=>false
def iY(l:List ResultVar):TC:=l.filterMap λr=>match r with
 | .cell a _=>some a
 | .tmp _=>none
def Kz(N:Tc)(C:m8)(f:TQ)(n:Nat):Bool:=
 match C.P.funcs[f]? with
 |some c=>match c.body with
  |some b=>match Nat.beq (n%2) 0 with
   |true=>Ho N (C.b_ f) (iY c.results.toList) b&&(iY c.results.toList).all λa=>Nat.ble (n / 2) a
   |false=>C.opq f||SJ N (C.b_ f) b
  |none=>false
 |none=>false
def wR{b_:TC}{d:Nat}{t:TP}{v:TR}{e:EZ}(b:b_.getD d 0=d+2)(a:cM C b_ (some d) t v=some e):∃s vs,e = .GU s vs:=by
 unfold cM at a
 grind
def Bl{b:TC}{g9 j8:St}{dst:Tq}{v:TR}(h:I7 b g9)(f:j8.tmps=g9.tmps)(g:(∀d,dst=some d->d∉b)∨Lo v):I7 b (j8.put dst v):=by
 intro a e x c;cases dst with
 |none=>exact h a e x (by rw[←f];exact c)
 |some d=>
  simp only[St.put,HZ,f]at c;split at c
  .simp_all
  .exact h a e x c
def Bz{N:Tc}{B:Below}(I:ER N B){b_ b:TC}{ops:To}(l:ops.toList.all (wQ N b_ b)=true){i:Nat}{g9 m:St}(k:I7 b g9)(h:aq C B b_ ops i g9 m) :
  m.heap=g9.heap/\I7 b m/\∀H,aq C B b_ ops i { g9 with heap:=H } { m with heap:=H }:=by
 cases n:ops[i]? with
 |none=>
  have:m=g9:=by simpa[aq,n]using h
  subst this;exact⟨rfl,k,λH=>by simp[aq,n]⟩
 |some o=>
  have y:wQ N b_ b o=true:=A_.1 l o (by
   grind)
  unfold wQ at y;rw[te]at y;obtain⟨S,q⟩:=y;have K:aA N b_ o≠none:=i_;obtain⟨e,rfl,Q,O⟩:=jJ I n K h;have D:e.hp=none:=by
   cases J:e.hp with
   |none=>rfl
   |some x=>
    have:=Q.2 (by rw[J];simp)
    simp_all
  refine⟨by rw[eI,D];rfl,?_,λH=>?_⟩
  .by_cases g:∀d,o.dst=some d->d∉b
   .unfold Ef.on;exact Bl k rfl (.inl g)
   · -- a local row is laid
    obtain⟨d,g⟩:=Classical.not_forall.1 g;obtain⟨c,g⟩:=Classical.not_imp.1 g;have g:=Classical.not_not.1 g;rw[c]at q;simp only[qcu,g,decide_true,EX,gu,te]at q;have E:b_.getD d 0=d+2:=by simpa using q.1
    unfold aq at h;simp only[n]at h;split at h
    .exact h.elim
    .rw[h];exact Bl k rfl (.inr trivial)
    .rcases h with⟨G,j,u⟩|⟨v,j,u⟩
     .have w:∃s F,G = .GU s F:=by
       have o3:=q.2;obtain⟨dst,P,T,pos,r,guard⟩:=o;simp only at c o3;subst c;cases P<;>first|cases o3|skip
       .simp only[au]at j;obtain⟨z,_,M⟩:=FY.1 j;exact wR E M
       .exact wR E j
      obtain⟨s,F,rfl⟩:=w;obtain⟨p,f,A⟩:=u;rw[A];simp only[aX]at f;split at f
      .cases f;exact Bl k rfl (.inr rfl)
      .cases f
     .rw[u];exact Bl k rfl (.inr (Bf j.2.2.1))
  .have L:D2 N b_ ops o g9 { g9 with heap:=H }:=by
    refine⟨λt _=>rfl,?_⟩
    grind
   have:=O _ L;have R:e.on o.dst { g9 with heap:=H } = { e.on o.dst g9 with heap:=H }:=by
    unfold Ef.on;rw[D];cases o.dst<;>rfl
   simp_all
def yK{N:Tc}{B:Below}(e:ER N B){b_ b:TC}{ops:To}(a:ops.toList.all (wQ N b_ b)=true):∀(l:TC) {g9 c:St},I7 b g9->br C B b_ ops l g9 c->
  c.heap=g9.heap/\I7 b c/\∀H,br C B b_ ops l { g9 with heap:=H } { c with heap:=H }
 | [],g9,c,d,h=>by
  have:c=g9:=h;subst this;exact⟨rfl,d,λH=>rfl⟩
 |i :: l,g9,c,d,⟨q,o,p⟩=>by
  obtain⟨f,g,j⟩:=Bz e a d o;obtain⟨k,m,n⟩:=yK e a l g p;exact⟨k.trans f,m,λH=>⟨_,j H,n H⟩⟩
def sM{b:TC}{g9 c:St}(k:I7 b g9)(h:gJ g9 c):I7 b c:=by
 intro a j v d;obtain⟨_,_,m,g⟩:=h;have l:a<c.tmps.length:=(b1.1 d).1;have f:g9.tmps[a]?=some (g9.tmps[a]'(by omega)):=Gm _;rcases g a _ _ f d with e|⟨_,i,_⟩
 .rw[e];exact k a j _ f
 .exact Bf i
def oe{g9 a:St}(h:gJ g9 a)(H:Tu):gJ { g9 with heap:=H } { a with heap:=H }:=⟨h.1,rfl,h.2.2.1,h.2.2.2⟩
def AR{N:Tc}{B:Below}(f:ER N B){b_ b:TC}{ops:To}(a:ops.toList.all (wQ N b_ b)=true):∀(l:TC) {g9 c:St},I7 b g9->gj C B b_ ops l g9 c->
  c.heap=g9.heap/\I7 b c/\∀H,gj C B b_ ops l { g9 with heap:=H } { c with heap:=H }
 | [],g9,c,e,h=>by
  have:c=g9:=h;subst this;exact⟨rfl,e,λH=>rfl⟩
 |i :: l,g9,c,e,⟨s,r,d,p,q⟩=>by
  obtain⟨g,j,k⟩:=Bz f a (sM e d) p;obtain⟨m,n,o⟩:=AR f a l j q;exact⟨m.trans (g.trans d.2.1),n,λH=>⟨_,_,oe d H,k H,o H⟩⟩
def Qb{b:TC}{g9:St}{c:TC}(d:I7 b g9):I7 b (g9.clear c):=by
 unfold St.clear;split
 .exact d
 .intro a f v e;simp only[FM,EC]at e;obtain⟨x,g,rfl⟩:=e;exact NQ (d a f x g)
def Ls(g9:St)(a:TC)(H:Tu):St.clear { g9 with heap:=H } a = { g9.clear a with heap:=H }:=by
 unfold St.clear;split<;>rfl
def zL(g9:St)(a:TC):(g9.clear a).heap=g9.heap:=by
 unfold St.clear;split<;>rfl
def CC{g9:St}{r:ResultVar}{b:TC}(e:I7 b g9)(d:∀a∈iY [r],a∈b)(H:Tu):gn C { g9 with heap:=H } r=gn C g9 r:=by
 cases r with
 |tmp t=>rfl
 |cell a t=>
  have f:a∈b:=d a (by simp[iY]);unfold gn;simp only;cases c:g9.tmps[a]? with
  |none=>simp[List.getD_eq_getElem?_getD,c,undef]
  |some v=>
   have:=e a f v c;simp only[List.getD_eq_getElem?_getD,c,U0];cases v<;>try rfl
   rename_i p
   cases p with
   |none=>rfl
   |some p=>
    have g:p.spot=some 0:=this;simp only[g]
def qS{g9:St}{b:TC}(d:I7 b g9)(H:Tu):∀(l:List ResultVar),(∀a∈iY l,a∈b)->dq C { g9 with heap:=H } l=dq C g9 l
 | [],_=>rfl
 |r :: l,c=>by
  have e:=CC (C:=C) (r:=r) d (λa h=>c a (by cases r<;>simp[iY]at h ⊢;exact .inl h)) H;have f:=qS d H l (λa h=>c a (by cases r<;>simp[iY]at h ⊢<;>first|exact h|exact .inr h));simp only[dq,e,f]
def Xc{N:Tc}{b_ b:TC}{o:Oper}(h:dI b_ o=true)(f:wQ N b_ b o=true):False:=by
 have i:aA N b_ o=some .hw:=by
  obtain⟨dst,g,j,pos,a,guard⟩:=o;cases g<;>simp only[dI,Fh]at h<;>first|rfl|skip
  .cases dst with
   |none=>cases h
   |some d=>
    simp only[aA];rw[rv (λe=>by
     simp_all)]
  .cases dst with
   |none=>cases h
   |some d=>
    simp only[aA];rw[rv (λe=>by
     simp_all)]
  next c=>
   simp only[aA]
   grind
 unfold wQ at f
 simp_all
def Nf{N:Tc}{B:Below}(f:ER N B){b_:TC}{ops:To}(a:ops.toList.all (IC N b_)=true){i:Nat}{g9 c:St}(h:aq C B b_ ops i g9 c):c.heap=g9.heap:=by
 cases d:ops[i]? with
 |none=>
  have:c=g9:=by simpa[aq,d]using h
  rw[this]
 |some o=>
  have b:IC N b_ o=true:=A_.1 a o (by
   grind)
  have k:aA N b_ o≠none:=by intro e;unfold IC at b;rw[e]at b;cases b
  obtain⟨e,rfl,l,_⟩:=jJ f d k h;have j:e.hp=none:=by
   cases g:e.hp with
   |none=>rfl
   |some x=>
    have:=l.2 (by rw[g];simp);unfold IC at b
    simp_all
  rw[eI,j];rfl
def RP{N:Tc}{B:Below}(b:ER N B){b_:TC}{ops:To}(a:ops.toList.all (IC N b_)=true):∀(l:TC) {g9 c:St},br C B b_ ops l g9 c->c.heap=g9.heap
 | [],_,_,h=>by cases h;rfl
 |_ :: l,_,_,⟨_,h1,d⟩=>(RP b a l d).trans (Nf b a h1)
def Mz{N:Tc}{B:Below}(b:ER N B){b_:TC}{ops:To}(a:ops.toList.all (IC N b_)=true):∀(l:TC) {g9 c:St},gj C B b_ ops l g9 c->c.heap=g9.heap
 | [],_,_,h=>by cases h;rfl
 |_ :: l,_,_,⟨_,_,h0,h1,d⟩=>(Mz b a l d).trans ((Nf b a h1).trans h0.2.1)
def kT{N:Tc}{b_:TC}{o:Oper}(h:dI b_ o=true)(b:IC N b_ o=true):False:=by
 have g:aA N b_ o=some .hw:=by
  obtain⟨dst,f,i,pos,a,guard⟩:=o;cases f<;>simp only[dI,Fh]at h<;>first|rfl|skip
  .cases dst with
   |none=>cases h
   |some d=>
    simp only[aA];rw[rv (λe=>by
     simp_all)]
  .cases dst with
   |none=>cases h
   |some d=>
    simp only[aA];rw[rv (λe=>by
     simp_all)]
  next c=>
   simp only[aA]
   grind
 unfold IC at b
 simp_all
def sy{N:Tc}(Z:∀f n,N f=some n->Kz N C f n=true)(hk:∀f args H r H',En.kh f args H r H'->N f=none∨(N f=some (2*args.length+1)/\H'=H)):∀n,(ER N (sm C n).toBelow/\∀b_ c,SJ N b_ c=true->∀g9 e p,(sm C n).ex b_ c g9 e p->p.heap=g9.heap)/\
  ∀b_ j c,Ho N b_ j c=true->∀g9 e p,I7 j g9->(sm C n).ex b_ c g9 e p->p.heap=g9.heap/\I7 j p/\∀H,(sm C n).ex b_ c { g9 with heap:=H } e { p with heap:=H }
 |0=>⟨⟨⟨λf args H r H' L h=>(by
   rcases h with h|h
   .exact⟨h.2,λR=>.inl ⟨h.1,rfl⟩⟩
   grind),λf args H r H' L h=>(by
   rcases h with h|h
   .exact h.2
   grind)⟩,λ_ _ _ _ _ _ h=>absurd h id⟩,λ_ _ _ _ _ _ _ _ h=>absurd h id⟩
 |n+1=>by
  obtain⟨⟨y,F⟩,i⟩:=sy Z hk n;refine⟨⟨⟨λf args H r H' L h=>?_,λf args H r H' L h=>?_⟩,λb_ c d g9 e p h=>?_⟩,λb_ j c d g9 e p s h=>?_⟩
  rotate_left
  .rcases h with h|⟨U,b,e,g9,vs,S,T,V,X,c5,c6,c7,c8,Y⟩
   .rcases h with h|h
    .exact h.2
    grind
   .have G:=Z f _ L;have W:=(pB.1 V).2;unfold Kz at G;have O:Nat.beq ((2*args.length+1)%2) 0=false:=by
     rw[show(2*args.length+1)%2=1 by omega];rfl
    simp only[S,T,O,W,gu]at G;exact Y.trans (F _ _ G _ _ _ X)
  .have h:qe C (sm C n) b_ c g9 e p:=h;cases c with
   |skip=>obtain⟨rfl,rfl⟩:=h;rfl
   |label l=>obtain⟨rfl,rfl⟩:=h;rfl
   |ret=>obtain⟨rfl,rfl⟩:=h;rfl
   |exit id=>obtain⟨rfl,rfl⟩:=h;rfl
   |seq a b=>
    simp only[SJ,te]at d;obtain⟨Q,j9,g,k⟩:=h
    grind
   |cond x a b=>
    simp only[SJ,te]at d;obtain⟨t,g,k⟩:=h
    grind
   |block id b=>
    obtain⟨Q,g,rfl⟩:=h;exact F b_ b d _ _ _ g
   |scope b=>exact F b_ b d _ _ _ h
   |loop b=>
    obtain⟨Q,j9,g,k⟩:=h;have u:=F b_ b d _ _ _ g;rw[zL]at u
    grind
   |region id q w=>
    obtain⟨rfl,E⟩:=h;cases w with
    |true=>
     obtain⟨J,K,g⟩ : ∃J,gJ g9 J/\eW C (sm C n).toBelow b_ q J p:=E;rcases g with g|⟨sl,m,q1,_⟩
     .exact(RP y d _ (g 0)).trans K.2.1
     .exfalso;obtain⟨o,o1,o2⟩:=p8.1 q1;exact kT o2 (A_.1 d o o1)
    |false=>
     have E:gj C (sm C n).toBelow b_ q (range q.size) g9 p:=E;exact Mz y d _ E
   |_=>cases d
  rotate_right
  .rcases h with h|⟨U,b,e,g9,vs,S,T,V,X,c5,c6,c7,c8,Y⟩
   .rcases h with h|h
    .exact⟨h.2,λR=>.inl (.inl ⟨h.1,rfl⟩)⟩
    grind
   .have G:=Z f _ L;unfold Kz at G;have ad:Nat.beq (2*args.length%2) 0=true:=by
     simp_all
    simp only[S,T,ad,te,A_,show 2*args.length / 2=args.length by omega]at G;have s:I7 (iY U.results.toList) (nQ U args H):=by
     intro a ha v P;have ag:args.length<=a:=by simpa using G.2 a ha
     simp only[nQ]at P;rw[Iz ag,ZL]at P;split at P
     .cases P;trivial
     .cases P
    obtain⟨d1,d2,d3⟩:=i _ _ _ G.1 _ _ _ s X;refine⟨Y.trans d1,λR=>.inr ⟨U,b,e,_,vs,S,T,V,d3 R,c5,?_,c7,c8,rfl⟩⟩;rw[qS d2 R _ (λa h=>h)];exact c6
  .have h:qe C (sm C n) b_ c g9 e p:=h;show _/\_/\∀H,qe C (sm C n) b_ c { g9 with heap:=H } e { p with heap:=H };cases c with
   |skip=>obtain⟨rfl,rfl⟩:=h;exact⟨rfl,s,λH=>⟨rfl,rfl⟩⟩
   |label l=>obtain⟨rfl,rfl⟩:=h;exact⟨rfl,s,λH=>⟨rfl,rfl⟩⟩
   |ret=>obtain⟨rfl,rfl⟩:=h;exact⟨rfl,s,λH=>⟨rfl,rfl⟩⟩
   |exit id=>obtain⟨rfl,rfl⟩:=h;exact⟨rfl,s,λH=>⟨rfl,rfl⟩⟩
   |seq a b=>
    simp only[Ho,te]at d;obtain⟨Q,j9,g,k⟩:=h;obtain⟨u,z,I⟩:=i _ _ _ d.1 _ _ _ s g;rcases k with⟨rfl,k⟩|⟨k,rfl,rfl⟩
    .obtain⟨A,B,D⟩:=i _ _ _ d.2 _ _ _ z k;exact⟨A.trans u,B,λH=>⟨_,_,I H,.inl ⟨rfl,D H⟩⟩⟩
    .exact⟨u,z,λH=>⟨_,_,I H,.inr ⟨k,rfl,rfl⟩⟩⟩
   |cond x a b=>
    simp only[Ho,te]at d;obtain⟨t,g,k⟩:=h;cases t with
    |true=>
     obtain⟨A,B,D⟩:=i _ _ _ d.1 _ _ _ s k;exact⟨A,B,λH=>⟨true,g,D H⟩⟩
    |false=>
     obtain⟨A,B,D⟩:=i _ _ _ d.2 _ _ _ s k;exact⟨A,B,λH=>⟨false,g,D H⟩⟩
   |block id b=>
    obtain⟨Q,g,rfl⟩:=h;obtain⟨A,B,D⟩:=i b_ j b d _ _ _ s g;exact⟨A,B,λH=>⟨_,D H,rfl⟩⟩
   |scope b=>exact i b_ j b d _ _ _ s h
   |loop b=>
    obtain⟨Q,j9,g,k⟩:=h;obtain⟨u,z,I⟩:=i b_ j b d _ _ _ (Qb s) g;rw[zL]at u;rcases k with⟨rfl,k⟩|⟨k,rfl,rfl⟩
    .obtain⟨A,B,D⟩:=i b_ j (.loop b) d _ _ _ z k;exact⟨A.trans u,B,λH=>⟨_,_,by rw[Ls];exact I H,.inl ⟨rfl,D H⟩⟩⟩
    .exact⟨u,z,λH=>⟨_,_,by rw[Ls];exact I H,.inr ⟨k,rfl,rfl⟩⟩⟩
   |region id q w=>
    obtain⟨rfl,E⟩:=h;cases w with
    |true=>
     obtain⟨J,K,g⟩ : ∃J,gJ g9 J/\eW C (sm C n).toBelow b_ q J p:=E;have M:=sM s K;rcases g with g|⟨sl,m,q1,_⟩
     case inr=>
      exfalso;obtain⟨o,o1,o2⟩:=p8.1 q1;exact Xc o2 (A_.1 d o o1)
     obtain⟨u,z,_⟩:=yK y d _ M (g 0);refine⟨u.trans K.2.1,z,λH=>⟨rfl,⟨_,oe K H,.inl λt=>?_⟩⟩⟩;exact(yK y d _ M (g t)).2.2 H
    |false=>
     have E:gj C (sm C n).toBelow b_ q (range q.size) g9 p:=E;obtain⟨u,z,I⟩:=AR y d _ s E;exact⟨u,z,λH=>⟨rfl,I H⟩⟩
   |_=>cases d
def dA{N:Tc}(b:∀f n,N f=some n->Kz N C f n=true)(c:∀f args H r H',En.kh f args H r H'->N f=none∨(N f=some (2*args.length+1)/\H'=H))(b_:TC)(ops:To)(h:xh N b_ ops=true)(n:Nat)(g9 a:St)(d:br C (sm C n).toBelow b_ ops (range ops.size) g9 a) :
  eW C (sm C n).toBelow b_ ops g9 a:=C6 (sy b c n).1.1 h d
end
end Sx
def LK.plain:LK->Bool
 | .v=>false
 |_=>true
def SK.plain:SK->Bool
 | .leaf k=>k.plain
 | .agg ks=>ks.all LK.plain
def H7.plain(s:H7):Bool:=s.ps.all SK.plain&&s.rs.all SK.plain
namespace Sx
section
variable [DB] [En]
variable {w:TG}
def yL(k:TK)(c:Int)(K:Int->RT):Jr k c K=K (k.wrap c):=by
 unfold Jr;cases e:Uu k c with
 |true=>rw[wi e]
 |false=>exact lH _ _
def RV(c:Int)(K:Int->RT):Zu c K=K (IntKind.wrap .i64 c):=by
 refine Eq.trans ?_ (yL .i64 c K);cases c<;>rfl
def RW(c:Int)(K:Int->RT):Zv c K=K (IntKind.wrap .u8 c):=by
 refine Eq.trans ?_ (yL .u8 c K);cases c<;>rfl
def qM(k:TK)(c:Int)(K:Int->RT):HX k c K=K (k.wrap c):=by
 cases k<;>first|exact yL _ _ _|exact RV _ _|exact RW _ _
def U_(a b:Int)(K:Int->RT):Db a b K=K (a+b):=by
 unfold Db;cases a with
 |ofNat m=>
  cases b with
  |ofNat n=>exact congrArg K rfl
  |negSucc n=>
   simp only[fc];cases e:Nat.blt n m with
   |true=>rw[HA]at e;grind
   |false=>
    have e:¬n<m:=λh=>by rw[←HA,e]at h;cases h
    grind
 |negSucc m=>
  cases b with
  |ofNat n=>
   simp only[fc];cases e:Nat.blt m n with
   |true=>rw[HA]at e;grind
   |false=>
    have e:¬m<n:=λh=>by rw[←HA,e]at h;cases h
    grind
  |negSucc n=>exact congrArg K (show Int.negSucc (m+n+1)=Int.negSucc m+Int.negSucc n by omega)
def Yh(a b:Int)(K:Int->RT):v6 a b K=K (a - b):=by
 unfold v6;cases a with
 |ofNat m=>
  cases b with
  |ofNat n=>
   simp only[fc];cases e:Nat.ble n m with
   |true=>rw[IX]at e;grind
   |false=>
    have e:¬n<=m:=λh=>by rw[←IX,e]at h;cases h
    grind
  |negSucc n=>exact congrArg K (show ofNat (m+n+1)=ofNat m - Int.negSucc n by grind)
 |negSucc m=>
  cases b with
  |ofNat n=>exact congrArg K (show Int.negSucc (m+n)=Int.negSucc m - ofNat n by grind)
  |negSucc n=>
   simp only[fc];cases e:Nat.ble m n with
   |true=>rw[IX]at e;grind
   |false=>
    have e:¬m<=n:=λh=>by rw[←IX,e]at h;cases h
    grind
def W8(a b:Int)(K:Int->RT):m6 a b K=K (a*b):=by
 unfold m6;cases a with
 |ofNat m=>
  cases b with
  |ofNat n=>exact congrArg K rfl
  |negSucc n=>
   cases m with
   |zero=>exact congrArg K (show ofNat 0=ofNat 0*Int.negSucc n by simp)
   |succ m=>
    refine congrArg K (show Int.negSucc ((m+1)*n+m)=ofNat (m+1)*Int.negSucc n from ?_)
    grind
 |negSucc m=>
  cases b with
  |ofNat n=>
   cases n with
   |zero=>exact congrArg K (show ofNat 0=Int.negSucc m*ofNat 0 by simp)
   |succ n=>
    refine congrArg K (show Int.negSucc (m*(n+1)+n)=Int.negSucc m*ofNat (n+1)from ?_)
    grind
  |negSucc n=>
   refine congrArg K (show ofNat ((m+1)*(n+1))=Int.negSucc m*Int.negSucc n from ?_)
   grind
def XV(a b:Int)(K:Int->RT):gC a b K=K (Int.tdiv a b):=by
 unfold gC;cases a with
 |ofNat m=>
  cases b with
  |ofNat n=>exact congrArg K rfl
  |negSucc n=>exact lH _ _
 |negSucc m=>exact lH _ _
def XZ(a b:Int)(K:Int->RT):fb a b K=K (Int.tmod a b):=by
 unfold fb;cases a with
 |ofNat m=>
  cases b with
  |ofNat n=>exact congrArg K rfl
  |negSucc n=>exact lH _ _
 |negSucc m=>exact lH _ _
def wA{b:Int}(h:z2 b=false):b≠0:=by
 intro e;subst e;cases h
def LN{k:TK}{c:Int}{K:Int->RT}(h:HX k c K=some w):K (k.wrap c)=some w:=(qM k c K).symm.trans h
def Ve{d:BinOp}{k:TK}{a b:Int}{K:Int->RT}(h:Df d k a b K=some w):∃n,tb d k a b n/\K n=some w:=by
 cases d<;>simp only[Df,reduceCtorEq]at h
 .rw[U_,qM]at h;exact⟨_,λP t w=>by simp[binOp,Op.intArith],h⟩
 .rw[Yh,qM]at h;exact⟨_,λP t w=>by simp[binOp,Op.intArith],h⟩
 .rw[W8,qM]at h;exact⟨_,λP t w=>by simp[binOp,Op.intArith],h⟩
 .cases c:z2 b with
  |true=>rw[c]at h;cases h
  |false=>
   rw[c]at h;simp only[XV,qM]at h;have c:=wA c;exact⟨_,λP t w=>by simp[binOp,Op.intDiv,c],h⟩
 .cases c:z2 b with
  |true=>rw[c]at h;cases h
  |false=>
   rw[c]at h;simp only[XZ]at h;have c:=wA c;exact⟨_,λP t w=>by simp[binOp,Op.intDiv,c],h⟩
 .split at h
  next c=>
   have c:=LA.1 c;subst c;rw[lH]at h;exact⟨_,qU rfl,h⟩
  .split at h
   .rw[lH]at h;exact⟨_,zb _ _,LN h⟩
   .cases h
 .split at h
  .rw[lH]at h;exact⟨_,CH _ _,LN h⟩
  .cases h
 .split at h
  .rw[lH]at h;exact⟨_,zf _ _,LN h⟩
  .cases h
def kD(x y:Int):eqI x y=(x==y):=by rw[OP,LA,beq_iff_eq]
def yc(x y:Int):QD x y=(x==y):=by
 rw[←kD];cases x<;>cases y<;>rfl
def n5(x y:Int):WF x y=decide (x<=y):=by rw[OP,L_,decide_eq_true_iff]
def Xd(b:Bool):RN b = !b:=by cases b<;>rfl
def VQ{c:BinOp}{a b:Int}{K:Bool->RT}(h:Q' c a b K=some w):∃t,rO c a b=some t/\K t=some w:=by
 cases c<;>simp only[Q',reduceCtorEq,yc,n5,Xd]at h
 .exact⟨_,rfl,h⟩
 .exact⟨_,rfl,h⟩
 .exact⟨_,rfl,by rw[show decide (a<b) = !decide (b<=a)by grind];exact h⟩
 .exact⟨_,rfl,h⟩
 .exact⟨_,rfl,by rw[show decide (a > b) = !decide (a<=b)by grind];exact h⟩
 .exact⟨_,rfl,h⟩
def V9(a b:Lf):Kj a b=iM a b:=by
 cases a<;>cases b<;>try rfl
 .exact yc _ _
 next x y=>cases x<;>cases y<;>rfl
def Wf(l:List (Lf×Lf)):m4 l=cu l:=by
 unfold cu
 induction l with
 |nil=>rfl
 |cons p l a=>
  show(Bool.rec false (m4 l) (Kj p.1 p.2):Bool)=_;rw[V9,UW,a];cases iM p.1 p.2<;>rfl
def We{l:List (Lf×Lf)}{K:Bool->RT}(h:eu l K=some w):K (cu l)=some w:=by
 rw[←Wf];exact h
structure Fb(C:m8)(Sg:Td)(T:Tv)(call:gr):Prop where
 f:∀g ls h K w,eo ls->call (.f g) ls h K=some w->∃rs h',aF C Sg g ls (h9 T (D9 h)) rs (h9 T (D9 h'))/\K rs h'=some w
 y:∀m9 vs l ls h K w st pd xs,h.at l=some (.lp m9 st pd vs)->Told ((T m9).params.map (·.2)) ls xs->call (.y m9 vs l) ls h K=some w->
  ∃b h',iK C l (ao xs) (h9 T (D9 h)) (.bool b) (h9 T (D9 h'))/\K [.b b] h'=some w
def qj(T:Tv)(h:HL):s7 T h=λi=>(h9 T h)[i]?:=by
 funext i
 simp only[s7,h9,FM];cases h[i]?<;>rfl
def Wv(T:Tv)(h:y_):Io T h=λi=>(h9 T (D9 h))[i]?:=by
 funext i
 simp only[Io,h9,FM,nI,Option.map_map];cases h.at i<;>rfl
def oU(T:Tv)(h:y_):Io T h=s7 T (D9 h):=(Wv T h).trans (qj T (D9 h)).symm
def qi{T:Tv}{h:y_}{i:Nat}{x:Gt}(e:h.at i=some x):s7 T (D9 h) i=some (F1 T x.ho):=by
 rw[←oU];unfold Io;rw[e]
def jD(T:Tv)(h:HL):(h9 T h).length=h.length:=by simp[h9]
def lr(T:Tv)(h:HL)(i:Nat)(o:HO):h9 T (h.set i o)=(h9 T h).set i (F1 T o):=by simp[h9,qc9]
def lq(T:Tv)(h:HL)(o:HO):h9 T (h++[o])=h9 T h++[F1 T o]:=by simp[h9]
def mE(T:Tv):∀(l:List DL) (h:HL),h9 T (bG h l)=iG (h9 T h) l
 | [],h=>rfl
 |a :: l,h=>by
  have b:=mE T l (a.onH h);show h9 T (bG (a.onH h) l)=iG (a.on (h9 T h)) l;rw[b]
  congr 1
  cases a with
  |set i o=>exact lr T h i _
  |push o=>exact lq T h _
def th:∀ {l:List DL} {h:y_} {k:y_->RT},BM l h k=some w->∃h',D9 h'=bG (D9 h) l/\k h'=some w
 | [],h,k,a=>⟨h,rfl,a⟩
 | .set i o :: l,h,k,a=>by
  have a:(wC o λo=>F7 h i o λh=>BM l h k)=some w:=a;obtain⟨x,b,c⟩:=lM (o:=o) (k:=λo=>F7 h i o λh=>BM l h k);rw[c,jv]at a;obtain⟨h',e,a⟩:=th a;exact⟨h',by rw[e,jB,b];rfl,a⟩
 | .push o :: l,h,k,a=>by
  have a:(wC o λo=>oz h o λh=>BM l h k)=some w:=a;obtain⟨x,b,c⟩:=lM (o:=o) (k:=λo=>oz h o λh=>BM l h k);rw[c,jK]at a;obtain⟨h',e,a⟩:=th a;exact⟨h',by rw[e,jS,b];rfl,a⟩
def Bv(s:Ts):TZ s=(s != some 0):=by
 cases s with
 |none=>rfl
 |some k=>cases k<;>rfl
def Ag(v:TR):Jh v=aI v:=by
 unfold Jh;split
 next a=>
  rw[Bv];simp[aI,nc,aT,bE,bj,aP,aD]
 next a _ _=>
  rw[Bv];simp[aI,nc,aT,bE,bj,aP,aD]
 .rfl
def yw{j7:Type}(l:List j7):WG l=l.length:=by
 induction l with
 |nil=>rfl
 |cons a l b=>exact congrArg Nat.succ b
def C1{T:Tv}{n:Nat}{p:TR}{h:y_}{K:Tn->RT}(b:ldB n p h K=some w):∃cs,cq n p (s7 T (D9 h))=some cs/\K cs=some w:=by
 unfold ldB at b;split at b
 next a=>
  split at b
  next g=>
   split at b
   next m e i c f=>
    split at b
    next d=>
     rw[IX]at d;refine⟨_,?_,b⟩;unfold cq;simp only[g,iZ,qi f,Gt.ho,F1,Ex,cut];rw[qs (by rw[bq];exact d),mf c n a.off m d]
    .cases b
   .cases b
  .cases b
 .cases b
def ki{T:Tv}{C:m8}{n:Nat}{p:TR}{h:y_}{K:Tn->RT}(b:lgB C n p h K=some w):∃cs,x1 C n p (s7 T (D9 h))=some cs/\K cs=some w:=by
 unfold lgB at b;split at b
 next a=>
  split at b
  next g=>
   split at b
   next m e o c f=>
    split at b
    next d=>
     rw[IX]at d;refine⟨_,?_,b⟩;unfold x1;simp only[g,iZ,qi f,Gt.ho,F1,Ex,cut];rw[qs (by rw[bq];exact d),mf c n a.off m d]
    .cases b
   .cases b
  next k g=>
   split at b
   next j=>
    split at b
    next q l=>
     split at b
     next cs i=>
      refine⟨cs,?_,b⟩;unfold x1;simp only[g,j,l,Ex];rw[pS]at i;exact i
     .cases b
    .cases b
   .cases b
 .cases b
def o4{T:Tv}{p:TR}{new:Tn}{h:y_}{K:Tn->y_->RT}{n0:Nat}(b:stB p new h K=some w) :
  ∃d cs h',JD p new (s7 T (D9 h)) n0=some (d,cs)/\D9 h'=bG (D9 h) d/\K cs h'=some w:=by
 unfold stB at b;split at b
 next a=>
  split at b
  next i=>
   split at b
   next m e c g=>
    split at b
    next f=>
     rw[IX,yw]at f;rw[qw,jv]at b;refine⟨[.set a.block (.cells (cR (Hl new a.off c) m) e true)],[],_,?_,?_,b⟩
     .unfold JD;simp only[i,qi g,Gt.ho,F1,qa];rw[qs (by rw[bq];exact f),rL f];rfl
     .rw[jB];rfl
    .cases b
   .cases b
  .cases b
 .cases b
def BC{s:Ts}{ra:Nat}:Ym s ra=true↔s=le ra:=by
 unfold Ym le;cases s with
 |none=>simp
 |some k=>simp_all
def g8{C:m8}{T:Tv}{ra:Nat}{x:TR}{h:y_}{K:Tn->Nat->RT}(b:slB C T ra x h K=some w) :
  ∃l n,M_ C ra (s7 T (D9 h)) x=some (l,n)/\K l n=some w:=by
 have d:∀ {x:TR},(match M_ C ra (Io T h) x with|some p=>K p.1 p.2|none=>none)=some w->∃l n,M_ C ra (s7 T (D9 h)) x=some (l,n)/\K l n=some w:=by
  intro x b;split at b
  next p e=>
   rw[oU]at e
   grind
  .cases b
 unfold slB at b;split at b
 next a k q=>
  split at b
  next f=>
   have f:=BC.1 f;split at b
   next m e o c j=>
    split at b
    next g i=>
     have g:=Ey g;rw[IX]at i;subst g;refine⟨_,_,?_,b⟩;unfold M_;simp only[qi j,Gt.ho,F1];rw[rv (by rw[f];simp[le]),qs f]
     first|rw[qs rfl]|rw[qs trivial]
     rw[cut,qs (by rw[bq];exact i),mf c _ a.off m i];rfl
    .cases b
   .cases b
  .exact d b
 .exact d b
def Ah{c:Tr Value}{m off a ra:Nat}{new:Tn}{k:Gt->RT}(f:off+a<=m)(b:LX c m off a ra new k=some w) :
  ∃x:Gt,x.ho = .o (.cells (((cR c m).drop off).take a++new) ra true)/\k x=some w:=by
 unfold LX at b;split at b
 next d e=>
  have d:=Ey d;have e:=Ey e;subst d e;rw[qw,fc,yw]at b;refine⟨_,?_,b⟩;show HO.o (.cells (cR (Hl new a c) (a+new.length)) ra true)=_;rw[pN,XN,IW (by rw[bq];omega)]
 .rw[mf c a off m f]at b;obtain⟨x,g,h⟩:=lM (o:=.cells (((cR c m).drop off).take a++new) ra true) (k:=k)
  grind
def C7{C:m8}{T:Tv}{ra bytes:Nat}{s x:TR}{h:y_}{K:Tn->y_->RT}(b:apB T C ra bytes s x h K=some w) :
  ∃g cs h',Fw C ra bytes s x (s7 T (D9 h)) (D9 h).length=some (g,cs)/\D9 h'=bG (D9 h) g/\K cs h'=some w:=by
 obtain⟨f,n,v,b⟩:=g8 b;unfold Fw;rw[v,iD];simp only at b ⊢;split at b
 .cases n with
  |zero=>exact⟨_,_,h,rfl,rfl,b⟩
  |succ n=>
   simp only at b;split at b
   next G=>
    obtain⟨y,j,E⟩:=lM (o:=.cells f ra true) (k:=λo=>oz h o λh'=>fN (n+1) λn=>K [.slice (some ⟨h.n,0,le ra⟩) n 0] h');rw[E,jK,fc]at b;refine⟨[.push (.cells f ra true)],_,_,?_,?_,b⟩
    .simp_all
    .rw[jS,j];rfl
   .cases b
 next a d D _=>
  split at b
  .cases b
  next z=>
   have z:=BC.1 z;split at b
   next m e F c t=>
    split at b
    next r A=>
     have r:=Ey r;rw[IX]at A;subst r;have u:a.off+d*e<=m:=A;have l:cut (cR c m) a.off (d*e)=some (((cR c m).drop a.off).take (d*e)):=by rw[cut,qs (by rw[bq];exact u)]
     simp only[z,ne_eq,not_true_eq_false,if_false,qi t,Gt.ho,F1,l];cases D with
     |zero=>
      simp only at b ⊢;cases n with
      |zero=>exact⟨[],_,h,j_,rfl,b⟩
      |succ n=>
       simp only at b;split at b
       next B i=>
        obtain⟨y,j,b⟩:=Ah u b;rw[jv,jK,fc]at b;refine⟨[.set a.block .dead,.push (.cells (((cR c m).drop a.off).take (d*e)++f) e true)],_,_,j_,?_,b⟩;rw[jS,jB,j];rfl
       .cases b
     |succ q=>
      simp only at b ⊢;split at b
      next p=>
       rw[IX]at p;split at b
       next B i=>
        rw[IX,yw]at i;have i:a.off+d*e+f.length<=m:=i;rw[qw,jv,fc]at b;refine⟨[.set a.block (.cells ((cR c m).take (a.off+d*e)++f++(cR c m).drop (a.off+d*e+f.length)) e true)],_,_,by rw[qs p,qs rfl,qa,qs (by rw[bq];exact i)];rfl,?_,b⟩;rw[jB];show(D9 h).set a.block (.o (.cells (cR (Hl f (a.off+d*e) c) m) e true))=_;rw[rL i];rfl
       .cases b
      next p=>
       have p:¬d+n<=q:=λh=>by rw[←IX,p]at h;cases h
       split at b
       next B=>
        obtain⟨y,j,b⟩:=Ah u b;rw[jK,fc]at b;refine⟨[.push (.cells (((cR c m).drop a.off).take (d*e)++f) e true)],_,_,i_,?_,b⟩;rw[jS,j];rfl
       .cases b
    .cases b
   .cases b
 .cases b
def QV{T:Tv}{f:Hp}{h:y_}{K:Tn->y_->RT}(a:LZ T f h K=some w) :
  ∃b cs h',f.run (s7 T (D9 h)) (D9 h).length=some (b,cs)/\D9 h'=bG (D9 h) b/\K cs h'=some w:=by
 unfold LZ at a;cases f with
 |st p g=>exact o4 (n0:=(D9 h).length) a
 |ap C d bytes s x=>exact C7 a
 |fn f=>
  simp only at a;rw[oU]at a;split at a
  next p e=>
   rw[qO]at a;obtain⟨h',c,a⟩:=th a;exact⟨p.1,p.2,h',by rw[iD];exact e,c,a⟩
  .cases a
def Nq{k:LK}{v:TR}{l:SL}(h:O9 k v=some l):l.is k=true/\l.val=v/\l.h_:=by
 cases k with
 |i k=>
  cases v<;>simp only[O9]at h<;>first|cases h|skip
  split at h
  next e=>cases h;exact⟨e,rfl,trivial⟩
  .cases h
 |b=>
  cases v<;>simp only[O9]at h<;>cases h;exact⟨rfl,rfl,trivial⟩
 |v=>
  simp only[O9]at h;split at h
  next e=>cases h;exact⟨rfl,rfl,e⟩
  .cases h
def BG:∀ {ks:TJ} {vs:Tn} {xs:List SL},Nr ks vs=some xs->ba xs ks=true/\xs.map SL.val=vs/\∀x∈xs,x.h_
 | [],[],xs,h=>by cases h;exact⟨rfl,rfl,λ_ h=>by cases h⟩
 |k :: ks,v :: vs,xs,h=>by
  simp only[Nr]at h;split at h
  next x e=>
   split at h
   next ys c=>
    cases h;obtain⟨a1,a2,d⟩:=Nq e;obtain⟨a,b,f⟩:=BG c;refine⟨by simp[ba,a1,a],by simp[a2,b],λy g=>?_⟩
    grind
   .cases h
  .cases h
 | [],_ :: _,_,h=>by cases h
 |_ :: _,[],_,h=>by cases h
def Yp{d:SK}{v:TR}{x:S0}(h:y2 d v=some x):x.is d=true/\x.val=v/\x.h_:=by
 cases d with
 |leaf k=>
  obtain⟨l,e,rfl⟩:=EC.1 h;obtain⟨a,b,c⟩:=Nq e;refine⟨a,b,λy f=>?_⟩;simp only[S0.cells,GM]at f;subst f;exact c
 |agg g=>
  cases v<;>simp only[y2]at h<;>first|cases h|skip
  obtain⟨l,e,rfl⟩:=EC.1 h;obtain⟨a,b,c⟩:=BG e;exact⟨a,by simp[S0.val,b],c⟩
def vt:∀ {sks:TN} {vs:Tn} {xs:List S0},JH sks vs=some xs->cJ xs sks=true/\ao xs=vs/\∀x∈xs,x.h_
 | [],[],xs,h=>by cases h;exact⟨rfl,rfl,λ_ h=>by cases h⟩
 |k :: ks,v :: vs,xs,h=>by
  simp only[JH]at h;split at h
  next x e=>
   split at h
   next ys c=>
    cases h;obtain⟨a1,a2,d⟩:=Yp e;obtain⟨b,a,f⟩:=vt c;refine⟨by simp[cJ,a1,b],by simp only[ao,EN,a2]at a ⊢;rw[a],λy g=>?_⟩
    grind
   .cases h
  .cases h
 | [],_ :: _,_,h=>by cases h
 |_ :: _,[],_,h=>by cases h
def LB{a b:LK}(h:V8 a b=true):a=b:=by
 cases a<;>cases b<;>simp only[V8]at h<;>first|rfl|cases h|skip
 rw[dX h]
def zX:∀ {a b:TJ},LC a b=true->a=b
 | [],[],_=>rfl
 |a :: l,b :: m,h=>by
  simp only[LC,te]at h;rw[LB h.1,zX h.2]
 | [],_ :: _,h=>by cases h
 |_ :: _,[],h=>by cases h
def Wa{a b:SK}(h:pD a b=true):a=b:=by
 cases a<;>cases b<;>simp only[pD]at h<;>first|cases h|skip
 .rw[LB h]
 .rw[zX h]
def tR:∀ {a b:TN},Jd a b=true->a=b
 | [],[],_=>rfl
 |a :: l,b :: m,h=>by
  simp only[Jd,te]at h;rw[Wa h.1,tR h.2]
 | [],_ :: _,h=>by cases h
 |_ :: _,[],h=>by cases h
def gQ:∀ {ls:TG},kj ls=true->eo ls
 | [],_=>λ_ h=>by cases h
 | .i n :: ls,h=>λl a=>by
  rcases EL.1 a with rfl|a
  .trivial
  .exact gQ (ls:=ls) h l a
 | .b n :: ls,h=>λl a=>by
  rcases EL.1 a with rfl|a
  .trivial
  .exact gQ (ls:=ls) h l a
 | .v n :: ls,h=>λl a=>by
  have h:(match Jh n with|true=>kj ls|false=>false)=true:=h;split at h
  next e=>
   rw[Ag]at e;rcases EL.1 a with rfl|a
   .exact e
   .exact gQ (ls:=ls) h l a
  .cases h
def zK{C:m8}{Sg:Td}{T:Tv}{call:gr}(c:Fb C Sg T call){g:TQ}{ls:TG}{h:y_}{K:TG->y_->RT}(a:Lp call g ls h K=some w) :
  ∃b h',aF C Sg g ls (h9 T (D9 h)) b (h9 T (D9 h'))/\K b h'=some w:=by
 unfold Lp at a;split at a
 next e=>exact c.f g ls h K w (gQ e) a
 .cases a
def pI{C:m8}{Sg:Td}{T:Tv}{call:gr}(o:Fb C Sg T call){g:TQ}{j:Option (TN)}{b:Tn}{h:y_}{K:TG->y_->RT}(a:oG Sg call g j b h K=some w) :
  ∃sg c ys h',Sg g=some sg/\(∀x,j=some x->sg.rs=x)/\Told sg.rs c ys/\jY C g b (h9 T (D9 h)) (gM (ao ys)) (h9 T (D9 h'))/\K c h'=some w:=by
 unfold oG at a;split at a
 .cases a
 next sg e=>
  split at a
  .cases a
  next n=>
   split at a
   .cases a
   next u e3=>
    obtain⟨c,h',⟨q,s,ys,d,f,k,i⟩,a⟩:=zK o a;rw[e]at d;cases d;obtain⟨l,m,t⟩:=vt e3;obtain⟨r,_⟩:=dd f.1 l f.2.1;rw[r,m]at i;refine⟨sg,c,ys,h',e,λx p=>?_,k,i,a⟩;subst p;exact tR n
def lK{T:Tv}{h:y_}{l a:Nat}{st:LoopState}{b:Tm}{vs:Tn}(e:h.at l=some (.lp a st b vs)):fg (h9 T (D9 h)) l=some { FC (T a) a vs with state:=st,pending:=b }:=by
 unfold fg h9;rw[FM,nI,e];rfl
def NM{C:m8}{Sg:Td}{T:Tv}{call:gr}(k:Fb C Sg T call){v:TR}{args:Tn}{m:TN}{h:y_}{K:TG->y_->RT}(a:J4 Sg T call v args m h K=some w) :
  ∃d h',xJ C v args m (h9 T (D9 h)) d (h9 T (D9 h'))/\K d h'=some w:=by
 unfold J4 at a;split at a
 next J first c=>
  split at a
  next g=>
   obtain⟨L,d,H,h',I,q,j,r,s⟩:=pI k a;rw[q _ rfl]at j;exact⟨d,h',⟨H,j,.inl ⟨g,first,c,rfl,r⟩⟩,s⟩
  next l=>
   split at a
   next f i=>
    have f:first = #[]:=u9.1 f
    have i:c = #[]:=u9.1 i;subst f i;split at a
    next A D B E e=>
     split at a
     .cases a
     next e3=>
      have e3:=tR e3;subst e3;split at a
      .cases a
      next F e4=>
       split at a
       next e5=>
        obtain⟨t,u,z⟩:=vt e4;obtain⟨b,h',p,G⟩:=k.y A E l _ h K w D B F e ⟨t,rfl,z⟩ a;rw[u]at p;refine⟨[.b b],h',⟨[.leaf (.b b)],⟨rfl,rfl,λx n=>?_⟩,.inr ⟨l,rfl,p⟩⟩,G⟩;simp only[GM]at n;subst n;intro y o;simp only[S0.cells,GM]at o;subst o;trivial
       .cases a
    .cases a
   .cases a
  .cases a
 .cases a
def SQ{C:m8}{Sg:Td}{T:Tv}{call:gr}(A:Fb C Sg T call){m:Nat}{v:TR}{c:Tn}{h:y_}{K:Tm->y_->RT}(d:SP Sg call m v c h K=some w) :
  ∃g first cap r j f k,v = .func (.func g) first cap/\jY C g (first.toList++[.func (.yield (h9 T (D9 h)).length) #[] #[]]++cap.toList) (h9 T (D9 h)++[.loop (FC (T m) m c)]) r j/\
   fg j (h9 T (D9 h)).length=some f/\f.state≠.busy/\h9 T (D9 k)=j.set (h9 T (D9 h)).length (.loop { f with state:=.exhausted })/\K f.pending k=some w:=by
 unfold SP at d;split at d
 next F first cap=>
  split at d
  next g=>
   rw[jK]at d;obtain⟨H,G,D,q,_,_,E,t,u⟩:=pI A d;have b:(h9 T (D9 h)).length=h.n:=by rw[jD,iD]
   split at u
   next o y p s e=>
    have B:=lK (T:=T) e;rw[jS,lq]at t;have z:∀(l:y≠.busy),(F7 q h.n (.lp o .exhausted p s) λk=>K p k)=some w->∃x a i r j f k,(Value.func (.func g) first cap) = .func (.func x) a i/\jY C x (a.toList++[.func (.yield (h9 T (D9 h)).length) #[] #[]]++i.toList) (h9 T (D9 h)++[.loop (FC (T m) m c)]) r j/\
      fg j (h9 T (D9 h)).length=some f/\f.state≠.busy/\h9 T (D9 k)=j.set (h9 T (D9 h)).length (.loop { f with state:=.exhausted })/\K f.pending k=some w:=by
     intro l d;rw[jv]at d;refine⟨g,first,cap,gM (ao D),h9 T (D9 q),{ FC (T o) o s with state:=y,pending:=p },q.put h.n (.lp o .exhausted p s),rfl,?_,?_,l,?_,d⟩
     .rw[b];exact t
     .rw[b];exact B
     .rw[jB,lr,b];rfl
    grind
   .cases u
  .cases d
 .cases d
def wW{id:Nat}:∀ {ks:List (Nat×RT)},(List.rec none (λp _ f=>match Nat.beq p.1 id with|true=>p.2|false=>f) ks:RT)=some w->
  ∃d x,some (Code.exit id)=some (Code.exit d)/\(d,x)∈ks/\x=some w
 | [],h=>by cases h
 |p :: ks,h=>by
  have h:(match Nat.beq p.1 id with|true=>p.2|false=>(List.rec none (λp _ f=>match Nat.beq p.1 id with|true=>p.2|false=>f) ks:RT))=some w:=h;split at h
  next e=>
   exact⟨id,p.2,rfl,by rw[←Ey e];grind,h⟩
  .obtain⟨d,x,a,b,c⟩:=wW h
   simp_all
def M6{e:BinOp}{k d:TK}{a b:Int}{K:Int->RT}(h:S_ e k a d b K=some w):∃n,K' e k a d b n/\K n=some w:=by
 unfold S_ at h;split at h
 next c=>
  have c:¬b<0:=by have:=L_.1 c;omega
  split at h
  .rw[lH]at h;exact⟨_,λP t w=>by simp[binOp,Op.shift,c],h⟩
  .rw[lH]at h;exact⟨_,λP t w=>by simp[binOp,Op.shift,c],h⟩
  .cases h
 .cases h
def Yw{C:m8}{Sg:Td}{T:Tv}{call:gr}(B:Fb C Sg T call):pL (BA Sg T call) C Sg T (λb=>b=some w) (λh=>h9 T (D9 h)) where
 fail:=by intro h;cases h
 cond:=by
  intro b x y h;cases b
  .exact .inr ⟨rfl,h⟩
  .exact .inl ⟨rfl,h⟩
 x6:=λH k a b K h=>Ve h
 HB:=λH k a G b K h=>M6 h
 cmp:=λH a b K h=>VQ h
 eqs:=λl K h=>We h
 conv:=λk a K h=>LN h
 HH:=by intro t a b K h;cases t<;>exact h
 jw:=by
  intro U o K h;cases o with
  |none=>cases h
  |some x=>exact⟨x,rfl,h⟩
 n4:=by
  intro v K h;have h:j4 v K=some w:=h;unfold j4 at h;split at h
  next e=>rw[Ag]at e;exact⟨e,h⟩
  .cases h
 po:=by
  intro q K h
  match q,h with
  | .i n :: r,h=>exact⟨n,r,rfl,h⟩
 Fu:=by
  intro q K h
  match q,h with
  | .b n :: r,h=>exact⟨n,r,rfl,h⟩
 DK:=by
  intro q K h
  match q,h with
  | .v n :: r,h=>exact⟨n,r,rfl,h⟩
 A1:=by
  intro q K h
  match q,h with
  | [],h=>exact⟨rfl,h⟩
 td:=by
  intro k q K h
  match q,h with
  | .int G n :: r,h=>
   have h:(match df k G with|true=>K n r|false=>none)=some w:=h;split at h
   next e=>rw[dX e];grind
   .cases h
 E7:=by
  intro q K h
  match q,h with
  | .bool n :: r,h=>exact⟨n,r,rfl,h⟩
 DF:=by
  intro q K h
  match q,h with
  |n :: r,h=>exact⟨n,r,rfl,h⟩
 tf:=by
  intro q K h
  match q,h with
  | [],h=>exact⟨rfl,h⟩
 ma:=by
  intro f h K d;have d:Sb T f h K=some w:=d;unfold Sb at d;rw[←qj];cases f with
  |ld n p=>exact C1 d
  |lg C n p=>exact ki d
  |fn f=>
   simp only at d;rw[oU]at d;split at d
   next x e=>exact⟨x,e,d⟩
   .cases d
 heap:=by
  intro f h K d;have d:LZ T f h K=some w:=d;obtain⟨z,N,A,J,L,M⟩:=QV d;exact⟨z,N,A,by rw[←qj,jD];exact J,by rw[L];exact mE T z (D9 h),M⟩
 new:=by
  intro o h K d;have d:zl o h K=some w:=d;unfold zl at d;obtain⟨x,O,P⟩:=lM (o:=o) (k:=λo=>oz h o λA=>K h.n A);rw[P,jK]at d;exact⟨h.push x,by rw[jS,O];exact lq T (D9 h) _,by rw[jD,iD];exact d⟩
 call:=λg q h K d=>zK B d
 Dw:=λv E S h K d=>NM B d
 join:=λb m h=>h
 loop:=by
  intro F q h d;refine⟨λn=>Nat.rec (motive:=λ_=>TG->y_->RT) (λ_ _=>none) (λ_ Q q h=>F Q q h) n,λq h=>c_,λn q h=>rfl,1000000,d⟩
 Ft:=λs v I h K d=>SQ B d
 Fg:=by
  intro D V W X h;cases D with
  |none=>exact .inl ⟨rfl,h⟩
  |some c=>
   cases c<;>first|exact .inr (.inl ⟨rfl,h⟩)|skip
   case exit id=>
    exact .inr (.inr (wW h))
   all_goals cases h
 JW:=by
  intro l h K d;have d:n3 l h K=some w:=d;unfold n3 at d;split at d
  next s R D u e=>
   split at d
   .rw[jv]at d;exact⟨_,_,lK e,rfl,by rw[jB];exact lr T (D9 h) l _,d⟩
   .cases d
  .cases d
 HU:=by
  intro l j h K d;have d:t1 l j h K=some w:=d;unfold t1 at d;split at d
  next s R D u e=>
   cases j with
   |none=>
    have d:F7 h l (.lp s .ready none u) K=some w:=d;rw[jv]at d;exact⟨_,h.put l (.lp s .ready none u),lK e,(congrArg (h9 T) (jB h l (.lp s .ready none u))).trans (lr T (D9 h) l (.lp s .ready none u)),d⟩
   |some c=>
    have d:F7 h l (.lp s .done (some c) u) K=some w:=d;rw[jv]at d;exact⟨_,h.put l (.lp s .done (some c) u),lK e,(congrArg (h9 T) (jB h l (.lp s .done (some c) u))).trans (lr T (D9 h) l (.lp s .done (some c) u)),d⟩
  .cases d
end
end Sx
namespace Sx
def UO(v:Value):Bool:=match v with
 | .pointer (some a)=>a.spot==some 1
 | .slice (some a) _ _=>a.spot==some 1
 |v=>scalar v
section
variable [DB]
def OC [Fc]{mu:ke}{p:Pl}{x y:Option Obj}{o:s_}(b:∀a,x=some a->y=some a)(h:F6 mu p x o):F6 mu p y o:=by
 cases o with
 |cells t j rw=>
  obtain⟨d,f,l,c,e,k,m,n⟩:=h;exact⟨d,f,l,c,e,k,b _ m,n⟩
 |map q g=>
  obtain⟨i,d,f⟩:=h;exact⟨i,b _ d,f⟩
 |loop r=>
  obtain⟨L,d,f⟩:=h;exact⟨L,b _ d,f⟩
 |M9 s pos=>exact b _ h
 |dead=>trivial
def Wr [Fc]{la:q_}{mu a:ke}{vs cs:Tn}(e:vs.all flat=true)(h:vc la mu vs cs):vc la a vs cs:=by
 refine⟨h.1,λi x y c f=>?_⟩;have d:=h.2 i x y c f;have b:flat x=true:=A_.1 e x (A9 c);rw[ue b d];exact .of_flat b
def j1 [Fc]{la d:q_}{mu e:ke}{v c:TR}(a:UO v=true)(h:VR la mu v c):VR d e v c:=by
 cases h with
 |w6 c=>cases a
 |O6 h=>cases a
 |scalar h=>exact .scalar h
 |agg _ _=>cases a
 |tuple _ _ _=>cases a
 |func _ _ _ _ _=>cases a
 |yield _=>cases a
 |FD _=>cases a
 |ET _=>cases a
 |E2=>exact .E2
 |A6 _ _ _ _=>simp[UO,le]at a
 |x_ _=>simp[UO,le]at a
 |DN f b=>exact .DN f b
 |B3 b=>exact .B3 b
 |map _=>cases a
def uk [Fc]{mu a:ke}{vs:Tn}{c:Tl}{o:Nat}(f:vs.all UO=true)(h:cF mu vs c o):cF a vs c o:=by
 intro i v b;obtain⟨g,d,e⟩:=h i v b;exact⟨g,d,j1 (A_.1 f v (A9 b)) e⟩
def KA{mu:ke}{b:Nat}:¬JL mu [] b:=by
 rintro⟨id,o,p,h,_⟩;simp at h
def QN{C:m8}(M:∀g vs,C.G g=some vs->vs.all UO=true){f:TQ}{args:Tn}{r:TR}{H':Tu}(h:en C f args [] r H')(N:args.all flat=true)(E:flat r=true)(H:Tu):en C f args H r H:=by
 intro _ A P w d D l k L;have y:WR C w.heap.size (λ_=>none) [] w:=by
  refine⟨λid o h=>by simp at h,λi j S T U V h=>by simp at h,λi o p h=>by simp at h,λi o p h=>by simp at h,λ_ _=>rfl,λg vs t=>?_⟩;obtain⟨u,n,c,e,B,q,s⟩:=k.Fe g vs t;exact⟨a_,n,c,e,B,q,uk (M g vs t) s⟩
 obtain⟨v,Q,F,I,R,a,J,K⟩:=h _ w.heap.size (λ_=>none) w d (B8 _) (Wr N l) y L;have m:∀(b:Nat) x,w.heap[b]?=some x->F.heap[b]?=some x:=by
  intro b x O;have z:b<w.heap.size:=by
   grind
  rw[a.ka b z KA];exact O
 refine⟨v,P,F,?_,?_,?_,J,K⟩
 .rw[ue E I];exact .of_flat E
 .refine⟨λid o u n=>?_,k.inj,k.own,k.ro,k.JP,λg vs t=>?_⟩
  .obtain⟨p,q,s⟩:=k.obj id o u n;exact⟨p,q,OC (m p.b) s⟩
  .obtain⟨u,n,c,e,B,q,s⟩:=k.Fe g vs t
   simp_all
 .exact⟨B8 _,λ_ _=>rfl,a.size,λb D _=>a.ka b D KA,λb h=>.inr h,a.os,a.tape,a.output,a.dr⟩
end
section
variable [DB] [En]
end
end Sx
namespace Sx
def kJ(F:TC)(H a:Tu):Prop:=∀r∈F,∀x,H[r]?=some x->x.alive=true->a[r]?=some x
structure D_ where
 set:Option (Nat×s_)
 push:Option (s_×(Nat->Value))
 v:Value
def D_.put(e:D_)(H:Tu):Tu:=match e.set with
 |some p=>H.set p.1 p.2
 |none=>H
def D_.heap(e:D_)(H:Tu):Tu:=match e.push with
 |some p=>e.put H++[p.1]
 |none=>e.put H
def D_.val(e:D_)(n:Nat):Value:=match e.push with
 |some p=>p.2 n
 |none=>e.v
def Hc(b:Prop)(F W:TC)(f:Tu->Option (List s_×Value))(H:Tu):Prop:=
 ∀H' v,f H=some (H',v)->∃e:D_,H'=e.heap H/\v=e.val H.length/\(∀p,e.set=some p->p.1∈W/\∃x,H[p.1]?=some x/\x.alive=true)/\(∀p,e.push=some p->b/\EA p.2/\p.1.alive=true)/\
  ∀a,kJ F H a->f a=some (e.heap a,e.val a.length)
def Z9(F:TC)(f:Tu->Tk)(H:Tu):Prop:=∀v,f H=some v->∀a,kJ F H a->f a=some v
def fS{F:TC}{H a:Tu}(h:kJ F H a){r:Nat}(c:r∈F){vs:Tn}{e:Nat}{b:Bool}(d:H[r]?=some (.cells vs e b)):a[r]?=some (.cells vs e b):=h r c _ d rfl
def iQ{F:TC}{H d:Tu}(h:kJ F H d){r:Nat}(f:r∈F){b:Tj}{c:Nat}(a:EE H r=some (b,c)):H[r]?=some (.map b c)/\EE d r=some (b,c):=by
 unfold EE at a;split at a
 next e=>
  cases a;exact⟨e,by unfold EE;rw[h r f _ e rfl]⟩
 .cases a
def kM{C:m8}{H f:Tu}{ra:Nat}{x:TR}{p:List Value×Nat}(c:cY C H ra x=some p){F:TC}(j:∀r∈El x,r∈F)(h:kJ F H f):cY C f ra x=some p:=by
 unfold cY at c ⊢;split at c
 .exact c
 next a d i=>
  split at c
  .simp_all
  next l=>
   split at c
   next g=>
    simp only[l,if_false,g,if_true];split at c
    next m e b i'=>
     have k:a.block∈El (.slice (some a) d i):=by
      simp[El,g,le]
     rw[fS h (j _ k) i'];exact c
    .cases c
   .cases c
 .exact c
 .cases c
def yx{b:Prop}{F W:TC}{H:Tu}(c:b)(x:s_)(mk:Nat->TR)(g:x.alive=true)(f:EA mk):Hc b F W (λH=>some (H++[x],mk H.length)) H:=by
 intro d v h;cases h;exact⟨⟨none,some (x,mk),undef⟩,rfl,rfl,λp a=>(by cases a),λp a=>i_,λe _=>rfl⟩
def oX{d:Prop}{F W:TC}{f:Tu->Option (List s_×Value)}{H:Tu}{v:TR}(h:f H=some (H,v))(c:∀a,kJ F H a->f a=some (a,v)) :
  ∃e:D_,H=e.heap H/\v=e.val H.length/\(∀p,e.set=some p->p.1∈W/\∃x,H[p.1]?=some x/\x.alive=true)/\(∀p,e.push=some p->d/\EA p.2/\p.1.alive=true)/\∀a,kJ F H a->f a=some (e.heap a,e.val a.length):=
 ⟨⟨none,none,v⟩,rfl,rfl,λp b=>(by cases b),λp b=>(by cases b),c⟩
def uz{c:Prop}{F W:TC}{f:Tu->Option (List s_×Value)}{H:Tu}{x:s_}{mk:Nat->TR}(g:c)(i:x.alive=true)(h:EA mk)(d:∀a,kJ F H a->f a=some (a++[x],mk a.length)) :
  ∃e:D_,H++[x]=e.heap H/\mk H.length=e.val H.length/\(∀p,e.set=some p->p.1∈W/\∃x,H[p.1]?=some x/\x.alive=true)/\(∀p,e.push=some p->c/\EA p.2/\p.1.alive=true)/\∀a,kJ F H a->f a=some (e.heap a,e.val a.length):=
 ⟨⟨none,some (x,mk),undef⟩,rfl,rfl,λp b=>(by cases b),λp b=>i_,d⟩
def qA{d:Prop}{F W:TC}{f:Tu->Option (List s_×Value)}{H:Tu}{i:Nat}{x y:s_}{v:TR}(h:i∈W)(j:H[i]?=some y)(g:y.alive=true)(c:∀a,kJ F H a->f a=some (a.set i x,v)) :
  ∃e:D_,H.set i x=e.heap H/\v=e.val H.length/\(∀p,e.set=some p->p.1∈W/\∃x,H[p.1]?=some x/\x.alive=true)/\(∀p,e.push=some p->d/\EA p.2/\p.1.alive=true)/\∀a,kJ F H a->f a=some (e.heap a,e.val a.length):=
 ⟨⟨some (i,x),none,v⟩,rfl,rfl,λp b=>i_,λp b=>(by cases b),c⟩
def Ci{P:Prop}{C:m8}{t:TP}{s x:Value}{H:Tu}{F W:TC}(m:P)(K:∀r∈El s,r∈F/\r∈W)(U:∀r∈El x,r∈F):Hc P F W (gK C t s x) H:=by
 intro X v c;unfold gK at c;split at c
 case h_2=>cases c
 rename_i N T
 split at c
 .cases c
 rename_i b R
 split at c
 .cases c
 rename_i L
 split at c
 .cases c
 rename_i V
 split at c
 .cases c
 rename_i j n D
 have g:∀f,kJ F H f->gK C t s x f=(match (motive:=Value->Option (List s_×Value)) s with
   | .slice none 0 0=>
    if n=0 then some (f,.slice none 0 0)
    else if bc n b.bytes then some (f++[.cells j b.size true],.slice (some ⟨f.length,0,le b.size⟩) n 0)else none
   | .slice (some a) d B=>
    if a.spot≠le b.size then none else
    match f[a.block]? with
    |some (.cells A e rw)=>
     if e≠b.size then none else
     match cut A a.off (d*b.size)with
     |none=>none
     |some l=>
      match B with
      |0=>
       if n=0 then some (f,.slice (some a) d 0)
       else if rw&&bc (d+n) b.bytes then
        some (f.set a.block .dead++[.cells (l++j) b.size true],.slice (some ⟨f.length,0,le b.size⟩) (d+n) 0)
       else none
      |cap+1=>
       if d+n<=cap then
        if rw then(qa A (a.off+d*b.size) j).map λz=>(f.set a.block (.cells z e true),.slice (some a) (d+n) (cap+1))
        else if n=0 then some (f,.slice (some a) d (cap+1))else none
       else if bc (d+n) b.bytes then
        some (f++[.cells (l++j) b.size true],.slice (some ⟨f.length,0,le b.size⟩) (d+n) 0)
       else none
    |_=>none
   |_=>none):=by
  intro f i;unfold gK;simp only[T,R,L,if_false,V,kM D U i];rfl
 split at c
 .split at c
  next u=>
   cases c;exact oX (by rw[g H λ_ _ _ h _=>h];simp only[u,if_true]) λf i=>j_
  next u=>
   split at c
   next o=>
    cases c;exact uz (mk:=λk=>.slice (some ⟨k,0,le b.size⟩) n 0) m rfl (.slice _ _ _) λf i=>j_
   .cases c
 next a d B=>
  split at c
  .cases c
  rename_i q
  have G:a.block∈El (.slice (some a) d B):=by
   simp only[ne_eq,Classical.not_not]at q;simp[El,q,le]
  split at c
  case h_2=>cases c
  rename_i A e M i'
  split at c
  .cases c
  rename_i Q
  split at c
  .cases c
  rename_i l w
  have y:∀ {f},kJ F H f->f[a.block]?=some (.cells A e M):=λi=>fS i (K _ G).1 i';split at c
  .split at c
   next u=>
    cases c;exact oX (by rw[g H λ_ _ _ h _=>h];simp_all) λf i=>j_
   next u=>
    split at c
    next o=>
     cases c;refine⟨⟨some (a.block,.dead),some (.cells (l++j) b.size true,λk=>.slice (some ⟨k,0,le b.size⟩) (d+n) 0),undef⟩,rfl,rfl,λp I=>by cases I;exact⟨(K _ G).2,_,i',rfl⟩,λp I=>by cases I;exact⟨m,.slice _ _ _,rfl⟩,λf i=>?_⟩;rw[g f i];simp only[q,y i,Q,w,u,o,if_true,if_false];rfl
    .cases c
  .split at c
   next cap E=>
    split at c
    next J=>
     obtain⟨z,O,S⟩:=EC.1 c;cases S;exact qA (K _ G).2 i' rfl λf i=>j_
    next J=>
     split at c
     next u=>
      cases c;exact oX (by rw[g H λ_ _ _ h _=>h];simp_all) λf i=>j_
     .cases c
   next cap E=>
    split at c
    next o=>
     cases c;exact uz (mk:=λk=>.slice (some ⟨k,0,le b.size⟩) (d+n) 0) m rfl (.slice _ _ _) λf i=>j_
    .cases c
 .cases c
def Rq{B:Prop}{C:m8}{t:TP}{d x:TR}{H:Tu}{F W:TC}(q:∀r∈El d,r∈F/\r∈W)(s:∀r∈El x,r∈F):Hc B F W (pQ C t d x) H:=by
 intro E v b;unfold pQ at b;split at b
 next h m=>
  split at b
  .cases b
  rename_i f
  obtain⟨p,z,l⟩:=EC.1 b;cases l;exact oX (by unfold pQ;simp_all) λu j=>by unfold pQ;simp only[m,f,if_false,kM z s j,FJ]
 next h a g w m=>
  split at b
  .cases b
  rename_i f
  split at b
  .cases b
  rename_i c
  split at b
  case h_2=>cases b
  rename_i A n G e k i'
  split at b
  .cases b
  rename_i y
  obtain⟨D,i,l⟩:=EC.1 b;cases l;have o:a.block∈El (.slice (some a) g w):=by
   simp only[ne_eq,Classical.not_not]at c;simp[El,c,le]
  refine qA (q _ o).2 i' rfl λu j=>?_;unfold pQ;simp only[m,f,c,y,if_false,kM k s j,fS j (q _ o).1 i',i,FJ]
 .cases b
def Oo{b:Prop}{C:m8}{t:TP}{x:TR}{H:Tu}{F W:TC}(d:∀r∈El x,r∈F/\r∈W):Hc b F W (vI C t x) H:=by
 intro c v a;cases a
def Ot{g:Prop}{C:m8}{t:TP}{id off:Nat}{x:TR}{H:Tu}{F W:TC}(h1:id∈F)(b:id∈W):Hc g F W (kQ C t id off x) H:=by
 intro i v a;unfold kQ at a;split at a
 next k e i'=>
  obtain⟨h,f,d⟩:=EC.1 a;cases d;refine qA b i' rfl λj c=>?_;unfold kQ;simp only[fS c h1 i',f,FJ]
 .cases a
def sj{s:Prop}{C:m8}{t:TP}{m k x:TR}{H:Tu}{F W:TC}(q:∀r∈El m,r∈F/\r∈W):Hc s F W (cL C t m k x) H:=by
 intro u v a;unfold cL at a;split at a
 case h_2=>cases a
 rename_i z y id l
 split at a
 .cases a
 rename_i d
 split at a
 .cases a
 rename_i w c g
 obtain⟨e,n⟩:=q id (by simp[El]);have j:=(iQ (λ_ _ _ h _=>h:kJ F H H) e g).1;split at a
 .cases a
 next b=>
  cases a;refine qA n j rfl λo f=>?_;unfold cL;simp only[l,d,(iQ f e g).2,b];rfl
 next i b=>
  split at a
  next p=>
   cases a;refine qA n j rfl λo f=>?_;unfold cL;simp only[l,d,(iQ f e g).2,b,p];rfl
  .cases a
def Oq{b:Prop}{C:m8}{t:TP}{m k:TR}{H:Tu}{F W:TC}(d:∀r∈El m,r∈F/\r∈W):Hc b F W (jq C t m k) H:=by
 intro c v a;cases a
def Ck{b:Prop}{m s x:TR}{H:Tu}{F W:TC}(d:∀r∈El m,r∈F/\r∈W):Hc b F W (fX m s x) H:=by
 intro c v a;cases a
def Cj{b:Prop}{C:m8}{t:TP}{m k:TR}{H:Tu}{F W:TC}(d:∀r∈El m,r∈F/\r∈W):Hc b F W (pU C t m k) H:=by
 intro c v a;cases a
def Rr{f:Prop}{C:m8}{t:TP}{l c:TR}{H:Tu}{F W:TC}(d:f):Hc f F W (dP C t l c) H:=by
 intro j v a;unfold dP at a;split at a
 case h_2=>cases a
 rename_i i g e n o r
 split at a
 case h_2=>cases a
 rename_i b q
 split at a
 .cases a
 rename_i h
 split at a
 case h_2=>cases a
 rename_i z s
 split at a
 next p=>
  cases a;refine uz (mk:=λk=>.slice (some ⟨k,0,le b.size⟩) i.toNat (g.toNat+1)) d rfl (.slice _ _ _) λm _=>?_;unfold dP
  simp_all
 .cases a
def Cm{C:m8}{t:TP}{m k:TR}{ok:Bool}{H:Tu}{F:TC}(g:∀r∈El m,r∈F):Z9 F (dY C t m k ok) H:=by
 intro v a h e;unfold dY at a;unfold dY;split at a
 case h_2=>cases a
 rename_i o j l
 split at a
 .cases a
 rename_i b
 simp only[b];split at a
 .cases a
 rename_i z n
 split at a
 .exact a
 next id=>
  have d:=g id (by simp[El]);split at a
  .cases a
  rename_i i c f
  simp only[(iQ e d f).2];exact a
 .cases a
def WL{C:m8}{t:TP}{a:Addr}{d c e:Tk}{H:Tu}{F:TC}(f:∀r∈El (.pointer (some a)),r∈F):Z9 F (mn C t a d c e) H:=by
 intro v b;cases b
end Sx
namespace Sx
def Gd(b_:TC)(a:Tg)(o:Oper):TC:=(dw b_ o).1.flatMap λx=>C' (dw b_ o).2 (a x)
def K8(b_:TC)(a:Tg)(o:Oper):TC:=(fG b_ o).flatMap λx=>El (a x)
def Xi(N:Tc)(b_:TC)(o:Oper):Bool:=
 match aA N b_ o with
 |some .hw=>(match o.op with
  | .call c=>(match c.callee with
   | .builtin _=>true
   |_=>false)
  |_=>true)
 |some .hr=>(match o.op with
  | .call c=>(match c.callee with
   | .builtin _=>true
   |_=>false)
  |_=>true)
 |some _=>true
 |none=>false
def dQ{C:m8}{a:Tg}{o:Oper}{e:EZ}(h:cN C a o=some e):∃v,e = .val v:=by
 unfold cN at h
 grind
def ed{x:Tk}{e:EZ}(h:x.map EZ.val=some e):∃v,e = .val v:=by
 obtain⟨v,_,rfl⟩:=EC.1 h;exact⟨v,rfl⟩
def RM{a:Tk}{b:Option EZ}{e:EZ}(c:b=some e->∃v,e = .val v)(h:qL a b=some e):∃v,e = .val v:=by
 unfold qL at h
 grind
def Z8(Q a:Prop)(F W:TC):EZ->Prop
 | .Hk f=>∀H,Hc a F W f H
 | .Gf f=>∀H,Z9 F f H
 | .call _ _=>Q
 | .yield _ _=>Q
 |_=>True
def bY{Q a:Prop}{F W:TC}{e:EZ}(h:∃v,e = .val v):Z8 Q a F W e:=by
 obtain⟨v,rfl⟩:=h;trivial
def kP{v:TR}{p:Nat×Nat}(h:jp v=some p):El v=[p.1]:=by
 unfold jp at h;split at h
 next a=>
  split at h
  next c=>
   cases h;cases b:a.spot with
   |none=>simp[El,b]
   |some k=>simp_all
  .cases h
 .cases h
def As{Q c:Prop}{C:m8}{b_:TC}{d:Tq}{t:TP}{v:TR}{e:EZ}{F W:TC}(a:∀x,d=some x->b_.getD x 0≠x+2->c)(h:cM C b_ d t v=some e):Z8 Q c F W e:=by
 unfold cM at h;split at h
 .cases h
 .split at h
  .cases h
  .split at h
   .cases h
   .split at h
    .cases h;trivial
    next b=>
     cases h;exact λH=>yx (a _ rfl b) (.cells v.cells.toList (nz C.P t) true) (λn=>.pointer (some ⟨n,0,none⟩)) rfl .ptr
def NY{C:m8}{b_:TC}{u:Tg}{o:Oper}{e:EZ}(g:au C b_ u o=some e):Z8 (∃c f,o.op = .call c/\c.callee = .value f) (dI b_ o=true) (Gd b_ u o) (K8 b_ u o) e:=by
 unfold au at g;split at g
 .cases g;trivial
 .cases g;trivial
 .split at g
  .cases g;trivial
  .cases g
 next t h=>
  obtain⟨z,_,g⟩:=FY.1 g;exact As (λx F D=>by simp only[dI,h,F];cases O:Nat.beq (b_.getD x 0) (x+2)with
   |false=>rfl
   |true=>simp_all) g
 next t x h=>
  exact As (λx F D=>by simp only[dI,h,F];cases O:Nat.beq (b_.getD x 0) (x+2)with
   |false=>rfl
   |true=>simp_all) g
 .split at g
  .exact bY (ed g)
  .cases g
 next t n V h=>
  split at g
  .obtain⟨r,_,rfl⟩:=EC.1 g;exact λH=>yx (by simp only[dI,h]) (.cells r.2 r.1 true) (λk=>.slice (some ⟨k,0,le r.1⟩) n (n+1)) rfl (.slice _ _ _)
  .cases g
 next t a h=>
  unfold eG at g;split at g
  next G=>
   split at g
   next p D=>
    cases g;intro H v E M J;obtain⟨P,B,K⟩:=FY.1 E;have L:p.1∈Gd b_ u o:=by simp[Gd,dw,C',h,G,kP D]
    refine FY.2 ⟨P,?_,K⟩;unfold gG at B ⊢;split at B
    next i'=>cases B;rw[fS J L i']
    .cases B
   .obtain⟨p,_,rfl⟩:=EC.1 g;exact λH v E M _=>E
  .obtain⟨p,_,g⟩:=FY.1 g;exact bY (ed g)
  .obtain⟨p,_,rfl⟩:=EC.1 g;trivial
 next t a x h=>
  unfold fF at g;split at g
  .cases g
  .split at g
   next G=>
    obtain⟨p,D,rfl⟩:=EC.1 g;exact λH=>Ot (by simp[Gd,dw,C',h,G,kP D]) (by simp[K8,fG,h,G,kP D])
   .cases g
   .obtain⟨p,_,rfl⟩:=EC.1 g;trivial
 .split at g<;>cases g<;>trivial
 .split at g
  .split at g
   .split at g
    .cases g;trivial
    .cases g
   .exact bY (dQ g)
  .split at g
   .split at g
    .cases g;trivial
    .cases g
   .exact bY (dQ g)
  .exact bY (dQ g)
 .split at g
  .cases g
  .cases g;trivial
 next t r h=>
  split at g
  .cases g;exact λH=>yx (by simp only[dI,h]) (.map [] 0) (λn=>.map (some n)) rfl .map
  .cases g
 next t l c h=>
  cases g;exact λH=>Rr (by simp only[dI,h])
 next t x S Q T h=>
  split at g
  next a F=>
   split at g
   .exact bY (ed g)
   .cases g;exact λH=>WL λr i=>by simp[Gd,dw,C',lA,h,F];exact i
  .exact bY (RM dQ g)
 .exact bY (ed g)
 .exact bY (ed g)
 .exact bY (ed g)
 .exact bY (ed g)
 next t m k U h=>
  split at g
  .exact bY (ed g)
  .cases g;exact λH=>Cm λr i=>by simp[Gd,dw,C',h];exact i
 next t m k v h=>
  cases g;exact λH=>sj λr i=>⟨by simp[Gd,dw,C',h];exact i,by simp[K8,fG,h];exact i⟩
 next t m k v h=>
  cases g;exact λH=>sj λr i=>⟨by simp[Gd,dw,C',h];exact i,by simp[K8,fG,h];exact i⟩
 next t m k h=>
  cases g;exact λH=>Oq λr i=>⟨by simp[Gd,dw,C',h];exact i,by simp[K8,fG,h];exact i⟩
 next t m s v h=>
  cases g;exact λH=>Ck λr i=>⟨by simp[Gd,dw,C',h];exact i,by simp[K8,fG,h];exact i⟩
 .split at g
  .split at g
   .cases g
   .exact bY (ed g)
  .cases g
 next c h=>
  unfold gZ at g;simp only at g;cases j:c.callee with
  |invoke r m=>simp_all
  |builtin b=>
   simp only[j]at g;unfold aY at g;split at g
   next s x t y I=>
    split at g
    .cases g
    .cases g;have w:∃a b,c.args.toList=[a,b]/\u a=s/\u b=x:=by
      match c.args.toList,y with
      | [a,b],y=>grind
     obtain⟨a,b,q,rfl,rfl⟩:=w;exact λH=>Ci (by simp only[dI,h,j]) (λr i=>⟨by simp[Gd,dw,C',h,j,q,i],by simp[K8,fG,h,j,q,i]⟩) λr i=>by simp[Gd,dw,C',h,j,q,i]
   next x t y I=>
    split at g
    .cases g;trivial
    next id R=>
     cases g;have A:∃a,c.args.toList=[a]/\u a = .map (some id):=by
      simp_all
     obtain⟨a,q,N⟩:=A;intro H v E M J;obtain⟨p,B,K⟩:=EC.1 E;have L:id∈Gd b_ u o:=by simp[Gd,dw,C',d7,h,j,q,N]
     exact EC.2 ⟨p,(iQ J L B).2,K⟩
    .cases g;trivial
    .exact bY (dQ g)
   .split at g
    .cases g;trivial
    .cases g;trivial
    .cases g;trivial
    .cases g
   next d x t y I=>
    cases g;have w:∃a b,c.args.toList=[a,b]/\u a=d/\u b=x:=by
     match c.args.toList,y with
     | [a,b],y=>grind
    obtain⟨a,b,q,rfl,rfl⟩:=w;exact λH=>Rq (λr i=>⟨by simp[Gd,dw,C',h,j,q,i],by simp[K8,fG,h,j,q,i]⟩) λr i=>by simp[Gd,dw,C',h,j,q,i]
   next m k t y I=>
    cases g;have w:∃a b,c.args.toList=[a,b]/\u a=m/\u b=k:=by
     match c.args.toList,y with
     | [a,b],y=>grind
    obtain⟨a,b,q,rfl,rfl⟩:=w;exact λH=>Cj λr i=>⟨by simp[Gd,dw,C',h,j,q,i],by simp[K8,fG,h,j,q,i]⟩
   next x t y I=>
    cases g;have A:∃a,c.args.toList=[a]/\u a=x:=by
     simp_all
    obtain⟨a,q,rfl⟩:=A;exact λH=>Oo λr i=>⟨by simp[Gd,dw,C',h,j,q,i],by simp[K8,fG,h,j,q,i]⟩
   .exact bY (dQ g)
  |value f=>
   simp only[j]at g;split at g
   .cases g
   .split at g
    .split at g
     .cases g;exact⟨c,f,h,j⟩
     .cases g
    .split at g
     .cases g;exact⟨c,f,h,j⟩
     .cases g
    .cases g
 .exact bY (dQ g)
 .exact bY (dQ g)
 .cases g
section
variable [DB] {C:m8} {B:Below} {N:Tc} {b_:TC} {ops:To}
def tg(N:Tc)(b_:TC)(ops:To)(o:Oper)(g9 j8:St):Prop:=
 (∀t∈bo ops o,j8.tmps[t]?=g9.tmps[t]?)/\(match aA N b_ o with
 |some (.row s _)=>j8.loc[s]?=g9.loc[s]?
 |_=>True)/\kJ (Gd b_ (jn g9.tmps) o) g9.heap j8.heap
def fW(dst:Tq)(e:D_)(rw:Option (Nat×Option (Tn)))(k:Ts)(j8:St):St:=
 ({ tmps:=j8.tmps,loc:=(match rw with|some p=>j8.loc.set p.1 p.2|none=>j8.loc),heap:=(match k with
  |none=>e.heap j8.heap
  |some k=>match e.push with
   |some p=>(e.put j8.heap).set k p.1
   |none=>e.put j8.heap) }:St).put dst (match k with
  |none=>e.val j8.heap.length
  |some k=>e.val k)
def Ou(U:ER N B){i:Nat}{o:Oper}(M:ops[i]?=some o)(y:Xi N b_ o=true){g9 F:St}(t:aq C B b_ ops i g9 F) :
  ∃(e:D_) (rw:Option (Nat×Option (Tn))),F=fW o.dst e rw none g9/\(∀p,rw=some p->aA N b_ o=some (.row p.1 true))/\(e.push≠none->aA N b_ o=some .hw)/\
   (∀p,e.set=some p->p.1∈K8 b_ (jn g9.tmps) o/\∃x,g9.heap[p.1]?=some x/\x.alive=true)/\(∀p,e.push=some p->dI b_ o=true/\EA p.2/\p.1.alive=true)/\
   ∀j8,tg N b_ ops o g9 j8->∀n:Nat->Option Nat,
    (e.push=none->n i=none->eN C B b_ ops n i j8 (fW o.dst e rw none j8))/\
    (∀p k,e.push=some p->n i=some k->(e.put j8.heap)[k]?=some .dead->eN C B b_ ops n i j8 (fW o.dst e rw (some k) j8)):=by
 have E:aA N b_ o≠none:=by intro h;unfold Xi at y;rw[h]at y;cases y
 by_cases L:aA N b_ o=some .hr∨aA N b_ o=some .hw
 case neg=>
  obtain⟨e,I,J,K⟩:=jJ U M E t;have W:e.hp=none:=by
   cases z:e.hp with
   |none=>rfl
   |some x=>exact absurd (.inr (J.2 (by rw[z];simp))) L
  have A:∀j8,e.on o.dst j8=fW o.dst ⟨none,none,e.v⟩ e.rw none j8:=λj8=>by
   unfold Ef.on fW;rw[W];rfl
  refine⟨⟨none,none,e.v⟩,e.rw,by rw[I,A],J.1,λh=>absurd rfl h,λp b=>(by cases b),λp b=>(by cases b),λj8 d n=>⟨λ_ m=>?_,λp k b=>(by cases b)⟩⟩;unfold eN;rw[m];rw[←A];refine K j8 ⟨d.1,?_⟩;have:=d.2.1
  grind
 case pos=>
  unfold aq at t;simp only[M]at t;have Dm:∀j8,tg N b_ ops o g9 j8->cE ops j8.tmps o=cE ops g9.tmps o:=λj8 d=>zu d.1;have val:∀v:Value,F=g9.put o.dst v->(∀j8,tg N b_ ops o g9 j8->aq C B b_ ops i j8 (j8.put o.dst v))->
    ∃(e:D_) (rw:Option (Nat×Option (Tn))),F=fW o.dst e rw none g9/\(∀p,rw=some p->aA N b_ o=some (.row p.1 true))/\(e.push≠none->aA N b_ o=some .hw)/\
     (∀p,e.set=some p->p.1∈K8 b_ (jn g9.tmps) o/\∃x,g9.heap[p.1]?=some x/\x.alive=true)/\(∀p,e.push=some p->dI b_ o=true/\EA p.2/\p.1.alive=true)/\
     ∀j8,tg N b_ ops o g9 j8->∀n:Nat->Option Nat,
      (e.push=none->n i=none->eN C B b_ ops n i j8 (fW o.dst e rw none j8))/\
      (∀p k,e.push=some p->n i=some k->(e.put j8.heap)[k]?=some .dead->eN C B b_ ops n i j8 (fW o.dst e rw (some k) j8)):=by
   intro v u h;refine⟨⟨none,none,v⟩,none,u,λp b=>(by cases b),λh=>absurd rfl h,λp b=>(by cases b),λp b=>(by cases b),λj8 d n=>⟨λ_ m=>?_,λp k b=>(by cases b)⟩⟩;unfold eN;rw[m];exact h j8 d
  split at t
  .exact t.elim
  next X=>
   refine val undef t λj8 d=>?_;unfold aq
   simp_all
  next X=>
   have step:∀ {j8 G:St},tg N b_ ops o g9 j8->((∃e,au C b_ (jn j8.tmps) o=some e/\nP B e o.dst j8 G)∨(∃v,oh C j8.tmps o v/\G=j8.put o.dst v))->aq C B b_ ops i j8 G:=by
    intro j8 G d h;unfold aq
    simp_all
   rcases t with⟨e,z,O⟩|⟨v,u,rfl⟩
   .have H:∀j8,tg N b_ ops o g9 j8->au C b_ (jn j8.tmps) o=some e:=λj8 d=>by
     rw[pY N b_ E (AU d.1)];exact z
    have a:=jo (N:=N) (λ_=>rfl) E z;have j:=NY z;cases e with
    |val v=>
     obtain⟨p,b,rfl⟩:=O;cases b;exact val v rfl λj8 d=>step d (.inl ⟨_,H j8 d,_,rfl,rfl⟩)
    |GU s vs=>
     have a:aA N b_ o=some (.row s true):=a
     simp_all
    |Ir s f=>
     have a:aA N b_ o=some (.row s false):=a
     simp_all
    |GV s f=>
     have a:aA N b_ o=some (.row s true):=a
     simp_all
    |Gf f=>
     obtain⟨p,b,rfl⟩:=O;simp only[aX]at b;obtain⟨v,u,rfl⟩:=EC.1 b;refine val v rfl λj8 d=>step d (.inl ⟨_,H j8 d,(j8,v),?_,rfl⟩);simp only[aX,j _ _ u _ d.2.2,FJ]
    |Hk f=>
     obtain⟨p,b,rfl⟩:=O;simp only[aX]at b;obtain⟨q,u,rfl⟩:=EC.1 b;obtain⟨e,Z,l2,l3,P,Q⟩:=j g9.heap q.1 q.2 u;refine⟨e,none,?_,λp b=>(by cases b),λ_=>a,l3,P,λj8 d n=>⟨λb m=>?_,λp k b m V=>?_⟩⟩
     .unfold fW;rw[Z,l2]
     .unfold eN;rw[m];exact step d (.inl ⟨_,H j8 d,({ j8 with heap:=e.heap j8.heap },e.val j8.heap.length),by simp only[aX,Q _ d.2.2,FJ],rfl⟩)
     .unfold eN;rw[m];refine⟨o,f,e.put j8.heap,p.1,p.2,M,j_,H j8 d,?_,?_,V,(P p b).2.1,?_⟩
      .rw[Q _ d.2.2];unfold D_.heap D_.val;rw[b]
      .unfold D_.put;split<;>simp
      .unfold fW D_.val;rw[b]
    |call f r=>
     exfalso;have a:(aA N b_ o=some (.neu f)/\N f=some (2*r.length))∨(aA N b_ o=some .hr/\N f=some (2*r.length+1))∨aA N b_ o=some .hw:=a;rcases a with⟨h,_⟩|⟨h,_⟩|h
     .simp_all
     .obtain⟨c,g,R,S⟩:=j;unfold Xi at y
      simp_all
     .obtain⟨c,g,R,S⟩:=j;unfold Xi at y
      simp_all
    |yield l r=>
     exfalso;have a:aA N b_ o=some .hw:=a;obtain⟨c,g,R,S⟩:=j;unfold Xi at y
     simp_all
   .refine val v rfl λj8 d=>step d (.inr ⟨v,?_,rfl⟩);obtain⟨I,J,K,T⟩:=u;have D:=AU d.1;refine⟨I,?_,K,λw=>?_⟩
    .simp_all
    .rw[execOp_congr N b_ E (u4:=λx=>GE (jn g9.tmps x)) λx Y=>by rw[D x Y]];exact T w
end
end Sx
namespace Sx
section
variable [DB] {C:m8} {B:Below} {N:Tc} {b_:TC} {ops:To}
def FG(S:Nat->St->St->Prop):TC->St->St->Prop
 | [],g9,a=>a=g9
 |i :: l,g9,a=>∃j9,S i g9 j9/\FG S l j9 a
def qE{S:Nat->St->St->Prop}{i:Nat}{post:TC}:∀(pre:TC),(∀k∈pre,∀g9 j9 a:St,S k g9 j9->S i j9 a->∃j8,S i g9 j8/\S k j8 a)->
  ∀g9 a:St,FG S (pre++i :: post) g9 a->FG S (i :: (pre++post)) g9 a
 | [],_,g9,a,h=>h
 |k :: pre,b,g9,a,⟨j9,h1,d⟩=>by
  obtain⟨c,e,f⟩:=qE pre (λk l=>b k (by simp[l])) j9 a d;obtain⟨j8,g,j⟩:=b k c_ g9 j9 c h1 e;exact⟨j8,g,c,j,f⟩
def Af{S:Nat->St->St->Prop}(b:∀(i:Nat) o,ops[i]?=some o->∀e∈o.after.toList,Region.binds .any e=true->e.on<i)
  (d:∀i k:Nat,i<ops.size->k<i->JY ops k i∨∀g9 j9 f:St,S k g9 j9->S i j9 f->∃j8,S i g9 j8/\S k j8 f):∀(fuel t:Nat) (a:Array Bool),a.size=ops.size->(F0 ops.size a).length=fuel->
  (∀(x:Nat) o,a.getD x true=true->ops[x]?=some o->∀e∈o.after.toList,Region.binds .any e=true->a.getD e.on false=true)->
  ∀g9 f:St,FG S (F0 ops.size a) g9 f->FG S (Region.linearise.go .any ops fuel t a []) g9 f/\(Region.linearise.go .any ops fuel t a []).Nodup/\∀x∈Region.linearise.go .any ops fuel t a [],a.getD x true=false
 |0,t,a,_,Z,_,g9,f,h=>by
  have:F0 ops.size a=[]:=Ph.1 Z;rw[this]at h;simpa[Region.linearise.go]using h
 |fuel+1,t,a,V,Z,w,g9,f,h=>by
  simp only[Region.linearise.go];generalize E:((range ops.size).filter λi=>!a.getD i true&&((ops[i]?).map (·.after.all λe=>!Region.binds .any e||a.getD e.on false)).getD false)=rs;have l:∀i∈rs,i<ops.size/\a.getD i true=false/\∀o,ops[i]?=some o->∀e∈o.after.toList,Region.binds .any e=true->a.getD e.on false=true:=by
   intro i P;rw[←E,GH,CY]at P;obtain⟨h1,L⟩:=P;simp only[te,ZI]at L;refine⟨h1,L.1,λo u e I H=>?_⟩;have M:=L.2;rw[u]at M;simp only[FJ,U0]at M;rw[qcE]at M
   grind
  have U:rs≠[]:=by
   have hu:F0 ops.size a≠[]:=i_;obtain⟨F,tl,q⟩:=qc6 hu;have Q:F∈F0 ops.size a:=by rw[q];simp
   have g:=Q;rw[F0,GH,CY]at g;have n:F∈rs:=by
    rw[←E,GH,CY];refine⟨g.1,?_⟩;simp only[te];refine⟨g.2,?_⟩;have u:ops[F]?=some ops[F]:=by simp[g.1]
    rw[u];simp only[FJ,U0];rw[qcE];intro e I;cases H:Region.binds .any e with
    |false=>simp
    |true=>
     have ag:=b F _ u e (by simpa using I) H;simp only[EX,gu];by_cases ad:a.getD e.on true=true
     .grind
     .exfalso;have s:e.on∈F0 ops.size a:=by
       rw[F0,GH,CY]
       grind
      rw[q]at s;rcases EL.1 s with s|s
      .omega
      .have hs:(F0 ops.size a).Pairwise (· < ·):=qcW _ h8;rw[q,KH]at hs
       grind
   grind
  have c:0<rs.length:=w4.2 U;have z:rs[t%rs.length]?=some (rs[t%rs.length]'(KK _ c)):=Gm (KK _ c);rw[z];simp only;generalize P:rs[t%rs.length]'(KK _ c)=i;have n:i∈rs:=i_;obtain⟨i1,i2,i3⟩:=l i n;rw[linearise_go_acc,List.reverse_singleton,List.singleton_append];have R:i∈(range ops.size).filter λj=>!a.getD j true:=by
   simp_all
  obtain⟨r,post,K,e2,e3⟩:=jh List.nodup_range R;have A:=nR K;have p:F0 ops.size (a.setIfInBounds i true)=r++post:=by
   rw[←e2];unfold F0;refine qdh λj hj=>?_;rw[XM,XM,ZK]
   grind
  have T:=qE (S:=S) (i:=i) (post:=post) r (λk Y g9 j9 f W X=>by
   obtain⟨m1,m2⟩:=e3 k Y;rw[GH,CY]at m1;rcases d i k i1 (A k Y)with v|O
   .exfalso;have:=rH w v i3
    grind
   .exact O _ _ _ W X) g9 f
  obtain⟨j9,W,X⟩:=T (by rw[←K];exact h);obtain⟨r1,r2,r3⟩:=Af b d fuel (t / rs.length) (a.setIfInBounds i true) (by simp[V]) (by
    rw[p];have:(F0 ops.size a).length=(r++post).length+1:=by
     show(List.filter _ _).length=_;rw[K];simp;omega
    omega) (by
    intro x o J u e I H;have G:∀y,a.getD y false=true->(a.setIfInBounds i true).getD y false=true:=by
     intro y hy;rw[XM]at hy ⊢;rw[ZK]
     grind
    by_cases m:x=i
    .simp_all
    .refine G _ (w x o ?_ u e I H);rw[XM,ZK,rv (λe=>m e.symm)]at J
     simp_all) j9 f (by rw[p];exact X)
  have D:∀x∈Region.linearise.go .any ops fuel (t / rs.length) (a.setIfInBounds i true) [],x≠i/\a.getD x true=false:=by
   intro x J;have:=r3 x J;rw[XM,ZK]at this;by_cases m:i=x
   .simp_all
   .rw[rv m]at this;exact⟨Ej m,j_⟩
  refine⟨⟨j9,W,r1⟩,w9.2 ⟨λs=>(D i s).1 rfl,r2⟩,λx J=>?_⟩
  grind
end
end Sx
namespace Sx
def fD(a:List (Nat×s_))(H:Tu):Tu:=a.foldl (λH p=>H.set p.1 p.2) H
def jy:∀(a:List (Nat×s_)) (H:Tu),(fD a H).length=H.length
 | [],H=>rfl
 |p :: a,H=>by
  show(fD a (H.set p.1 p.2)).length=_;rw[jy a];simp
def mj{r:Nat}:∀ {a:List (Nat×s_)} {H:Tu},(∀p∈a,p.1≠r)->(fD a H)[r]?=H[r]?
 | [],H,_=>rfl
 |p :: a,H,h=>by
  show(fD a (H.set p.1 p.2))[r]?=_;rw[mj λq b=>h q (FZ _ b),IA (h p c_)]
def xy{i:Nat}{x:s_}:∀ {a:List (Nat×s_)} {H:Tu},(∀p∈a,p.1≠i)->fD a (H.set i x)=(fD a H).set i x
 | [],H,_=>rfl
 |p :: a,H,h=>by
  show fD a ((H.set i x).set p.1 p.2)=(fD a (H.set p.1 p.2)).set i x;rw[List.set_comm _ _ (Ej (h p c_)),xy λq b=>h q (FZ _ b)]
def jO:∀ {a b:List (Nat×s_)} {H:Tu},(∀p∈a,∀q∈b,p.1≠q.1)->fD a (fD b H)=fD b (fD a H)
 | [],b,H,_=>rfl
 |p :: a,b,H,h=>by
  show fD a ((fD b H).set p.1 p.2)=fD b (fD a (H.set p.1 p.2));rw[←xy λq c=>Ej (h p c_ q c)];exact jO λq c=>h q (FZ _ c)
section
variable [DB] {C:m8} {B:Below} {N:Tc} {b_:TC} {ops:To}
structure Rec where
 g9:St
 e:D_
 rw:Option (Nat×Option (Tn))
 k:Option Nat
def Rec.on(r:Rec)(o:Oper)(j8:St):St:=fW o.dst r.e r.rw r.k j8
def Rec.KP(N:Tc)(b_:TC)(ops:To)(r:Rec)(o:Oper)(j8:St):Prop:=
 tg N b_ ops o r.g9 j8/\∀k,r.k=some k->(r.e.put j8.heap)[k]?=some .dead
def Rec.slot(r:Rec):List (Nat×s_):=match r.k,r.e.push with
 |some k,some p=>[(k,p.1)]
 |_,_=>[]
def Rec.ws(r:Rec):List (Nat×s_):=r.e.set.toList++r.slot
structure Rec.Ok(C:m8)(B:Below)(N:Tc)(b_:TC)(ops:To)(i:Nat)(o:Oper)(r:Rec):Prop where
 row:∀p,r.rw=some p->aA N b_ o=some (.row p.1 true)
 wr:∀p,r.e.set=some p->p.1∈K8 b_ (jn r.g9.tmps) o
 kp:r.k=none↔r.e.push=none
 fr:∀p,r.e.push=some p->EA p.2/\aA N b_ o=some .hw/\dI b_ o=true
 step:∀j8,r.KP N b_ ops o j8->∀sl:Nat->Option Nat,sl i=r.k->eN C B b_ ops sl i j8 (r.on o j8)
def fC(e:D_)(H:Tu):e.put H=fD e.set.toList H:=by
 unfold D_.put;cases e.set<;>rfl
def ip{r:Rec}{o:Oper}{j8:St}(h:r.k=none↔r.e.push=none):(r.on o j8).heap=fD r.ws j8.heap:=by
 unfold Rec.on fW;rw[md];unfold Rec.ws Rec.slot;cases a:r.k with
 |none=>
  simp only[D_.heap,h.1 a,fC,HF]
 |some k=>
  cases b:r.e.push with
  |none=>simp_all
  |some p=>
   simp only[fC];show(fD r.e.set.toList j8.heap).set k p.1=_;unfold fD
   simp_all
def qK{r:Rec}{o:Oper}{j8:St}:(r.on o j8).loc=(match r.rw with|some p=>j8.loc.set p.1 p.2|none=>j8.loc):=by
 unfold Rec.on fW;rw[uT]
 all_goals grind
def Rec.val(r:Rec):Value:=match r.k with
 |some k=>r.e.val k
 |none=>r.e.v
def pe{r:Rec}{o:Oper}{j8:St}(h:r.k=none↔r.e.push=none):(r.on o j8).tmps=(match o.dst with|some d=>j8.tmps.set d r.val|none=>j8.tmps):=by
 unfold Rec.on fW;rw[uU];unfold Rec.val;cases a:r.k with
 |none=>simp only[D_.val,h.1 a];all_goals grind
 |some k=>cases o.dst<;>rfl
def Jx:MC->MC->Bool
 | .row s w,.row a w'=>!Nat.beq s a||(!w && !w')
 |_,_=>true
def T5(N:Tc)(b_:TC)(ops:To)(a b:Oper):Bool:=
 match aA N b_ a,aA N b_ b with
 |some m,some n=>Jx m n&&bA a.dst (bo ops b)&&bA b.dst (bo ops a)&&bi a.dst b.dst
 |_,_=>false
def rR{d:Tq}{l:TC}(a:bA d l=true):∀t∈l,∀x,d=some x->x≠t:=by
 intro t c x e b;subst e b;simp only[bA,ZI,qcu,decide_eq_false_iff_not]at a;exact a c
def Nu{a b:Oper}{m n:MC}{f rb:Rec}{G:Nat}(z:aA N b_ a=some m)(A:aA N b_ b=some n)(j:f.Ok C B N b_ ops G a)(g:Jx m n=true∨Jx n m=true)(D:bA a.dst (bo ops b)=true)
  (y:∀p∈f.ws,p.1∉Gd b_ (jn rb.g9.tmps) b) {j8:St}:tg N b_ ops b rb.g9 (f.on a j8)↔tg N b_ ops b rb.g9 j8:=by
 have v:∀t∈bo ops b,(f.on a j8).tmps[t]?=j8.tmps[t]?:=λt v=>by
  unfold Rec.on fW;exact uS λx i=>rR D t v x i
 have J:∀s w,aA N b_ b=some (.row s w)->(f.on a j8).loc[s]?=j8.loc[s]?:=λs w u=>by
  rw[qK];cases k:f.rw with
  |none=>rfl
  |some p=>
   have o:=j.row p k;rw[z]at o;rw[A]at u;cases o;cases u;have:p.1≠s:=by
    intro E;subst E;rcases g with h|h<;>simp[Jx]at h
   simp_all
 have q:∀r∈Gd b_ (jn rb.g9.tmps) b,(f.on a j8).heap[r]?=j8.heap[r]?:=λr d=>by
  rw[ip j.kp];exact mj λp F e=>y p F (e▸d)
 constructor
 .rintro⟨H,I,l⟩;refine⟨λt h=>j_,?_,λr d x i c=>by rw[←q r d];exact l r d x i c⟩
  grind
 .rintro⟨H,I,l⟩;refine⟨λt h=>j_,?_,λr d x i c=>by rw[q r d];exact l r d x i c⟩
  grind
def swapR{a b:Oper}{c rb:Rec}{P Q:Nat}(d:c.Ok C B N b_ ops P a)(f:rb.Ok C B N b_ ops Q b)(i:T5 N b_ ops a b=true)
  (M:∀p∈c.ws,p.1∉Gd b_ (jn rb.g9.tmps) b) (O:∀p∈rb.ws,p.1∉Gd b_ (jn c.g9.tmps) a) (r:∀p∈c.ws,∀q∈rb.ws,p.1≠q.1) {j8:St} (I:c.KP N b_ ops a j8) (J:rb.KP N b_ ops b (c.on a j8)) :
  rb.KP N b_ ops b j8/\c.KP N b_ ops a (rb.on b j8)/\rb.on b (c.on a j8)=c.on a (rb.on b j8):=by
 unfold T5 at i;split at i
 case h_2=>cases i
 rename_i m n z A
 simp only[te]at i;obtain⟨⟨⟨t,K⟩,L⟩,F⟩:=i;have S:=Nu (rb:=rb) z A d (.inl t) K M (j8:=j8);have R:=Nu (rb:=c) A z f (.inr t) L O (j8:=j8);refine⟨⟨S.1 J.1,λk h=>?_⟩,⟨R.2 I.1,λk h=>?_⟩,?_⟩
 .have o:=J.2 k h;have w:∃p,rb.e.push=some p:=by
   cases j:rb.e.push with
   |none=>rw[f.kp.2 j]at h;cases h
   |some p=>exact⟨p,rfl⟩
  obtain⟨p,j⟩:=w;have g:(k,p.1)∈rb.ws:=by simp[Rec.ws,Rec.slot,h,j]
  rw[ip d.kp,fC,←jO (λq l s i e=>r q l s (KF _ i) e),mj (λq l e=>r q l _ g e)]at o;rw[fC];exact o
 .have o:=I.2 k h;have v:∃p,c.e.push=some p:=by
   cases j:c.e.push with
   |none=>rw[d.kp.2 j]at h;cases h
   |some p=>exact⟨p,rfl⟩
  obtain⟨p,j⟩:=v;have g:(k,p.1)∈c.ws:=by simp[Rec.ws,Rec.slot,h,j]
  rw[ip f.kp,fC,jO (λq l s i e=>r q (KF _ l) s i e),mj (λq l e=>r _ g q l e.symm)];rw[fC]at o;exact o
 .have o:(rb.on b (c.on a j8)).tmps=(c.on a (rb.on b j8)).tmps:=by
   rw[pe f.kp,pe d.kp,pe d.kp,pe f.kp];cases D:a.dst with
   |none=>rfl
   |some x=>
    cases E:b.dst with
    |none=>rfl
    |some y=>
     rw[D,E]at F;have:x≠y:=by
      intro u;subst u;simp[bi]at F
     exact set_comm _ _ _ this
  have T:(rb.on b (c.on a j8)).loc=(c.on a (rb.on b j8)).loc:=by
   rw[qK,qK,qK,qK];cases D:c.rw with
   |none=>rfl
   |some p=>
    cases E:rb.rw with
    |none=>rfl
    |some q=>
     have G:=d.row p D;have H:=f.row q E;rw[z]at G;rw[A]at H;cases G;cases H;have:p.1≠q.1:=by
      intro u;rw[u]at t;simp[Jx]at t
     exact set_comm _ _ _ this
  have U:(rb.on b (c.on a j8)).heap=(c.on a (rb.on b j8)).heap:=by
   rw[ip f.kp,ip d.kp,ip d.kp,ip f.kp];exact(jO r).symm
  generalize rb.on b (c.on a j8)=x at *;generalize c.on a (rb.on b j8)=y at *;cases x;simp_all
end
end Sx
namespace Sx
section
variable [DB] {C:m8} {B:Below} {N:Tc} {b_:TC} {ops:To}
def St.Ev(g9:St)(m:Nat):St:=g9.pad (m - g9.heap.length)
def OQ(N:Tc)(b_:TC)(ops:To)(a:Nat->Rec)(i:Nat)(j8 b:St):Prop:=∃o,ops[i]?=some o/\(a i).KP N b_ ops o j8/\b=(a i).on o j8
def mh{D:Tu}:∀ {a:List (Nat×s_)} {H:Tu},(∀p∈a,p.1<H.length)->fD a (H++D)=fD a H++D
 | [],H,_=>rfl
 |p :: a,H,h=>by
  show fD a ((H++D).set p.1 p.2)=fD a (H.set p.1 p.2)++D;rw[qcZ _ _ (h p c_),mh λq b=>by
   grind]
structure RunOk(C:m8)(B:Below)(N:Tc)(b_:TC)(ops:To)(l:TC)(g9 j6:St)(rc:Nat->Rec):Prop where
 len:g9.heap.length<=j6.heap.length
 ok:∀i∈l,∀o,ops[i]?=some o->(rc i).Ok C B N b_ ops i o
 slot:∀i∈l,∀k,(rc i).k=some k->g9.heap.length<=k/\k<j6.heap.length
 inj:∀i∈l,∀j∈l,∀k,(rc i).k=some k->(rc j).k=some k->i=j
 ka:∀t,(∀j∈l,∀o,ops[j]?=some o->o.dst≠some t)->j6.tmps[t]?=g9.tmps[t]?
 args:∀i∈l,∀t,(∀j∈l,i<=j->∀o,ops[j]?=some o->o.dst≠some t)->j6.tmps[t]?=(rc i).g9.tmps[t]?
 res:∀i∈l,∀o d v,ops[i]?=some o->o.dst=some d->(∀j∈l,i<j->∀o,ops[j]?=some o->o.dst≠some d)->j6.tmps[d]?=some v->v=(rc i).val
 run:∀m,j6.heap.length<=m->FG (OQ N b_ ops rc) l (St.Ev g9 m) (St.Ev j6 m)
def NZ{dst:Tq}{e:D_}{rw:Option (Nat×Option (Tn))}{g9:St}:(fW dst e rw none g9).heap.length=g9.heap.length+(match e.push with|some _=>1|none=>0):=by
 unfold fW;rw[md];simp only[D_.heap,D_.put]
 grind
def mK{dst:Tq}{e:D_}{rw:Option (Nat×Option (Tn))}{k:Ts}{g9:St}:(fW dst e rw k g9).tmps=(match dst with|some d=>g9.tmps.set d (match k with|none=>e.val g9.heap.length|some k=>e.val k)|none=>g9.tmps):=by
 unfold fW;rw[uU]
 all_goals grind
def XY(F:ER N B){i:Nat}{o:Oper}(I:ops[i]?=some o)(G:Xi N b_ o=true){g9 j9:St}(K:aq C B b_ ops i g9 j9) :
  ∃r:Rec,r.g9=g9/\r.Ok C B N b_ ops i o/\g9.heap.length<=j9.heap.length/\(∀k,r.k=some k->k=g9.heap.length/\k<j9.heap.length)/\
   (∀t,o.dst≠some t->j9.tmps[t]?=g9.tmps[t]?)/\(∀d v,o.dst=some d->j9.tmps[d]?=some v->v=r.val)/\
   ∀m,j9.heap.length<=m->r.KP N b_ ops o (St.Ev g9 m)/\St.Ev j9 m=r.on o (St.Ev g9 m):=by
 obtain⟨e,rw,g,A,D,E,q,s⟩:=Ou (N:=N) F I G K;have b:j9.heap.length=g9.heap.length+(match e.push with|some _=>1|none=>0):=by rw[g];exact NZ
 refine⟨⟨g9,e,rw,match e.push with|some _=>some g9.heap.length|none=>none⟩,rfl,⟨A,λp a=>(E p a).1,?_,λp a=>⟨(q p a).2.1,D j_,(q p a).1⟩,?_⟩,a_,?_,?_,?_,?_⟩
 .grind
 .intro y n z f;unfold Rec.on;simp only at f ⊢;cases a:e.push with
  |none=>
   rw[a]at f;exact(s y n.1 z).1 a f
  |some p=>
   rw[a]at f;refine(s y n.1 z).2 p _ a f (n.2 _ ?_);simp only[a]
 .grind
 .intro t L;rw[g];unfold fW;exact uS λx w e=>L (by rw[w,e])
 .intro d v H h;rw[g,mK,H]at h;simp only[HZ]at h;split at h
  .split at h
   .cases h;unfold Rec.val;simp only[D_.val]
    grind
   .cases h
  simp_all
 .intro m R;have u:(St.Ev g9 m).heap=g9.heap++List.replicate (m - g9.heap.length) .dead:=rfl;have c:∀p∈e.set.toList,p.1<g9.heap.length:=λp a=>by
   grind
  refine⟨⟨⟨λt _=>rfl,?_,λr _ x w _=>?_⟩,λk j=>?_⟩,?_⟩
  .cases aA N b_ o with
   |none=>trivial
   |some M=>cases M<;>first|trivial|rfl
  .grind
  .simp only at j;cases a:e.push with
   |none=>rw[a]at j;cases j
   |some p=>
    rw[a]at j b;cases j;simp only at b ⊢;rw[fC,u,mh c,Iz (by rw[jy];omega),jy,SA,ZL,qs a_]
  · -- the same state
   have O:(St.Ev j9 m).tmps=((⟨g9,e,rw,match e.push with|some _=>some g9.heap.length|none=>none⟩ : Rec).on o (St.Ev g9 m)).tmps:=by
    show j9.tmps=_;unfold Rec.on;rw[g,mK,mK];show _=(match o.dst with|some d=>g9.tmps.set d _|none=>g9.tmps);cases o.dst with
    |none=>rfl
    |some d=>
     simp only[D_.val]
     grind
   have P:(St.Ev j9 m).loc=((⟨g9,e,rw,match e.push with|some _=>some g9.heap.length|none=>none⟩ : Rec).on o (St.Ev g9 m)).loc:=by
    show j9.loc=_;unfold Rec.on;rw[g];unfold fW;rw[uT,uT];rfl
   have e3:(St.Ev j9 m).heap=((⟨g9,e,rw,match e.push with|some _=>some g9.heap.length|none=>none⟩ : Rec).on o (St.Ev g9 m)).heap:=by
    show j9.heap++List.replicate (m - j9.heap.length) .dead=_;unfold Rec.on;have l:j9.heap=e.heap g9.heap:=by rw[g];unfold fW;rw[md]
    unfold fW;rw[md,u];cases a:e.push with
    |none=>
     rw[a]at b;simp only[a,D_.heap,fC]at l ⊢;rw[mh c,l];simp only[jy]
    |some p=>
     rw[a]at b;simp only at b;simp only[a,D_.heap,fC]at l ⊢;rw[mh c,l];have J:m - g9.heap.length=(m - g9.heap.length - 1)+1:=a_;rw[J,a8];rw[g3 _ _ i_,jy,SA,qcI]
     grind
   generalize Q:(⟨g9,e,rw,match e.push with|some _=>some g9.heap.length|none=>none⟩ : Rec).on o (St.Ev g9 m)=X at *;generalize St.Ev j9 m=Y at *;cases X;cases Y
   simp_all
def sO{S b:Nat->St->St->Prop}:∀ {l:TC},(∀i∈l,∀g9 a,S i g9 a->b i g9 a)->∀ {g9 a:St},FG S l g9 a->FG b l g9 a
 | [],_,_,_,h=>h
 |i :: l,c,g9,a,⟨j9,h1,d⟩=>⟨j9,c i c_ _ _ h1,sO (λj e=>c j (FZ _ e)) d⟩
def MU(J:ER N B):∀(l:TC) (g9 u:St),l.Pairwise (· < ·)->(∀i∈l,∃o,ops[i]?=some o/\Xi N b_ o=true)->br C B b_ ops l g9 u->∃z:Nat->Rec,RunOk C B N b_ ops l g9 u z
 | [],g9,u,_,_,h=>by
  have:u=g9:=h;subst this;exact⟨λ_=>⟨u,⟨none,none,undef⟩,none,none⟩,B8 _,λ_ h=>(by cases h),λ_ h=>(by cases h),λ_ h=>(by cases h),λ_ _=>rfl,λ_ h=>(by cases h),λ_ h=>(by cases h),λ_ _=>rfl⟩
 |i :: l,g9,u,A,y,⟨O,P,Q⟩=>by
  obtain⟨o,E,S⟩:=y i c_;obtain⟨r,rfl,Y,T,G,Z,U,V⟩:=XY J E S P;rw[KH]at A;obtain⟨z,R⟩:=MU J l O u A.2 (λj a=>y j (FZ _ a)) Q;have F:∀j∈l,j≠i:=λj a e=>i_;have c:∀j∈l,(if j=i then r else z j)=z j:=λj a=>rv (F j a);refine⟨λj=>if j=i then r else z j,Pm T R.len,?_,?_,?_,?_,?_,?_,?_⟩
  .intro j a q p;rcases EL.1 a with rfl|a
   .simp_all
   .simp only[c j a];exact R.ok j a q p
  .intro j a k n;rcases EL.1 a with rfl|a
   .simp only[if_true]at n;obtain⟨H,I⟩:=G k n;have:=R.len;omega
   .simp only[c j a]at n;have:=R.slot j a k n;omega
  .intro j a f b k n g;rcases EL.1 a with q1|q1<;>rcases EL.1 b with s|s
   .rw[q1,s]
   .simp only[q1,if_true]at n;simp only[c f s]at g;have H:=G k n;have I:=R.slot f s k g;omega
   .simp only[s,if_true]at g;simp only[c j q1]at n;have H:=G k g;have I:=R.slot j q1 k n;omega
   .simp only[c j q1]at n;simp only[c f s]at g;exact R.inj j q1 f s k n g
  .intro t D;rw[R.ka t λj a=>D j (FZ _ a)]
   simp_all
  .intro j a t D;rcases EL.1 a with rfl|a
   .simp only[if_true];have w:∀f∈l,∀q,ops[f]?=some q->q.dst≠some t:=λf b=>D f (FZ _ b) (qdC (A.1 f b));rw[R.ka t w]
    simp_all
   .simp only[c j a];exact R.args j a t λf b=>D f (FZ _ b)
  .intro j a q d v p K x M;rcases EL.1 a with rfl|a
   .simp only[if_true];rw[E]at p;cases p;refine U d v K ?_;rw[←R.ka d λf b=>x f (FZ _ b) (A.1 f b)];exact M
   .simp only[c j a];exact R.res j a q d v p K (λf b=>x f (FZ _ b)) M
  .intro m L;obtain⟨s1,s2⟩:=V m (Pm R.len L);refine⟨St.Ev O m,⟨o,E,?_,?_⟩,?_⟩
   .simp_all
   .simp_all
   .refine sO (λj a W r9 h=>?_) (R.run m L);obtain⟨q,q1,s,X⟩:=h;exact⟨q,q1,j_,j_⟩
end
end Sx
namespace Sx
section
variable [DB] {C:m8} {B:Below} {N:Tc} {b_:TC} {ops:To}
def xw(o:Oper)(g9:St):D2 N b_ ops o g9 g9:=by
 refine⟨λ_ _=>rfl,?_⟩
 grind
def OS{o:Oper}{g9 j8:St}(h:D2 N b_ ops o g9 j8):D2 N b_ ops o j8 g9:=by
 refine⟨λt a=>(h.1 t a).symm,?_⟩;have h:=h.2
 grind
def fR{o:Oper}{g9 j8 b:St}(h:D2 N b_ ops o g9 j8)(h':D2 N b_ ops o j8 b):D2 N b_ ops o g9 b:=by
 refine⟨λt a=>(h'.1 t a).trans (h.1 t a),?_⟩;have h:=h.2;have h':=h'.2;cases c:aA N b_ o with
 |none=>trivial
 |some m=>rw[c]at h h';cases m<;>first|trivial|exact h'.trans h
structure Loc(C:m8)(B:Below)(N:Tc)(b_:TC)(ops:To)(j:Nat)(b:Oper)(f:Ef)(j8 r9:St):Prop where
 is:r9=f.on b.dst j8
 tc:vz (aA N b_ b) f
 st:∀m7,D2 N b_ ops b j8 m7->aq C B b_ ops j m7 (f.on b.dst m7)
def ru(N:Tc)(b_:TC)(ops:To)(a b:Oper):Bool:=
 match aA N b_ a,aA N b_ b with
 |some m,some n=>m.ok2 n&&bA a.dst (bo ops b)&&bA b.dst (bo ops a)&&bi a.dst b.dst
 |_,_=>false
def BB{i j:Nat}{a b:Oper}{e f:Ef}(d:ru N b_ ops a b=true){j8 g q:St}(h1:Loc C B N b_ ops i a e j8 g)(c:Loc C B N b_ ops j b f g q) :
  Loc C B N b_ ops j b f j8 (f.on b.dst j8)/\Loc C B N b_ ops i a e (f.on b.dst j8) q/\D2 N b_ ops b g j8:=by
 unfold ru at d;split at d
 next m n k l=>
  simp only[te]at d;obtain⟨⟨⟨h,s⟩,t⟩,u⟩:=d;have r:D2 N b_ ops b g j8:=by
   rw[h1.is];exact OS (BJ k l (.inl h) s h1.tc j8)
  have v:D2 N b_ ops a j8 (f.on b.dst j8):=BJ l k (.inr h) t c.tc j8;refine⟨⟨rfl,c.tc,λo p=>c.st o (fR r p)⟩,⟨?_,h1.tc,λo p=>h1.st o (fR v p)⟩,r⟩;rw[c.is,h1.is];exact Mx k l h u h1.tc c.tc j8
 .cases d
def G1(N:Tc)(b_:TC)(ops:To)(a b:Oper):Bool:=
 (match aA N b_ a with
 |some .hr=>true
 |_=>false)&&((match aA N b_ b with
 |some .hw=>true
 |_=>false)&&(bA a.dst (bo ops b)&&(bA b.dst (bo ops a)&&(bA a.dst (bo ops a)&&bi a.dst b.dst))))
def jd{o:Oper}(b:aA N b_ o=some .hr){e:Ef}(a:vz (aA N b_ o) e):e.rw=none/\e.hp=none:=by
 rw[b]at a;constructor
 .cases h:e.rw with
  |none=>rfl
  |some p=>have:=a.1 p h;cases this
 .cases h:e.hp with
  |none=>rfl
  |some p=>have:=a.2 (by rw[h];simp);cases this
def iI{e:Ef}{d:Tq}{g9:St}{t:Nat}(h:∀x,d=some x->x≠t):(e.on d g9).tmps[t]?=g9.tmps[t]?:=by
 unfold Ef.on;exact uS h
def bO{d:Tq}{l:TC}(h:bA d l=true){t:Nat}(a:t∈l):∀x,d=some x->x≠t:=by
 intro x b e;subst e;rw[b]at h;simp only[bA,ZI,qcu,decide_eq_false_iff_not]at h;exact h a
def Ni{k i:Nat}{a b:Oper}{e f:Ef}(n:G1 N b_ ops a b=true){j8 j d:St}(h1:Loc C B N b_ ops k a e j8 j)(m:Loc C B N b_ ops i b f j d)(z:∀c,D2 N b_ ops a d c->aq C B b_ ops k c (e.on a.dst c)) :
  Loc C B N b_ ops i b f j8 (f.on b.dst j8)/\Loc C B N b_ ops k a e (f.on b.dst j8) d/\D2 N b_ ops a d (f.on b.dst j8):=by
 unfold G1 at n;simp only[te]at n;obtain⟨H,I,u,J,v,q⟩:=n;have D:aA N b_ a=some .hr:=by
  grind
 have E:aA N b_ b=some .hw:=by
  grind
 obtain⟨w,r⟩:=jd D h1.tc;have g:∀l:St,(e.on a.dst l).heap=l.heap:=λl=>by rw[eI,r];rfl
 have G:D2 N b_ ops b j j8:=by
  refine⟨λt o=>?_,?_⟩
  .rw[h1.is];exact(iI (bO u o)).symm
  .rw[E];show j8.heap=j.heap;rw[h1.is,g]
 have h:d=e.on a.dst (f.on b.dst j8):=by
  rw[m.is,h1.is];have K:(f.on b.dst (e.on a.dst j8)).tmps=(e.on a.dst (f.on b.dst j8)).tmps:=by
   simp only[mX];cases h:a.dst with
   |none=>rfl
   |some x=>
    cases F:b.dst with
    |none=>rfl
    |some y=>
     rw[h,F]at q;have:x≠y:=by intro A;subst A;simp[bi]at q
     exact set_comm _ _ _ this
  have L:(f.on b.dst (e.on a.dst j8)).loc=(e.on a.dst (f.on b.dst j8)).loc:=by
   simp only[AP,w]
  have M:(f.on b.dst (e.on a.dst j8)).heap=(e.on a.dst (f.on b.dst j8)).heap:=by
   simp only[eI,r,qds]
  generalize f.on b.dst (e.on a.dst j8)=x at *;generalize e.on a.dst (f.on b.dst j8)=y at *;cases x;simp_all
 have s:D2 N b_ ops a d (f.on b.dst j8):=by
  rw[h];refine⟨λt o=>(iI (bO v o)).symm,?_⟩
  simp_all
 exact⟨⟨rfl,m.tc,λc p=>m.st c (fR G p)⟩,⟨h,h1.tc,λc p=>z c (fR s p)⟩,s⟩
def X1(q:Nat->Nat->Oper->Oper->Bool)(j:Nat)(b:Oper)(m:Nat):TA->Nat->Bool
 | [],_=>true
 |a :: l,n=>(Nat.testBit m n||q n j a b)&&X1 q j b m l (n+1)
def yP(q:Nat->Nat->Oper->Oper->Bool)(ms:TC):TA->TA->Nat->Bool
 |_,[],_=>true
 |pre,b :: l,i=>X1 q i b (ms.getD i 0) pre 0&&yP q ms (pre++[b]) l (i+1)
def MX{q:Nat->Nat->Oper->Oper->Bool}{i:Nat}{b:Oper}{m:Nat}:∀ {l:TA} {k:Nat},X1 q i b m l k=true->∀(j:Nat) a,l[j]?=some a->m.testBit (k+j)=true∨q (k+j) i a b=true
 | [],k,_,j,a,h=>by simp at h
 |a :: l,k,h,j,c,d=>by
  simp only[X1,te,GN]at h;cases j with
  |zero=>simp_all
  |succ j=>
   have:=MX h.2 j c (by simpa using d)
   grind
def uK{q:Nat->Nat->Oper->Oper->Bool}{ms:TC}:∀ {l pre:TA} {i:Nat},pre.length=i->yP q ms pre l i=true->∀(j:Nat) b,l[j]?=some b->∀(k:Nat) a,k<i+j->(pre++l)[k]?=some a->(ms.getD (i+j) 0).testBit k=true∨q k (i+j) a b=true
 | [],pre,i,_,_,j,b,h,_,_,_,_=>by simp at h
 |b :: l,pre,i,f,h,j,c,e,k,a,g,d=>by
  simp only[yP,te]at h;cases j with
  |zero=>
   simp at e;subst e;rw[H3 a_]at d;have:=MX h.1 k a d;simpa using this
  |succ j=>
   have:=uK (pre:=pre++[b]) (i:=i+1) (by simp[f]) h.2 j c (by simpa using e) k a a_ (by simpa using d)
   grind
def Vb(q:Nat->Oper->Bool):TA->Nat->Bool
 | [],_=>true
 |b :: l,i=>q i b&&Vb q l (i+1)
def Ld{q:Nat->Oper->Bool}:∀ {l:TA} {i:Nat},Vb q l i=true->∀(j:Nat) b,l[j]?=some b->q (i+j) b=true
 | [],i,_,j,b,h=>by simp at h
 |a :: l,i,h,j,b,c=>by
  simp only[Vb,te]at h;cases j with
  |zero=>simp_all
  |succ j=>
   have:=Ld h.2 j b (by simpa using c)
   grind
def u'(N:Tc)(b_:TC)(ops:To)(k i n j:Nat)(a b:Oper):Bool:=
 match Nat.beq j i,Nat.beq n i with
 |true,_=>Nat.beq n k
 |_,true=>false
 |_,_=>ru N b_ ops a b
def xC(N:Tc)(b_:TC)(ops:To)(k i:Nat):Bool:=
 fV ops.toList 0&&(Nat.blt k i&&(ops.toList.all (λo=>(aA N b_ o).isSome)&&(yP (u' N b_ ops k i) (Gy ops.toList []) [] ops.toList 0 &&
  match ops[k]?,ops[i]? with
  |some a,some b=>G1 N b_ ops a b&&(a.dst.isSome&&Vb (λj o=>Nat.beq j k||bA o.dst a.dst.toList) ops.toList 0)
  |_,_=>false)))
def nW(k:ER N B)(a:∀(j:Nat) b,ops[j]?=some b->aA N b_ b≠none){j:Nat}{b:Oper}(c:ops[j]?=some b){j8 d:St}(h:aq C B b_ ops j j8 d):∃f,Loc C B N b_ ops j b f j8 d:=by
 obtain⟨f,e,g,i⟩:=jJ k c (a j b c) h;exact⟨f,e,g,i⟩
def KX(C:m8)(B:Below)(N:Tc)(b_:TC)(ops:To)(k i:Nat)(a:Oper)(e:Ef)(j:Nat)(j8 d:St):Prop:=
 ∃b f,ops[j]?=some b/\Loc C B N b_ ops j b f j8 d/\(j=k->f=e)/\(j=i->∀c,D2 N b_ ops a d c->aq C B b_ ops k c (e.on a.dst c))
def TY{k i:Nat}{a b:Oper}{e:Ef}(H:ops[k]?=some a)(I:ops[i]?=some b)(r:G1 N b_ ops a b=true)(L:yP (u' N b_ ops k i) (Gy ops.toList []) [] ops.toList 0=true)(j n:Nat)(K:j<ops.size)(Q:n<j) :
  JY ops n j∨∀j8 t s:St,KX C B N b_ ops k i a e n j8 t->KX C B N b_ ops k i a e j t s->∃p,KX C B N b_ ops k i a e j j8 p/\KX C B N b_ ops k i a e n p s:=by
 have m:ops[j]?=some ops[j]:=by simp[K]
 have o:ops[n]?=some (ops[n]'(by omega)):=j_;generalize ops[j]=y at m;generalize ops[n]'(by omega)=x at o;have d:=uK (pre:=[]) (i:=0) rfl L j y (by simpa using m) n x a_ (by simpa using o);rw[F9]at d;rcases d with d|d
 .exact .inl (pH ops.toList [] rfl (λi k h=>by simp at h) j n d)
 right;rintro j8 t s ⟨R,f,w,z,A,P⟩ ⟨S,g,D,E,F,G⟩;rw[o]at w;cases w;rw[m]at D;cases D;unfold u' at d;cases c:Nat.beq j i with
 |true=>
  rw[c]at d;have c:=Ey c;have q:=Ey d;subst c q;rw[H]at o;cases o;rw[I]at m;cases m;obtain rfl:=A rfl;obtain⟨u,v,O⟩:=Ni r z E (G rfl);exact⟨_,⟨_,g,I,u,F,λ_ p M=>G rfl p (fR O M)⟩,_,f,H,v,λ_=>rfl,λJ=>absurd J a_⟩
 |false=>
  rw[c]at d;cases l:Nat.beq n i with
  |true=>simp_all
  |false=>
   rw[l]at d;have d:ru N b_ ops x y=true:=d;have c:j≠i:=λh=>j_;have l:n≠i:=λh=>j_;obtain⟨u,v,_⟩:=BB d z E;exact⟨_,⟨y,g,m,u,F,λh=>absurd h c⟩,x,f,o,v,A,λh=>absurd h l⟩
def MA{b c:TC}:∀ {g9 a:St},br C B b_ ops (b++c) g9 a->∃j9,br C B b_ ops b g9 j9/\br C B b_ ops c j9 a:=by
 induction b with
 |nil=>intro g9 a h;exact⟨g9,rfl,h⟩
 |cons x l i=>
  rintro g9 a ⟨j9,d,e⟩;obtain⟨j,f,g⟩:=i e;exact⟨j,⟨j9,d,f⟩,g⟩
def zd{S:Nat->St->St->Prop}{b e:TC}:∀ {g9 j9 a:St},FG S b g9 j9->FG S e j9 a->FG S (b++e) g9 a:=by
 induction b with
 |nil=>intro g9 j9 a c d;cases c;exact d
 |cons x l g=>
  rintro g9 j9 a ⟨h,c,f⟩ d;exact⟨h,c,g f d⟩
def mZ{S:Nat->St->St->Prop}(b:∀i g9 a,S i g9 a->aq C B b_ ops i g9 a):∀ {l:TC} {g9 a:St},FG S l g9 a->br C B b_ ops l g9 a
 | [],_,_,h=>h
 |_ :: _,_,_,⟨j9,h1,c⟩=>⟨j9,b _ _ _ h1,mZ b c⟩
def jM{S:Nat->St->St->Prop}:∀ {l:TC},(∀i∈l,∀g9 a,aq C B b_ ops i g9 a->S i g9 a)->∀ {g9 a:St},br C B b_ ops l g9 a->FG S l g9 a
 | [],_,_,_,h=>h
 |_ :: _,b,_,_,⟨j9,h1,c⟩=>⟨j9,b _ c_ _ _ h1,jM (λi d=>b i (FZ _ d)) c⟩
def AS(g:ER N B)(a:∀(j:Nat) b,ops[j]?=some b->aA N b_ b≠none){d:Nat}:∀ {l:TC},(∀j∈l,∀b,ops[j]?=some b->∀x,b.dst=some x->x≠d)->∀ {g9 e:St},br C B b_ ops l g9 e->e.tmps[d]?=g9.tmps[d]?
 | [],_,_,_,h=>by cases h;rfl
 |j :: l,k,g9,e,⟨j9,h1,m⟩=>by
  rw[AS g a (λi o=>k i (FZ _ o)) m];cases c:ops[j]? with
  |none=>
   have:j9=g9:=by simpa[aq,c]using h1
   rw[this]
  |some b=>
   obtain⟨f,n⟩:=nW g a c h1;rw[n.is];exact iI (k j c_ b c)
def Vd(D:ER N B){k i:Nat}(q:xC N b_ ops k i=true){g9 j9 s9 M:St}(h1:br C B b_ ops (List.range' 0 (ops.toList.take (i+1)).length) g9 j9)(h2:aq C B b_ ops k j9 s9)(hs:Ii ops k j9 s9)
  (h3:br C B b_ ops (List.range' (i+1) (ops.toList.drop (i+1)).length) j9 M):eW C B b_ ops g9 M:=by
 unfold xC at q;simp only[te]at q;obtain⟨g1,g2,g3,g4,K⟩:=q;have ag:k<i:=j_;have c:∀(j:Nat) b,ops[j]?=some b->aA N b_ b≠none:=by
  grind
 split at K
 case h_2=>cases K
 rename_i a b E y
 simp only[te]at K;obtain⟨u,Q,g6⟩:=K;obtain⟨d,L⟩:=xT.1 Q;have hi:i<ops.size:=(JX.1 y).1;have ht:(ops.toList.take (i+1)).length=i+1:=tt;rw[ht]at h1;have I:List.range' 0 (i+1)=List.range' 0 k++(k :: (List.range' (k+1) (i - k - 1)++[i])):=by
  have e1:List.range' 0 (i+1)=List.range' 0 k++List.range' (0+k) (i+1 - k):=by rw[qcY];congr 1;omega
  have e2:List.range' (0+k) (i+1 - k)=k :: List.range' (k+1) (i - k):=by
   rw[show i+1 - k=(i - k)+1 by omega,a7,F9]
  have e3:List.range' (k+1) (i - k)=List.range' (k+1) (i - k - 1)++[i]:=by
   have:List.range' (k+1) (i - k)=List.range' (k+1) (i - k - 1)++List.range' (k+1+(i - k - 1)) 1:=by rw[qcY];congr 1;omega
   grind
  rw[e1,e2,e3]
 rw[I]at h1;obtain⟨Dk,p1,P,p2,p3⟩:=MA h1;obtain⟨Dl,p4,Dn,p5,p6⟩:=MA p3;cases p6;obtain⟨e,F⟩:=nW D c E p2;have hm:aA N b_ a=some .hr:=by
  have u:=u;unfold G1 at u
  grind
 obtain⟨e1,e2⟩:=jd hm F.tc;have r:∀j,j≠k->∀b,ops[j]?=some b->∀x,b.dst=some x->x≠d:=by
  intro j ad b p x hx;have:=Ld g6 j b (by simpa using p);rw[F9]at this;cases V:Nat.beq j k with
  |true=>simp_all
  |false=>
   rw[V,gu,L]at this;exact bO this c_ x hx
 have w:j9.tmps[d]?=P.tmps[d]?:=by
  have:br C B b_ ops (List.range' (k+1) (i - k - 1)++[i]) P j9:=p3;refine AS D c (λj p=>r j ?_) this
  grind
 obtain⟨g,T⟩:=nW D c E h2;obtain⟨f1,f2⟩:=jd hm T.tc;have U:g=e:=by
  obtain⟨a',d',x,Y,J,A,Z⟩:=hs;rw[E]at Y;cases Y;rw[L]at J;cases J;rw[T.is,mX,L]at Z;simp only[HZ]at Z;rw[qs trivial,qs (b1.1 A).1]at Z;rw[w,F.is,mX,L]at A;simp only[HZ]at A;rw[qs trivial]at A;split at A
  .cases g;cases e
   simp_all
  .cases A
 subst U;have l:∀j,j≠k->j≠i->j<ops.size->∀z O,aq C B b_ ops j z O->KX C B N b_ ops k i a g j z O:=by
  intro j hk W p z O h;have G:ops[j]?=some ops[j]:=by simp[p]
  obtain⟨f,R⟩:=nW D c G h;exact⟨_,f,G,R,λh=>absurd h hk,λh=>absurd h W⟩
 have H:FG (KX C B N b_ ops k i a g) (range ops.size) g9 M:=by
  have e0:range ops.size=List.range' 0 (i+1)++List.range' (i+1) (ops.toList.drop (i+1)).length:=by
   have:(ops.toList.drop (i+1)).length=ops.size - (i+1):=c_;rw[this,ZM];have:=qcY (s:=0) (m:=i+1) (n:=ops.size - (i+1))
   grind
  rw[e0,I];refine zd (zd (j9:=Dk) (jM (λj p=>?_) p1) ⟨P,⟨a,g,E,F,λ_=>rfl,λh=>absurd h a_⟩,zd (j9:=Dl) (jM (λj p=>?_) p4) ⟨j9,?_,rfl⟩⟩) (jM (λj p=>?_) h3)
  .rw[qdj]at p;exact l j a_ a_ a_
  .rw[qdj]at p;exact l j a_ a_ a_
  .obtain⟨f,R⟩:=nW D c y p5;exact⟨b,f,y,R,λh=>absurd h a_,λ_=>T.st⟩
  .rw[qdj]at p;have:(ops.toList.drop (i+1)).length=ops.size - (i+1):=c_;exact l j a_ a_ a_
 have v:∀(i:Nat) o,ops[i]?=some o->∀e∈o.after.toList,Region.binds .any e=true->e.on<i:=by
  intro i o X e F y;have:=eY g1 i o (by simpa using X) e F y;omega
 have hz:F0 ops.size (Array.replicate ops.size false)=range ops.size:=by
  unfold F0
  simp_all
 refine .inl λt=>?_;obtain⟨r1,_,_⟩:=Af (S:=KX C B N b_ ops k i a g) v (λj n p hn=>TY E y u g4 j n p hn) ops.size t (Array.replicate ops.size false) c_ (by rw[hz];simp) (λx o hx X=>by
  have al:x<ops.size:=(JX.1 X).1
  simp_all) g9 M (by rw[hz];exact H)
 refine mZ (λj z O hS=>?_) r1;obtain⟨b',f,Y,J,_,_⟩:=hS;rw[J.is];exact J.st z (xw b' z)
end
end Sx
namespace Sx
section
variable [DB] {C:m8} {B:Below} {N:Tc} {b_:TC} {ops:To}
def Cu{a b:Tq}(i:bi a b=true){e f:Ef}(h:e.rw=none)(d:e.hp=none)(j8:St):f.on b (e.on a j8)=e.on a (f.on b j8):=by
 have g:∀c:St,(e.on a c).heap=c.heap:=λc=>by rw[eI,d];rfl
 have k:(f.on b (e.on a j8)).tmps=(e.on a (f.on b j8)).tmps:=by
  simp only[mX];cases a with
  |none=>rfl
  |some x=>
   cases b with
   |none=>rfl
   |some y=>
    have:x≠y:=by intro j;subst j;simp[bi]at i
    exact set_comm _ _ _ this
 have l:(f.on b (e.on a j8)).loc=(e.on a (f.on b j8)).loc:=by
  simp only[AP,h]
 have m:(f.on b (e.on a j8)).heap=(e.on a (f.on b j8)).heap:=by
  simp only[eI,d,qds]
 generalize f.on b (e.on a j8)=x at *;generalize e.on a (f.on b j8)=y at *;cases x;simp_all
def yX{a b:Oper}(c:G1 N b_ ops a b=true):aA N b_ a=some .hr/\aA N b_ b=some .hw/\bA a.dst (bo ops b)=true/\bA b.dst (bo ops a)=true/\bA a.dst (bo ops a)=true/\bi a.dst b.dst=true:=by
 unfold G1 at c
 grind
def Yi{k i:Nat}{a b:Oper}{e f:Ef}(p:G1 N b_ ops b a=true){j8 j h:St}(h1:Loc C B N b_ ops k a e j8 j)(d:Loc C B N b_ ops i b f j h)(o:∀c,D2 N b_ ops b j8 c->aq C B b_ ops i c (f.on b.dst c)) :
  Loc C B N b_ ops i b f j8 (f.on b.dst j8)/\Loc C B N b_ ops k a e (f.on b.dst j8) h:=by
 obtain⟨q,r,l,v,w,m⟩:=yX p;obtain⟨n,g⟩:=jd q d.tc;refine⟨⟨rfl,d.tc,o⟩,⟨?_,h1.tc,λc u=>h1.st c (fR ⟨λt s=>iI (bO l s),?_⟩ u)⟩⟩
 .rw[d.is,h1.is];exact(Cu m n g j8).symm
 .rw[r];show(f.on b.dst j8).heap=j8.heap;rw[eI,g];rfl
def Jl(k i:Nat):List (Nat×Nat)->Bool
 | []=>false
 |p :: l=>match Nat.beq p.1 k,Nat.beq p.2 i with
  |true,true=>true
  |_,_=>Jl k i l
def uD{k i:Nat}:∀ {l:List (Nat×Nat)},Jl k i l=true->(k,i)∈l
 | [],h=>by cases h
 |p :: l,h=>by
  unfold Jl at h;split at h
  next h1 a=>
   rw[←Ey h1,←Ey a]
   grind
  .exact FZ _ (uD h)
def t4(N:Tc)(b_:TC)(ops:To)(c:List (Nat×Nat))(n j:Nat)(a b:Oper):Bool:=
 ru N b_ ops a b||((G1 N b_ ops a b&&Jl n j c)||(G1 N b_ ops b a&&Jl j n c))
def Yf(ops:To):TA->Bool
 | []=>true
 |b :: l=>bA b.dst (bo ops b)&&((l.all λa=>bA a.dst (bo ops b)&&bi a.dst b.dst)&&Yf ops l)
def Ax(N:Tc)(b_:TC)(ops:To)(a:List (Nat×Nat)):Bool:=
 fV ops.toList 0&&(ops.toList.all (λo=>(aA N b_ o).isSome)&&(Yf ops ops.toList&&yP (t4 N b_ ops a) (Gy ops.toList []) [] ops.toList 0))
def zp:∀ {l:TA},Yf ops l=true->∀(j:Nat) b,l[j]?=some b->∀(n:Nat) a,l[n]?=some a->(j<=n->bA a.dst (bo ops b)=true)/\(j<n->bi a.dst b.dst=true)
 | [],_,j,b,h,_,_,_=>by simp at h
 |c :: l,h,j,b,e,n,a,f=>by
  simp only[Yf,te,A_]at h;obtain⟨h1,g,d⟩:=h;cases j with
  |zero=>
   grind
  |succ j=>
   cases n with
   |zero=>omega
   |succ n=>
    have:=zp d j b (by simpa using e) n a (by simpa using f)
    simp_all
def Z3{c:St}:∀(m i:Nat) (j8:St) (a:List (Tu)),GL C B b_ ops (List.range' i m) j8 a c->
  ∃st:Nat->St,st i=j8/\st (i+m)=c/\(∀j,i<=j->j<i+m->aq C B b_ ops j (st j) (st (j+1)))/\∀j,j<m->a[j]?=some (st (i+j+1)).heap
 |0,i,j8,a,h=>by
  obtain⟨_,rfl⟩:=h;exact⟨λ_=>c,rfl,rfl,λj _ _=>absurd (show j<i+0 by assumption) a_,λj d=>absurd d a_⟩
 |m+1,i,j8,a,h=>by
  rw[a7]at h;obtain⟨l,b,n,e,g⟩:=h;subst e;obtain⟨st,o,p,q,r⟩:=Z3 m (i+1) l b g;refine⟨λj=>if j=i then j8 else st j,c_,?_,λj f k=>?_,λj d=>?_⟩
  .grind
  .grind
  grind
def Kt(C:m8)(B:Below)(N:Tc)(b_:TC)(ops:To)(e:Nat->Ef)(st:Nat->St)(c:St)(j:Nat)(j8 a:St):Prop:=
 ∃b,ops[j]?=some b/\Loc C B N b_ ops j b (e j) j8 a/\(∀t∈bo ops b,j8.tmps[t]?=c.tmps[t]?)/\(aA N b_ b=some .hw->j8.heap=(st j).heap/\a.heap=(st (j+1)).heap)
def L0{o:Oper}{e:Ef}(b:vz (aA N b_ o) e)(a:aA N b_ o≠some .hw):e.hp=none:=by
 cases h:e.hp with
 |none=>rfl
 |some p=>exact absurd (b.2 (by rw[h];simp)) a
def zM{a b:Oper}(c:ru N b_ ops a b=true):aA N b_ a≠some .hw∨aA N b_ b≠some .hw:=by
 unfold ru at c;split at c
 next m n f g=>
  simp only[te]at c;by_cases d:aA N b_ a=some .hw
  .by_cases e:aA N b_ b=some .hw
   .rw[d]at f;rw[e]at g;cases f;cases g;exact absurd c.1.1.1 m_
   .exact .inr e
  .exact .inl d
 .cases c
def BV{a b:Oper}(c:ru N b_ ops a b=true):bA b.dst (bo ops a)=true:=by
 unfold ru at c
 grind
def Rz{W:List (Nat×Nat)}{e:Nat->Ef}{st:Nat->St}{o:St}(U:∀k i,(k,i)∈W->i<ops.size->∀a,ops[k]?=some a->aA N b_ a=some .hr->∀c,D2 N b_ ops a { o with heap:=(if k<=i then(st (i+1)).heap else(st i).heap) } c->aq C B b_ ops k c ((e k).on a.dst c))
  (hp:yP (t4 N b_ ops W) (Gy ops.toList []) [] ops.toList 0=true) (j n:Nat) (V:j<ops.size) (hn:n<j) :
  JY ops n j∨∀j8 u v:St,Kt C B N b_ ops e st o n j8 u->Kt C B N b_ ops e st o j u v->∃c,Kt C B N b_ ops e st o j j8 c/\Kt C B N b_ ops e st o n c v:=by
 have p:ops[j]?=some ops[j]:=by simp[V]
 have q:ops[n]?=some (ops[n]'(by omega)):=j_;generalize ops[j]=y at p;generalize ops[n]'(by omega)=x at q;have d:=uK (pre:=[]) (i:=0) rfl hp j y (by simpa using p) n x a_ (by simpa using q);rw[F9]at d;rcases d with d|d
 .exact .inl (pH ops.toList [] rfl (λi k h=>by simp at h) j n d)
 right;rintro j8 u v ⟨x',R,g,D,Y⟩ ⟨y',S,r,J,Z⟩;rw[q]at R;cases R;rw[p]at S;cases S;unfold t4 at d;simp only[GN,te]at d;have E:u.heap=(e n).hp.getD j8.heap:=by rw[g.is,eI]
 have F:v.heap=(e j).hp.getD u.heap:=by rw[r.is,eI]
 have G:((e j).on y.dst j8).heap=(e j).hp.getD j8.heap:=eI;rcases d with d|⟨d,K⟩|⟨d,K⟩
 .obtain⟨w,z,w3⟩:=BB d g r;refine⟨_,⟨y,p,w,λt b=>(w3.1 t b).trans (J t b),λs=>?_⟩,x,q,z,λt b=>(iI (bO (BV d) b)).trans (D t b),λs=>?_⟩
  .have L:aA N b_ x≠some .hw:=(zM d).resolve_right λh=>h s;rw[L0 g.tc L]at E
   grind
  .have M:aA N b_ y≠some .hw:=(zM d).resolve_left λh=>h s;rw[L0 r.tc M]at F G
   grind
 .obtain⟨m,H,I,A,Q,X⟩:=yX d;obtain⟨O,P⟩:=Z H;have L:(e n).hp=none:=(jd m g.tc).2;rw[L]at E;have E:u.heap=j8.heap:=E;have f:∀c,D2 N b_ ops x v c->D2 N b_ ops x { o with heap:=(if n<=j then(st (j+1)).heap else(st j).heap) } c:=by
   intro c l;refine⟨λt b=>?_,?_⟩
   .rw[l.1 t b,r.is,iI (bO A b),g.is,iI (bO Q b)];exact D t b
   .rw[m];show c.heap=if n<=j then(st (j+1)).heap else(st j).heap
    rw[qs a_,←P];have:=l.2
    simp_all
  obtain⟨w,z,_⟩:=Ni d g r λc l=>U n j (uD K) V x q m c (f c l);refine⟨_,⟨y,p,w,λt b=>?_,λ_=>?_⟩,x,q,z,λt b=>(iI (bO A b)).trans (D t b),λs=>?_⟩
  .rw[←J t b,g.is];exact(iI (bO I b)).symm
  .simp_all
  simp_all
 .obtain⟨m,H,I,A,Q,X⟩:=yX d;obtain⟨O,P⟩:=Y H;have M:(e j).hp=none:=(jd m r.tc).2;rw[M]at F G;have F:v.heap=u.heap:=F;have G:((e j).on y.dst j8).heap=j8.heap:=G;have T:∀t∈bo ops y,j8.tmps[t]?=o.tmps[t]?:=λt b=>by
   rw[←J t b,g.is];exact(iI (bO A b)).symm
  have f:∀c,D2 N b_ ops y j8 c->D2 N b_ ops y { o with heap:=(if j<=n then(st (n+1)).heap else(st n).heap) } c:=by
   intro c l;refine⟨λt b=>?_,?_⟩
   .rw[l.1 t b];exact T t b
   .rw[m];show c.heap=if j<=n then(st (n+1)).heap else(st n).heap
    rw[rv a_,←O];have:=l.2
    simp_all
  obtain⟨w,z⟩:=Yi d g r λc l=>U j n (uD K) a_ y p m c (f c l);refine⟨_,⟨y,p,w,T,λs=>?_⟩,x,q,z,λt b=>(iI (bO I b)).trans (D t b),λ_=>?_⟩
  .rw[m]at s;cases s
  simp_all
def Nd(e:ER N B)(a:∀(j:Nat) b,ops[j]?=some b->aA N b_ b≠none){st:Nat->St}{t i:Nat}:∀(m:Nat),(∀j,i<=j->j<i+m->aq C B b_ ops j (st j) (st (j+1))/\∀b,ops[j]?=some b->∀x,b.dst=some x->x≠t)->(st (i+m)).tmps[t]?=(st i).tmps[t]?
 |0,_=>rfl
 |m+1,h=>by
  obtain⟨h1,g⟩:=h (i+m) a_ a_;rw[←Nd e a m λj c k=>h j c a_,show i+(m+1)=i+m+1 by omega];cases d:ops[i+m]? with
  |none=>
   have:st (i+m+1)=st (i+m):=by simpa[aq,d]using h1
   rw[this]
  |some b=>
   obtain⟨f,c⟩:=nW e a d h1;rw[c.is];exact iI (g b d)
def SX{S:Nat->St->St->Prop}{st:Nat->St}:∀(m i:Nat),(∀j,i<=j->j<i+m->S j (st j) (st (j+1)))->FG S (List.range' i m) (st i) (st (i+m))
 |0,i,_=>rfl
 |m+1,i,h=>by
  rw[a7];refine⟨st (i+1),h i a_ a_,?_⟩;have:=SX m (i+1) λj a b=>h j a_ a_
  grind
def Lg(P:ER N B){X:List (Nat×Nat)}(q:Ax N b_ ops X=true){g9 l:St}{A:List (Tu)}(h1:GL C B b_ ops (range ops.size) g9 A l)(h2:F_ C B b_ ops g9 A l X):eW C B b_ ops g9 l:=by
 unfold Ax at q;simp only[te]at q;obtain⟨g1,g2,Z,g4⟩:=q;have m:∀(j:Nat) b,ops[j]?=some b->aA N b_ b≠none:=by
  grind
 have w:∀ {i:Nat} {o:Oper},ops[i]?=some o->i<ops.size:=λD=>(JX.1 D).1;rw[ZM]at h1;obtain⟨st,s1,s2,O,s4⟩:=Z3 ops.size 0 g9 A h1;rw[F9]at s2;have O:∀j,j<ops.size->aq C B b_ ops j (st j) (st (j+1)):=λj c=>O j a_ a_;have s4:∀j,j<ops.size->A[j]?=some (st (j+1)).heap:=λj c=>j_;have R:∀j,∃f,∀b,ops[j]?=some b->Loc C B N b_ ops j b f (st j) (st (j+1)):=by
  intro j;cases c:ops[j]? with
  |none=>exact⟨⟨.nilFunc,none,none⟩,λb h=>by cases h⟩
  |some b=>
   obtain⟨f,T⟩:=nW P m c (O j (w c));exact⟨f,λY h=>by cases h;exact T⟩
 obtain⟨e,K⟩:=Classical.axiomOfChoice R;have p:∀(j:Nat) (t:Nat),j<=ops.size->(∀n,j<=n->∀a,ops[n]?=some a->∀x,a.dst=some x->x≠t)->l.tmps[t]?=(st j).tmps[t]?:=by
  intro j t c h;have:=Nd (t:=t) (i:=j) P m (ops.size - j) λn h3 h4=>⟨O n a_,h n h3⟩
  simp_all
 have r:∀(j:Nat) b,ops[j]?=some b->∀t∈bo ops b,(st j).tmps[t]?=l.tmps[t]?:=by
  intro j b c t ht;refine(p j t (qdC (w c)) λn L a s x hx=>?_).symm;exact bO ((zp Z j b (by simpa using c) n a (by simpa using s)).1 L) ht x hx
 have Q:∀k i,i<ops.size->atM g9.heap A (k,i)=if k<=i then(st (i+1)).heap else(st i).heap:=by
  intro k i D;unfold atM;show List.getD (g9.heap :: A) (match Nat.ble k i with|true=>i+1|false=>i) g9.heap=_;by_cases E:k<=i
  .rw[EY E,qs E,List.getD_eq_getElem?_getD,bm,s4 i D];rfl
  .rw[show Nat.ble k i=false by rw[←Hz];simp_all,rv E,List.getD_eq_getElem?_getD]
   grind
 have T:∀k i,(k,i)∈X->i<ops.size->∀a,ops[k]?=some a->aA N b_ a=some .hr->∀W,D2 N b_ ops a { l with heap:=(if k<=i then(st (i+1)).heap else(st i).heap) } W->aq C B b_ ops k W ((e k).on a.dst W):=by
  intro k i hm D a s hr;obtain⟨s9,M,o,d,x,G,H,q3,q4⟩:=h2 (k,i) hm;have G:ops[k]?=some o:=G;rw[s]at G;cases G;rw[Q k i D]at M;obtain⟨g,U⟩:=nW P m s M;have hl:=K k a s;obtain⟨f1,f2⟩:=jd hr U.tc;obtain⟨f3,f4⟩:=jd hr hl.tc;have V:g=e k:=by
   have E:l.tmps[d]?=(st (k+1)).tmps[d]?:=p (k+1) d (w s) λn L b u y hy=>by
    have:=(zp Z k a (by simpa using s) n b (by simpa using u)).2 a_;intro h;subst h;rw[hy,H]at this;simp[bi]at this
   have I:(g.on a.dst { l with heap:=(if k<=i then(st (i+1)).heap else(st i).heap) }).tmps[d]?=some x:=by rw[←U.is];exact q4
   have J:((e k).on a.dst (st k)).tmps[d]?=some x:=by rw[←hl.is,←E];exact q3
   rw[mX,H]at I J;simp only[HZ]at I J;rw[qs trivial]at I J;split at I
   .split at J
    .generalize e k=z at *;cases g;cases z
     grind
    .cases J
   .cases I
  subst V;exact U.st
 have F:FG (Kt C B N b_ ops e st l) (range ops.size) g9 l:=by
  rw[ZM];have:=SX (S:=Kt C B N b_ ops e st l) (st:=st) ops.size 0 λj _ c=>by
   rw[F9]at c;have u:ops[j]?=some ops[j]:=by simp[c]
   exact⟨_,u,K j _ u,r j _ u,λ_=>⟨rfl,rfl⟩⟩
  simp_all
 have v:∀(i:Nat) o,ops[i]?=some o->∀e∈o.after.toList,Region.binds .any e=true->e.on<i:=by
  intro i o ho e K u;have:=eY g1 i o (by simpa using ho) e K u;omega
 have hz:F0 ops.size (Array.replicate ops.size false)=range ops.size:=by
  unfold F0
  simp_all
 refine .inl λt=>?_;obtain⟨M,_,_⟩:=Af (S:=Kt C B N b_ ops e st l) v (λj n c L=>Rz T g4 j n c L) ops.size t (Array.replicate ops.size false) c_ (by rw[hz];simp) (λx o hx ho=>by
  simp_all) g9 l (by rw[hz];exact F)
 refine mZ (λj j8 r9 hS=>?_) M;obtain⟨Y,G,H,_,_⟩:=hS;rw[H.is];exact H.st j8 (xw Y j8)
end
end Sx
namespace Sx
section
variable [DB] {C:m8} {B:Below} {N:Tc} {b_:TC} {ops:To}
def Bo(q:Oper->Oper->Bool)(b:Oper)(m:Nat):TA->Nat->Bool
 | [],_=>true
 |a :: l,k=>(Nat.testBit m k||q a b)&&Bo q b m l (k+1)
def uJ(q:Oper->Oper->Bool)(ms:TC):TA->TA->Nat->Bool
 |_,[],_=>true
 |pre,b :: l,i=>Bo q b (ms.getD i 0) pre 0&&uJ q ms (pre++[b]) l (i+1)
def xj{q:Oper->Oper->Bool}{b:Oper}{m:Nat}:∀ {l:TA} {k:Nat},Bo q b m l k=true->∀(j:Nat) a,l[j]?=some a->m.testBit (k+j)=true∨q a b=true
 | [],k,_,j,a,h=>by simp at h
 |a :: l,k,h,j,c,d=>by
  simp only[Bo,te,GN]at h;cases j with
  |zero=>simp_all
  |succ j=>
   have:=xj h.2 j c (by simpa using d)
   grind
def sF{q:Oper->Oper->Bool}{ms:TC}:∀ {l pre:TA} {i:Nat},pre.length=i->uJ q ms pre l i=true->∀(j:Nat) b,l[j]?=some b->∀(k:Nat) a,k<i+j->(pre++l)[k]?=some a->(ms.getD (i+j) 0).testBit k=true∨q a b=true
 | [],pre,i,_,_,j,b,h,_,_,_,_=>by simp at h
 |b :: l,pre,i,f,h,j,c,e,k,a,g,d=>by
  simp only[uJ,te]at h;cases j with
  |zero=>
   simp at e;subst e;rw[H3 a_]at d;have:=xj h.1 k a d;simpa using this
  |succ j=>
   have:=sF (pre:=pre++[b]) (i:=i+1) (by simp[f]) h.2 j c (by simpa using e) k a a_ (by simpa using d)
   grind
def vR{b:Oper}{m i:Nat}:∀ {l:TA} {k:Nat} (j:Nat) a,l[j]?=some a->m.testBit (k+j)=false->Qf b_ a b=true->(k+j,i)∈vQ b_ b m i l k
 | [],k,j,a,h,_,_=>by simp at h
 |a :: l,k,j,c,e,f,d=>by
  unfold vQ;cases j with
  |zero=>
   simp_all
  |succ j=>
   have:=vR (i:=i) (k:=k+1) j c (by simpa using e) (by rwa [show k+1+j=k+(j+1)by omega]) d
   grind
def vP{ms:TC}:∀ {l pre:TA} {i:Nat},pre.length=i->∀(j:Nat) b,l[j]?=some b->∀(k:Nat) a,k<i+j->(pre++l)[k]?=some a->(ms.getD (i+j) 0).testBit k=false->Qf b_ a b=true->(k,i+j)∈zT b_ ms pre l i
 | [],pre,i,_,j,b,h,_,_,_,_,_,_=>by simp at h
 |b :: l,pre,i,g,j,c,e,k,a,n,d,m,f=>by
  unfold zT;rw[Fs];cases j with
  |zero=>
   simp at e;subst e;rw[H3 a_]at d;have:=vR (b_:=b_) (i:=i) (k:=0) k a d (by simpa using m) f
   simp_all
  |succ j=>
   right;have:=vP (pre:=pre++[b]) (i:=i+1) (by simp[g]) j c (by simpa using e) k a a_ (by simpa using d) (by rwa [show i+1+j=i+(j+1)by omega]) f
   grind
def hq(b_:TC)(o:Oper):TC:=((dw b_ o).1++fG b_ o).filterMap λx=>match x with
 | .tmp t=>some t
 |_=>none
def Ye(b_:TC):TA->TA->Bool
 |_,[]=>true
 |pre,b :: l=>bA b.dst (hq b_ b)&&(pre.all λa=>bA b.dst (hq b_ a)&&bi a.dst b.dst)&&Ye b_ (pre++[b]) l
def zo:∀ {l pre:TA},Ye b_ pre l=true->∀(j:Nat) b,l[j]?=some b->∀(k:Nat) a,(pre++l)[k]?=some a->(k<=pre.length+j->bA b.dst (hq b_ a)=true)/\(k<pre.length+j->bi a.dst b.dst=true)
 | [],pre,_,j,b,h,_,_,_=>by simp at h
 |b :: l,pre,h,j,c,f,k,a,e=>by
  simp only[Ye,te,A_]at h;obtain⟨⟨h1,g⟩,d⟩:=h;cases j with
  |zero=>
   grind
  |succ j=>
   have:=zo d j c (by simpa using f) k a (by simpa using e)
   grind
def KS(N:Tc)(b_:TC)(ops:To):Bool:=
 fV ops.toList 0&&(ops.toList.all (Xi N b_)&&(ops.toList.any (dI b_)&&(ops.toList.all (λo=>!dI b_ o||o.dst.isSome)&&(Ye b_ [] ops.toList&&uJ (λa b=>T5 N b_ ops a b && !lG a b) (Gy ops.toList []) [] ops.toList 0))))
def Yc(N:Tc)(b_:TC)(ops:To)(i:Nat):Nat->Option Nat
 |0=>none
 |k+1=>match ops[k]?,ops[i]? with
  |some a,some b=>match G1 N b_ ops a b&&xC N b_ ops k i with
   |true=>some k
   |false=>Yc N b_ ops i k
  |_,_=>none
def Yb(N:Tc)(b_:TC)(ops:To):Nat->Option (List (Nat×Nat))
 |0=>none
 |i+1=>match Yc N b_ ops i i with
  |some k=>some [(k+1000,i)]
  |none=>Yb N b_ ops i
def Ay(N:Tc)(b_:TC)(ops:To)(j:Nat)(b:Oper)(m:Nat):TA->Nat->List (Nat×Nat)
 | [],_=>[]
 |a :: l,n=>match Nat.testBit m n||ru N b_ ops a b,G1 N b_ ops a b with
  |true,_=>Ay N b_ ops j b m l (n+1)
  |false,true=>(n,j) :: Ay N b_ ops j b m l (n+1)
  |false,false=>(j,n) :: Ay N b_ ops j b m l (n+1)
def Ks(N:Tc)(b_:TC)(ops:To)(ms:TC):TA->TA->Nat->List (Nat×Nat)
 |_,[],_=>[]
 |pre,b :: l,i=>Ay N b_ ops i b (ms.getD i 0) pre 0++Ks N b_ ops ms (pre++[b]) l (i+1)
def WP(N:Tc)(b_:TC)(ops:To):Option (List (Nat×Nat)):=
 match Ax N b_ ops (Ks N b_ ops (Gy ops.toList []) [] ops.toList 0)with
 |true=>some ((5000,0) :: Ks N b_ ops (Gy ops.toList []) [] ops.toList 0)
 |false=>none
def y5(N:Tc):Dr:=λb_ ops=>match zU b_ ops with
 | []=>match xh N b_ ops with
  |true=>some []
  |false=>match Yb N b_ ops ops.size with
   |some a=>match GD a with
    |none=>some a
    |some _=>none
   |none=>WP N b_ ops
 |p :: a=>match GD (p :: a),HC (p :: a),KS N b_ ops with
  |none,none,true=>some (p :: a)
  |_,_,_=>WP N b_ ops
def Nc{i:Nat}:∀ {n k:Nat},Yc N b_ ops i n=some k->xC N b_ ops k i=true
 |0,k,h=>by cases h
 |n+1,k,h=>by
  unfold Yc at h;split at h
  .split at h
   .simp_all
   .exact Nc h
  .cases h
def Nb:∀ {n:Nat} {a:List (Nat×Nat)},Yb N b_ ops n=some a->∃k i,a=[(k+1000,i)]/\xC N b_ ops k i=true
 |0,a,h=>by cases h
 |n+1,a,h=>by
  unfold Yb at h;split at h
  next k b=>
   cases h;exact⟨k,n,rfl,Nc b⟩
  .exact Nb h
def QU{o:Oper}(h:E3 b_ o=0):(dw b_ o).1=[]/\fG b_ o=[]/\dI b_ o=false:=by
 obtain⟨dst,k,i,pos,d,guard⟩:=o;cases k<;>simp only[E3]at h<;>first|(exact⟨rfl,rfl,rfl⟩)|(exact absurd h m_)|skip
 case alloc t=>cases g:dI b_ ⟨dst,.alloc t,i,pos,d,guard⟩with
  |true=>rw[g]at h;cases h
  |false=>exact⟨rfl,rfl,rfl⟩
 case box t x=>cases g:dI b_ ⟨dst,.box t x,i,pos,d,guard⟩with
  |true=>rw[g]at h;cases h
  |false=>exact⟨rfl,rfl,rfl⟩
 case load t a=>
  split at h
  .cases h
  next j=>
   refine⟨?_,rfl,rfl⟩;simp only[dw]
 case store t a x=>
  split at h
  .cases h
  next j=>
   refine⟨?_,?_,rfl⟩
   .simp only[dw]
   .simp only[fG]
 case call c=>
  cases e:c.callee with
  |builtin b=>
   rw[e]at h;simp only[dw,fG,dI,e]
   grind
  |value f=>simp only[dw,fG,dI,e];simp_all
  |invoke r m=>simp only[dw,fG,dI,e];simp_all
def Zh{o:Oper}(h:E3 b_ o=1):fG b_ o=[]/\dI b_ o=false:=by
 obtain⟨dst,j,i,pos,d,guard⟩:=o;cases j<;>simp only[E3]at h<;>first|(exact⟨rfl,rfl⟩)|(exact absurd h m_)|skip
 case alloc t=>cases g:dI b_ ⟨dst,.alloc t,i,pos,d,guard⟩with
  |true=>rw[g]at h;cases h
  |false=>exact⟨rfl,rfl⟩
 case box t x=>cases g:dI b_ ⟨dst,.box t x,i,pos,d,guard⟩with
  |true=>rw[g]at h;cases h
  |false=>exact⟨rfl,rfl⟩
 case store t a x=>split at h<;>cases h
 case call c=>
  cases e:c.callee with
  |builtin b=>
   rw[e]at h;simp only[fG,dI,e];cases b<;>first|(exact⟨rfl,rfl⟩)|(exact absurd h c_)
  |value f=>simp only[fG,dI,e];exact⟨trivial,trivial⟩
  |invoke r m=>simp only[fG,dI,e];exact⟨trivial,trivial⟩
def um(o:Oper):E3 b_ o=0∨E3 b_ o=1∨E3 b_ o=2:=by
 obtain⟨dst,d,e,pos,b,guard⟩:=o;cases d<;>simp only[E3]<;>first|(exact .inl trivial)|(exact .inr (.inl trivial))|(exact .inr (.inr trivial))|skip
 case alloc t=>split<;>simp
 case box t x=>split<;>simp
 case load t a=>split<;>simp
 case store t a x=>split<;>simp
 case call c=>split<;>first|(split<;>simp)|simp
end
end Sx
namespace Sx
section
variable [DB] {C:m8} {B:Below} {N:Tc} {b_:TC} {ops:To}
def Oe{mk:Nat->TR}(h:EA mk)(k:Nat):El (mk k)=[k]:=by
 cases h<;>simp[El,le]
def Bu{S:Nat->St->St->Prop}{d:Nat->Ts}(c:∀i g9 a,S i g9 a->eN C B b_ ops d i g9 a):∀ {l:TC},l.Nodup->∀ {g9 a:St},FG S l g9 a->jP C B b_ ops d l g9 a
 | [],_,_,_,h=>h
 |i :: l,b,g9,a,⟨j9,h1,e⟩=>by
  rw[w9]at b;exact⟨b.1,j9,c i _ _ h1,Bu c b.2 e⟩
def Xk{o:Oper}{t:Nat}(h:Operand.tmp t∈(dw b_ o).1++fG b_ o):t∈hq b_ o:=by
 unfold hq
 grind
def Vc [En](hN:ER N B)(A:KS N b_ ops=true){g9 m:St}(h:br C B b_ ops (range ops.size) g9 m)(O:K_ b_ ops m.tmps (zU b_ ops)):eW C B b_ ops g9 m:=by
 simp only[KS,te]at A;obtain⟨g1,g2,g3,g4,g5,g6⟩:=A;have ap:∀i∈range ops.size,∃o,ops[i]?=some o/\Xi N b_ o=true:=by
  simp_all
 obtain⟨f,R⟩:=MU hN (range ops.size) g9 m h8 ap h;have ax:∀ {i:Nat} {o:Oper},ops[i]?=some o->i<ops.size:=λc=>(JX.1 c).1;have g:∀ {i:Nat} {o:Oper},ops[i]?=some o->i∈range ops.size:=λc=>CY.2 (ax c);have hl:∀ {i:Nat} {o:Oper},ops[i]?=some o->ops.toList[i]?=some o:=λc=>by simpa using c
 have av:∀ {i:Nat} {o:Oper},ops[i]?=some o->∀x∈(dw b_ o).1++fG b_ o,jn m.tmps x=jn (f i).g9.tmps x:=by
  intro i o c x T;refine nj λt ht=>?_;subst ht;refine R.args i (g c) t λj hj an o' G I=>?_;have:=(zo g5 j o' (hl G) i o (by simpa using c)).1 a_;exact rR this t (Xk T) t I rfl
 have hF:∀ {i:Nat} {o:Oper},ops[i]?=some o->∀r∈Gd b_ (jn (f i).g9.tmps) o,r∈z3 b_ m.tmps o:=by
  intro i o c r hr;unfold Gd at hr;unfold z3
  grind
 have hW:∀ {i:Nat} {o:Oper},ops[i]?=some o->Jb b_ m.tmps o->∀p∈(f i).ws,p.1∈U3 b_ m.tmps o:=by
  intro i o c ag p hp;have K:=R.ok i (g c) o c;unfold Rec.ws at hp;unfold U3;rw[GG];rcases Fs.1 hp with hp|hp
  .have:=K.wr p (by simpa using hp);unfold K8 at this;obtain⟨x,T,hr⟩:=GG.1 this;exact⟨x,KF _ T,by rw[av c x (UX _ T)];exact hr⟩
  .unfold Rec.slot at hp;split at hp
   next k q s z=>
    have hp:p=(k,q.1):=by simpa using hp
    subst hp;obtain⟨f1,f2,f3⟩:=K.fr q z;have L:E3 b_ o=2:=by
     rcases um (b_:=b_) o with u|u|u
     .rw[(QU u).2.2]at f3;cases f3
     .rw[(Zh u).2]at f3;cases f3
     .exact u
    have al:o.dst.isSome=true:=by
     grind
    obtain⟨d,I⟩:=xT.1 al;obtain⟨v,hv⟩:=ag d I L;have Q:=R.res i (g c) o d v c I (λj hj an o' G ad=>by
     have:=(zo g5 j o' (hl G) i o (by simpa using c)).2 a_;rw[I,ad]at this;simp[bi]at this) hv
    refine⟨.tmp d,vw I L,?_⟩;have V:jn m.tmps (.tmp d)=v:=by simp[jn,List.getD_eq_getElem?_getD,hv]
    rw[V,Q];unfold Rec.val D_.val;rw[s];simp only[z];rw[Oe f1]
    simp_all
   .cases hp
 have a2:∀ {i:Nat} {o:Oper},ops[i]?=some o->E3 b_ o≠2->(f i).ws=[]:=by
  intro i o c hc;have K:=R.ok i (g c) o c;have hw:fG b_ o=[]/\dI b_ o=false:=by
   rcases um (b_:=b_) o with u|u|u
   .exact(QU u).2
   .exact Zh u
   omega
  have X:(f i).e.set=none:=by
   cases hs:(f i).e.set with
   |none=>rfl
   |some p=>
    have:=K.wr p hs;unfold K8 at this
    simp_all
  have Y:(f i).e.push=none:=by
   cases hs:(f i).e.push with
   |none=>rfl
   |some p=>have:=(K.fr p hs).2.2;simp_all
  unfold Rec.ws Rec.slot
  simp_all
 have ay:∀ {i:Nat} {o:Oper},E3 b_ o=0->Gd b_ (jn (f i).g9.tmps) o=[]:=by
  intro i o hc;unfold Gd;rw[(QU hc).1];rfl
 refine .inr ⟨λi=>if i<ops.size then(f i).k else none,m.heap.length - g9.heap.length,g3,?_,?_,λt=>?_⟩
 .intro i k s;simp only at s;split at s
  next c=>
   have:=R.slot i (CY.2 c) k s;omega
  .cases s
 .intro i j k s y;simp only at s y;split at s
  next c=>
   split at y
   next hj=>
    exact R.inj i (CY.2 c) j (CY.2 hj) k s y
   .cases y
  .cases s
 have F:∀(i:Nat) o,ops[i]?=some o->∀e∈o.after.toList,Region.binds .any e=true->e.on<i:=by
  intro i o V e he w;have:=eY g1 i o (by simpa using V) e he w;omega
 have H:∀i k:Nat,i<ops.size->k<i->JY ops k i∨∀U u0 W:St,OQ N b_ ops f k U u0->OQ N b_ ops f i u0 W->∃m7,OQ N b_ ops f i U m7/\OQ N b_ ops f k m7 W:=by
  intro i k c aE;have w:ops[i]?=some ops[i]:=by simp[c]
  have E:ops[k]?=some (ops[k]'(by omega)):=j_;generalize ops[i]=b at w;generalize ops[k]'(by omega)=a at E;have z:=sF (pre:=[]) (i:=0) rfl g6 i b (by simpa using w) k a a_ (by simpa using E);rw[F9]at z;cases P:(List.getD (Gy ops.toList []) i 0).testBit k with
  |true=>exact .inl (pH ops.toList [] rfl (λi k h=>by simp at h) i k P)
  |false=>
   right;rw[P]at z;have z:=z.resolve_left c_;simp only[te]at z;obtain⟨q1,q2⟩:=z;have d:(∀p∈(f k).ws,p.1∉Gd b_ (jn (f i).g9.tmps) b)/\(∀p∈(f i).ws,p.1∉Gd b_ (jn (f k).g9.tmps) a)/\(∀p∈(f k).ws,∀q∈(f i).ws,p.1≠q.1):=by
    cases n:Qf b_ a b with
    |true=>
     have hm:=vP (b_:=b_) (ms:=Gy ops.toList []) (l:=ops.toList) (pre:=[]) (i:=0) rfl i b (by simpa using w) k a a_ (by simpa using E) j_ n;rw[F9]at hm;obtain⟨a',b',r1,r2,s1,s2,s3,s4,s5⟩:=O (k,i) hm
     grind
    |false=>
     have n:Nat.ble 3 (E3 b_ a+E3 b_ b)=false:=by
      unfold Qf at n
      simp_all
     have a0:¬3<=E3 b_ a+E3 b_ b:=λh=>by rw[EY h]at n;cases n
     rcases um (b_:=b_) a with X|X|X<;>rcases um (b_:=b_) b with Y|Y|Y
     .simp_all
     .simp_all
     .simp_all
     .simp_all
     .simp_all
     .omega
     .simp_all
     .omega
     .omega
   rintro U u0 W ⟨a1,J,Z,rfl⟩ ⟨b1,h3,h4,rfl⟩;rw[E]at J;rw[w]at h3;cases J;cases h3;obtain⟨w1,w2,w3⟩:=swapR (R.ok k (g E) a E) (R.ok i (g w) b w) q1 d.1 d.2.1 d.2.2 Z h4;exact⟨_,⟨b,w,w1,rfl⟩,⟨a,E,w2,w3⟩⟩
 have hz:F0 ops.size (Array.replicate ops.size false)=range ops.size:=by
  unfold F0
  simp_all
 have D:=R.run m.heap.length (B8 _);have M:St.Ev m m.heap.length=m:=by
  unfold St.Ev St.pad
  simp_all
 rw[M]at D;obtain⟨r1,r2,_⟩:=Af (S:=OQ N b_ ops f) F H ops.size t (Array.replicate ops.size false) c_ (by rw[hz];simp) (λx o T V=>by
  simp_all) _ _ (by rw[hz];exact D)
 refine Bu (λi U W hS=>?_) r2 r1;obtain⟨o,J,Z,rfl⟩:=hS;exact(R.ok i (g J) o J).step U Z _ j_
def O2(k i:Nat):HC [(k+1000,i)]=some (k,i):=by
 have a:Nat.ble 1000 (k+1000)=true:=EY (Nat.le_add_left 1000 k);generalize c:k+1000=m at *;have b:m - 1000=k:=a_;unfold HC;simp only[a,b]
def Mh{a:List (Nat×Nat)}(h:WP N b_ ops=some a):∃l,GD a=some l/\Ax N b_ ops l=true:=by
 unfold WP at h;split at h
 next b=>
  cases h;exact⟨_,rfl,b⟩
 .cases h
def V1 [En]{C:m8}(g:∀f n,N f=some n->Kz N C f n=true)(j:∀f args H r H',En.kh f args H r H'->N f=none∨(N f=some (2*args.length+1)/\H'=H)):Pr C (y5 N):=by
 intro b_ ops z h;unfold y5 at h;split at h
 .split at h
  next a=>
   cases h;exact λn b m t o=>dA g j b_ ops a n b m t
  .split at h
   next x=>
    split at h
    next q=>
     cases h;obtain⟨k,i,s,a⟩:=Nb x;have e:HC z=some (k,i):=s▸O2 k i;rw[q];simp only;rw[e];exact λn b A E m c d u v=>Vd (sy g j n).1.1 a c d u v
    .cases h
   .obtain⟨l,e,a⟩:=Mh h;rw[e];exact λn b m o c d=>Lg (sy g j n).1.1 a c d
 next p D w=>
  split at h
  next q y a=>
   cases h;rw[q];simp only;rw[y];exact λn b m t o=>Vc (sy g j n).1.1 a t (by rw[w];exact o)
  .obtain⟨l,e,a⟩:=Mh h;rw[e];exact λn b m o c d=>Lg (sy g j n).1.1 a c d
end
end Sx
end Go.Am
namespace Go.Am
open Sx Go.Proofs
def w1:List (Nat×Nat):=[(70,6),(43,6),(35,4),(101,4),(39,4),(77,4),(40,4),(58,4),(37,2),(100,6),(73,4),(74,4),(103,4),(75,2),(72,2),(28,2),(31,2),(71,4),(102,2),(104,2),(12,4),(106,4),(82,4),(32,6),(18,2),(121,2),(29,4),(30,4),(127,6),(128,2),(129,2),(130,4),(116,4),(13,4),(135,2),(136,4),(142,2),(115,4),(134,2),(90,3),(123,2),(6,0),(87,7)]
def Md(l:List (Nat×Nat))(f:Nat):Ts:=match l with
 | []=>none
 |p :: l=>match Nat.beq p.1 f with
  |true=>some p.2
  |false=>Md l f
def Jo(f:TQ):Ts:=Md w1 f
def wG{f n:Nat}:∀ {l:List (Nat×Nat)},Md l f=some n->(f,n)∈l
 |p :: l,h=>by
  unfold Md at h;split at h
  next e=>
   cases h;have:=Ey e;subst this;exact KG
  .exact FZ _ (wG h)
def Xa:(w1.all λp=>Kz Jo cc p.1 p.2)=true:=d_
def W_(f n:Nat)(h:Jo f=some n):Kz Jo cc f n=true:=A_.1 Xa (f,n) (wG h)
def Kd:Dr:=y5 Jo
def nF(k:Nat)(a:List An):Fn1:=fn1 cc.P k ((ac k).getD ⟨[],[]⟩) a
def iF {k:Nat} {g:Func} {a:List An} (h0:(xc k).C.P.funcs[k]?=some g) (h:(g.body,((g.name == "runtime.NumGoroutine")||(xc k).C.opq k),g.ntmps,g.results.toList,ac k)=(some (er (xc k) (nF k a).code),false,(nF k a).nt,(nF k a).rvs,some (nF k a).sg)):HI (xc k) ac k (nF k a):=by
 simp only[SC]at h;exact⟨⟨g,h0,h.1,h.2.1,h.2.2.1,h.2.2.2.1⟩,rfl,h.2.2.2.2⟩
abbrev wa(k:Nat)(a:List An):(R b:Type)->Dv R b->TG->b->(TG->b->R)->R:=λR b A ls h K=>aw A (xc k) ac Kd (nF k a) ls h K
abbrev wb(k:Nat)(a:List An):Prop:=HI (xc k) ac k (nF k a)
def i3:wb 3 an3:=iF Tryz.func3 d_
def i4:wb 4 an4:=iF Tryz.func4 d_
def i5:wb 5 an5:=iF Tryz.func5 d_
def i6:wb 6 an6:=iF Tryz.func6 d_
def i7:wb 7 an7:=iF Tryz.func7 d_
def i8:wb 8 an8:=iF Tryz.func8 d_
def i9:wb 9 an9:=iF Tryz.func9 d_
def i10:wb 10 an10:=iF Tryz.func10 d_
def i11:wb 11 an11:=iF Tryz.func11 d_
def i12:wb 12 an12:=iF Tryz.func12 d_
def i13:wb 13 an13:=iF Tryz.func13 d_
def i14:wb 14 an14:=iF Tryz.func14 d_
def i15:wb 15 an15:=iF Tryz.func15 d_
def i16:wb 16 an16:=iF Tryz.func16 d_
def i17:wb 17 an17:=iF Tryz.func17 d_
def i18:wb 18 an18:=iF Tryz.func18 d_
def i19:wb 19 an19:=iF Tryz.func19 d_
def i20:wb 20 an20:=iF Tryz.func20 d_
def i21:wb 21 an21:=iF Tryz.func21 d_
def i22:wb 22 an22:=iF Tryz.func22 d_
def i23:wb 23 an23:=iF Tryz.func23 d_
def i24:wb 24 an24:=iF Tryz.func24 d_
def i25:wb 25 an25:=iF Tryz.func25 d_
def i26:wb 26 an26:=iF Tryz.func26 d_
def i27:wb 27 an27:=iF Tryz.func27 d_
def i28:wb 28 an28:=iF Tryz.func28 d_
def i29:wb 29 an29:=iF Tryz.func29 d_
def i30:wb 30 an30:=iF Tryz.func30 d_
def i31:wb 31 an31:=iF Tryz.func31 d_
def i32:wb 32 an32:=iF Tryz.func32 d_
def i33:wb 33 an33:=iF Tryz.func33 d_
def i34:wb 34 an34:=iF Tryz.func34 d_
def i35:wb 35 an35:=iF Tryz.func35 d_
def i36:wb 36 an36:=iF Tryz.func36 d_
def i37:wb 37 an37:=iF Tryz.func37 d_
def i38:wb 38 an38:=iF Tryz.func38 d_
def i39:wb 39 an39:=iF Tryz.func39 d_
def i40:wb 40 an40:=iF Tryz.func40 d_
def i41:wb 41 an41:=iF Tryz.func41 d_
def i42:wb 42 an42:=iF Tryz.func42 d_
def i43:wb 43 an43:=iF Tryz.func43 d_
def i44:wb 44 an44:=iF Tryz.func44 d_
def i45:wb 45 an45:=iF Tryz.func45 d_
def i46:wb 46 an46:=iF Tryz.func46 d_
def i47:wb 47 an47:=iF Tryz.func47 d_
def i48:wb 48 an48:=iF Tryz.func48 d_
def i49:wb 49 an49:=iF Tryz.func49 d_
def i50:wb 50 an50:=iF Tryz.func50 d_
def i51:wb 51 an51:=iF Tryz.func51 d_
def i52:wb 52 an52:=iF Tryz.func52 d_
def i53:wb 53 an53:=iF Tryz.func53 d_
def i54:wb 54 an54:=iF Tryz.func54 d_
def i55:wb 55 an55:=iF Tryz.func55 d_
def i56:wb 56 an56:=iF Tryz.func56 d_
def i57:wb 57 an57:=iF Tryz.func57 d_
def i58:wb 58 an58:=iF Tryz.func58 d_
def i59:wb 59 an59:=iF Tryz.func59 d_
def i68:wb 68 an68:=iF Tryz.func68 d_
def i69:wb 69 an69:=iF Tryz.func69 d_
def i70:wb 70 an70:=iF Tryz.func70 d_
def i71:wb 71 an71:=iF Tryz.func71 d_
def i72:wb 72 an72:=iF Tryz.func72 d_
def i73:wb 73 an73:=iF Tryz.func73 d_
def i74:wb 74 an74:=iF Tryz.func74 d_
def i75:wb 75 an75:=iF Tryz.func75 d_
def i76:wb 76 an76:=iF Tryz.func76 d_
def i77:wb 77 an77:=iF Tryz.func77 d_
def i78:wb 78 an78:=iF Tryz.func78 d_
def i79:wb 79 an79:=iF Tryz.func79 d_
def i80:wb 80 an80:=iF Tryz.func80 d_
def i81:wb 81 an81:=iF Tryz.func81 d_
def i82:wb 82 an82:=iF Tryz.func82 d_
def i83:wb 83 an83:=iF Tryz.func83 d_
def i84:wb 84 an84:=iF Tryz.func84 d_
def i85:wb 85 an85:=iF Tryz.func85 d_
def i86:wb 86 an86:=iF Tryz.func86 d_
def i87:wb 87 an87:=iF Tryz.func87 d_
def i88:wb 88 an88:=iF Tryz.func88 d_
def i89:wb 89 an89:=iF Tryz.func89 d_
def i90:wb 90 an90:=iF Tryz.func90 d_
def i91:wb 91 an91:=iF Tryz.func91 d_
def i92:wb 92 an92:=iF Tryz.func92 d_
def i93:wb 93 an93:=iF Tryz.func93 d_
def i94:wb 94 an94:=iF Tryz.func94 d_
def i100:wb 100 YB:=iF Tryz.func100 d_
def i101:wb 101 YC:=iF Tryz.func101 d_
def i102:wb 102 YD:=iF Tryz.func102 d_
def i103:wb 103 YE:=iF Tryz.func103 d_
def i104:wb 104 YF:=iF Tryz.func104 d_
def i105:wb 105 YH:=iF Tryz.func105 d_
def i106:wb 106 YI:=iF Tryz.func106 d_
def i107:wb 107 YJ:=iF Tryz.func107 d_
def i115:wb 115 YK:=iF Tryz.func115 d_
def i116:wb 116 YL:=iF Tryz.func116 d_
def i117:wb 117 YM:=iF Tryz.func117 d_
def i118:wb 118 YN:=iF Tryz.func118 d_
def i119:wb 119 YO:=iF Tryz.func119 d_
def i121:wb 121 YP:=iF Tryz.func121 d_
def i122:wb 122 YQ:=iF Tryz.func122 d_
def i123:wb 123 YR:=iF Tryz.func123 d_
def i124:wb 124 YS:=iF Tryz.func124 d_
def i125:wb 125 YT:=iF Tryz.func125 d_
def i126:wb 126 YU:=iF Tryz.func126 d_
def i127:wb 127 YV:=iF Tryz.func127 d_
def i128:wb 128 YW:=iF Tryz.func128 d_
def i129:wb 129 YX:=iF Tryz.func129 d_
def i130:wb 130 YY:=iF Tryz.func130 d_
def i134:wb 134 YZ:=iF Tryz.func134 d_
def i135:wb 135 Y0:=iF Tryz.func135 d_
def i136:wb 136 Y1:=iF Tryz.func136 d_
def i137:wb 137 Y2:=iF Tryz.func137 d_
def i138:wb 138 Y3:=iF Tryz.func138 d_
def i139:wb 139 Y4:=iF Tryz.func139 d_
def i140:wb 140 Y5:=iF Tryz.func140 d_
def i142:wb 142 Y6:=iF Tryz.func142 d_
def i143:wb 143 Y7:=iF Tryz.func143 d_
def i144:wb 144 Y8:=iF Tryz.func144 d_
def e11:@f11=wa 11 an11:=d_
def e21:@f21=wa 21 an21:=d_
def e24:@f24=wa 24 an24:=d_
def e30:@f30=wa 30 an30:=d_
def e78:@f78=wa 78 an78:=d_
def e82:@f82=wa 82 an82:=d_
def e87:@f87=wa 87 an87:=d_
def e89:@f89=wa 89 an89:=d_
def e93:@f93=wa 93 an93:=d_
def e103:@Uy=wa 103 YE:=d_
def e106:@Ur=wa 106 YI:=d_
def e115:@Uz=wa 115 YK:=d_
def e122:@Wl=wa 122 YQ:=d_
def e128:@Ut=wa 128 YW:=d_
def e138:@f138=wa 138 Y3:=d_
def e142:@UI=wa 142 Y6:=d_
def e144:@UJ=wa 144 Y8:=d_
def e4:@f4=wa 4 an4:=d_
def e5:@f5=wa 5 an5:=d_
def e8:@f8=wa 8 an8:=d_
def e17:@Zd=wa 17 an17:=d_
def e18:@f18=wa 18 an18:=d_
def e22:@f22=wa 22 an22:=d_
def e23:@f23=wa 23 an23:=d_
def e29:@f29=wa 29 an29:=d_
def e37:@f37=wa 37 an37:=d_
def e50:@f50=wa 50 an50:=d_
def e54:@f54=wa 54 an54:=d_
def e59:@f59=wa 59 an59:=d_
def e69:@f69=wa 69 an69:=d_
def e70:@f70=wa 70 an70:=d_
def e71:@f71=wa 71 an71:=d_
def e77:@f77=wa 77 an77:=d_
def e81:@f81=wa 81 an81:=d_
def e88:@f88=wa 88 an88:=d_
def e101:@f101=wa 101 YC:=d_
def e127:@UC=wa 127 YV:=d_
def e130:@f130=wa 130 YY:=d_
def e6:@f6=wa 6 an6:=d_
def e9:@f9=wa 9 an9:=d_
def e10:@f10=wa 10 an10:=d_
def e16:@f16=wa 16 an16:=d_
def e19:@f19=wa 19 an19:=d_
def e31:@f31=wa 31 an31:=d_
def e32:@f32=wa 32 an32:=d_
def e46:@f46=wa 46 an46:=d_
def e56:@f56=wa 56 an56:=d_
def e58:@f58=wa 58 an58:=d_
def e75:@f75=wa 75 an75:=d_
def e79:@f79=wa 79 an79:=d_
def e80:@f80=wa 80 an80:=d_
def e84:@f84=wa 84 an84:=d_
def e86:@f86=wa 86 an86:=d_
def e105:@Wh=wa 105 YH:=d_
def e117:@Wi=wa 117 YM:=d_
def e125:@f125=wa 125 YT:=d_
def e137:@Wn=wa 137 Y2:=d_
def e139:@f139=wa 139 Y4:=d_
def e3:@f3=wa 3 an3:=d_
def e13:@f13=wa 13 an13:=d_
def e14:@f14=wa 14 an14:=d_
def e25:@f25=wa 25 an25:=d_
def e33:@f33=wa 33 an33:=d_
def e44:@f44=wa 44 an44:=d_
def e49:@f49=wa 49 an49:=d_
def e51:@f51=wa 51 an51:=d_
def e57:@f57=wa 57 an57:=d_
def e72:@f72=wa 72 an72:=d_
def e76:@f76=wa 76 an76:=d_
def e83:@f83=wa 83 an83:=d_
def e85:@f85=wa 85 an85:=d_
def e90:@f90=wa 90 an90:=d_
def e94:@f94=wa 94 an94:=d_
def e116:@UA=wa 116 YL:=d_
def e118:@Wj=wa 118 YN:=d_
def e119:@Wk=wa 119 YO:=d_
def e129:@f129=wa 129 YX:=d_
def e140:@UH=wa 140 Y5:=d_
def e143:@Wo=wa 143 Y7:=d_
def e7:@f7=wa 7 an7:=d_
def e12:@f12=wa 12 an12:=d_
def e26:@f26=wa 26 an26:=d_
def e27:@f27=wa 27 an27:=d_
def e36:@f36=wa 36 an36:=d_
def e38:@f38=wa 38 an38:=d_
def e40:@f40=wa 40 an40:=d_
def e43:@f43=wa 43 an43:=d_
def e47:@f47=wa 47 an47:=d_
def e48:@f48=wa 48 an48:=d_
def e52:@f52=wa 52 an52:=d_
def e68:@f68=wa 68 an68:=d_
def e74:@f74=wa 74 an74:=d_
def e102:@Ux=wa 102 YD:=d_
def e104:@Uq=wa 104 YF:=d_
def e107:@f107=wa 107 YJ:=d_
def e121:@Us=wa 121 YP:=d_
def e134:@UD=wa 134 YZ:=d_
def e135:@UE=wa 135 Y0:=d_
def e15:@f15=wa 15 an15:=d_
def e20:@f20=wa 20 an20:=d_
def e28:@f28=wa 28 an28:=d_
def e34:@f34=wa 34 an34:=d_
def e35:@f35=wa 35 an35:=d_
def e39:@f39=wa 39 an39:=d_
def e41:@f41=wa 41 an41:=d_
def e42:@f42=wa 42 an42:=d_
def e45:@f45=wa 45 an45:=d_
def e53:@f53=wa 53 an53:=d_
def e55:@f55=wa 55 an55:=d_
def e73:@f73=wa 73 an73:=d_
def e91:@f91=wa 91 an91:=d_
def e92:@f92=wa 92 an92:=d_
def e100:@f100=wa 100 YB:=d_
def e123:@f123=wa 123 YR:=d_
def e124:@Wm=wa 124 YS:=d_
def e126:@UB=wa 126 YU:=d_
def e136:@UF=wa 136 Y1:=d_
end Go.Am
namespace Go.Am
namespace Sx
def Po(P:TI)(a:TP->DataW Unit->Option (Tn)):List (Nat×TypeId)->List (DataW Unit)->Nat->Option (Tn)
 | [],[],_=>some []
 |(o,t) :: l,d :: ds,off=>match Nat.beq o off,a t d with
  |true,some v=>match Nat.beq v.length (P.cellsOf t),Po P a l ds (off+v.length)with
   |true,some vs=>some (v++vs)
   |_,_=>none
  |_,_=>none
 |_,_,_=>none
def eZ(P:TI):Nat->TP->DataW Unit->Option (Tn)
 |0,_,_=>none
 |a+1,t,d=>match P.underlying t,d with
  |some .bool,.lit (.bool b)=>some [.bool b]
  |some (.int k),.lit (.int _ n)=>some [.int k n]
  |some (.struct c),.agg ds=>match Po P (eZ P a) (c.toList.map λf=>(f.offset,f.type)) ds 0 with
   |some vs=>if vs.length=P.cellsOf t then some vs else none
   |none=>none
  |some (.array n e),.agg ds=>match Po P (eZ P a) ((range n).map λi=>(i*P.cellsOf e,e)) ds 0 with
   |some vs=>if vs.length=P.cellsOf t then some vs else none
   |none=>none
  |_,_=>none
section
variable {P:TI} {w:TS} {base:Nat} {spare:Tx} {held:Bool} {enc:TypeId×Value->Unit}
def KQ{g:TP->DataW Unit->Option (Tn)}{fuel:Nat}(c:∀t d vs,g t d=some vs->∀cs p,DataW.trod enc P w base spare held fuel t cs=some (d,p)->cs=vs){j7:Type}(o:j7->Nat)(ty:j7->TP)(cs:Tn) :
  ∀(l:List j7) (xs:List (DataW Unit×List MemPlace)) (off:Nat) (vs:Tn),l.mapM (λa=>DataW.trod enc P w base spare held fuel (ty a) ((cs.drop (o a)).take (P.cellsOf (ty a))))=some xs->
   Po P g (l.map λa=>(o a,ty a)) (xs.map (·.1)) off=some vs->(cs.drop off).take vs.length=vs
 | [],xs,off,vs,h1,b=>by
  simp only[qdm,qc3,G_]at h1;subst h1;simp only[IY,Po,G_]at b;subst b;simp
 |a :: l,xs,off,vs,h1,b=>by
  rw[XO]at h1;obtain⟨x,i,h1⟩:=FY.1 h1;obtain⟨m,j,h1⟩:=FY.1 h1;cases h1;simp only[EN,Po]at b;split at b
  next v e h=>
   split at b
   next n e3 e4=>
    cases b;have e:=Ey e;have e3:=Ey e3;have f:=c _ _ _ h _ _ i;have k:=KQ c o ty cs l m _ _ j e4;rw[e,←e3]at f;rw[HY,qdo,f,B0];rw[k]
   .cases b
  .cases b
def Uk:∀(l:Nat) (t:TP) (d:DataW Unit) (vs:Tn),eZ P l t d=some vs->∀(fuel:Nat) (cs:Tn) (p:List MemPlace),DataW.trod enc P w base spare held fuel t cs=some (d,p)->cs=vs
 |0,_,_,_,h=>by cases h
 |l+1,t,d,vs,h=>by
  intro fuel cs p a;cases fuel with
  |zero=>simp[DataW.trod]at a
  |succ fuel=>
   have j:∀t d vs,eZ P l t d=some vs->∀cs p,DataW.trod enc P w base spare held fuel t cs=some (d,p)->cs=vs:=λt d vs h cs p=>Uk l t d vs h fuel cs p;simp only[eZ]at h;split at h
   next b e=>
    cases h;simp only[DataW.trod,e]at a
    grind
   next k v n e=>
    cases h;simp only[DataW.trod,e]at a
    grind
   next u r e=>
    split at h
    next s c=>
     split at h
     next e3=>
      cases h;simp only[DataW.trod,e]at a;split at a
      next e4=>
       obtain⟨o,m,g⟩:=EC.1 a;simp only[SC,DataW.agg.injEq]at g;rw[←g.1]at c;have:=KQ j (λf:Field=>f.offset) (λf:Field=>f.type) cs _ o 0 _ m c
       grind
      .cases a
     .cases h
    .cases h
   next n q r e=>
    split at h
    next s c=>
     split at h
     next e3=>
      cases h;simp only[DataW.trod,e]at a;split at a
      next e4=>
       obtain⟨o,m,g⟩:=EC.1 a;simp only[SC,DataW.agg.injEq]at g;rw[←g.1]at c;have:=KQ j (λi=>i*P.cellsOf q) (λ_=>q) cs _ o 0 _ m c
       grind
      .cases a
     .cases h
    .cases h
   .cases h
end
section
variable [DB]
def ql [Fc]{W:TS}{g:Nat}{vs:Tn}(h0:Nat.blt g gB=true)(h1:vs.all bg=true)(f:vs.all flat=true)(h:∃c e fr,W.heap[g]?=some (.cells c e fr)/\c.toList=vs) :
  Fz g<W.heap.size/\vs.all bg=true/\∃c e fr,W.heap[Fz g]?=some (.cells c e fr)/\cF (λ_=>none) vs c (GR g):=by
 obtain⟨c,e,fr,a,j⟩:=h;rw[LQ h0,LS h0];refine⟨(JX.1 a).1,h1,c,e,fr,a,.G6 ?_⟩;rw[j];exact⟨rfl,λi x y b d=>by rw[b]at d;cases d;exact .of_flat (A_.1 f x (A9 b))⟩
end
end Sx
namespace Sx
open Go.ChangeShapes Go.WideShapes Go.ChangeAt Go.WideMaps Go.WideElems Go.RowKit
def WD{W a:TS}(h1:a.os=W.os)(d:a.output=W.output)(e:∀b,b<W.heap.size->a.heap[b]?=W.heap[b]?)(c:MemPlace->Prop):W.keptBut a c:=by
 refine⟨h1,d,λi f=>?_⟩
 grind
def mP{P:TI}{w:TS}{a:List (String×DataW Unit)}{m:List MemPlace}(h:DataW.LaidVars P w a m):∀n d,(n,d)∈a->∀g t b vs,P.globalNamed n=some g->(P.globals[g]?).map (·.type)=some t->eZ P b t d=some vs->
  ∃c e fr,w.heap[g]?=some (.cells c e fr)/\c.toList=vs:=by
 induction a generalizing m with
 |nil=>intro n d h;cases h
 |cons x l E=>
  obtain⟨F,B⟩:=x;obtain⟨C,G,A,j,p,q,o,r,s,u,y,z⟩:=h;intro n d k g t b vs f i v;rcases EL.1 k with e|k
  .cases e;rw[o]at f;cases f;rw[r]at i;cases i;have D:=Uk b _ _ vs v _ _ _ u;unfold World.var? at s
   grind
  grind
section
variable [DB] [En]
end
end Sx
namespace Sx
section
variable [DB] [En]
def Y'(b:Bool)(x y:Prop):Prop:=(b=true->x)/\(b=false->y)
abbrev _root_.Tw:=Int->Prop
def Vf(op:BinOp)(k:TK)(a b:Int)(K:Tw):Prop:=
 match op with
 | .add=>K (k.wrap (a+b))
 | .sub=>K (k.wrap (a - b))
 | .mul=>K (k.wrap (a*b))
 | .quo=>b≠0/\K (k.wrap (a.tdiv b))
 | .rem=>b≠0/\K (a.tmod b)
 | .and=>(b=1/\K (a%2))∨(b≠1/\∃n,tb .and k a b n/\K n)
 |op=>∃n,tb op k a b n/\K n
abbrev _root_.Tp:=Bool->Prop
def VS(c:BinOp)(a b:Int)(K:Tp):Prop:=
 match c with
 | .eql=>K (a==b)
 | .neq=>K (a != b)
 | .lss=>K (decide (a<b))
 | .leq=>K (decide (a<=b))
 | .gtr=>K (decide (a > b))
 | .geq=>K (decide (a ≥ b))
 |_=>False
def bC{j7:Type}(o:Option j7)(K:j7->Prop):Prop:=∃x,o=some x/\K x
def unIP(ls:TG)(K:Int->TG->Prop):Prop:=match ls with | .i n :: r=>K n r|_=>False
def unBP(ls:TG)(K:Bool->TG->Prop):Prop:=match ls with | .b n :: r=>K n r|_=>False
def unVP(ls:TG)(K:Value->TG->Prop):Prop:=match ls with | .v n :: r=>K n r|_=>False
def un0P(ls:TG)(K:Prop):Prop:=match ls with | []=>K|_=>False
def ucIP(k:TK)(ls:Tn)(K:Int->Tn->Prop):Prop:=match ls with | .int k' n :: r=>k=k'/\K n r|_=>False
def ucBP(ls:Tn)(K:Bool->Tn->Prop):Prop:=match ls with | .bool n :: r=>K n r|_=>False
abbrev _root_.Ta:=Value->Tn->Prop
def ucVP(ls:Tn)(K:Ta):Prop:=match ls with|n :: r=>K n r|_=>False
def uc0P(ls:Tn)(K:Prop):Prop:=match ls with | []=>K|_=>False
def g6(h:Tu):cW:=λi=>h[i]?
abbrev _root_.Tf:=List Value->Prop
def bt(f:Pk)(h:Tu)(K:Tf):Prop:=∃cs,f.run (g6 h)=some cs/\K cs
def w2(f:Hp)(h:Tu)(K:Tn->Tu->Prop):Prop:=∃a cs,f.run (g6 h) h.length=some (a,cs)/\K cs (iG h a)
def eC(C:m8)(Sg:Td)(g:TQ)(ls:TG)(h:Tu)(K:TG->Tu->Prop):Prop:=∃a h',aF C Sg g ls h a h'/\K a h'
def T2(C:m8)(v:Value)(args:Tn)(b:TN)(h:Tu)(K:TG->Tu->Prop):Prop:=∃a h',xJ C v args b h a h'/\K a h'
def itP(F:(TG->Tu->Prop)->TG->Tu->Prop)(n:Nat):TG->Tu->Prop:=
 match n with
 |0=>λ_ _=>False
 |n+1=>F (itP F n)
def cp(F:(TG->Tu->Prop)->TG->Tu->Prop)(ls:TG)(h:Tu):Prop:=∃n,itP F n ls h
def ad(C:m8)(T:Tv)(d:Nat)(v:Value)(a:Tn)(h:Tu)(K:Tm->Tu->Prop):Prop:=
 ∃g first cap r c b,v = .func (.func g) first cap/\
  jY C g (first.toList++[.func (.yield h.length) #[] #[]]++cap.toList) (h++[.loop (FC (T d) d a)]) r c/\
  fg c h.length=some b/\b.state≠.busy/\K b.pending (c.set h.length (.loop { b with state:=.exhausted }))
def MJ(c:Tm)(a b:Prop)(ks:List (Nat×Prop)):Prop:=
 match c with
 |none=>a
 |some .ret=>b
 |some (.exit id)=>∃x,(id,x)∈ks/\x
 |_=>False
def lp1P(l:Nat)(h:Tu)(K:Tu->Prop):Prop:=∃a,fg h l=some a/\a.state = .ready/\K (h.set l (.loop { a with state:=.busy }))
def lp2P(l:Nat)(j:Tm)(h:Tu)(K:Tu->Prop):Prop:=∃a,fg h l=some a/\K (h.set l (.loop { a with state:=if j.isNone then .ready else .done,pending:=j }))
def PA(C:m8)(Sg:Td)(T:Tv):Dv Prop (Tu) where
 fail:=False
 cond:=Y'
 x6:=Vf
 HB:=λd k a c b K=>∃n,K' d k a c b n/\K n
 cmp:=VS
 eqs:=λl K=>K (cu l)
 conv:=λk a K=>K (k.wrap a)
 HH:=λt a b K=>K (if t then a else b)
 jw:=bC
 n4:=λv K=>aI v=true/\K
 po:=unIP
 Fu:=unBP
 DK:=unVP
 A1:=un0P
 td:=ucIP
 E7:=ucBP
 DF:=ucVP
 tf:=uc0P
 ma:=bt
 heap:=w2
 new:=λo h K=>K h.length (h++[o])
 call:=eC C Sg
 Dw:=T2 C
 join:=λb m=>m b
 loop:=cp
 Ft:=ad C T
 Fg:=MJ
 JW:=lp1P
 HU:=lp2P
def gV(C:m8)(Sg:Td)(T:Tv):pL (PA C Sg T) C Sg T id id where
 fail:=λh=>h
 cond:=by
  intro b x y h;cases b
  .exact .inr ⟨rfl,h.2 rfl⟩
  .exact .inl ⟨rfl,h.1 rfl⟩
 x6:=by
  intro e k a b K h;have h:Vf e k a b K:=h;cases e<;>simp only[Vf]at h
  .exact⟨_,λP t w=>by simp[binOp,Op.intArith],h⟩
  .exact⟨_,λP t w=>by simp[binOp,Op.intArith],h⟩
  .exact⟨_,λP t w=>by simp[binOp,Op.intArith],h⟩
  .obtain⟨u,h⟩:=h;exact⟨_,λP t w=>by simp[binOp,Op.intDiv,u],h⟩
  .obtain⟨u,h⟩:=h;exact⟨_,λP t w=>by simp[binOp,Op.intDiv,u],h⟩
  .rcases h with⟨rfl,H⟩|⟨_,n,q,s⟩
   .exact⟨_,qU rfl,H⟩
   grind
  all_goals exact h
 HB:=λe k a A b K h=>h
 cmp:=by
  intro e a b K h;have h:VS e a b K:=h;cases e<;>simp only[VS]at h<;>exact⟨_,rfl,h⟩
 eqs:=λl K h=>h
 conv:=λk a K h=>h
 HH:=λt a b K h=>h
 jw:=λo K h=>h
 n4:=λv K h=>h
 po:=by
  intro d K h
  match d,h with
  | .i n :: r,h=>exact⟨n,r,rfl,h⟩
 Fu:=by
  intro d K h
  match d,h with
  | .b n :: r,h=>exact⟨n,r,rfl,h⟩
 DK:=by
  intro d K h
  match d,h with
  | .v n :: r,h=>exact⟨n,r,rfl,h⟩
 A1:=by
  intro d K h
  match d,h with
  | [],h=>exact⟨rfl,h⟩
 td:=by
  intro k d K h
  match d,h with
  | .int A n :: r,h=>
   obtain⟨rfl,h⟩ : k=A/\K n r:=h
   grind
 E7:=by
  intro d K h
  match d,h with
  | .bool n :: r,h=>exact⟨n,r,rfl,h⟩
 DF:=by
  intro d K h
  match d,h with
  |n :: r,h=>exact⟨n,r,rfl,h⟩
 tf:=by
  intro d K h
  match d,h with
  | [],h=>exact⟨rfl,h⟩
 ma:=λf h K c=>c
 heap:=by
  intro f h K c;obtain⟨p,G,q,s⟩:=c;exact⟨p,G,_,q,rfl,s⟩
 new:=λo h K c=>⟨_,rfl,c⟩
 call:=λg d h K c=>c
 Dw:=λv z S h K c=>c
 join:=λb m h=>h
 loop:=by
  intro F d h c;obtain⟨n,c⟩:=c;exact⟨itP F,λd h=>(id:False->False),λn d h=>rfl,n,c⟩
 Ft:=by
  intro U v D h K c;obtain⟨g,first,E,r,O,B,q,s,I,Q,R⟩:=c
  grind
 Fg:=by
  intro N J L M h;have h:MJ N J L M:=h;unfold MJ at h
  grind
 JW:=by
  intro l h K c;obtain⟨B,q,s,I⟩:=c
  simp_all
 HU:=by
  intro l j h K c;obtain⟨B,q,s⟩:=c
  simp_all
def SL.Gk{l:SL}{k:LK}(h:l.is k=true)(a:k.plain=true):scalar l.val=true:=by
 cases l<;>cases k<;>first|(cases a;done)|(cases h;done)|rfl
def nK:∀ {cs:List SL} {ks:TJ},ba cs ks=true->ks.all LK.plain=true->(cs.map SL.val).all scalar=true
 | [],[],_,_=>rfl
 |c :: cs,k :: ks,h,a=>by
  simp only[ba,te]at h;simp only[UW,te]at a;simp only[EN,UW,te];exact⟨SL.Gk h.1 a.1,nK h.2 a.2⟩
 | [],_ :: _,h,_=>by cases h
 |_ :: _,[],h,_=>by cases h
def S0.Jv{x:S0}{k:SK}(h:x.is k=true)(a:k.plain=true):gL x.val=true:=by
 cases x with
 |leaf l=>
  cases k with
  |leaf k=>
   have:=SL.Gk h a;show gL l.val=true;cases b:l.val<;>rw[b]at this<;>first|exact this|cases this
  |agg _=>cases h
 |agg c=>
  cases k with
  |leaf k=>cases h
  |agg d=>exact nK h a
def lJ{v:TR}(h:gL v=true):flat v=true:=by
 cases v<;>first|exact h|cases h
def kK:∀ {xs:List S0} {sks:TN},cJ xs sks=true->sks.all SK.plain=true->(ao xs).all gL=true
 | [],[],_,_=>rfl
 |x :: xs,k :: ks,h,a=>by
  simp only[cJ,te]at h;simp only[UW,te]at a;simp only[ao,EN,UW,te];exact⟨S0.Jv h.1 a.1,kK h.2 a.2⟩
 | [],_ :: _,h,_=>by cases h
 |_ :: _,[],h,_=>by cases h
def BO{xs:List S0}{sks:TN}(h:cJ xs sks=true)(a:sks.all SK.plain=true):(ao xs).all flat=true:=by
 have:=kK h a;rw[A_]at this ⊢;exact λv b=>lJ (this v b)
def Cv{vs:Tn}(h:vs.all gL=true):flat (gM vs)=true:=by
 match vs,h with
 | [],_=>rfl
 | [v],h=>
  simp only[UW,List.all_nil,qdG]at h;exact lJ h
 |a :: b :: l,h=>
  show flat (.tuple (a :: b :: l).toArray)=true;simp only[flat,te];exact⟨c_,h⟩
end
@[reducible] def KnoC (C:m8) (N:Tc) [DB]:En:=⟨λf args r=>∀H,en C f args H r H,λf args H r H'=>(N f=none∨(N f=some (2*args.length+1)/\H'=H))/\en C f args H r H'⟩
section
variable [DB]
def Ct(C:m8)(N:Tc)(Sg:Td)(g:TQ)(ls a:TG):Prop:=let _:En:=KnoC C N;∀H,aF C Sg g ls H a H
def xF{C:m8}{N:Tc}(a:C.P.follows .mixedOrders=true){f:TQ}{args:Tn}{H:Tu}{r:TR}{H':Tu}(h:let _:En:=KnoC C N;jY C f args H r H'):en C f args H r H':=
 @Uj _ _ (KnoC C N) a (λ_ _ _ h=>h) (λ_ _ _ _ _ h=>h.2) _ _ _ _ _ h
def Zb{C:m8}{N:Tc}{Sg:Td}(l:C.P.follows .mixedOrders=true)(j:∀g vs,C.G g=some vs->vs.all UO=true){g:TQ}{sg:H7}(e:Sg g=some sg)(a:sg.plain=true){ls f:TG}{H':Tu}
  (h:let _:En:=KnoC C N;aF C Sg g ls [] f H'):Ct C N Sg g ls f:=by
 let _:En:=KnoC C N
 obtain⟨n,o,p,b,c,d,i⟩:=h;rw[e]at b;cases b;simp only[H7.plain,te]at a;have k:=BO c.1 a.1;have m:=Cv (kK d.1 a.2);intro H;exact⟨sg,o,p,e,c,d,⟨0,.inl ⟨λH=>QN j (xF l i) k m H,rfl⟩⟩⟩
end
section
variable [DB] [En]
def db{n:Int}(h1:-9223372036854775808<=n)(a:n<=9223372036854775807):IntKind.wrap .i64 n=n:=by
 simp only[IntKind.wrap,IntKind.bits,IntKind.signed,Bool.true_and,ge_iff_le,E6];omega
def vx{n:Int}(h1:0<=n)(a:n<=255):IntKind.wrap .u8 n=n:=by
 simp only[IntKind.wrap,IntKind.bits,IntKind.signed,Bool.false_and,Fh,if_false];omega
end
end Sx
namespace Sx
section
variable [DB]
abbrev _root_.TF:=Nat->Nat
def an(g9:TF)(v:Value):Value:=match v with
 | .slice (some a) b c=>.slice (some ⟨g9 a.block,a.off,a.spot⟩) b c
 |v=>v
def ZX(g9:TF):SL->SL
 | .v x=>.v (an g9 x)
 |s=>s
def ax(g9:TF):S0->S0
 | .leaf l=>.leaf (ZX g9 l)
 | .agg cs=>.agg (cs.map (ZX g9))
def OkV(n:Nat)(v:Value):Prop:=(flat v=true/\∀g9,an g9 v=v)∨∃j off len cx e,j<n/\v = .slice (some ⟨j,off,le e⟩) len cx
def OkL(n:Nat):Lf->Prop
 | .v x=>OkV n x
 |_=>True
end
end Sx
end Go.Am
namespace Go.Am
open Sx
abbrev FB:=List Lf->y_->(TG->y_->RT)->RT
def nf:FB:=λ_ _ _=>none
def IJ(a:TG)(_:y_):RT:=uO a λa=>some a
def WT(g:FB):FB:=λa h K=>uO a λa=>@Option.rec _ (λ_=>RT) none (λb=>K b h) (g a .empty IJ)
abbrev cB(x y:RT)(b:Bool):RT:=@Bool.rec (λ_=>RT) x y b
def IP{A B C D E F G H I J K Z:Sort _}{f g:A->B->C->D->E->F->G->H->I->J->K->Z}(h:f=g)(a:A)(b:B)(c:C)(x3:D)(x4:E)(x5:F)(d:G)(x7:H)(e:I)(x9:J)(x10:K):f a b c x3 x4 x5 d x7 e x9 x10=g a b c x3 x4 x5 d x7 e x9 x10:=by rw[h]
section
variable {Sg:Td} {T:Tv} {call:gr}
end
section
variable [DB] [En]
def V_(a:TG):TG->Bool:=@List.rec _ (λ_=>TG->Bool) (λb=>@List.rec _ (λ_=>Bool) true (λ_ _ _=>false) b) (λx _ c b=>@List.rec _ (λ_=>Bool) false (λy m _=>@Bool.rec (λ_=>Bool) false (c m) (Kj x y)) b) a
def BZ{x y:Lf}(h:Kj x y=true):x=y:=by
 cases x<;>cases y<;>first|(cases h;done)|skip
 .have h:QD _ _=true:=h;rw[yc,beq_iff_eq]at h;rw[h]
 next a b=>cases a<;>cases b<;>first|rfl|cases h
def rS:∀ {a b:TG},V_ a b=true->a=b
 | [],[],_=>rfl
 |x :: a,y :: b,h=>by
  have h:@Bool.rec (λ_=>Bool) false (V_ a b) (Kj x y)=true:=h;cases e:Kj x y with
  |true=>rw[e]at h;rw[BZ e,rS h]
  |false=>rw[e]at h;cases h
 | [],_ :: _,h=>by cases h
 |_ :: _,[],h=>by cases h
def Ps(C:m8)(Sg:Td)(T:Tv)(k:Nat)(g:FB):Prop:=∀ls h K w,eo ls->g ls h K=some w->∃a h',aF C Sg k ls (h9 T (D9 h)) a (h9 T (D9 h'))/\K a h'=some w
def YOk(C:m8)(Sg:Td)(T:Tv)(a:Nat)(g:Tn->Nat->FB):Prop:=∀vs l ls h K w st c xs,h.at l=some (.lp a st c vs)->Told ((T a).params.map (·.2)) ls xs->g vs l ls h K=some w->
  ∃b h',iK C l (ao xs) (h9 T (D9 h)) (.bool b) (h9 T (D9 h'))/\K [.b b] h'=some w
def Nn:IJ=λa _=>some a:=by
 funext a h
 exact fQ a _
def WU{C:m8}{Sg:Td}{T:Tv}(d:∀f sg ls a H',Sg f=some sg->sg.plain=true->aF C Sg f ls [] a H'->∀H,aF C Sg f ls H a H)
  {k:Nat} {g:FB} {sg:H7} (l:Ps C Sg T k g) (n:Sg k=some sg) (m:sg.plain=true):Ps C Sg T k (WT g):=by
 intro ls h K w c b;unfold WT at b;rw[fQ,Nn]at b;cases e:g ls .empty (λa _=>some a)with
 |none=>rw[e]at b;cases b
 |some a=>
  rw[e]at b;obtain⟨o,p,i,j⟩:=l ls .empty _ a c e;cases j;exact⟨a,h,d k sg ls a _ n m i _,b⟩
end
end Go.Am
namespace Go.Am
open Sx Go.Proofs
section
variable {R HT:Type} (A:Dv R HT)
def y160(vs:Tn)(d:Nat)(ls:TG)(h:HT)(K:TG->HT->R):R:=A.DF vs λp v=>A.n4 p (A.DF v λx10 w=>A.n4 x10 (A.tf w (A.po ls λe x=>A.po x λf y=>A.DK y λz B=>A.po B λg C=>A.po C λi D=>A.po D λj E=>A.DK E λx24 F=>A.A1 F (A.new (.cells [.int .i64 0,.int .i64 0,.slice none 0 0,.int .u8 0,.int .i64 0,.int .i64 0,.slice none 0 0] 7 true) h λq G=>A.heap (.st (.pointer (some ⟨q,0,none⟩)) [.int .i64 e,.int .i64 f,z,.int .u8 g,.int .i64 i,.int .i64 j,x24]) G λg2 H=>A.JW d H λc=>A.ma (.lg cc 1 x10) c λI=>A.DF I λr J=>A.n4 r (A.tf J (A.ma (.lg cc 7 (.pointer (some ⟨q,0,none⟩))) c λL=>A.td .i64 L λk M=>A.td .i64 M λl N=>A.DF N λs O=>A.n4 s (A.td .u8 O λm P=>A.td .i64 P λn Q=>A.td .i64 Q λo S=>A.DF S λt T=>A.n4 t (A.tf T (A.new (.cells [.int .i64 k,.int .i64 l,s,.int .u8 m,.int .i64 n,.int .i64 o,t] 7 true) c λU V=>A.heap (.ap cc 7 88 r (.slice (some ⟨U,0,some 17⟩) 1 2)) V λW X=>A.DF W λx53 eC=>A.n4 x53 (A.tf eC (A.heap (.st x10 [x53]) X λg3 a=>A.ma (.lg cc 1 x10) a λY=>A.DF Y λu Z=>A.n4 u (A.tf Z (A.jw (HR u) λe2=>A.ma (.lg cc 1 p) a λf0=>A.td .i64 f0 λf1 f2=>A.tf f2 (A.cmp .eql e2 f1 λgl=>A.cond gl (A.HU d (some (.exit 0)) a λg0=>K [.b false] g0) (A.HU d none a λg1=>K [.b true] g1)))))))))))))))
end
def m3:@y160=λR b A vs a ls h K=>vW A (xc 0) ac Kd (aa 160) vs a ls h K:=d_
instance val0 : DB := ⟨λ_ => 0⟩
instance kno0:En:=KnoC cc Jo
def GT:cc.P.follows .mixedOrders=true:=d_
def qk(g:Nat)(vs:Tn)(h:cc.G g=some vs):vs.all UO=true:=by
 unfold cc at h;simp only at h;split at h<;>first|(cases h;done)|(obtain rfl:=EI h;kernel_rfl)
def vO:Pr cc Kd:=V1 W_ (λ_ _ _ _ _ (h:_/\_)=>h.1)
abbrev Z7(k:Nat)(g:FB):Prop:=Ps cc ac aa k g
abbrev Yy(c:gr):Prop:=Fb cc ac aa c
def Bg(f:TQ)(sg:H7)(ls a:TG)(H':Tu)(d:ac f=some sg)(c:sg.plain=true)(b:aF cc ac f ls [] a H'):∀H,aF cc ac f ls H a H:=Zb GT qk d c b
def V5{k:Nat}{g:FB}{sg:H7}(h:Z7 k g)(a:ac k=some sg)(b:sg.plain=true):Z7 k (WT g):=WU Bg h a b
def nA:Dv RT y_->FB:=λ_=>nf
def Eg(F:Dv RT y_->FB):Dv RT y_->FB:=λA=>WT (F A)
inductive TrA where
 |leaf
 |node (v:Dv RT y_->FB) (l r:TrA)
def Im(p:EH):TrA->Dv RT y_->FB:=
 EH.rec (motive:=λ_=>TrA->Dv RT y_->FB) (λt=>TrA.casesOn t nA λv _ _=>v) (λ_ a t=>TrA.casesOn t nA λ_ l _=>a l) (λ_ a t=>TrA.casesOn t nA λ_ _ r=>a r) p
def y_of{d:Nat}{g:gr->Tn->Nat->FB}{ct:gr->gr}{c:gr}(h0:∀vs l ls h K,vW (BA ac aa (ct c)) (xc 0) ac Kd (aa d) vs l ls h K=g c vs l ls h K)(k:Yy (ct c)):YOk cc ac aa d (g c):=by
 intro vs l ls h K w o n p e m a;rw[←h0]at a;obtain⟨b,j,f,i⟩:=zY (X:=xc 0) (Yw (w:=w) k) vO (lK e) rfl rfl rfl rfl m a;exact⟨b,j,f,i⟩
def II:TrA:=(.node nA (.node nA (.node f3 (.node f7 (.node f15 (.node (Eg f31) (.node nA (.node (Eg UC) .leaf .leaf) .leaf) .leaf) (.node (Eg f47) (.node f79 (.node Wo .leaf .leaf) .leaf) .leaf)) (.node f23 (.node (Eg f39) (.node (Eg f71) (.node (Eg UE) .leaf .leaf) .leaf) (.node (Eg Uy) .leaf .leaf)) (.node f55 (.node f87 .leaf .leaf) (.node Wk .leaf .leaf)))) (.node f11 (.node f19 (.node (Eg f35) .leaf .leaf) (.node f51 (.node f83 .leaf .leaf) (.node (Eg Uz) .leaf .leaf))) (.node f27 (.node (Eg f43) (.node (Eg f75) (.node (Eg f139) .leaf .leaf) .leaf) (.node f107 .leaf .leaf)) (.node f59 (.node f91 .leaf .leaf) (.node (Eg f123) .leaf .leaf))))) (.node f5 (.node f9 (.node (Eg Zd) (.node f33 (.node nA (.node (Eg f129) .leaf .leaf) .leaf) .leaf) (.node f49 (.node f81 .leaf .leaf) .leaf)) (.node f25 (.node f41 (.node (Eg f73) (.node Wn .leaf .leaf) .leaf) (.node Wh .leaf .leaf)) (.node (Eg f57) (.node f89 .leaf .leaf) (.node (Eg Us) .leaf .leaf)))) (.node (Eg f13) (.node f21 (.node (Eg f37) (.node f69 .leaf .leaf) (.node (Eg f101) .leaf .leaf)) (.node f53 (.node (Eg f85) .leaf .leaf) (.node Wi .leaf .leaf))) (.node (Eg f29) (.node f45 (.node (Eg f77) .leaf .leaf) .leaf) (.node nA (.node f93 .leaf .leaf) (.node (Eg f125) .leaf .leaf)))))) (.node nA (.node f4 (.node (Eg f8) (.node (Eg f16) (.node (Eg f32) (.node nA (.node (Eg Ut) .leaf .leaf) .leaf) .leaf) (.node f48 (.node f80 (.node (Eg UJ) .leaf .leaf) .leaf) .leaf)) (.node f24 (.node (Eg f40) (.node (Eg f72) (.node (Eg UF) .leaf .leaf) .leaf) (.node (Eg Uq) .leaf .leaf)) (.node (Eg f56) (.node f88 .leaf .leaf) .leaf))) (.node (Eg f12) (.node f20 (.node f36 (.node (Eg f68) .leaf .leaf) (.node (Eg f100) .leaf .leaf)) (.node f52 (.node f84 .leaf .leaf) (.node (Eg UA) .leaf .leaf))) (.node (Eg f28) (.node f44 (.node (Eg f76) (.node (Eg UH) .leaf .leaf) .leaf) .leaf) (.node nA (.node f92 .leaf .leaf) (.node Wm .leaf .leaf))))) (.node (Eg f6) (.node f10 (.node (Eg f18) (.node (Eg f34) (.node nA (.node (Eg f130) .leaf .leaf) .leaf) .leaf) (.node f50 (.node (Eg f82) .leaf .leaf) .leaf)) (.node f26 (.node f42 (.node (Eg f74) (.node (Eg f138) .leaf .leaf) .leaf) (.node (Eg Ur) .leaf .leaf)) (.node (Eg f58) (.node f90 .leaf .leaf) (.node Wl .leaf .leaf)))) (.node (Eg f14) (.node f22 (.node (Eg f38) (.node (Eg f70) (.node (Eg UD) .leaf .leaf) .leaf) (.node (Eg Ux) .leaf .leaf)) (.node f54 (.node f86 .leaf .leaf) (.node Wj .leaf .leaf))) (.node (Eg f30) (.node f46 (.node f78 (.node (Eg UI) .leaf .leaf) .leaf) .leaf) (.node nA (.node f94 .leaf .leaf) (.node (Eg UB) .leaf .leaf)))))))
def ZZ(c:gr):gr:=λa=>match a with
 | .f f=>match Nat.blt f 145 with
  |true=>Im (cG f) II (BA ac aa c)
  |false=>nf
 | .y b d l=>vW (BA ac aa c) (xc 0) ac Kd (aa b) d l
def Jy(n:Nat):gr:=Nat.rec (motive:=λ_=>gr) (λ_ _ _ _=>none) (λ_ c=>ZZ c) n
section
variable {k:Nat} {F:(R HT:Type)->Dv R HT->TG->HT->(TG->HT->R)->R} {fn:Fn1} {c:gr}
def tn(h1:Im (cG k) II=nA:=by kernel_rfl):Z7 k (Im (cG k) II (BA ac aa c)):=by
 intro d h K w b a;rw[h1]at a;cases a
def oy(g:F=λR HT A ls h K=>aw A (xc k) ac Kd fn ls h K)(i:HI (xc k) ac k fn)(j:Yy c):Z7 k (F RT y_ (BA ac aa c)):=by
 intro ls h K w a b;rw[g]at b;obtain⟨l,f,d,_,e⟩:=tU (Yw (w:=w) j) vO i a b;exact⟨l,f,d,e⟩
def tw(a:F=λR HT A ls h K=>aw A (xc k) ac Kd fn ls h K)(b:HI (xc k) ac k fn)(d:Yy c)(h1:Im (cG k) II=F RT y_:=by kernel_rfl):Z7 k (Im (cG k) II (BA ac aa c)):=by
 rw[h1];exact oy a b d
def tm(a:F=λR HT A ls h K=>aw A (xc k) ac Kd fn ls h K)(b:HI (xc k) ac k fn)(f:Yy c){sg:H7}(d:ac k=some sg:=by rfl)(e:sg.plain=true:=by kernel_rfl)(h1:Im (cG k) II=Eg (F RT y_):=by kernel_rfl):Z7 k (Im (cG k) II (BA ac aa c)):=by
 rw[h1];exact V5 (oy a b f) d e
end
def Yk{c:gr}(a:Yy c):∀f,Nat.blt f 145=true->Z7 f (Im (cG f) II (BA ac aa c))
 |0,_=>tn
 |1,_=>tn
 |2,_=>tn
 |3,_=>tw e3 i3 a
 |4,_=>tw e4 i4 a
 |5,_=>tw e5 i5 a
 |6,_=>tm e6 i6 a
 |7,_=>tw e7 i7 a
 |8,_=>tm e8 i8 a
 |9,_=>tw e9 i9 a
 |10,_=>tw e10 i10 a
 |11,_=>tw e11 i11 a
 |12,_=>tm e12 i12 a
 |13,_=>tm e13 i13 a
 |14,_=>tm e14 i14 a
 |15,_=>tw e15 i15 a
 |16,_=>tm e16 i16 a
 |17,_=>tm e17 i17 a
 |18,_=>tm e18 i18 a
 |19,_=>tw e19 i19 a
 |20,_=>tw e20 i20 a
 |21,_=>tw e21 i21 a
 |22,_=>tw e22 i22 a
 |23,_=>tw e23 i23 a
 |24,_=>tw e24 i24 a
 |25,_=>tw e25 i25 a
 |26,_=>tw e26 i26 a
 |27,_=>tw e27 i27 a
 |28,_=>tm e28 i28 a
 |29,_=>tm e29 i29 a
 |30,_=>tm e30 i30 a
 |31,_=>tm e31 i31 a
 |32,_=>tm e32 i32 a
 |33,_=>tw e33 i33 a
 |34,_=>tm e34 i34 a
 |35,_=>tm e35 i35 a
 |36,_=>tw e36 i36 a
 |37,_=>tm e37 i37 a
 |38,_=>tm e38 i38 a
 |39,_=>tm e39 i39 a
 |40,_=>tm e40 i40 a
 |41,_=>tw e41 i41 a
 |42,_=>tw e42 i42 a
 |43,_=>tm e43 i43 a
 |44,_=>tw e44 i44 a
 |45,_=>tw e45 i45 a
 |46,_=>tw e46 i46 a
 |47,_=>tm e47 i47 a
 |48,_=>tw e48 i48 a
 |49,_=>tw e49 i49 a
 |50,_=>tw e50 i50 a
 |51,_=>tw e51 i51 a
 |52,_=>tw e52 i52 a
 |53,_=>tw e53 i53 a
 |54,_=>tw e54 i54 a
 |55,_=>tw e55 i55 a
 |56,_=>tm e56 i56 a
 |57,_=>tm e57 i57 a
 |58,_=>tm e58 i58 a
 |59,_=>tw e59 i59 a
 |60,_=>tn
 |61,_=>tn
 |62,_=>tn
 |63,_=>tn
 |64,_=>tn
 |65,_=>tn
 |66,_=>tn
 |67,_=>tn
 |68,_=>tm e68 i68 a
 |69,_=>tw e69 i69 a
 |70,_=>tm e70 i70 a
 |71,_=>tm e71 i71 a
 |72,_=>tm e72 i72 a
 |73,_=>tm e73 i73 a
 |74,_=>tm e74 i74 a
 |75,_=>tm e75 i75 a
 |76,_=>tm e76 i76 a
 |77,_=>tm e77 i77 a
 |78,_=>tw e78 i78 a
 |79,_=>tw e79 i79 a
 |80,_=>tw e80 i80 a
 |81,_=>tw e81 i81 a
 |82,_=>tm e82 i82 a
 |83,_=>tw e83 i83 a
 |84,_=>tw e84 i84 a
 |85,_=>tm e85 i85 a
 |86,_=>tw e86 i86 a
 |87,_=>tw e87 i87 a
 |88,_=>tw e88 i88 a
 |89,_=>tw e89 i89 a
 |90,_=>tw e90 i90 a
 |91,_=>tw e91 i91 a
 |92,_=>tw e92 i92 a
 |93,_=>tw e93 i93 a
 |94,_=>tw e94 i94 a
 |95,_=>tn
 |96,_=>tn
 |97,_=>tn
 |98,_=>tn
 |99,_=>tn
 |100,_=>tm e100 i100 a
 |101,_=>tm e101 i101 a
 |102,_=>tm e102 i102 a
 |103,_=>tm e103 i103 a
 |104,_=>tm e104 i104 a
 |105,_=>tw e105 i105 a
 |106,_=>tm e106 i106 a
 |107,_=>tw e107 i107 a
 |108,_=>tn
 |109,_=>tn
 |110,_=>tn
 |111,_=>tn
 |112,_=>tn
 |113,_=>tn
 |114,_=>tn
 |115,_=>tm e115 i115 a
 |116,_=>tm e116 i116 a
 |117,_=>tw e117 i117 a
 |118,_=>tw e118 i118 a
 |119,_=>tw e119 i119 a
 |120,_=>tn
 |121,_=>tm e121 i121 a
 |122,_=>tw e122 i122 a
 |123,_=>tm e123 i123 a
 |124,_=>tw e124 i124 a
 |125,_=>tm e125 i125 a
 |126,_=>tm e126 i126 a
 |127,_=>tm e127 i127 a
 |128,_=>tm e128 i128 a
 |129,_=>tm e129 i129 a
 |130,_=>tm e130 i130 a
 |131,_=>tn
 |132,_=>tn
 |133,_=>tn
 |134,_=>tm e134 i134 a
 |135,_=>tm e135 i135 a
 |136,_=>tm e136 i136 a
 |137,_=>tw e137 i137 a
 |138,_=>tm e138 i138 a
 |139,_=>tm e139 i139 a
 |140,_=>tm e140 i140 a
 |141,_=>tn
 |142,_=>tm e142 i142 a
 |143,_=>tw e143 i143 a
 |144,_=>tm e144 i144 a
 |n+145,h=>by rw[HA]at h;omega
def T8{c:gr}(k:Yy c):Yy (ZZ c):=by
 refine⟨λf b h K w i a=>?_,λj d l b h K w p o q e n a=>?_⟩
 .have a:(match Nat.blt f 145 with|true=>Im (cG f) II (BA ac aa c)|false=>nf) b h K=some w:=a;cases e:Nat.blt f 145 with
  |true=>rw[e]at a;exact Yk k f e b h K w i a
  |false=>rw[e]at a;cases a
 .have m:YOk cc ac aa j (λd l b h K=>vW (BA ac aa c) (xc 0) ac Kd (aa j) d l b h K):=y_of (g:=λc d l b h K=>vW (BA ac aa c) (xc 0) ac Kd (aa j) d l b h K) (ct:=λc=>c) (λ_ _ _ _ _=>rfl) k;exact m d l b h K w p o q e n a
def yZ:∀n,Yy (Jy n)
 |0=>⟨λ_ _ _ _ _ _ h=>by(cases h),λ_ _ _ _ _ _ _ _ _ _ _ _ h=>by(cases h)⟩
 |n+1=>T8 (yZ n)
end Go.Am
namespace Go.Am
namespace Sx
section
variable [DB] [En]
def g4(T:Tv)(f:Pk)(h:HL)(K:Tf):Prop:=∃cs,f.run (s7 T h)=some cs/\K cs
abbrev _root_.Tb:=List Value->HL->Prop
def hB(T:Tv)(f:Hp)(h:HL)(K:Tb):Prop:=∃a cs,f.run (s7 T h) h.length=some (a,cs)/\K cs (bG h a)
abbrev _root_.Te:=List Lf->HL->Prop
def p3(C:m8)(Sg:Td)(T:Tv)(g:TQ)(ls:TG)(h:HL)(K:Te):Prop:=∃a h',aF C Sg g ls (h9 T h) a (h9 T h')/\K a h'
def kx(C:m8)(T:Tv)(v:Value)(args:Tn)(b:TN)(h:HL)(K:Te):Prop:=∃a h',xJ C v args b (h9 T h) a (h9 T h')/\K a h'
def UP(F:(TG->HL->Prop)->TG->HL->Prop)(n:Nat):TG->HL->Prop:=
 match n with
 |0=>λ_ _=>False
 |n+1=>F (UP F n)
def Zm(F:(TG->HL->Prop)->TG->HL->Prop)(ls:TG)(h:HL):Prop:=∃n,UP F n ls h
def ag(C:m8)(T:Tv)(e:Nat)(v:Value)(a:Tn)(h:HL)(K:Tm->HL->Prop):Prop:=
 ∃g first cap r c b d,v = .func (.func g) first cap/\
  jY C g (first.toList++[.func (.yield (h9 T h).length) #[] #[]]++cap.toList) (h9 T h++[.loop (FC (T e) e a)]) r c/\
  fg c (h9 T h).length=some b/\b.state≠.busy/\h9 T d=c.set (h9 T h).length (.loop { b with state:=.exhausted })/\K b.pending d
def lp1H(T:Tv)(l:Nat)(h:HL)(K:HL->Prop):Prop:=∃a h',fg (h9 T h) l=some a/\a.state = .ready/\h9 T h'=(h9 T h).set l (.loop { a with state:=.busy })/\K h'
def lp2H(T:Tv)(l:Nat)(j:Tm)(h:HL)(K:HL->Prop):Prop:=∃a h',fg (h9 T h) l=some a/\h9 T h'=(h9 T h).set l (.loop { a with state:=if j.isNone then .ready else .done,pending:=j })/\K h'
def PH(C:m8)(Sg:Td)(T:Tv):Dv Prop HL where
 fail:=False
 cond:=Y'
 x6:=Vf
 HB:=λd k a c b K=>∃n,K' d k a c b n/\K n
 cmp:=VS
 eqs:=λl K=>K (cu l)
 conv:=λk a K=>K (k.wrap a)
 HH:=λt a b K=>K (if t then a else b)
 jw:=bC
 n4:=λv K=>aI v=true/\K
 po:=unIP
 Fu:=unBP
 DK:=unVP
 A1:=un0P
 td:=ucIP
 E7:=ucBP
 DF:=ucVP
 tf:=uc0P
 ma:=g4 T
 heap:=hB T
 new:=λo h K=>K h.length (h++[.o o])
 call:=p3 C Sg T
 Dw:=kx C T
 join:=λb m=>m b
 loop:=Zm
 Ft:=ag C T
 Fg:=MJ
 JW:=lp1H T
 HU:=lp2H T
def Py(C:m8)(Sg:Td)(T:Tv):pL (PH C Sg T) C Sg T id (h9 T) where
 fail:=(gV C Sg T).fail
 cond:=(gV C Sg T).cond
 x6:=(gV C Sg T).x6
 HB:=(gV C Sg T).HB
 cmp:=(gV C Sg T).cmp
 eqs:=(gV C Sg T).eqs
 conv:=(gV C Sg T).conv
 HH:=(gV C Sg T).HH
 jw:=(gV C Sg T).jw
 n4:=(gV C Sg T).n4
 po:=(gV C Sg T).po
 Fu:=(gV C Sg T).Fu
 DK:=(gV C Sg T).DK
 A1:=(gV C Sg T).A1
 td:=(gV C Sg T).td
 E7:=(gV C Sg T).E7
 DF:=(gV C Sg T).DF
 tf:=(gV C Sg T).tf
 ma:=by
  intro f h K a;obtain⟨d,e,i⟩:=a;exact⟨d,by rw[←qj];exact e,i⟩
 heap:=by
  intro f h K a;obtain⟨c,d,e,i⟩:=a;exact⟨c,d,_,by rw[←qj,jD];exact e,mE T c h,i⟩
 new:=λo h K a=>⟨_,lq T h _,by rw[jD];exact a⟩
 call:=λg k h K a=>a
 Dw:=λv p r h K a=>a
 join:=λb m h=>h
 loop:=by
  intro F k h a;obtain⟨n,a⟩:=a;exact⟨UP F,λk h=>(id:False->False),λn k h=>rfl,n,a⟩
 Ft:=λs v q h K a=>a
 Fg:=(gV C Sg T).Fg
 JW:=λl h K a=>a
 HU:=λl j h K a=>a
section
variable {C:m8} {Sg:Td} {T:Tv} {call:gr} (hc:Fb C Sg T call)
include hc
theorem s_shf{e:BinOp}{k d:TK}{a b:Int}{K:Int->RT}{c:Tw}(i:∀n,K n=yes->c n)(h:(BA Sg T call).HB e k a d b K=yes):(PH C Sg T).HB e k a d b c:=by
 obtain⟨n,f,g⟩:=M6 (w:=[]) h;exact⟨n,f,i _ g⟩
end
def Ap{F:(TG->HL->Prop)->TG->HL->Prop}(Inv:Nat->TG->HL->Prop)
  (step:∀m ls h,Inv m ls h->∀a:TG->HL->Prop,(∀b ls h,b<m->Inv b ls h->a ls h)->F a ls h):∀n m ls h,m<n->Inv m ls h->UP F n ls h
 |0,_,_,_,d,_=>absurd d (qdD _)
 |n+1,m,ls,h,d,e=>step m ls h e (UP F n) λb ls h h' c=>Ap Inv step n b ls h a_ c
def aH{F:(TG->HL->Prop)->TG->HL->Prop}(Inv:Nat->TG->HL->Prop){m:Nat}{ls:TG}{h:HL}(c:Inv m ls h)
  (step:∀m ls h,Inv m ls h->∀a:TG->HL->Prop,(∀b ls h,b<m->Inv b ls h->a ls h)->F a ls h):Zm F ls h:=
 ⟨m+1,Ap Inv step (m+1) m ls h (Nat.lt_succ_self m) c⟩
end
end Sx
end Go.Am
end

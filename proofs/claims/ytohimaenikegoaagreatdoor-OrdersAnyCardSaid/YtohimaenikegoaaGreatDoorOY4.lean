import Derived.Test.YtohimaenikegoaaGreatDoorOY3
import Derived.LaidMore
import Derived.MakeChecks
import Derived.OpenShut
import Derived.ProofKit
import Derived.Stop.Joined
import Derived.Test.YtohimaenikegoaaGreatDoorRows
import GoSem.ClaimJoined
set_option linter.all false
noncomputable section
set_option maxRecDepth 100000
open Int(ofNat)
open List(range)
namespace Go.Am
namespace Sx
inductive MC where
 |no
 |row (s:Nat) (w:Bool)
 |hr
 |hw
 |neu (f:TQ)
abbrev _root_.Tc:=FuncId->Option Nat
def az(N:Tc)(a_:TC)(o:Oper):Option MC:=
 match o.op with
 | .move _ | .assign _ | .pick _ _ _ | .build _ _ | .nilCheck _ | .unOp _ _ _ | .convert _ _ _ | .fieldAddr _ _ _ | .field _ _ _ | .indexAddr _ _ _ | .index _ _ _ | .extract _ _=>some .no
 | .binOp _ _ _ _ _=>some .no
 | .makeFunc _ _ _=>some .no
 | .load _ a=>match nB a_ a with
  |0=>some .hr
  |1=>some .no
  |s+2=>some (.row s false)
 | .store _ a _=>match nB a_ a with
  |0=>some .hw
  |1=>none
  |s+2=>some (.row s true)
 | .alloc _ | .box _ _=>match o.dst with
  |some d=>if a_.getD d 0=d+2 then some (.row d true)else some .hw
  |none=>none
 | .buildSlice _ _ _ | .makeMap _ _ | .makeSlice _ _ _ | .mapUpdate _ _ _ _ | .mapEntry _ _ _ | .entryStore _ _ _ _ | .insert _ _ _ _=>some .hw
 | .lookup _ _ _ _ | .slice _ _ _ _ _=>some .hr
 | .call c=>match c.callee with
  | .builtin b=>match b with
   | .append | .copy | .delete | .clear=>some .hw
   | .len=>some .hr
   | .cap | .min | .max=>some .no
   |_=>none
  | .value f=>match f with
   | .func g=>some (if N g=some (2*c.args.size)then .neu g else if N g=some (2*c.args.size+1)then .hr else .hw)
   |_=>some .hw
  |_=>none
 |_=>none
def bh(ops:To)(o:Oper):TC:=
 (o.op.operands.toList.filterMap λx=>match x with
  | .tmp t=>some t
  |_=>none) ++
 match o.guard with
 |some (j,_)=>((ops[j]?).bind (·.dst)).toList
 |none=>[]
section
variable [Cf]
def execOp_congr{e s9:Tg}{o:Oper}(N:Tc)(a_:TC)(C:az N a_ o≠none)(h:∀x∈o.op.operands.toList,e x=s9 x):execOp e o=execOp s9 o:=by
 obtain⟨dst,A,B,pos,z,guard⟩:=o;have l:∀ {j:Array Operand},(∀x∈j.toList,e x=s9 x)->j.map e=j.map s9:=by
  simp_all
 have w:∀ {j:Array (Nat×Operand)},(∀x∈j.toList.map (·.2),e x=s9 x)->(j.map λ(i,x)=>(i,e x))=(j.map λ(i,x)=>(i,s9 x)):=by
  grind
 have g:∀ {r:Th},(∀x∈r.toArray.toList,e x=s9 x)->r.map e=r.map s9:=by
  intro r q;cases r with
  |none=>rfl
  |some y=>simp[q y (by simp)]
 cases A<;>simp only[az,ne_eq,not_true_eq_false,not_false_eq_true,reduceCtorEq]at C<;>simp only[Op.operands]at h
 case move x=>simp only[execOp,h x (by simp)]
 case assign x=>simp only[execOp,h x (by simp)]
 case pick c a b=>simp only[execOp,h c (by simp),h a (by simp),h b (by simp)]
 case alloc t=>rfl
 case box t x=>simp only[execOp,h x (by simp)]
 case build t ps=>simp only[execOp,w (by simpa using h)]
 case buildSlice t n ps=>simp only[execOp,w (by simpa using h)]
 case load t a=>simp only[execOp,h a (by simp)]
 case store t a x=>simp only[execOp,h a (by simp),h x (by simp)]
 case nilCheck x=>simp only[execOp,h x (by simp)]
 case binOp A t x y yt=>simp only[execOp,h x (by simp),h y (by simp)]
 case unOp A t x=>simp only[execOp,h x (by simp)]
 case convert s d x=>simp only[execOp,h x (by simp)]
 case makeFunc fn a b=>simp only[execOp,l (λx q=>h x (by simp;exact .inl (by simpa using q))),l (λx q=>h x (by simp;exact .inr (by simpa using q)))]
 case makeMap t r=>simp only[execOp,g h]
 case makeSlice t a b=>simp only[execOp,h a (by simp),h b (by simp)]
 case slice t x a b c=>
  simp only[Yw,Ed]at h;simp only[execOp,h x (by simp),g (λy u=>h y (.inl (.inl (.inr u)))),g (λy u=>h y (.inl (.inr u))),g (λy u=>h y (.inr u))]
 case fieldAddr t x f=>simp only[execOp,h x (by simp)]
 case field t x f=>simp only[execOp,h x (by simp)]
 case indexAddr t x i=>simp only[execOp,h x (by simp),h i (by simp)]
 case index t x i=>simp only[execOp,h x (by simp),h i (by simp)]
 case lookup t x i ok=>simp only[execOp,h x (by simp),h i (by simp)]
 case mapUpdate t m k v=>simp only[execOp,h m (by simp),h k (by simp),h v (by simp)]
 case insert t m k v=>simp only[execOp,h m (by simp),h k (by simp),h v (by simp)]
 case mapEntry t m k=>simp only[execOp,h m (by simp),h k (by simp)]
 case entryStore t m s v=>simp only[execOp,h m (by simp),h s (by simp),h v (by simp)]
 case extract t i=>simp only[execOp,h t (by simp)]
 case call c=>
  have p:resolve e c B=resolve s9 c B:=by
   unfold resolve;simp only[Call.operands,Yw,Ed]at h
   grind
  simp only[execOp,p]
def oW{C:ke}{e s9:Tg}{o:Oper}(N:Tc)(a_:TC)(G:az N a_ o≠none)(h:∀x∈o.op.operands.toList,e x=s9 x):ar C a_ e o=ar C a_ s9 o:=by
 have u:=execOp_congr N a_ G h;have w:∀(f:TR->Bool),(o.op.operands.toList.all λx=>f (e x))=(o.op.operands.toList.all λx=>f (s9 x)):=by
  grind
 have q:cI C e o=cI C s9 o:=by
  unfold cI;rw[w flat,u]
 have j:∀ {r:Th},(∀x∈r.toArray.toList,e x=s9 x)->r.map e=r.map s9:=by
  intro r u;cases r with
  |none=>rfl
  |some y=>simp[u y (by simp)]
 have B:∀ {l:Array (Nat×Operand)},(∀x∈l.toList.map (·.2),e x=s9 x)->(l.toList.map λp=>(p.1,e p.2))=(l.toList.map λp=>(p.1,s9 p.2)):=by
  intro l u;refine Yy λp q=>?_
  grind
 have A:∀(f:TR->Bool) {l:Array (Nat×Operand)},(∀x∈l.toList.map (·.2),e x=s9 x)->(l.toList.all λp=>f (e p.2))=(l.toList.all λp=>f (s9 p.2)):=by
  grind
 obtain⟨dst,F,H,pos,g,guard⟩:=o;cases F<;>simp only[az,ne_eq,not_true_eq_false,not_false_eq_true,reduceCtorEq]at G<;>simp only[Op.operands]at h
 case move x=>simp only[ar,h x (by simp)]
 case assign x=>simp only[ar,h x (by simp)]
 case pick c a b=>simp only[ar,h c (by simp),h a (by simp),h b (by simp)]
 case alloc t=>rfl
 case box t x=>simp only[ar,h x (by simp)]
 case build t ps=>simp only[ar,B (by simpa using h),A (λv=>!aD v) (by simpa using h)]
 case buildSlice t n ps=>simp only[ar,B (by simpa using h),A (λv=>v.cells.toList.all bg) (by simpa using h)]
 case load t a=>simp only[ar,h a (by simp)]
 case store t a x=>simp only[ar,h a (by simp),h x (by simp)]
 case nilCheck x=>simp only[ar,h x (by simp)]
 case binOp F t x y yt=>simp only[ar,h x (by simp),h y (by simp),q]
 case unOp F t x=>simp only[ar,q]
 case convert s d x=>simp only[ar,q]
 case makeFunc fn a b=>
  have D:a.map e=a.map s9:=u9.1 (by simp_all);have E:b.map e=b.map s9:=u9.1 (by simp_all);simp only[ar,D,E]
 case makeMap t r=>simp only[ar,j h]
 case makeSlice t a b=>simp only[ar,h a (by simp),h b (by simp)]
 case slice t x a b c=>
  simp only[Yw,Ed]at h;simp only[ar,h x (by simp),j (λy z=>h y (.inl (.inl (.inr z)))),j (λy z=>h y (.inl (.inr z))),j (λy z=>h y (.inr z)),q]
 case fieldAddr t x f=>simp only[ar,h x (by simp)]
 case field t x f=>simp only[ar,h x (by simp)]
 case indexAddr t x i=>simp only[ar,h x (by simp),h i (by simp)]
 case index t x i=>simp only[ar,h x (by simp),h i (by simp)]
 case lookup t x i ok=>simp only[ar,h x (by simp),h i (by simp)]
 case mapUpdate t m k v=>simp only[ar,h m (by simp),h k (by simp),h v (by simp)]
 case insert t m k v=>simp only[ar,h m (by simp),h k (by simp),h v (by simp)]
 case mapEntry t m k=>simp only[ar,h m (by simp),h k (by simp)]
 case entryStore t m s v=>simp only[ar,h m (by simp),h s (by simp),h v (by simp)]
 case extract t i=>simp only[ar,h t (by simp)]
 case call c=>
  simp only[Call.operands,Yw,Ed]at h;have D:c.args.toList.map e=c.args.toList.map s9:=Yy λx u=>h x (.inr u);have E:∀b,aX C e b (c.args.toList.map e) c.argTypes ⟨dst,.call c,H,pos,g,guard⟩=aX C s9 b (c.args.toList.map s9) c.argTypes ⟨dst,.call c,H,pos,g,guard⟩:=by
   intro b;unfold aX;rw[D,q]
  simp only[ar,gJ];cases I:c.callee with
  |builtin b=>exact E b
  |value f=>grind
  |invoke r m=>rfl
structure Ef where
 v:Value
 rw:Option (Nat×Option (Tn))
 hp:Option (Tu)
def Ef.on(e:Ef)(dst:Tq)(g9:St):St:=
 ({ tmps:=g9.tmps,loc:=(match e.rw with|some p=>g9.loc.set p.1 p.2|none=>g9.loc),heap:=e.hp.getD g9.heap }:St).put dst e.v
def CF(N:Tc)(a_:TC)(ops:To)(o:Oper)(g9 i7:St):Prop:=
 (∀t∈bh ops o,i7.tmps[t]?=g9.tmps[t]?)/\match az N a_ o with
 |some (.row s _)=>i7.loc[s]?=g9.loc[s]?
 |some .hr=>i7.heap=g9.heap
 |some .hw=>i7.heap=g9.heap
 |_=>True
def DE(N:Tc)(B:Below):Prop:=(∀f args H r H',N f=some (2*args.length)->B.call f args H r H'->H'=H/\∀a,B.call f args a r a)/\
 ∀f args H r H',N f=some (2*args.length+1)->B.call f args H r H'->H'=H
def ur(m:Option MC)(e:Ef):Prop:=
 (∀p,e.rw=some p->m=some (.row p.1 true))/\(e.hp≠none->m=some .hw)
def mn{g9 i7:St}{x:TK}(h:∀t,x = .tmp t->i7.tmps[t]?=g9.tmps[t]?):h9 i7.tmps x=h9 g9.tmps x:=by
 cases x with
 |tmp t=>simp[h9,List.getD_eq_getElem?_getD,h t rfl]
 |_=>rfl
def Af{N:Tc}{a_:TC}{ops:To}{o:Oper}{g9 i7:St}(h:CF N a_ ops o g9 i7):∀x∈o.op.operands.toList,h9 i7.tmps x=h9 g9.tmps x:=by
 intro x b;refine mn λt a=>h.1 t ?_;subst a;simp only[bh,Ed,QT]
 grind
def nz{N:Tc}{a_:TC}{ops:To}{o:Oper}{g9 i7:St}(h:CF N a_ ops o g9 i7):cv ops i7.tmps o=cv ops g9.tmps o:=by
 unfold cv;split
 .rfl
 next j a c=>
  cases b:(ops[j]?).bind (·.dst)with
  |none=>rfl
  |some d=>
   simp only[Dj];rw[h.1 d (by simp[bh,c,b])]
def pp(N:Tc)(m:Option MC):DM->Prop
 | .val _=>True
 | .Fv s _=>m=some (.row s true)
 | .G4 s _=>m=some (.row s false)
 | .Fw s _=>m=some (.row s true)
 | .ET _=>m=some .hr
 | .F2 _=>m=some .hw
 | .call f args=>(m=some (.neu f)/\N f=some (2*args.length))∨(m=some .hr/\N f=some (2*args.length+1))∨m=some .hw
 | .yield _ _=>m=some .hw
def eY{N:Tc}{m:Option MC}{x:Tk}{e:DM}(h:x.map DM.val=some e):pp N m e:=by
 obtain⟨v,_,rfl⟩:=Dv.1 h;trivial
def ey{C:ke}{a:Tg}{o:Oper}{N:Tc}{m:Option MC}{e:DM}(h:cI C a o=some e):pp N m e:=by
 unfold cI at h;split at h
 .split at h
  .split at h
   .cases h;trivial
   .cases h
  .cases h
 .cases h
def U5{N:Tc}{m:Option MC}{a:Tk}{b:Option DM}{e:DM}(c:b=some e->pp N m e)(h:pQ a b=some e):pp N m e:=by
 unfold pQ at h;split at h
 .cases h;trivial
 .exact c h
def pg{C:ke}{N:Tc}{a_:TC}{o:Oper}{t:TP}{v:TR}{e:DM}(ho:(∃y,o.op = .box t y)∨o.op = .alloc t)(h:cH C a_ o.dst t v=some e):pp N (az N a_ o) e:=by
 unfold cH at h;split at h
 .cases h
 .split at h
  .cases h
  next d b=>
   split at h
   .cases h
   .split at h
    next a=>
     cases h;rcases ho with⟨y,ho⟩|ho<;>(simp only[pp,az,ho,b];rw[n_ a])
    next a=>
     cases h;rcases ho with⟨y,ho⟩|ho<;>(simp only[pp,az,ho,b];rw[qs a])
def iO{C:ke}{N:Tc}{a_:TC}{w:Tg}{o:Oper}{e:DM}(A:∀g,w (.func g) = .func (.func g) #[] #[])(D:az N a_ o≠none)(d:ar C a_ w o=some e):pp N (az N a_ o) e:=by
 unfold ar at d;split at d
 .cases d;trivial
 .cases d;trivial
 .split at d
  .cases d;trivial
  .cases d
 next t h=>
  obtain⟨z,_,d⟩:=EB.1 d;exact pg (.inr h) d
 next t x h=>
  exact pg (.inl ⟨x,h⟩) d
 .split at d
  .exact eY d
  .cases d
 next t n H h=>
  split at d
  .obtain⟨r,_,rfl⟩:=Dv.1 d;simp only[pp,az,h]
  .cases d
 next t a h=>
  unfold dV at d;split at d
  next j=>
   split at d
   .cases d;simp only[pp,az,h,j]
   .obtain⟨p,_,rfl⟩:=Dv.1 d;simp only[pp,az,h,j]
  .obtain⟨p,_,d⟩:=EB.1 d;exact eY d
  next s j=>
   obtain⟨p,_,rfl⟩:=Dv.1 d;simp only[pp,az,h,j]
 next t a x h=>
  unfold fg at d;split at d
  .cases d
  .split at d
   next j=>
    obtain⟨p,_,rfl⟩:=Dv.1 d;simp only[pp,az,h,j]
   .cases d
   next s j=>
    obtain⟨p,_,rfl⟩:=Dv.1 d;simp only[pp,az,h,j]
 .split at d<;>cases d<;>trivial
 .split at d
  .split at d
   .split at d
    .cases d;trivial
    .cases d
   .exact ey d
  .split at d
   .split at d
    .cases d;trivial
    .cases d
   .exact ey d
  .exact ey d
 .split at d
  .cases d
  .cases d;trivial
 next t r h=>
  split at d
  .cases d;simp only[pp,az,h]
  .cases d
 next t l c h=>
  cases d;simp only[pp,az,h]
 next t x E B F h=>
  split at d
  .split at d
   .exact eY d
   .cases d;simp only[pp,az,h]
  .exact U5 ey d
 .exact eY d
 .exact eY d
 .exact eY d
 .exact eY d
 next t m k G h=>
  split at d
  .exact eY d
  .cases d;simp only[pp,az,h]
 next t m k v h=>
  cases d;simp only[pp,az,h]
 next t m k v h=>
  cases d;simp only[pp,az,h]
 next t m k h=>
  cases d;simp only[pp,az,h]
 next t m s v h=>
  cases d;simp only[pp,az,h]
 .split at d
  .split at d
   .cases d
   .exact eY d
  .cases d
 next c h=>
  unfold gJ at d;simp only at d;cases i:c.callee with
  |invoke r m=>simp_all
  |builtin b=>
   simp only[i]at d;unfold aX at d;split at d
   .split at d
    .cases d
    .cases d;simp only[pp,az,h,i]
   .split at d
    .cases d;trivial
    .cases d;simp only[pp,az,h,i]
    .cases d;trivial
    .exact ey d
   .split at d
    .cases d;trivial
    .cases d;trivial
    .cases d;trivial
    .cases d
   .cases d;simp only[pp,az,h,i]
   .cases d;simp only[pp,az,h,i]
   .cases d;simp only[pp,az,h,i]
   .exact ey d
  |value f=>
   simp only[i]at d;split at d
   .cases d
   .split at d
    next g first q u=>
     split at d
     .cases d;cases f with
      |func y=>
       rw[A]at u;cases u;simp only[az,h,i,pp]
       grind
      |_=>simp only[pp,az,h,i,or_true]
     .cases d
    next l first q u=>
     split at d
     .cases d;cases f with
      |func y=>simp_all
      |_=>simp only[pp,az,h,i]
     .cases d
    .cases d
 .exact ey d
 .exact ey d
 .cases d
def ji{C:ke}{B:Below}{N:Tc}(L:DE N B){a_:TC}{ops:To}{i:Nat}{o:Oper}(I:ops[i]?=some o)(m:az N a_ o≠none){g9 A:St}(u:ao C B a_ ops i g9 A) :
  ∃e:Ef,A=e.on o.dst g9/\ur (az N a_ o) e/\∀i7,CF N a_ ops o g9 i7->ao C B a_ ops i i7 (e.on o.dst i7):=by
 unfold ao at u;simp only[I]at u;have val:∀v:Value,A=g9.put o.dst v->(∀i7,CF N a_ ops o g9 i7->ao C B a_ ops i i7 (i7.put o.dst v))->
   ∃e:Ef,A=e.on o.dst g9/\ur (az N a_ o) e/\∀i7,CF N a_ ops o g9 i7->ao C B a_ ops i i7 (e.on o.dst i7):=by
  intro v j h;exact⟨⟨v,none,none⟩,j,⟨λp c=>(by cases c),λh=>absurd rfl h⟩,h⟩
 split at u
 .exact u.elim
 next J=>
  refine val undef u λi7 b=>?_;unfold ao;simp only[I,nz b,J]
 next J=>
  have step:∀ {i7 D:St},CF N a_ ops o g9 i7->((∃e,ar C a_ (h9 i7.tmps) o=some e/\mV B e o.dst i7 D)∨(∃v,nu C i7.tmps o v/\D=i7.put o.dst v))->ao C B a_ ops i i7 D:=by
   intro i7 D b h;unfold ao;simp only[I,nz b,J];exact h
  rcases u with⟨e,n,t⟩|⟨v,j,rfl⟩
  .have k:∀i7,CF N a_ ops o g9 i7->ar C a_ (h9 i7.tmps) o=some e:=λi7 b=>by
    rw[oW N a_ m (Af b)];exact n
   cases e with
   |val v=>
    obtain⟨p,c,rfl⟩:=t;cases c;exact val v rfl λi7 b=>step b (.inl ⟨_,k i7 b,_,rfl,rfl⟩)
   |Fv s E=>
    obtain⟨p,c,rfl⟩:=t;simp only[aW]at c;split at c
    next g=>
     cases c;have a:az N a_ o=some (.row s true):=iO (λ_=>rfl) m n;refine⟨⟨.pointer (some ⟨s,0,some 0⟩),some (s,some E),none⟩,rfl,⟨λp c=>by cases c;exact a,λh=>absurd rfl h⟩,λi7 b=>step b (.inl ⟨_,k i7 b,({ i7 with loc:=i7.loc.set s (some E) },.pointer (some ⟨s,0,some 0⟩)),?_,rfl⟩)⟩;have:=b.2;rw[a]at this;simp only[aW,this,g]
    .cases c
   |G4 s f=>
    obtain⟨p,c,rfl⟩:=t;simp only[aW]at c;split at c
    next E g=>
     obtain⟨v,j,rfl⟩:=Dv.1 c;have a:az N a_ o=some (.row s false):=iO (λ_=>rfl) m n;refine val v rfl λi7 b=>step b (.inl ⟨_,k i7 b,(i7,v),?_,rfl⟩);have:=b.2;rw[a]at this;simp only[aW,this,g,j,EA]
    .cases c
   |Fw s f=>
    obtain⟨p,c,rfl⟩:=t;simp only[aW]at c;split at c
    next E g=>
     obtain⟨z,j,rfl⟩:=Dv.1 c;have a:az N a_ o=some (.row s true):=iO (λ_=>rfl) m n;refine⟨⟨undef,some (s,some z),none⟩,rfl,⟨λp c=>by cases c;exact a,λh=>absurd rfl h⟩,λi7 b=>step b (.inl ⟨_,k i7 b,({ i7 with loc:=i7.loc.set s (some z) },undef),?_,rfl⟩)⟩;have:=b.2;rw[a]at this;simp only[aW,this,g,j,EA]
    .cases c
   |ET f=>
    obtain⟨p,c,rfl⟩:=t;simp only[aW]at c;obtain⟨v,j,rfl⟩:=Dv.1 c;have a:az N a_ o=some .hr:=iO (λ_=>rfl) m n;refine val v rfl λi7 b=>step b (.inl ⟨_,k i7 b,(i7,v),?_,rfl⟩);have:=b.2;rw[a]at this;simp only[aW,this,j,EA]
   |F2 f=>
    obtain⟨p,c,rfl⟩:=t;simp only[aW]at c;obtain⟨q,j,rfl⟩:=Dv.1 c;have a:az N a_ o=some .hw:=iO (λ_=>rfl) m n;refine⟨⟨q.2,none,some q.1⟩,rfl,⟨λp c=>(by cases c),λ_=>a⟩,λi7 b=>step b (.inl ⟨_,k i7 b,({ i7 with heap:=q.1 },q.2),?_,rfl⟩)⟩;have:=b.2;rw[a]at this;simp only[aW,this,j,EA]
   |call f d=>
    obtain⟨r,H,F,rfl⟩:=t;have a:(az N a_ o=some (.neu f)/\N f=some (2*d.length))∨(az N a_ o=some .hr/\N f=some (2*d.length+1))∨az N a_ o=some .hw:=iO (λ_=>rfl) m n;rcases a with⟨a,G⟩|⟨a,G⟩|a
    .obtain⟨rfl,K⟩:=L.1 f d _ r H G F;exact val r rfl λi7 b=>step b (.inl ⟨_,k i7 b,r,i7.heap,K i7.heap,rfl⟩)
    .obtain rfl:=L.2 f d _ r H G F;refine val r rfl λi7 b=>step b (.inl ⟨_,k i7 b,r,i7.heap,?_,rfl⟩);have:=b.2
     simp_all
    .refine⟨⟨r,none,some H⟩,rfl,⟨λp c=>(by cases c),λ_=>a⟩,λi7 b=>step b (.inl ⟨_,k i7 b,r,H,?_,rfl⟩)⟩;have:=b.2
     simp_all
   |yield l d=>
    obtain⟨r,H,F,rfl⟩:=t;have a:az N a_ o=some .hw:=iO (λ_=>rfl) m n;refine⟨⟨r,none,some H⟩,rfl,⟨λp c=>(by cases c),λ_=>a⟩,λi7 b=>step b (.inl ⟨_,k i7 b,r,H,?_,rfl⟩)⟩;have:=b.2
    simp_all
  .refine val v rfl λi7 b=>step b (.inr ⟨v,?_,rfl⟩);obtain⟨M,K,O,P⟩:=j;have y:=Af b;refine⟨M,?_,O,λw=>?_⟩
   .simp_all
   .rw[execOp_congr N a_ m (s9:=λx=>FS (h9 g9.tmps x)) λx Q=>by rw[y x Q]];exact P w
def MC.ok2:MC->MC->Bool
 | .no,_=>true
 |_,.no=>true
 | .row s w,.row a w'=>!Nat.beq s a||(!w && !w')
 | .row _ _,_=>true
 |_,.row _ _=>true
 | .neu _,_=>true
 |_,.neu _=>true
 | .hr,.hr=>true
 |_,_=>false
def bv(d:Tq)(l:TC):Bool:=match d with
 |some d=>!l.contains d
 |none=>true
def bf(a b:Tq):Bool:=match a,b with
 |some a,some b=>!Nat.beq a b
 |_,_=>true
def AO(N:Tc)(a_:TC)(ops:To)(a b:Oper):Bool:=
 match az N a_ a,az N a_ b with
 |some m,some n=>(m.ok2 n||kM a b)&&bv a.dst (bh ops b)&&bv b.dst (bh ops a)&&bf a.dst b.dst
 |_,_=>false
def tN{g9:St}{d:Tq}{v:TR}{t:Nat}(h:∀x,d=some x->x≠t):(g9.put d v).tmps[t]?=g9.tmps[t]?:=by
 cases d with
 |none=>rfl
 |some x=>simp only[St.put];simp_all
def tO{g9:St}{d:Tq}{v:TR}:(g9.put d v).loc=g9.loc:=by cases d<;>rfl
def lr{g9:St}{d:Tq}{v:TR}:(g9.put d v).heap=g9.heap:=by cases d<;>rfl
def tP{g9:St}{d:Tq}{v:TR}:(g9.put d v).tmps=(match d with|some d=>g9.tmps.set d v|none=>g9.tmps):=by cases d<;>rfl
def mh{e:Ef}{d:Tq}{g9:St}:(e.on d g9).tmps=(match d with|some d=>g9.tmps.set d e.v|none=>g9.tmps):=by unfold Ef.on;rw[tP]
def zD{e:Ef}{d:Tq}{g9:St}:(e.on d g9).loc=(match e.rw with|some p=>g9.loc.set p.1 p.2|none=>g9.loc):=by unfold Ef.on;rw[tO]
def dW{e:Ef}{d:Tq}{g9:St}:(e.on d g9).heap=e.hp.getD g9.heap:=by unfold Ef.on;rw[lr]
def AA{N:Tc}{a_:TC}{ops:To}{a b:Oper}{m n:MC}(o:az N a_ a=some m)(q:az N a_ b=some n)(c:m.ok2 n=true∨n.ok2 m=true)
  (i:bv a.dst (bh ops b)=true) {e:Ef} (g:ur (az N a_ a) e) (g9:St):CF N a_ ops b g9 (e.on a.dst g9):=by
 refine⟨λt hr=>?_,?_⟩
 .unfold Ef.on;refine tN λx r j=>?_;subst j;rw[r]at i;simp only[bv,qB,et,decide_eq_false_iff_not]at i;exact i hr
 .rw[o]at g;rw[q];cases n with
  |no=>trivial
  |neu f=>trivial
  |row s w=>
   show(e.on a.dst g9).loc[s]?=_;rw[zD];cases l:e.rw with
   |none=>rfl
   |some p=>
    have d:=g.1 p l;cases d;have:p.1≠s:=by
     intro j;subst j;rcases c with h|h<;>simp[MC.ok2]at h
    simp_all
  |hr=>
   show(e.on a.dst g9).heap=_;rw[dW];cases k:e.hp with
   |none=>rfl
   |some H=>
    have d:=g.2 (by rw[k];simp);cases d;rcases c with h|h<;>cases h
  |hw=>
   show(e.on a.dst g9).heap=_;rw[dW];cases k:e.hp with
   |none=>rfl
   |some H=>
    have d:=g.2 (by rw[k];simp);cases d;rcases c with h|h<;>cases h
def set_comm{i6:Type}(l:List i6){i j:Nat}(a b:i6)(h:i≠j):(l.set i a).set j b=(l.set j b).set i a:=List.set_comm _ _ h
def KT{N:Tc}{a_:TC}{a b:Oper}{m n:MC}(k:az N a_ a=some m)(l:az N a_ b=some n)(c:m.ok2 n=true)(o:bf a.dst b.dst=true){e f:Ef}
  (r:ur (az N a_ a) e) (s:ur (az N a_ b) f) (g9:St):f.on b.dst (e.on a.dst g9)=e.on a.dst (f.on b.dst g9):=by
 have t:(f.on b.dst (e.on a.dst g9)).tmps=(e.on a.dst (f.on b.dst g9)).tmps:=by
  simp only[mh];cases h:a.dst with
  |none=>rfl
  |some x=>
   cases i:b.dst with
   |none=>rfl
   |some y=>
    rw[h,i]at o;have:x≠y:=by
     intro j;subst j;simp[bf]at o
    exact set_comm _ _ _ this
 have u:(f.on b.dst (e.on a.dst g9)).loc=(e.on a.dst (f.on b.dst g9)).loc:=by
  simp only[zD];cases h:e.rw with
  |none=>rfl
  |some p=>
   cases i:f.rw with
   |none=>rfl
   |some q=>
    have d:=r.1 p h;have g:=s.1 q i;rw[k]at d;rw[l]at g;cases d;cases g;have:p.1≠q.1:=by
     intro j;rw[j]at c;simp[MC.ok2]at c
    exact set_comm _ _ _ this
 have v:(f.on b.dst (e.on a.dst g9)).heap=(e.on a.dst (f.on b.dst g9)).heap:=by
  simp only[dW];cases h:e.hp with
  |none=>rfl
  |some p=>
   cases i:f.hp with
   |none=>rfl
   |some q=>
    have d:=r.2 (by rw[h];simp);have g:=s.2 (by rw[i];simp);rw[k]at d;rw[l]at g;cases d;cases g;cases c
 generalize f.on b.dst (e.on a.dst g9)=x at *;generalize e.on a.dst (f.on b.dst g9)=y at *;cases x;simp_all
def ym{ops:To}{o:Oper}{g9 i7:St}(h:∀t∈bh ops o,i7.tmps[t]?=g9.tmps[t]?):cv ops i7.tmps o=cv ops g9.tmps o:=by
 unfold cv;split
 .rfl
 next j a c=>
  cases b:(ops[j]?).bind (·.dst)with
  |none=>rfl
  |some d=>
   simp only[Dj];rw[h d (by simp[bh,c,b])]
def zI{ops:To}{o:Oper}{g9 i7:St}(h:∀t∈bh ops o,i7.tmps[t]?=g9.tmps[t]?):∀x∈o.op.operands.toList,h9 i7.tmps x=h9 g9.tmps x:=by
 intro x b;refine mn λt a=>h t ?_;subst a;simp only[bh,Ed,QT]
 grind
def BF{C:ke}{B:Below}{N:Tc}(k:DE N B){a_:TC}{ops:To}{i j:Nat}{a b:Oper}(l:ops[i]?=some a)(m:ops[j]?=some b)(d:kM a b=true)
  (e:bv a.dst (bh ops b)=true) (f:bv b.dst (bh ops a)=true) (g:bf a.dst b.dst=true) {g9 i9 c:St}
  (h1:ao C B a_ ops i g9 i9) (h:ao C B a_ ops j i9 c):∃i7,ao C B a_ ops j g9 i7/\ao C B a_ ops i i7 c:=by
 cases d
def WM{C:ke}{B:Below}{N:Tc}(k:DE N B){a_:TC}{ops:To}{i j:Nat}{a b:Oper}(r:ops[i]?=some a)(s:ops[j]?=some b)(c:AO N a_ ops a b=true){g9 i9 u:St}
  (h1:ao C B a_ ops i g9 i9) (q:ao C B a_ ops j i9 u):∃i7,ao C B a_ ops j g9 i7/\ao C B a_ ops i i7 u:=by
 unfold AO at c;split at c
 next m n d g=>
  simp only[te]at c;obtain⟨⟨⟨c1,l⟩,o⟩,p⟩:=c;rw[Gd]at c1;rcases c1 with c1|c1
  case inr=>exact BF k r s c1 l o p h1 q
  obtain⟨e,rfl,v,y⟩:=ji k r (by rw[d];simp) h1;obtain⟨f,rfl,w,z⟩:=ji k s (by rw[g];simp) q;have A:CF N a_ ops b (e.on a.dst g9) g9:=by
   have:=AA d g (.inl c1) l v g9;refine⟨λt x=>(this.1 t x).symm,?_⟩;have h:=this.2
   grind
  have D:CF N a_ ops a g9 (f.on b.dst g9):=AA g d (.inr c1) o w g9;refine⟨f.on b.dst g9,z g9 A,?_⟩;rw[KT d g c1 p v w g9];exact y _ D
 .cases c
end
end Sx
namespace Sx
section
variable [Cf] {C:ke} {B:Below} {N:Tc} {a_:TC} {ops:To}
def rq{i:Nat}{post:TC}:∀(pre:TC),(∀k∈pre,∀g9 i9 a:St,ao C B a_ ops k g9 i9->ao C B a_ ops i i9 a->∃i7,ao C B a_ ops i g9 i7/\ao C B a_ ops k i7 a)->
  ∀g9 a:St,bp C B a_ ops (pre++i :: post) g9 a->bp C B a_ ops (i :: (pre++post)) g9 a
 | [],_,g9,a,h=>h
 |k :: pre,b,g9,a,⟨i9,h1,d⟩=>by
  obtain⟨c,e,f⟩:=rq pre (λk l=>b k (by simp[l])) i9 a d;obtain⟨i7,g,j⟩:=b k (by simp) g9 i9 c h1 e;exact⟨i7,g,c,j,f⟩
inductive Iv(ops:To)(k:Nat):Nat->Prop
 |edge {i:Nat} {o:Oper} {e:Edge} (ho:ops[i]?=some o) (he:e∈o.after.toList) (hb:Region.binds .any e=true) (hk:e.on=k):Iv ops k i
 |step {i:Nat} {o:Oper} {e:Edge} (ho:ops[i]?=some o) (he:e∈o.after.toList) (hb:Region.binds .any e=true) (h:Iv ops k e.on):Iv ops k i
def N0{b:TC}(d:∀(i k:Nat),(b.getD i 0).testBit k=true->Iv ops k i){i:Nat}{o:Oper}(n:ops[i]?=some o){k:Nat}(h:(JO b o).testBit k=true):Iv ops k i:=by
 unfold JO at h;have f:∀(l:List Edge) (m:Nat),(∀e∈l,e∈o.after.toList)->(m.testBit k=true->Iv ops k i)->
   (l.foldl (λm e=>match Region.binds .any e with
    |true=>Nat.lor (Nat.lor m (Nat.shiftLeft 1 e.on)) (b.getD e.on 0)
    |false=>m) m).testBit k=true->Iv ops k i:=by
  intro l
  induction l with
  |nil=>simp_all
  |cons e l r=>
   intro m g q h;simp only[Wn]at h;refine r _ (λe p=>g e (by simp[p])) (λj=>?_) h;cases c:Region.binds .any e with
   |false=>simp_all
   |true=>
    simp only[c]at j;have a:((m ||| (1 <<< e.on)) ||| b.getD e.on 0).testBit k=true:=j;rw[Nat.testBit_or,Nat.testBit_or,Gd,Gd]at a;rcases a with(a|a)|a
    .exact q a
    .rw[Nat.one_shiftLeft,Nat.testBit_two_pow]at a;exact .edge n (g e (by simp)) c (by simpa using a)
    .exact .step n (g e (by simp)) c (d _ _ a)
 exact f _ 0 (λ_ h=>h) (λh=>by simp at h) h
def oG:∀(l:TA) (a:TC),ops.toList.drop a.length=l->(∀(i k:Nat),(a.getD i 0).testBit k=true->Iv ops k i)->∀(i k:Nat),((E' l a).getD i 0).testBit k=true->Iv ops k i
 | [],a,_,b=>b
 |o :: l,a,c,b=>by
  have f:ops[a.length]?=some o:=by
   have:(ops.toList.drop a.length)[0]?=some o:=by rw[c];rfl
   simpa using this
  refine oG l (a++[JO a o]) (by rw[GA,←FF,c];rfl) λi k h=>?_;rw[List.getD_eq_getElem?_getD,n3]at h;split at h
  .simp_all
  next d=>
   by_cases e:i=a.length
   .subst e;simp at h;exact N0 b f h
   grind
def fC:TA->Nat->Bool
 | [],_=>true
 |o :: l,i=>(o.after.toList.all λe=>!Region.binds .any e||Nat.blt e.on i)&&fC l (i+1)
def sz(N:Tc)(a_:TC)(ops:To)(b:Oper)(m:Nat):TA->Nat->Bool
 | [],_=>true
 |a :: l,k=>(Nat.testBit m k||AO N a_ ops a b)&&sz N a_ ops b m l (k+1)
def tI(N:Tc)(a_:TC)(ops:To)(ms:TC):TA->TA->Nat->Bool
 |_,[],_=>true
 |pre,b :: l,i=>sz N a_ ops b (ms.getD i 0) pre 0&&tI N a_ ops ms (pre++[b]) l (i+1)
def vT(N:Tc)(a_:TC)(ops:To):Bool:=
 fC ops.toList 0&&tI N a_ ops (E' ops.toList []) [] ops.toList 0
def ep:∀ {l:TA} {i:Nat},fC l i=true->∀(j:Nat) o,l[j]?=some o->∀e∈o.after.toList,Region.binds .any e=true->e.on<i+j
 | [],i,_,j,o,h,_,_,_=>by simp at h
 |o :: l,i,h,j,p,a,e,b,c=>by
  simp only[fC,te,A5]at h;cases j with
  |zero=>
   simp at a;subst a;have:=h.1 e b
   simp_all
  |succ j=>
   have:=ep h.2 j p (by simpa using a) e b c;omega
def qM{b:Oper}{m:Nat}:∀ {l:TA} {k:Nat},sz N a_ ops b m l k=true->∀(j:Nat) a,l[j]?=some a->m.testBit (k+j)=true∨AO N a_ ops a b=true
 | [],k,_,j,a,h=>by simp at h
 |a :: l,k,h,j,c,d=>by
  simp only[sz,te,Gd]at h;cases j with
  |zero=>simp_all
  |succ j=>
   have:=qM h.2 j c (by simpa using d)
   grind
def rE{ms:TC}:∀ {l pre:TA} {i:Nat},pre.length=i->tI N a_ ops ms pre l i=true->∀(j:Nat) b,l[j]?=some b->∀(k:Nat) a,k<i+j->(pre++l)[k]?=some a->(ms.getD (i+j) 0).testBit k=true∨AO N a_ ops a b=true
 | [],pre,i,_,_,j,b,h,_,_,_,_=>by simp at h
 |b :: l,pre,i,f,h,j,c,e,k,a,g,d=>by
  simp only[tI,te]at h;cases j with
  |zero=>
   simp at e;subst e;rw[GD (by omega)]at d;have:=qM h.1 k a d;simpa using this
  |succ j=>
   have:=rE (pre:=pre++[b]) (i:=i+1) (by simp[f]) h.2 j c (by simpa using e) k a (by omega) (by simpa using d)
   grind
def Bq(h:vT N a_ ops=true){i k:Nat}{a b:Oper}(d:ops[i]?=some b)(c:ops[k]?=some a)(e:k<i):Iv ops k i∨AO N a_ ops a b=true:=by
 simp only[vT,te]at h;have:=rE (pre:=[]) (i:=0) rfl h.2 i b (by simpa using d) k a (by omega) (by simpa using c);rw[EM]at this;exact this.imp (λh=>oG ops.toList [] rfl (λi k h=>by simp at h) i k h) id
def Bp(h:vT N a_ ops=true){i:Nat}{o:Oper}(c:ops[i]?=some o){e:Edge}(b:e∈o.after.toList)(a:Region.binds .any e=true):e.on<i:=by
 simp only[vT,te]at h;have:=ep h.1 i o (by simpa using c) e b a;omega
def ED(n:Nat)(a:Array Bool):TC:=(range n).filter λi=>!a.getD i true
def qG{a:Array Bool}(c:∀(x:Nat) o,a.getD x true=true->ops[x]?=some o->∀e∈o.after.toList,Region.binds .any e=true->a.getD e.on false=true){k i:Nat}(h:Iv ops k i)
  (j:∀o,ops[i]?=some o->∀e∈o.after.toList,Region.binds .any e=true->a.getD e.on false=true):a.getD k false=true:=by
 induction h with
 |edge f d b g=>grind
 |step f d b h l=>
  grind
abbrev _root_.Tx:=Nat->Bool
def iL{p:Tx}{i:Nat}:∀ {l:TC},l.Nodup->i∈l.filter p->∃pre post,l.filter p=pre++i :: post/\(l.filter λj=>p j&&j != i)=pre++post/\(∀k∈pre,k∈l.filter p/\k≠i)
 | [],_,h=>by simp at h
 |x :: l,a,h=>by
  rw[nD]at a;by_cases f:x=i
  .subst f;have b:p x=true:=(Ge.1 h).2;refine⟨[],l.filter p,by simp[b],?_,by simp⟩;simp only[Ds,qdm,b,bne_self_eq_false,Bool.and_false,D5,if_false];refine qdd λj d=>?_;have:j≠x:=λe=>a.1 (e▸d);simp[this]
  .have c:i∈l.filter p:=by
    grind
   obtain⟨pre,post,g,m,e3⟩:=iL a.2 c
   grind
def mX{p:Tx}:∀ {n:Nat} {pre post:TC} {i:Nat},(range n).filter p=pre++i :: post->∀k∈pre,k<i:=by
 intro n pre post i h k b;have a:((range n).filter p).Pairwise (· < ·):=qcP _ m4;rw[h,hR]at a
 simp_all
def X2(V:DE N B)(c:vT N a_ ops=true):∀(fuel t:Nat) (a:Array Bool),a.size=ops.size->(ED ops.size a).length=fuel->
  (∀(x:Nat) o,a.getD x true=true->ops[x]?=some o->∀e∈o.after.toList,Region.binds .any e=true->a.getD e.on false=true)->
  ∀g9 p:St,bp C B a_ ops (ED ops.size a) g9 p->bp C B a_ ops (Region.linearise.go .any ops fuel t a []) g9 p
 |0,t,a,_,Y,_,g9,p,h=>by
  have:ED ops.size a=[]:=NE.1 Y;rw[this]at h;simpa[Region.linearise.go]using h
 |fuel+1,t,a,Q,Y,u,g9,p,h=>by
  simp only[Region.linearise.go];generalize z:((range ops.size).filter λi=>!a.getD i true&&((ops[i]?).map (·.after.all λe=>!Region.binds .any e||a.getD e.on false)).getD false)=rs;have f:∀i∈rs,i<ops.size/\a.getD i true=false/\∀o,ops[i]?=some o->∀e∈o.after.toList,Region.binds .any e=true->a.getD e.on false=true:=by
   intro i K;rw[←z,Ge,Cd]at K;obtain⟨h1,H⟩:=K;simp only[te,qB]at H;refine⟨h1,H.1,λo r e D m=>?_⟩;have I:=H.2;rw[r]at I;simp only[EA,QU]at I;rw[w1]at I
   grind
  have P:rs≠[]:=by
   have hu:ED ops.size a≠[]:=by grind
   obtain⟨F,tl,n⟩:=qc0 hu;have L:F∈ED ops.size a:=by rw[n];simp
   have d:=L;rw[ED,Ge,Cd]at d;have g:F∈rs:=by
    rw[←z,Ge,Cd];refine⟨d.1,?_⟩;simp only[te];refine⟨d.2,?_⟩;have r:ops[F]?=some ops[F]:=by simp[d.1]
    rw[r];simp only[EA,QU];rw[w1];intro e D;cases m:Region.binds .any e with
    |false=>simp
    |true=>
     have ad:=Bp c r (by simpa using D) m;simp only[DJ,mH];by_cases Z:a.getD e.on true=true
     .grind
     .exfalso;have E:e.on∈ED ops.size a:=by
       rw[ED,Ge,Cd]
       grind
      rw[n]at E;rcases Dy.1 E with E|E
      .omega
      .have hs:(ED ops.size a).Pairwise (· < ·):=qcP _ m4;rw[n,Je]at hs
       grind
   grind
  have b:0<rs.length:=kE.2 P;have v:rs[t%rs.length]?=some (rs[t%rs.length]'(It _ b)):=FN (It _ b);rw[v];simp only;generalize K:rs[t%rs.length]'(It _ b)=i;have g:i∈rs:=by grind
  obtain⟨i1,i2,i3⟩:=f i g;rw[linearise_go_acc,List.reverse_singleton,List.singleton_append];have M:i∈(range ops.size).filter λj=>!a.getD j true:=by
   simp_all
  obtain⟨q,post,G,e2,e3⟩:=iL List.nodup_range M;have w:=mX G;have l:ED ops.size (a.setIfInBounds i true)=q++post:=by
   rw[←e2];unfold ED;refine qdd λj hj=>?_;rw[Wi,Wi,Yp]
   grind
  have O:=rq (C:=C) (B:=B) (a_:=a_) (ops:=ops) (i:=i) (post:=post) q (λk X g9 S p T U=>by
   obtain⟨m1,m2⟩:=e3 k X;rw[Ge,Cd]at m1;have W:ops[k]?=some ops[k]:=by simp[m1.1]
   have m:ops[i]?=some ops[i]:=by simp[i1]
   rcases Bq c m W (w k X)with s|J
   .exfalso;have:=qG u s i3
    grind
   .exact WM V W m J T U) g9 p
  obtain⟨S,T,U⟩:=O (by rw[←G];exact h);refine⟨S,T,X2 V c fuel _ _ (by simp[Q]) ?_ ?_ S p (by rw[l];exact U)⟩
  .rw[l];have:(ED ops.size a).length=(q++post).length+1:=by
    show(List.filter _ _).length=_;rw[G];simp;omega
   omega
  .intro x o hx r e D m;have A:∀y,a.getD y false=true->(a.setIfInBounds i true).getD y false=true:=by
    intro y hy;rw[Wi]at hy ⊢;rw[Yp]
    grind
   by_cases R:x=i
   .simp_all
   .refine A _ (u x o ?_ r e D m);rw[Wi,Yp,qs (λe=>R e.symm)]at hx
    simp_all
def YW(d:DE N B)(a:vT N a_ ops=true){g9 b:St}(h:bp C B a_ ops (range ops.size) g9 b):eo C B a_ ops g9 b:=by
 refine .inl λt=>?_;have c:ED ops.size (Array.replicate ops.size false)=range ops.size:=by
  unfold ED
  simp_all
 refine X2 d a ops.size t (Array.replicate ops.size false) (by simp) (by rw[c];simp) (λx o g f=>?_) g9 b (by rw[c];exact h);have e:x<ops.size:=(Is.1 f).1
 simp_all
end
end Sx
namespace Sx
section
variable [Cf] [C8] {C:ke}
def Lo(v:Value):Prop:=match v with
 | .pointer (some p)=>p.spot=some 0
 |_=>True
def zV{v:TR}(h:plain v=true):Lo v:=by
 cases v<;>try trivial
 rename_i a
 cases a<;>first|trivial|(simp[plain,jL,scalar,jB]at h)
def Me{a:TC}{v:TR}(h:Lo v):Lo (jG a v):=by
 unfold jG
 repeat' split
 all_goals first|exact h|trivial
def Hy(b:TC)(g9:St):Prop:=∀a∈b,∀v,g9.tmps[a]?=some v->Lo v
def vI(N:Tc)(a_ a:TC)(o:Oper):Bool:=
 (match az N a_ o with
 |some .no=>true
 |some (.row _ _)=>true
 |some (.neu _)=>true
 |_=>false) &&
 match o.dst with
 |some d=>!a.contains d||(Nat.beq (a_.getD d 0) (d+2)&&match o.op with
  | .alloc _=>true
  | .box _ _=>true
  |_=>false)
 |none=>true
def F5(N:Tc)(a_ c:TC):Code->Bool
 | .skip | .label _ | .ret | .exit _=>true
 | .seq a b=>F5 N a_ c a&&F5 N a_ c b
 | .cond _ a b=>F5 N a_ c a&&F5 N a_ c b
 | .block _ b=>F5 N a_ c b
 | .loop b=>F5 N a_ c b
 | .scope b=>F5 N a_ c b
 | .region _ ops _=>ops.toList.all (vI N a_ c)
 |_=>false
def Hc(N:Tc)(a_:TC)(o:Oper):Bool:=match az N a_ o with
 |some .no=>true
 |some (.row _ _)=>true
 |some (.neu _)=>true
 |some .hr=>true
 |_=>false
def QY(N:Tc)(a_:TC):Code->Bool
 | .skip | .label _ | .ret | .exit _=>true
 | .seq a b=>QY N a_ a&&QY N a_ b
 | .cond _ a b=>QY N a_ a&&QY N a_ b
 | .block _ b=>QY N a_ b
 | .loop b=>QY N a_ b
 | .scope b=>QY N a_ b
 | .region _ ops _=>ops.toList.all (Hc N a_)
 |_=>false
def iB(l:List ResultVar):TC:=l.filterMap λr=>match r with
 | .cell a _=>some a
 | .tmp _=>none
def I9(N:Tc)(C:ke)(f:TQ)(n:Nat):Bool:=
 match C.P.funcs[f]? with
 |some c=>match c.body with
  |some b=>match Nat.beq (n%2) 0 with
   |true=>F5 N (C.a_ f) (iB c.results.toList) b&&(iB c.results.toList).all λa=>Nat.ble (n / 2) a
   |false=>C.opq f||QY N (C.a_ f) b
  |none=>false
 |none=>false
def vJ{a_:TC}{d:Nat}{t:TP}{v:TR}{e:DM}(b:a_.getD d 0=d+2)(a:cH C a_ (some d) t v=some e):∃s vs,e = .Fv s vs:=by
 unfold cH at a
 grind
def Aa{b:TC}{g9 i7:St}{dst:Tq}{v:TR}(h:Hy b g9)(f:i7.tmps=g9.tmps)(g:(∀d,dst=some d->d∉b)∨Lo v):Hy b (i7.put dst v):=by
 intro a e x c;cases dst with
 |none=>exact h a e x (by rw[←f];exact c)
 |some d=>
  simp only[St.put,GC,f]at c;split at c
  .simp_all
  .exact h a e x c
def Al{N:Tc}{B:Below}(I:DE N B){a_ b:TC}{ops:To}(l:ops.toList.all (vI N a_ b)=true){i:Nat}{g9 m:St}(k:Hy b g9)(h:ao C B a_ ops i g9 m) :
  m.heap=g9.heap/\Hy b m/\∀H,ao C B a_ ops i { g9 with heap:=H } { m with heap:=H }:=by
 cases n:ops[i]? with
 |none=>
  have:m=g9:=by simpa[ao,n]using h
  subst this;exact⟨rfl,k,λH=>by simp[ao,n]⟩
 |some o=>
  have y:vI N a_ b o=true:=A5.1 l o (by
   grind)
  unfold vI at y;rw[te]at y;obtain⟨S,q⟩:=y;have K:az N a_ o≠none:=by grind
  obtain⟨e,rfl,Q,O⟩:=ji I n K h;have D:e.hp=none:=by
   cases J:e.hp with
   |none=>rfl
   |some x=>
    have:=Q.2 (by rw[J];simp)
    simp_all
  refine⟨by rw[dW,D];rfl,?_,λH=>?_⟩
  .by_cases g:∀d,o.dst=some d->d∉b
   .unfold Ef.on;exact Aa k rfl (.inl g)
   · -- a local row is laid
    obtain⟨d,g⟩:=Classical.not_forall.1 g;obtain⟨c,g⟩:=Classical.not_imp.1 g;have g:=Classical.not_not.1 g;rw[c]at q;simp only[et,g,decide_true,DJ,mH,te]at q;have E:a_.getD d 0=d+2:=by simpa using q.1
    unfold ao at h;simp only[n]at h;split at h
    .exact h.elim
    .rw[h];exact Aa k rfl (.inr trivial)
    .rcases h with⟨G,j,u⟩|⟨v,j,u⟩
     .have w:∃s F,G = .Fv s F:=by
       have o3:=q.2;obtain⟨dst,P,T,pos,r,guard⟩:=o;simp only at c o3;subst c;cases P<;>first|cases o3|skip
       .simp only[ar]at j;obtain⟨z,_,M⟩:=EB.1 j;exact vJ E M
       .exact vJ E j
      obtain⟨s,F,rfl⟩:=w;obtain⟨p,f,A⟩:=u;rw[A];simp only[aW]at f;split at f
      .cases f;exact Aa k rfl (.inr rfl)
      .cases f
     .rw[u];exact Aa k rfl (.inr (zV j.2.2.1))
  .have L:CF N a_ ops o g9 { g9 with heap:=H }:=by
    refine⟨λt _=>rfl,?_⟩
    grind
   have:=O _ L;have R:e.on o.dst { g9 with heap:=H } = { e.on o.dst g9 with heap:=H }:=by
    unfold Ef.on;rw[D];cases o.dst<;>rfl
   simp_all
def xB{N:Tc}{B:Below}(e:DE N B){a_ b:TC}{ops:To}(a:ops.toList.all (vI N a_ b)=true):∀(l:TC) {g9 c:St},Hy b g9->bp C B a_ ops l g9 c->
  c.heap=g9.heap/\Hy b c/\∀H,bp C B a_ ops l { g9 with heap:=H } { c with heap:=H }
 | [],g9,c,d,h=>by
  have:c=g9:=h;subst this;exact⟨rfl,d,λH=>rfl⟩
 |i :: l,g9,c,d,⟨q,o,p⟩=>by
  obtain⟨f,g,j⟩:=Al e a d o;obtain⟨k,m,n⟩:=xB e a l g p;exact⟨k.trans f,m,λH=>⟨_,j H,n H⟩⟩
def rK{b:TC}{g9 c:St}(k:Hy b g9)(h:gi g9 c):Hy b c:=by
 intro a j v d;obtain⟨_,_,m,g⟩:=h;have l:a<c.tmps.length:=(x0.1 d).1;have f:g9.tmps[a]?=some (g9.tmps[a]'(by omega)):=FN _;rcases g a _ _ f d with e|⟨_,i,_⟩
 .rw[e];exact k a j _ f
 .exact zV i
def nq{g9 a:St}(h:gi g9 a)(H:Tu):gi { g9 with heap:=H } { a with heap:=H }:=⟨h.1,rfl,h.2.2.1,h.2.2.2⟩
def zG{N:Tc}{B:Below}(f:DE N B){a_ b:TC}{ops:To}(a:ops.toList.all (vI N a_ b)=true):∀(l:TC) {g9 c:St},Hy b g9->fM C B a_ ops l g9 c->
  c.heap=g9.heap/\Hy b c/\∀H,fM C B a_ ops l { g9 with heap:=H } { c with heap:=H }
 | [],g9,c,e,h=>by
  have:c=g9:=h;subst this;exact⟨rfl,e,λH=>rfl⟩
 |i :: l,g9,c,e,⟨s,r,d,p,q⟩=>by
  obtain⟨g,j,k⟩:=Al f a (rK e d) p;obtain⟨m,n,o⟩:=zG f a l j q;exact⟨m.trans (g.trans d.2.1),n,λH=>⟨_,_,nq d H,k H,o H⟩⟩
def Oz{b:TC}{g9:St}{c:TC}(d:Hy b g9):Hy b (g9.clear c):=by
 unfold St.clear;split
 .exact d
 .intro a f v e;simp only[EL,Dv]at e;obtain⟨x,g,rfl⟩:=e;exact Me (d a f x g)
def JX(g9:St)(a:TC)(H:Tu):St.clear { g9 with heap:=H } a = { g9.clear a with heap:=H }:=by
 unfold St.clear;split<;>rfl
def yB(g9:St)(a:TC):(g9.clear a).heap=g9.heap:=by
 unfold St.clear;split<;>rfl
def Bt{g9:St}{r:ResultVar}{b:TC}(e:Hy b g9)(d:∀a∈iB [r],a∈b)(H:Tu):fQ C { g9 with heap:=H } r=fQ C g9 r:=by
 cases r with
 |tmp t=>rfl
 |cell a t=>
  have f:a∈b:=d a (by simp[iB]);unfold fQ;simp only;cases c:g9.tmps[a]? with
  |none=>simp[List.getD_eq_getElem?_getD,c,undef]
  |some v=>
   have:=e a f v c;simp only[List.getD_eq_getElem?_getD,c,QU];cases v<;>try rfl
   rename_i p
   cases p with
   |none=>rfl
   |some p=>
    have g:p.spot=some 0:=this;simp only[g]
def pZ{g9:St}{b:TC}(d:Hy b g9)(H:Tu):∀(l:List ResultVar),(∀a∈iB l,a∈b)->dc C { g9 with heap:=H } l=dc C g9 l
 | [],_=>rfl
 |r :: l,c=>by
  have e:=Bt (C:=C) (r:=r) d (λa h=>c a (by cases r<;>simp[iB]at h ⊢;exact .inl h)) H;have f:=pZ d H l (λa h=>c a (by cases r<;>simp[iB]at h ⊢<;>first|exact h|exact .inr h));simp only[dc,e,f]
def VM{N:Tc}{a_ b:TC}{o:Oper}(h:dv a_ o=true)(f:vI N a_ b o=true):False:=by
 have i:az N a_ o=some .hw:=by
  obtain⟨dst,g,j,pos,a,guard⟩:=o;cases g<;>simp only[dv,D5]at h<;>first|rfl|skip
  .cases dst with
   |none=>cases h
   |some d=>
    simp only[az];rw[qs (λe=>by
     simp_all)]
  .cases dst with
   |none=>cases h
   |some d=>
    simp only[az];rw[qs (λe=>by
     simp_all)]
  next c=>
   simp only[az]
   grind
 unfold vI at f
 simp_all
def LB{N:Tc}{B:Below}(f:DE N B){a_:TC}{ops:To}(a:ops.toList.all (Hc N a_)=true){i:Nat}{g9 c:St}(h:ao C B a_ ops i g9 c):c.heap=g9.heap:=by
 cases d:ops[i]? with
 |none=>
  have:c=g9:=by simpa[ao,d]using h
  rw[this]
 |some o=>
  have b:Hc N a_ o=true:=A5.1 a o (by
   grind)
  have k:az N a_ o≠none:=by intro e;unfold Hc at b;rw[e]at b;cases b
  obtain⟨e,rfl,l,_⟩:=ji f d k h;have j:e.hp=none:=by
   cases g:e.hp with
   |none=>rfl
   |some x=>
    have:=l.2 (by rw[g];simp);unfold Hc at b
    simp_all
  rw[dW,j];rfl
def Qb{N:Tc}{B:Below}(b:DE N B){a_:TC}{ops:To}(a:ops.toList.all (Hc N a_)=true):∀(l:TC) {g9 c:St},bp C B a_ ops l g9 c->c.heap=g9.heap
 | [],_,_,h=>by cases h;rfl
 |_ :: l,_,_,⟨_,h1,d⟩=>(Qb b a l d).trans (LB b a h1)
def KV{N:Tc}{B:Below}(b:DE N B){a_:TC}{ops:To}(a:ops.toList.all (Hc N a_)=true):∀(l:TC) {g9 c:St},fM C B a_ ops l g9 c->c.heap=g9.heap
 | [],_,_,h=>by cases h;rfl
 |_ :: l,_,_,⟨_,_,h0,h1,d⟩=>(KV b a l d).trans ((LB b a h1).trans h0.2.1)
def B8{N:Tc}{a_:TC}{o:Oper}(h:dv a_ o=true)(b:Hc N a_ o=true):False:=by
 have g:az N a_ o=some .hw:=by
  obtain⟨dst,f,i,pos,a,guard⟩:=o;cases f<;>simp only[dv,D5]at h<;>first|rfl|skip
  .cases dst with
   |none=>cases h
   |some d=>
    simp only[az];rw[qs (λe=>by
     simp_all)]
  .cases dst with
   |none=>cases h
   |some d=>
    simp only[az];rw[qs (λe=>by
     simp_all)]
  next c=>
   simp only[az]
   grind
 unfold Hc at b
 simp_all
def rr{N:Tc}(Z:∀f n,N f=some n->I9 N C f n=true)(hk:∀f args H r H',C8.kh f args H r H'->N f=none∨(N f=some (2*args.length+1)/\H'=H)):∀n,(DE N (sm C n).toBelow/\∀a_ c,QY N a_ c=true->∀g9 e p,(sm C n).ex a_ c g9 e p->p.heap=g9.heap)/\
  ∀a_ j c,F5 N a_ j c=true->∀g9 e p,Hy j g9->(sm C n).ex a_ c g9 e p->p.heap=g9.heap/\Hy j p/\∀H,(sm C n).ex a_ c { g9 with heap:=H } e { p with heap:=H }
 |0=>⟨⟨⟨λf args H r H' L h=>(by
   rcases h with h|h
   .exact⟨h.2,λR=>.inl ⟨h.1,rfl⟩⟩
   grind),λf args H r H' L h=>(by
   rcases h with h|h
   .exact h.2
   grind)⟩,λ_ _ _ _ _ _ h=>absurd h id⟩,λ_ _ _ _ _ _ _ _ h=>absurd h id⟩
 |n+1=>by
  obtain⟨⟨y,F⟩,i⟩:=rr Z hk n;refine⟨⟨⟨λf args H r H' L h=>?_,λf args H r H' L h=>?_⟩,λa_ c d g9 e p h=>?_⟩,λa_ j c d g9 e p s h=>?_⟩
  rotate_left
  .rcases h with h|⟨U,b,e,g9,vs,S,T,V,X,c5,c6,c7,c8,Y⟩
   .rcases h with h|h
    .exact h.2
    grind
   .have G:=Z f _ L;have W:=(F'.1 V).2;unfold I9 at G;have O:Nat.beq ((2*args.length+1)%2) 0=false:=by
     rw[show(2*args.length+1)%2=1 by omega];rfl
    simp only[S,T,O,W,mH]at G;exact Y.trans (F _ _ G _ _ _ X)
  .have h:pe C (sm C n) a_ c g9 e p:=h;cases c with
   |skip=>obtain⟨rfl,rfl⟩:=h;rfl
   |label l=>obtain⟨rfl,rfl⟩:=h;rfl
   |ret=>obtain⟨rfl,rfl⟩:=h;rfl
   |exit id=>obtain⟨rfl,rfl⟩:=h;rfl
   |seq a b=>
    simp only[QY,te]at d;obtain⟨Q,i9,g,k⟩:=h
    grind
   |cond x a b=>
    simp only[QY,te]at d;obtain⟨t,g,k⟩:=h
    grind
   |block id b=>
    obtain⟨Q,g,rfl⟩:=h;exact F a_ b d _ _ _ g
   |scope b=>exact F a_ b d _ _ _ h
   |loop b=>
    obtain⟨Q,i9,g,k⟩:=h;have u:=F a_ b d _ _ _ g;rw[yB]at u
    grind
   |region id q w=>
    obtain⟨rfl,E⟩:=h;cases w with
    |true=>
     obtain⟨J,K,g⟩ : ∃J,gi g9 J/\eo C (sm C n).toBelow a_ q J p:=E;rcases g with g|⟨sl,m,q1,_⟩
     .exact(Qb y d _ (g 0)).trans K.2.1
     .exfalso;obtain⟨o,o1,o2⟩:=el.1 q1;exact B8 o2 (A5.1 d o o1)
    |false=>
     have E:fM C (sm C n).toBelow a_ q (range q.size) g9 p:=E;exact KV y d _ E
   |_=>cases d
  rotate_right
  .rcases h with h|⟨U,b,e,g9,vs,S,T,V,X,c5,c6,c7,c8,Y⟩
   .rcases h with h|h
    .exact⟨h.2,λR=>.inl (.inl ⟨h.1,rfl⟩)⟩
    grind
   .have G:=Z f _ L;unfold I9 at G;have ad:Nat.beq (2*args.length%2) 0=true:=by
     simp_all
    simp only[S,T,ad,te,A5,show 2*args.length / 2=args.length by omega]at G;have s:Hy (iB U.results.toList) (mW U args H):=by
     intro a ha v P;have ag:args.length<=a:=by simpa using G.2 a ha
     simp only[mW]at P;rw[Hb ag,Yu]at P;split at P
     .cases P;trivial
     .cases P
    obtain⟨d1,d2,d3⟩:=i _ _ _ G.1 _ _ _ s X;refine⟨Y.trans d1,λR=>.inr ⟨U,b,e,_,vs,S,T,V,d3 R,c5,?_,c7,c8,rfl⟩⟩;rw[pZ d2 R _ (λa h=>h)];exact c6
  .have h:pe C (sm C n) a_ c g9 e p:=h;show _/\_/\∀H,pe C (sm C n) a_ c { g9 with heap:=H } e { p with heap:=H };cases c with
   |skip=>obtain⟨rfl,rfl⟩:=h;exact⟨rfl,s,λH=>⟨rfl,rfl⟩⟩
   |label l=>obtain⟨rfl,rfl⟩:=h;exact⟨rfl,s,λH=>⟨rfl,rfl⟩⟩
   |ret=>obtain⟨rfl,rfl⟩:=h;exact⟨rfl,s,λH=>⟨rfl,rfl⟩⟩
   |exit id=>obtain⟨rfl,rfl⟩:=h;exact⟨rfl,s,λH=>⟨rfl,rfl⟩⟩
   |seq a b=>
    simp only[F5,te]at d;obtain⟨Q,i9,g,k⟩:=h;obtain⟨u,z,I⟩:=i _ _ _ d.1 _ _ _ s g;rcases k with⟨rfl,k⟩|⟨k,rfl,rfl⟩
    .obtain⟨A,B,D⟩:=i _ _ _ d.2 _ _ _ z k;exact⟨A.trans u,B,λH=>⟨_,_,I H,.inl ⟨rfl,D H⟩⟩⟩
    .exact⟨u,z,λH=>⟨_,_,I H,.inr ⟨k,rfl,rfl⟩⟩⟩
   |cond x a b=>
    simp only[F5,te]at d;obtain⟨t,g,k⟩:=h;cases t with
    |true=>
     obtain⟨A,B,D⟩:=i _ _ _ d.1 _ _ _ s k;exact⟨A,B,λH=>⟨true,g,D H⟩⟩
    |false=>
     obtain⟨A,B,D⟩:=i _ _ _ d.2 _ _ _ s k;exact⟨A,B,λH=>⟨false,g,D H⟩⟩
   |block id b=>
    obtain⟨Q,g,rfl⟩:=h;obtain⟨A,B,D⟩:=i a_ j b d _ _ _ s g;exact⟨A,B,λH=>⟨_,D H,rfl⟩⟩
   |scope b=>exact i a_ j b d _ _ _ s h
   |loop b=>
    obtain⟨Q,i9,g,k⟩:=h;obtain⟨u,z,I⟩:=i a_ j b d _ _ _ (Oz s) g;rw[yB]at u;rcases k with⟨rfl,k⟩|⟨k,rfl,rfl⟩
    .obtain⟨A,B,D⟩:=i a_ j (.loop b) d _ _ _ z k;exact⟨A.trans u,B,λH=>⟨_,_,by rw[JX];exact I H,.inl ⟨rfl,D H⟩⟩⟩
    .exact⟨u,z,λH=>⟨_,_,by rw[JX];exact I H,.inr ⟨k,rfl,rfl⟩⟩⟩
   |region id q w=>
    obtain⟨rfl,E⟩:=h;cases w with
    |true=>
     obtain⟨J,K,g⟩ : ∃J,gi g9 J/\eo C (sm C n).toBelow a_ q J p:=E;have M:=rK s K;rcases g with g|⟨sl,m,q1,_⟩
     case inr=>
      exfalso;obtain⟨o,o1,o2⟩:=el.1 q1;exact VM o2 (A5.1 d o o1)
     obtain⟨u,z,_⟩:=xB y d _ M (g 0);refine⟨u.trans K.2.1,z,λH=>⟨rfl,⟨_,nq K H,.inl λt=>?_⟩⟩⟩;exact(xB y d _ M (g t)).2.2 H
    |false=>
     have E:fM C (sm C n).toBelow a_ q (range q.size) g9 p:=E;obtain⟨u,z,I⟩:=zG y d _ s E;exact⟨u,z,λH=>⟨rfl,I H⟩⟩
   |_=>cases d
def jk{N:Tc}(b:∀f n,N f=some n->I9 N C f n=true)(c:∀f args H r H',C8.kh f args H r H'->N f=none∨(N f=some (2*args.length+1)/\H'=H))(a_:TC)(ops:To)(h:vT N a_ ops=true)(n:Nat)(g9 a:St)(d:bp C (sm C n).toBelow a_ ops (range ops.size) g9 a) :
  eo C (sm C n).toBelow a_ ops g9 a:=YW (rr b c n).1.1 h d
end
end Sx
def LK.plain:LK->Bool
 | .v=>false
 |_=>true
def SK.plain:SK->Bool
 | .leaf k=>k.plain
 | .agg ks=>ks.all LK.plain
def GH.plain(s:GH):Bool:=s.ps.all SK.plain&&s.rs.all SK.plain
namespace Sx
section
variable [Cf] [C8]
variable {w:TG}
def xC(k:TL)(c:Int)(K:Int->RT):HX k c K=K (k.wrap c):=by
 unfold HX;cases e:RX k c with
 |true=>rw[uZ e]
 |false=>exact jz _ _
def Qf(c:Int)(K:Int->RT):Ya c K=K (IntKind.wrap .i64 c):=by
 refine Eq.trans ?_ (xC .i64 c K);cases c<;>rfl
def Qg(c:Int)(K:Int->RT):Yb c K=K (IntKind.wrap .u8 c):=by
 refine Eq.trans ?_ (xC .u8 c K);cases c<;>rfl
def pR(k:TL)(c:Int)(K:Int->RT):Gz k c K=K (k.wrap c):=by
 cases k<;>first|exact xC _ _ _|exact Qf _ _|exact Qg _ _
def SU(a b:Int)(K:Int->RT):YU a b K=K (a+b):=by
 unfold YU;cases a with
 |ofNat m=>
  cases b with
  |ofNat n=>exact congrArg K rfl
  |negSucc n=>
   simp only[ew];cases e:Nat.blt n m with
   |true=>rw[Gf]at e;grind
   |false=>
    have e:¬n<m:=λh=>by rw[←Gf,e]at h;cases h
    grind
 |negSucc m=>
  cases b with
  |ofNat n=>
   simp only[ew];cases e:Nat.blt m n with
   |true=>rw[Gf]at e;grind
   |false=>
    have e:¬m<n:=λh=>by rw[←Gf,e]at h;cases h
    grind
  |negSucc n=>exact congrArg K (show Int.negSucc (m+n+1)=Int.negSucc m+Int.negSucc n by omega)
def WK(a b:Int)(K:Int->RT):rm a b K=K (a - b):=by
 unfold rm;cases a with
 |ofNat m=>
  cases b with
  |ofNat n=>
   simp only[ew];cases e:Nat.ble n m with
   |true=>rw[Hr]at e;grind
   |false=>
    have e:¬n<=m:=λh=>by rw[←Hr,e]at h;cases h
    grind
  |negSucc n=>exact congrArg K (show ofNat (m+n+1)=ofNat m - Int.negSucc n by grind)
 |negSucc m=>
  cases b with
  |ofNat n=>exact congrArg K (show Int.negSucc (m+n)=Int.negSucc m - ofNat n by grind)
  |negSucc n=>
   simp only[ew];cases e:Nat.ble m n with
   |true=>rw[Hr]at e;grind
   |false=>
    have e:¬m<=n:=λh=>by rw[←Hr,e]at h;cases h
    grind
def VF(a b:Int)(K:Int->RT):A4 a b K=K (a*b):=by
 unfold A4;cases a with
 |ofNat m=>
  cases b with
  |ofNat n=>exact congrArg K rfl
  |negSucc n=>
   cases m with
   |zero=>exact congrArg K (show ofNat 0=ofNat 0*Int.negSucc n by simp)
   |succ m=>
    refine congrArg K (show Int.negSucc ((m+1)*n+m)=ofNat (m+1)*Int.negSucc n from ?_)
    grind
 |negSucc m=>
  cases b with
  |ofNat n=>
   cases n with
   |zero=>exact congrArg K (show ofNat 0=Int.negSucc m*ofNat 0 by simp)
   |succ n=>
    refine congrArg K (show Int.negSucc (m*(n+1)+n)=Int.negSucc m*ofNat (n+1)from ?_)
    grind
  |negSucc n=>
   refine congrArg K (show ofNat ((m+1)*(n+1))=Int.negSucc m*Int.negSucc n from ?_)
   grind
def Wr(a b:Int)(K:Int->RT):mS a b K=K (Int.tdiv a b):=by
 unfold mS;cases a with
 |ofNat m=>
  cases b with
  |ofNat n=>exact congrArg K rfl
  |negSucc n=>exact jz _ _
 |negSucc m=>exact jz _ _
def Wt(a b:Int)(K:Int->RT):np a b K=K (Int.tmod a b):=by
 unfold np;cases a with
 |ofNat m=>
  cases b with
  |ofNat n=>exact congrArg K rfl
  |negSucc n=>exact jz _ _
 |negSucc m=>exact jz _ _
def vu{b:Int}(h:v5 b=false):b≠0:=by
 intro e;subst e;cases h
def Ke{k:TL}{c:Int}{K:Int->RT}(h:Gz k c K=some w):K (k.wrap c)=some w:=(pR k c K).symm.trans h
def S6{d:BinOp}{k:TL}{a b:Int}{K:Int->RT}(h:Y0 d k a b K=some w):∃n,rY d k a b n/\K n=some w:=by
 cases d<;>simp only[Y0,reduceCtorEq]at h
 .rw[SU,pR]at h;exact⟨_,λP t w=>by simp[binOp,Op.intArith],h⟩
 .rw[WK,pR]at h;exact⟨_,λP t w=>by simp[binOp,Op.intArith],h⟩
 .rw[VF,pR]at h;exact⟨_,λP t w=>by simp[binOp,Op.intArith],h⟩
 .cases c:v5 b with
  |true=>rw[c]at h;cases h
  |false=>
   rw[c]at h;simp only[Wr,pR]at h;have c:=vu c;exact⟨_,λP t w=>by simp[binOp,Op.intDiv,c],h⟩
 .cases c:v5 b with
  |true=>rw[c]at h;cases h
  |false=>
   rw[c]at h;simp only[Wt]at h;have c:=vu c;exact⟨_,λP t w=>by simp[binOp,Op.intDiv,c],h⟩
 .split at h
  next c=>
   have c:=J5.1 c;subst c;rw[jz]at h;exact⟨_,qb rfl,h⟩
  .split at h
   .rw[jz]at h;exact⟨_,xS _ _,Ke h⟩
   .cases h
 .split at h
  .rw[jz]at h;exact⟨_,By _ _,Ke h⟩
  .cases h
 .split at h
  .rw[jz]at h;exact⟨_,xW _ _,Ke h⟩
  .cases h
def Zx(x y:Int):v2 x y=(x==y):=by rw[Wm,J5,beq_iff_eq]
def wH(x y:Int):OZ x y=(x==y):=by
 rw[←Zx];cases x<;>cases y<;>rfl
def Z9(x y:Int):PF x y=decide (x<=y):=by rw[Wm,KA,decide_eq_true_iff]
def VN(b:Bool):P' b = !b:=by cases b<;>rfl
def Uo{c:BinOp}{a b:Int}{K:Bool->RT}(h:Zm c a b K=some w):∃t,qL c a b=some t/\K t=some w:=by
 cases c<;>simp only[Zm,reduceCtorEq,wH,Z9,VN]at h
 .exact⟨_,rfl,h⟩
 .exact⟨_,rfl,h⟩
 .exact⟨_,rfl,by rw[show decide (a<b) = !decide (b<=a)by grind];exact h⟩
 .exact⟨_,rfl,h⟩
 .exact⟨_,rfl,by rw[show decide (a > b) = !decide (a<=b)by grind];exact h⟩
 .exact⟨_,rfl,h⟩
def UF(a b:Lf):IQ a b=iq a b:=by
 cases a<;>cases b<;>try rfl
 .exact wH _ _
 next x y=>cases x<;>cases y<;>rfl
def UO(l:List (Lf×Lf)):ZF l=ch l:=by
 unfold ch
 induction l with
 |nil=>rfl
 |cons p l a=>
  show(Bool.rec false (ZF l) (IQ p.1 p.2):Bool)=_;rw[UF,SC,a];cases iq p.1 p.2<;>rfl
def UN{l:List (Lf×Lf)}{K:Bool->RT}(h:pB l K=some w):K (ch l)=some w:=by
 rw[←UO];exact h
structure D0(C:ke)(Sg:Td)(T:Tv)(call:fV):Prop where
 f:∀g ls h K w,dR ls->call (.f g) ls h K=some w->∃rs h',aI C Sg g ls (f_ T (CT h)) rs (f_ T (CT h'))/\K rs h'=some w
 y:∀j7 vs l ls h K w st pd xs,h.at l=some (.lp j7 st pd vs)->Told ((T j7).params.map (·.2)) ls xs->call (.y j7 vs l) ls h K=some w->
  ∃b h',io C l (ak xs) (f_ T (CT h)) (.bool b) (f_ T (CT h'))/\K [.b b] h'=some w
def pw(T:Tv)(h:HL):r_ T h=λi=>(f_ T h)[i]?:=by
 funext i
 simp only[r_,f_,EL];cases h[i]?<;>rfl
def Vc(T:Tv)(h:wa):G0 T h=λi=>(f_ T (CT h))[i]?:=by
 funext i
 simp only[G0,f_,EL,mM,Option.map_map];cases h.at i<;>rfl
def od(T:Tv)(h:wa):G0 T h=r_ T (CT h):=(Vc T h).trans (pw T (CT h)).symm
def pv{T:Tv}{h:wa}{i:Nat}{x:E8}(e:h.at i=some x):r_ T (CT h) i=some (EE T x.ho):=by
 rw[←od];unfold G0;rw[e]
def jd(T:Tv)(h:HL):(f_ T h).length=h.length:=by simp[f_]
def ky(T:Tv)(h:HL)(i:Nat)(o:HO):f_ T (h.set i o)=(f_ T h).set i (EE T o):=by simp[f_,sk]
def kw(T:Tv)(h:HL)(o:HO):f_ T (h++[o])=f_ T h++[EE T o]:=by simp[f_]
def lO(T:Tv):∀(l:List Cq) (h:HL),f_ T (bH h l)=ig (f_ T h) l
 | [],h=>rfl
 |a :: l,h=>by
  have b:=lO T l (a.onH h);show f_ T (bH (a.onH h) l)=ig (a.on (f_ T h)) l;rw[b]
  congr 1
  cases a with
  |set i o=>exact ky T h i _
  |push o=>exact kw T h _
def sa:∀ {l:List Cq} {h:wa} {k:wa->RT},AE l h k=some w->∃h',CT h'=bH (CT h) l/\k h'=some w
 | [],h,k,a=>⟨h,rfl,a⟩
 | .set i o :: l,h,k,a=>by
  have a:(vx o λo=>EK h i o λh=>AE l h k)=some w:=a;obtain⟨x,b,c⟩:=kU (o:=o) (k:=λo=>EK h i o λh=>AE l h k);rw[c,iV]at a;obtain⟨h',e,a⟩:=sa a;exact⟨h',by rw[e,jc,b];rfl,a⟩
 | .push o :: l,h,k,a=>by
  have a:(vx o λo=>nG h o λh=>AE l h k)=some w:=a;obtain⟨x,b,c⟩:=kU (o:=o) (k:=λo=>nG h o λh=>AE l h k);rw[c,jl]at a;obtain⟨h',e,a⟩:=sa a;exact⟨h',by rw[e,jx,b];rfl,a⟩
def Ak(s:Ts):Rl s=(s != some 0):=by
 cases s with
 |none=>rfl
 |some k=>cases k<;>rfl
def yV(v:TR):HN v=aJ v:=by
 unfold HN;split
 next a=>
  rw[Ak];simp[aJ,l_,aV,bF,bo,aR,aD]
 next a _ _=>
  rw[Ak];simp[aJ,l_,aV,bF,bo,aR,aD]
 .rfl
def wY{i6:Type}(l:List i6):Vo l=l.length:=by
 induction l with
 |nil=>rfl
 |cons a l b=>exact congrArg Nat.succ b
def Z7{T:Tv}{n:Nat}{p:TR}{h:wa}{K:Tn->RT}(b:b4 n p h K=some w):∃cs,p6 n p (r_ T (CT h))=some cs/\K cs=some w:=by
 unfold b4 at b;split at b
 next a=>
  split at b
  next g=>
   split at b
   next m e i c f=>
    split at b
    next d=>
     rw[Hr]at d;refine⟨_,?_,b⟩;unfold p6;simp only[g,iC,pv f,E8.ho,EE,Dj,cut];rw[n_ (by rw[bj];exact d),lw c n a.off m d]
    .cases b
   .cases b
  .cases b
 .cases b
def Z'{T:Tv}{C:ke}{n:Nat}{p:TR}{h:wa}{K:Tn->RT}(b:bt C n p h K=some w):∃cs,ng C n p (r_ T (CT h))=some cs/\K cs=some w:=by
 unfold bt at b;split at b
 next a=>
  split at b
  next g=>
   split at b
   next m e o c f=>
    split at b
    next d=>
     rw[Hr]at d;refine⟨_,?_,b⟩;unfold ng;simp only[g,iC,pv f,E8.ho,EE,Dj,cut];rw[n_ (by rw[bj];exact d),lw c n a.off m d]
    .cases b
   .cases b
  next k g=>
   split at b
   next j=>
    split at b
    next q l=>
     split at b
     next cs i=>
      refine⟨cs,?_,b⟩;unfold ng;simp only[g,j,l,Dj];rw[oP]at i;exact i
     .cases b
    .cases b
   .cases b
 .cases b
def O0{T:Tv}{p:TR}{new:Tn}{h:wa}{K:Tn->wa->RT}{n0:Nat}(b:stB p new h K=some w) :
  ∃d cs h',Jw p new (r_ T (CT h)) n0=some (d,cs)/\CT h'=bH (CT h) d/\K cs h'=some w:=by
 unfold stB at b;split at b
 next a=>
  split at b
  next i=>
   split at b
   next m e c g=>
    split at b
    next f=>
     rw[Hr,wY]at f;rw[pC,iV]at b;refine⟨[.set a.block (.cells (cK (F3 new a.off c) m) e true)],[],_,?_,?_,b⟩
     .unfold Jw;simp only[i,pv g,E8.ho,EE,q9];rw[n_ (by rw[bj];exact f),qJ f];rfl
     .rw[jc];rfl
    .cases b
   .cases b
  .cases b
 .cases b
def As{s:Ts}{p_:Nat}:WO s p_=true↔s=le p_:=by
 unfold WO le;cases s with
 |none=>simp
 |some k=>simp_all
def om{C:ke}{T:Tv}{p_:Nat}{x:TR}{h:wa}{K:Tn->Nat->RT}(b:slB C T p_ x h K=some w) :
  ∃l n,NH C p_ (r_ T (CT h)) x=some (l,n)/\K l n=some w:=by
 have d:∀ {x:TR},(match NH C p_ (G0 T h) x with|some p=>K p.1 p.2|none=>none)=some w->∃l n,NH C p_ (r_ T (CT h)) x=some (l,n)/\K l n=some w:=by
  intro x b;split at b
  next p e=>
   rw[od]at e
   grind
  .cases b
 unfold slB at b;split at b
 next a k q=>
  split at b
  next f=>
   have f:=As.1 f;split at b
   next m e o c j=>
    split at b
    next g i=>
     have g:=Dp g;rw[Hr]at i;subst g;refine⟨_,_,?_,b⟩;unfold NH;simp only[pv j,E8.ho,EE];rw[qs (by rw[f];simp[le]),n_ f]
     first|rw[n_ rfl]|rw[n_ trivial]
     rw[cut,n_ (by rw[bj];exact i),lw c _ a.off m i];rfl
    .cases b
   .cases b
  .exact d b
 .exact d b
def yW{c:Tr Value}{m off a p_:Nat}{new:Tn}{k:E8->RT}(f:off+a<=m)(b:Kk c m off a p_ new k=some w) :
  ∃x:E8,x.ho = .o (.cells (((cK c m).drop off).take a++new) p_ true)/\k x=some w:=by
 unfold Kk at b;split at b
 next d e=>
  have d:=Dp d;have e:=Dp e;subst d e;rw[pC,ew,wY]at b;refine⟨_,?_,b⟩;show HO.o (.cells (cK (F3 new a c) (a+new.length)) p_ true)=_;rw[oM,Yr,H4 (by rw[bj];omega)]
 .rw[lw c a off m f]at b;obtain⟨x,g,h⟩:=kU (o:=.cells (((cK c m).drop off).take a++new) p_ true) (k:=k)
  grind
def YX{C:ke}{T:Tv}{p_ bytes:Nat}{s x:TR}{h:wa}{K:Tn->wa->RT}(b:apB T C p_ bytes s x h K=some w) :
  ∃g cs h',Ei C p_ bytes s x (r_ T (CT h)) (CT h).length=some (g,cs)/\CT h'=bH (CT h) g/\K cs h'=some w:=by
 obtain⟨f,n,v,b⟩:=om b;unfold Ei;rw[v,ic];simp only at b ⊢;split at b
 .cases n with
  |zero=>exact⟨_,_,h,rfl,rfl,b⟩
  |succ n=>
   simp only at b;split at b
   next G=>
    obtain⟨y,j,E⟩:=kU (o:=.cells f p_ true) (k:=λo=>nG h o λh'=>fN (n+1) λn=>K [.slice (some ⟨h.n,0,le p_⟩) n 0] h');rw[E,jl,ew]at b;refine⟨[.push (.cells f p_ true)],_,_,?_,?_,b⟩
    .simp_all
    .rw[jx,j];rfl
   .cases b
 next a d D _=>
  split at b
  .cases b
  next z=>
   have z:=As.1 z;split at b
   next m e F c t=>
    split at b
    next r A=>
     have r:=Dp r;rw[Hr]at A;subst r;have u:a.off+d*e<=m:=A;have l:cut (cK c m) a.off (d*e)=some (((cK c m).drop a.off).take (d*e)):=by rw[cut,n_ (by rw[bj];exact u)]
     simp only[z,ne_eq,not_true_eq_false,if_false,pv t,E8.ho,EE,l];cases D with
     |zero=>
      simp only at b ⊢;cases n with
      |zero=>exact⟨[],_,h,by simp_all,rfl,b⟩
      |succ n=>
       simp only at b;split at b
       next B i=>
        obtain⟨y,j,b⟩:=yW u b;rw[iV,jl,ew]at b;refine⟨[.set a.block .dead,.push (.cells (((cK c m).drop a.off).take (d*e)++f) e true)],_,_,by simp_all,?_,b⟩;rw[jx,jc,j];rfl
       .cases b
     |succ q=>
      simp only at b ⊢;split at b
      next p=>
       rw[Hr]at p;split at b
       next B i=>
        rw[Hr,wY]at i;have i:a.off+d*e+f.length<=m:=i;rw[pC,iV,ew]at b;refine⟨[.set a.block (.cells ((cK c m).take (a.off+d*e)++f++(cK c m).drop (a.off+d*e+f.length)) e true)],_,_,by rw[n_ p,n_ rfl,q9,n_ (by rw[bj];exact i)];rfl,?_,b⟩;rw[jc];show(CT h).set a.block (.o (.cells (cK (F3 f (a.off+d*e) c) m) e true))=_;rw[qJ i];rfl
       .cases b
      next p=>
       have p:¬d+n<=q:=λh=>by rw[←Hr,p]at h;cases h
       split at b
       next B=>
        obtain⟨y,j,b⟩:=yW u b;rw[jl,ew]at b;refine⟨[.push (.cells (((cK c m).drop a.off).take (d*e)++f) e true)],_,_,by grind,?_,b⟩;rw[jx,j];rfl
       .cases b
    .cases b
   .cases b
 .cases b
def Pf{T:Tv}{f:Hp}{h:wa}{K:Tn->wa->RT}(a:Km T f h K=some w) :
  ∃b cs h',f.run (r_ T (CT h)) (CT h).length=some (b,cs)/\CT h'=bH (CT h) b/\K cs h'=some w:=by
 unfold Km at a;cases f with
 |st p g=>exact O0 (n0:=(CT h).length) a
 |ap C d bytes s x=>exact YX a
 |fn f=>
  simp only at a;rw[od]at a;split at a
  next p e=>
   rw[pU]at a;obtain⟨h',c,a⟩:=sa a;exact⟨p.1,p.2,h',by rw[ic];exact e,c,a⟩
  .cases a
def LO{k:LK}{v:TR}{l:SL}(h:Nv k v=some l):l.is k=true/\l.val=v/\l.g_:=by
 cases k with
 |i k=>
  cases v<;>simp only[Nv]at h<;>first|cases h|skip
  split at h
  next e=>cases h;exact⟨e,rfl,trivial⟩
  .cases h
 |b=>
  cases v<;>simp only[Nv]at h<;>cases h;exact⟨rfl,rfl,trivial⟩
 |v=>
  simp only[Nv]at h;split at h
  next e=>cases h;exact⟨rfl,rfl,e⟩
  .cases h
def Aw:∀ {ks:TJ} {vs:Tn} {xs:List SL},LP ks vs=some xs->aZ xs ks=true/\xs.map SL.val=vs/\∀x∈xs,x.g_
 | [],[],xs,h=>by cases h;exact⟨rfl,rfl,λ_ h=>by cases h⟩
 |k :: ks,v :: vs,xs,h=>by
  simp only[LP]at h;split at h
  next x e=>
   split at h
   next ys c=>
    cases h;obtain⟨a1,a2,d⟩:=LO e;obtain⟨a,b,f⟩:=Aw c;refine⟨by simp[aZ,a1,a],by simp[a2,b],λy g=>?_⟩
    grind
   .cases h
  .cases h
 | [],_ :: _,_,h=>by cases h
 |_ :: _,[],_,h=>by cases h
def WT{d:SK}{v:TR}{x:S0}(h:zP d v=some x):x.is d=true/\x.val=v/\x.g_:=by
 cases d with
 |leaf k=>
  obtain⟨l,e,rfl⟩:=Dv.1 h;obtain⟨a,b,c⟩:=LO e;refine⟨a,b,λy f=>?_⟩;simp only[S0.cells,Fm]at f;subst f;exact c
 |agg g=>
  cases v<;>simp only[zP]at h<;>first|cases h|skip
  obtain⟨l,e,rfl⟩:=Dv.1 h;obtain⟨a,b,c⟩:=Aw e;exact⟨a,by simp[S0.val,b],c⟩
def uj:∀ {sks:TN} {vs:Tn} {xs:List S0},Ie sks vs=some xs->cE xs sks=true/\ak xs=vs/\∀x∈xs,x.g_
 | [],[],xs,h=>by cases h;exact⟨rfl,rfl,λ_ h=>by cases h⟩
 |k :: ks,v :: vs,xs,h=>by
  simp only[Ie]at h;split at h
  next x e=>
   split at h
   next ys c=>
    cases h;obtain⟨a1,a2,d⟩:=WT e;obtain⟨b,a,f⟩:=uj c;refine⟨by simp[cE,a1,b],by simp only[ak,DD,a2]at a ⊢;rw[a],λy g=>?_⟩
    grind
   .cases h
  .cases h
 | [],_ :: _,_,h=>by cases h
 |_ :: _,[],_,h=>by cases h
def J6{a b:LK}(h:UE a b=true):a=b:=by
 cases a<;>cases b<;>simp only[UE]at h<;>first|rfl|cases h|skip
 rw[dJ h]
def yN:∀ {a b:TJ},J7 a b=true->a=b
 | [],[],_=>rfl
 |a :: l,b :: m,h=>by
  simp only[J7,te]at h;rw[J6 h.1,yN h.2]
 | [],_ :: _,h=>by cases h
 |_ :: _,[],h=>by cases h
def UJ{a b:SK}(h:ZA a b=true):a=b:=by
 cases a<;>cases b<;>simp only[ZA]at h<;>first|cases h|skip
 .rw[J6 h]
 .rw[yN h]
def sI:∀ {a b:TN},HI a b=true->a=b
 | [],[],_=>rfl
 |a :: l,b :: m,h=>by
  simp only[HI,te]at h;rw[UJ h.1,sI h.2]
 | [],_ :: _,h=>by cases h
 |_ :: _,[],h=>by cases h
def gq:∀ {ls:TG},jH ls=true->dR ls
 | [],_=>λ_ h=>by cases h
 | .i n :: ls,h=>λl a=>by
  rcases Dy.1 a with rfl|a
  .trivial
  .exact gq (ls:=ls) h l a
 | .b n :: ls,h=>λl a=>by
  rcases Dy.1 a with rfl|a
  .trivial
  .exact gq (ls:=ls) h l a
 | .v n :: ls,h=>λl a=>by
  have h:(match HN n with|true=>jH ls|false=>false)=true:=h;split at h
  next e=>
   rw[yV]at e;rcases Dy.1 a with rfl|a
   .exact e
   .exact gq (ls:=ls) h l a
  .cases h
def yA{C:ke}{Sg:Td}{T:Tv}{call:fV}(c:D0 C Sg T call){g:TQ}{ls:TG}{h:wa}{K:TG->wa->RT}(a:JV call g ls h K=some w) :
  ∃b h',aI C Sg g ls (f_ T (CT h)) b (f_ T (CT h'))/\K b h'=some w:=by
 unfold JV at a;split at a
 next e=>exact c.f g ls h K w (gq e) a
 .cases a
def oI{C:ke}{Sg:Td}{T:Tv}{call:fV}(o:D0 C Sg T call){g:TQ}{j:Option (TN)}{b:Tn}{h:wa}{K:TG->wa->RT}(a:nO Sg call g j b h K=some w) :
  ∃sg c ys h',Sg g=some sg/\(∀x,j=some x->sg.rs=x)/\Told sg.rs c ys/\jE C g b (f_ T (CT h)) (gl (ak ys)) (f_ T (CT h'))/\K c h'=some w:=by
 unfold nO at a;split at a
 .cases a
 next sg e=>
  split at a
  .cases a
  next n=>
   split at a
   .cases a
   next u e3=>
    obtain⟨c,h',⟨q,s,ys,d,f,k,i⟩,a⟩:=yA o a;rw[e]at d;cases d;obtain⟨l,m,t⟩:=uj e3;obtain⟨r,_⟩:=cV f.1 l f.2.1;rw[r,m]at i;refine⟨sg,c,ys,h',e,λx p=>?_,k,i,a⟩;subst p;exact sI n
def kQ{T:Tv}{h:wa}{l a:Nat}{st:LoopState}{b:Tm}{vs:Tn}(e:h.at l=some (.lp a st b vs)):eH (f_ T (CT h)) l=some { Em (T a) a vs with state:=st,pending:=b }:=by
 unfold eH f_;rw[EL,mM,e];rfl
def L_{C:ke}{Sg:Td}{T:Tv}{call:fV}(k:D0 C Sg T call){v:TR}{args:Tn}{m:TN}{h:wa}{K:TG->wa->RT}(a:Iy Sg T call v args m h K=some w) :
  ∃d h',wo C v args m (f_ T (CT h)) d (f_ T (CT h'))/\K d h'=some w:=by
 unfold Iy at a;split at a
 next L first c=>
  split at a
  next g=>
   obtain⟨M,d,H,h',I,q,j,r,s⟩:=oI k a;rw[q _ rfl]at j;exact⟨d,h',⟨H,j,.inl ⟨g,first,c,rfl,r⟩⟩,s⟩
  next l=>
   split at a
   next f i=>
    have f:first = #[]:=u9.1 f
    have i:c = #[]:=u9.1 i;subst f i;split at a
    next A D B E e=>
     split at a
     .cases a
     next e3=>
      have e3:=sI e3;subst e3;split at a
      .cases a
      next F e4=>
       split at a
       next J=>
        obtain⟨t,u,z⟩:=uj e4;obtain⟨b,h',p,G⟩:=k.y A E l _ h K w D B F e ⟨t,rfl,z⟩ a;rw[u]at p;refine⟨[.b b],h',⟨[.leaf (.b b)],⟨rfl,rfl,λx n=>?_⟩,.inr ⟨l,rfl,p⟩⟩,G⟩;simp only[Fm]at n;subst n;intro y o;simp only[S0.cells,Fm]at o;subst o;trivial
       .cases a
    .cases a
   .cases a
  .cases a
 .cases a
def Q3{C:ke}{Sg:Td}{T:Tv}{call:fV}(A:D0 C Sg T call){m:Nat}{v:TR}{c:Tn}{h:wa}{K:Tm->wa->RT}(d:Q2 Sg call m v c h K=some w) :
  ∃g first cap r j f k,v = .func (.func g) first cap/\jE C g (first.toList++[.func (.yield (f_ T (CT h)).length) #[] #[]]++cap.toList) (f_ T (CT h)++[.loop (Em (T m) m c)]) r j/\
   eH j (f_ T (CT h)).length=some f/\f.state≠.busy/\f_ T (CT k)=j.set (f_ T (CT h)).length (.loop { f with state:=.exhausted })/\K f.pending k=some w:=by
 unfold Q2 at d;split at d
 next F first cap=>
  split at d
  next g=>
   rw[jl]at d;obtain⟨H,G,D,q,_,_,E,t,u⟩:=oI A d;have b:(f_ T (CT h)).length=h.n:=by rw[jd,ic]
   split at u
   next p y o s e=>
    have B:=kQ (T:=T) e;rw[jx,kw]at t;have z:∀(l:y≠.busy),(EK q h.n (.lp p .exhausted o s) λk=>K o k)=some w->∃x a i r j f k,(Value.func (.func g) first cap) = .func (.func x) a i/\jE C x (a.toList++[.func (.yield (f_ T (CT h)).length) #[] #[]]++i.toList) (f_ T (CT h)++[.loop (Em (T m) m c)]) r j/\
      eH j (f_ T (CT h)).length=some f/\f.state≠.busy/\f_ T (CT k)=j.set (f_ T (CT h)).length (.loop { f with state:=.exhausted })/\K f.pending k=some w:=by
     intro l d;rw[iV]at d;refine⟨g,first,cap,gl (ak D),f_ T (CT q),{ Em (T p) p s with state:=y,pending:=o },q.put h.n (.lp p .exhausted o s),rfl,?_,?_,l,?_,d⟩
     .rw[b];exact t
     .rw[b];exact B
     .rw[jc,ky,b];rfl
    grind
   .cases u
  .cases d
 .cases d
def vN{id:Nat}:∀ {ks:List (Nat×RT)},(List.rec none (λp _ f=>match Nat.beq p.1 id with|true=>p.2|false=>f) ks:RT)=some w->
  ∃d x,some (Code.exit id)=some (Code.exit d)/\(d,x)∈ks/\x=some w
 | [],h=>by cases h
 |p :: ks,h=>by
  have h:(match Nat.beq p.1 id with|true=>p.2|false=>(List.rec none (λp _ f=>match Nat.beq p.1 id with|true=>p.2|false=>f) ks:RT))=some w:=h;split at h
  next e=>
   exact⟨id,p.2,rfl,by rw[←Dp e];grind,h⟩
  .obtain⟨d,x,a,b,c⟩:=vN h
   simp_all
def Lr{e:BinOp}{k d:TL}{a b:Int}{K:Int->RT}(h:Hg e k a d b K=some w):∃n,JJ e k a d b n/\K n=some w:=by
 unfold Hg at h;split at h
 next c=>
  have c:¬b<0:=by have:=KA.1 c;omega
  split at h
  .rw[jz]at h;exact⟨_,λP t w=>by simp[binOp,Op.shift,c],h⟩
  .rw[jz]at h;exact⟨_,λP t w=>by simp[binOp,Op.shift,c],h⟩
  .cases h
 .cases h
def W0{C:ke}{Sg:Td}{T:Tv}{call:fV}(B:D0 C Sg T call):nc (BA Sg T call) C Sg T (λb=>b=some w) (λh=>f_ T (CT h)) where
 fail:=by intro h;cases h
 cond:=by
  intro b x y h;cases b
  .exact .inr ⟨rfl,h⟩
  .exact .inl ⟨rfl,h⟩
 w7:=λH k a b K h=>S6 h
 E5:=λH k a G b K h=>Lr h
 cmp:=λH a b K h=>Uo h
 eqs:=λl K h=>UN h
 conv:=λk a K h=>Ke h
 FO:=by intro t a b K h;cases t<;>exact h
 h_:=by
  intro U o K h;cases o with
  |none=>cases h
  |some x=>exact⟨x,rfl,h⟩
 k_:=by
  intro v K h;have h:Zi v K=some w:=h;unfold Zi at h;split at h
  next e=>rw[yV]at e;exact⟨e,h⟩
  .cases h
 oo:=by
  intro q K h
  match q,h with
  | .i n :: r,h=>exact⟨n,r,rfl,h⟩
 D7:=by
  intro q K h
  match q,h with
  | .b n :: r,h=>exact⟨n,r,rfl,h⟩
 Ck:=by
  intro q K h
  match q,h with
  | .v n :: r,h=>exact⟨n,r,rfl,h⟩
 u4:=by
  intro q K h
  match q,h with
  | [],h=>exact⟨rfl,h⟩
 rv:=by
  intro k q K h
  match q,h with
  | .int G n :: r,h=>
   have h:(match cX k G with|true=>K n r|false=>none)=some w:=h;split at h
   next e=>rw[dJ e];grind
   .cases h
 DV:=by
  intro q K h
  match q,h with
  | .bool n :: r,h=>exact⟨n,r,rfl,h⟩
 BM:=by
  intro q K h
  match q,h with
  |n :: r,h=>exact⟨n,r,rfl,h⟩
 ts:=by
  intro q K h
  match q,h with
  | [],h=>exact⟨rfl,h⟩
 ka:=by
  intro f h K d;have d:Qy T f h K=some w:=d;unfold Qy at d;rw[←pw];cases f with
  |ld n p=>exact Z7 d
  |lg C n p=>exact Z' d
  |fn f=>
   simp only at d;rw[od]at d;split at d
   next x e=>exact⟨x,e,d⟩
   .cases d
 heap:=by
  intro f h K d;have d:Km T f h K=some w:=d;obtain⟨z,N,A,J,L,M⟩:=Pf d;exact⟨z,N,A,by rw[←pw,jd];exact J,by rw[L];exact lO T z (CT h),M⟩
 new:=by
  intro o h K d;have d:B6 o h K=some w:=d;unfold B6 at d;obtain⟨x,O,P⟩:=kU (o:=o) (k:=λo=>nG h o λA=>K h.n A);rw[P,jl]at d;exact⟨h.push x,by rw[jx,O];exact kw T (CT h) _,by rw[jd,ic];exact d⟩
 call:=λg q h K d=>yA B d
 A7:=λv E S h K d=>L_ B d
 join:=λb m h=>h
 loop:=by
  intro F q h d;refine⟨λn=>Nat.rec (motive:=λ_=>TG->wa->RT) (λ_ _=>none) (λ_ Q q h=>F Q q h) n,λq h=>(by simp),λn q h=>rfl,1000000,d⟩
 Ec:=λs v I h K d=>Q3 B d
 D4:=by
  intro D V W X h;cases D with
  |none=>exact .inl ⟨rfl,h⟩
  |some c=>
   cases c<;>first|exact .inr (.inl ⟨rfl,h⟩)|skip
   case exit id=>
    exact .inr (.inr (vN h))
   all_goals cases h
 Ir:=by
  intro l h K d;have d:BT l h K=some w:=d;unfold BT at d;split at d
  next s R D u e=>
   split at d
   .rw[iV]at d;exact⟨_,_,kQ e,rfl,by rw[jc];exact ky T (CT h) l _,d⟩
   .cases d
  .cases d
 Gw:=by
  intro l j h K d;have d:BU l j h K=some w:=d;unfold BU at d;split at d
  next s R D u e=>
   cases j with
   |none=>
    have d:EK h l (.lp s .ready none u) K=some w:=d;rw[iV]at d;exact⟨_,h.put l (.lp s .ready none u),kQ e,(congrArg (f_ T) (jc h l (.lp s .ready none u))).trans (ky T (CT h) l (.lp s .ready none u)),d⟩
   |some c=>
    have d:EK h l (.lp s .done (some c) u) K=some w:=d;rw[iV]at d;exact⟨_,h.put l (.lp s .done (some c) u),kQ e,(congrArg (f_ T) (jc h l (.lp s .done (some c) u))).trans (ky T (CT h) l (.lp s .done (some c) u)),d⟩
  .cases d
end
end Sx
namespace Sx
def Sr(v:Value):Bool:=match v with
 | .pointer (some a)=>a.spot==some 1
 | .slice (some a) _ _=>a.spot==some 1
 |v=>scalar v
section
variable [Cf]
def MV [D1]{mu:jn}{p:Pl}{x y:Option Obj}{o:ra}(b:∀a,x=some a->y=some a)(h:EJ mu p x o):EJ mu p y o:=by
 cases o with
 |cells t j rw=>
  obtain⟨d,f,l,c,e,k,m,n⟩:=h;exact⟨d,f,l,c,e,k,b _ m,n⟩
 |map q g=>
  obtain⟨i,d,f⟩:=h;exact⟨i,b _ d,f⟩
 |loop r=>
  obtain⟨L,d,f⟩:=h;exact⟨L,b _ d,f⟩
 |Lu s pos=>exact b _ h
 |dead=>trivial
def U7 [D1]{la:o_}{mu a:jn}{vs cs:Tn}(e:vs.all flat=true)(h:t0 la mu vs cs):t0 la a vs cs:=by
 refine⟨h.1,λi x y c f=>?_⟩;have d:=h.2 i x y c f;have b:flat x=true:=A5.1 e x (Cb c);rw[sS b d];exact .of_flat b
def B0 [D1]{la d:o_}{mu e:jn}{v c:TR}(a:Sr v=true)(h:VR la mu v c):VR d e v c:=by
 cases h with
 |vc c=>cases a
 |Nr h=>cases a
 |scalar h=>exact .scalar h
 |agg _ _=>cases a
 |tuple _ _ _=>cases a
 |func _ _ _ _ _=>cases a
 |yield _=>cases a
 |En _=>cases a
 |DG _=>cases a
 |DQ=>exact .DQ
 |x9 _ _ _ _=>simp[Sr,le]at a
 |wb _=>simp[Sr,le]at a
 |CA f b=>exact .CA f b
 |y_ b=>exact .y_ b
 |map _=>cases a
def sZ [D1]{mu a:jn}{vs:Tn}{c:Tl}{o:Nat}(f:vs.all Sr=true)(h:cz mu vs c o):cz a vs c o:=by
 intro i v b;obtain⟨g,d,e⟩:=h i v b;exact⟨g,d,B0 (A5.1 f v (Cb b)) e⟩
def I'{mu:jn}{b:Nat}:¬Ij mu [] b:=by
 rintro⟨id,o,p,h,_⟩;simp at h
def O9{C:ke}(M:∀g vs,C.G g=some vs->vs.all Sr=true){f:TQ}{args:Tn}{r:TR}{H':Tu}(h:en C f args [] r H')(N:args.all flat=true)(E:flat r=true)(H:Tu):en C f args H r H:=by
 intro _ A P w d D l k L;have y:WR C w.heap.size (λ_=>none) [] w:=by
  refine⟨λid o h=>by simp at h,λi j S T U V h=>by simp at h,λi o p h=>by simp at h,λi o p h=>by simp at h,λ_ _=>rfl,λg vs t=>?_⟩;obtain⟨u,n,c,e,B,q,s⟩:=k.D2 g vs t;exact⟨by omega,n,c,e,B,q,sZ (M g vs t) s⟩
 obtain⟨v,Q,F,I,R,a,J,K⟩:=h _ w.heap.size (λ_=>none) w d (x5 _) (U7 N l) y L;have m:∀(b:Nat) x,w.heap[b]?=some x->F.heap[b]?=some x:=by
  intro b x O;have z:b<w.heap.size:=by
   grind
  rw[a.i_ b z I'];exact O
 refine⟨v,P,F,?_,?_,?_,J,K⟩
 .rw[sS E I];exact .of_flat E
 .refine⟨λid o u n=>?_,k.inj,k.own,k.ro,k.Im,λg vs t=>?_⟩
  .obtain⟨p,q,s⟩:=k.obj id o u n;exact⟨p,q,MV (m p.b) s⟩
  .obtain⟨u,n,c,e,B,q,s⟩:=k.D2 g vs t
   simp_all
 .exact⟨x5 _,λ_ _=>rfl,a.size,λb D _=>a.i_ b D I',λb h=>.inr h,a.os,a.tape,a.output,a.dr⟩
end
section
variable [Cf] [C8]
end
end Sx
namespace Sx
def jP(F:TC)(H a:Tu):Prop:=∀r∈F,∀x,H[r]?=some x->x.alive=true->a[r]?=some x
structure CU where
 set:Option (Nat×ra)
 push:Option (ra×(Nat->Value))
 v:Value
def CU.put(e:CU)(H:Tu):Tu:=match e.set with
 |some p=>H.set p.1 p.2
 |none=>H
def CU.heap(e:CU)(H:Tu):Tu:=match e.push with
 |some p=>e.put H++[p.1]
 |none=>e.put H
def CU.val(e:CU)(n:Nat):Value:=match e.push with
 |some p=>p.2 n
 |none=>e.v
def FR(b:Prop)(F W:TC)(f:Tu->Option (List ra×Value))(H:Tu):Prop:=
 ∀H' v,f H=some (H',v)->∃e:CU,H'=e.heap H/\v=e.val H.length/\(∀p,e.set=some p->p.1∈W/\∃x,H[p.1]?=some x/\x.alive=true)/\(∀p,e.push=some p->b/\Dm p.2/\p.1.alive=true)/\
  ∀a,jP F H a->f a=some (e.heap a,e.val a.length)
def YP(F:TC)(f:Tu->Tk)(H:Tu):Prop:=∀v,f H=some v->∀a,jP F H a->f a=some v
def gG{F:TC}{H a:Tu}(h:jP F H a){r:Nat}(c:r∈F){vs:Tn}{e:Nat}{b:Bool}(d:H[r]?=some (.cells vs e b)):a[r]?=some (.cells vs e b):=h r c _ d rfl
def ir{F:TC}{H d:Tu}(h:jP F H d){r:Nat}(f:r∈F){b:Tj}{c:Nat}(a:Dq H r=some (b,c)):H[r]?=some (.map b c)/\Dq d r=some (b,c):=by
 unfold Dq at a;split at a
 next e=>
  cases a;exact⟨e,by unfold Dq;rw[h r f _ e rfl]⟩
 .cases a
def wz{C:ke}{H f:Tu}{p_:Nat}{x:TR}{p:List Value×Nat}(c:dU C H p_ x=some p){F:TC}(j:∀r∈C9 x,r∈F)(h:jP F H f):dU C f p_ x=some p:=by
 unfold dU at c ⊢;split at c
 .exact c
 next a d i=>
  split at c
  .simp_all
  next l=>
   split at c
   next g=>
    simp only[l,if_false,g,if_true];split at c
    next m e b hY=>
     have k:a.block∈C9 (.slice (some a) d i):=by
      simp[C9,g,le]
     rw[gG h (j _ k) hY];exact c
    .cases c
   .cases c
 .exact c
 .cases c
def wZ{b:Prop}{F W:TC}{H:Tu}(c:b)(x:ra)(mk:Nat->TR)(g:x.alive=true)(f:Dm mk):FR b F W (λH=>some (H++[x],mk H.length)) H:=by
 intro d v h;cases h;exact⟨⟨none,some (x,mk),undef⟩,rfl,rfl,λp a=>(by cases a),λp a=>by grind,λe _=>rfl⟩
def tv{d:Prop}{F W:TC}{f:Tu->Option (List ra×Value)}{H:Tu}{v:TR}(h:f H=some (H,v))(c:∀a,jP F H a->f a=some (a,v)) :
  ∃e:CU,H=e.heap H/\v=e.val H.length/\(∀p,e.set=some p->p.1∈W/\∃x,H[p.1]?=some x/\x.alive=true)/\(∀p,e.push=some p->d/\Dm p.2/\p.1.alive=true)/\∀a,jP F H a->f a=some (e.heap a,e.val a.length):=
 ⟨⟨none,none,v⟩,rfl,rfl,λp b=>(by cases b),λp b=>(by cases b),c⟩
def tu{c:Prop}{F W:TC}{f:Tu->Option (List ra×Value)}{H:Tu}{x:ra}{mk:Nat->TR}(g:c)(i:x.alive=true)(h:Dm mk)(d:∀a,jP F H a->f a=some (a++[x],mk a.length)) :
  ∃e:CU,H++[x]=e.heap H/\mk H.length=e.val H.length/\(∀p,e.set=some p->p.1∈W/\∃x,H[p.1]?=some x/\x.alive=true)/\(∀p,e.push=some p->c/\Dm p.2/\p.1.alive=true)/\∀a,jP F H a->f a=some (e.heap a,e.val a.length):=
 ⟨⟨none,some (x,mk),undef⟩,rfl,rfl,λp b=>(by cases b),λp b=>by grind,d⟩
def tz{d:Prop}{F W:TC}{f:Tu->Option (List ra×Value)}{H:Tu}{i:Nat}{x y:ra}{v:TR}(h:i∈W)(j:H[i]?=some y)(g:y.alive=true)(c:∀a,jP F H a->f a=some (a.set i x,v)) :
  ∃e:CU,H.set i x=e.heap H/\v=e.val H.length/\(∀p,e.set=some p->p.1∈W/\∃x,H[p.1]?=some x/\x.alive=true)/\(∀p,e.push=some p->d/\Dm p.2/\p.1.alive=true)/\∀a,jP F H a->f a=some (e.heap a,e.val a.length):=
 ⟨⟨some (i,x),none,v⟩,rfl,rfl,λp b=>by grind,λp b=>(by cases b),c⟩
def Ba{P:Prop}{C:ke}{t:TP}{s x:Value}{H:Tu}{F W:TC}(m:P)(K:∀r∈C9 s,r∈F/\r∈W)(U:∀r∈C9 x,r∈F):FR P F W (gj C t s x) H:=by
 intro X v c;unfold gj at c;split at c
 case h_2=>cases c
 rename_i N T
 split at c
 .cases c
 rename_i b R
 split at c
 .cases c
 rename_i L
 split at c
 .cases c
 rename_i V
 split at c
 .cases c
 rename_i j n D
 have g:∀f,jP F H f->gj C t s x f=(match (motive:=Value->Option (List ra×Value)) s with
   | .slice none 0 0=>
    if n=0 then some (f,.slice none 0 0)
    else if ba n b.bytes then some (f++[.cells j b.size true],.slice (some ⟨f.length,0,le b.size⟩) n 0)else none
   | .slice (some a) d B=>
    if a.spot≠le b.size then none else
    match f[a.block]? with
    |some (.cells A e rw)=>
     if e≠b.size then none else
     match cut A a.off (d*b.size)with
     |none=>none
     |some l=>
      match B with
      |0=>
       if n=0 then some (f,.slice (some a) d 0)
       else if rw&&ba (d+n) b.bytes then
        some (f.set a.block .dead++[.cells (l++j) b.size true],.slice (some ⟨f.length,0,le b.size⟩) (d+n) 0)
       else none
      |cap+1=>
       if d+n<=cap then
        if rw then(q9 A (a.off+d*b.size) j).map λz=>(f.set a.block (.cells z e true),.slice (some a) (d+n) (cap+1))
        else if n=0 then some (f,.slice (some a) d (cap+1))else none
       else if ba (d+n) b.bytes then
        some (f++[.cells (l++j) b.size true],.slice (some ⟨f.length,0,le b.size⟩) (d+n) 0)
       else none
    |_=>none
   |_=>none):=by
  intro f i;unfold gj;simp only[T,R,L,if_false,V,wz D U i];rfl
 split at c
 .split at c
  next u=>
   cases c;exact tv (by rw[g H λ_ _ _ h _=>h];simp only[u,if_true]) λf i=>by simp_all
  next u=>
   split at c
   next o=>
    cases c;exact tu (mk:=λk=>.slice (some ⟨k,0,le b.size⟩) n 0) m rfl (.slice _ _ _) λf i=>by simp_all
   .cases c
 next a d B=>
  split at c
  .cases c
  rename_i q
  have G:a.block∈C9 (.slice (some a) d B):=by
   simp only[ne_eq,Classical.not_not]at q;simp[C9,q,le]
  split at c
  case h_2=>cases c
  rename_i A e M hY
  split at c
  .cases c
  rename_i Q
  split at c
  .cases c
  rename_i l w
  have y:∀ {f},jP F H f->f[a.block]?=some (.cells A e M):=λi=>gG i (K _ G).1 hY;split at c
  .split at c
   next u=>
    cases c;exact tv (by rw[g H λ_ _ _ h _=>h];simp_all) λf i=>by simp_all
   next u=>
    split at c
    next o=>
     cases c;refine⟨⟨some (a.block,.dead),some (.cells (l++j) b.size true,λk=>.slice (some ⟨k,0,le b.size⟩) (d+n) 0),undef⟩,rfl,rfl,λp I=>by cases I;exact⟨(K _ G).2,_,hY,rfl⟩,λp I=>by cases I;exact⟨m,.slice _ _ _,rfl⟩,λf i=>?_⟩;rw[g f i];simp only[q,y i,Q,w,u,o,if_true,if_false];rfl
    .cases c
  .split at c
   next cap E=>
    split at c
    next J=>
     obtain⟨z,O,S⟩:=Dv.1 c;cases S;exact tz (K _ G).2 hY rfl λf i=>by simp_all
    next J=>
     split at c
     next u=>
      cases c;exact tv (by rw[g H λ_ _ _ h _=>h];simp_all) λf i=>by simp_all
     .cases c
   next cap E=>
    split at c
    next o=>
     cases c;exact tu (mk:=λk=>.slice (some ⟨k,0,le b.size⟩) (d+n) 0) m rfl (.slice _ _ _) λf i=>by simp_all
    .cases c
 .cases c
def PP{b:Prop}{C:ke}{t:TP}{d x:TR}{H:Tu}{F W:TC}(e:∀r∈C9 d,r∈F/\r∈W)(f:∀r∈C9 x,r∈F):FR b F W (HD C t d x) H:=by
 intro c v a;cases a
def MN{b:Prop}{C:ke}{t:TP}{x:TR}{H:Tu}{F W:TC}(d:∀r∈C9 x,r∈F/\r∈W):FR b F W (uD C t x) H:=by
 intro c v a;cases a
def MP{g:Prop}{C:ke}{t:TP}{id off:Nat}{x:TR}{H:Tu}{F W:TC}(h1:id∈F)(b:id∈W):FR g F W (jU C t id off x) H:=by
 intro i v a;unfold jU at a;split at a
 next k e hY=>
  obtain⟨h,f,d⟩:=Dv.1 a;cases d;refine tz b hY rfl λj c=>?_;unfold jU;simp only[gG c h1 hY,f,EA]
 .cases a
def ri{s:Prop}{C:ke}{t:TP}{m k x:TR}{H:Tu}{F W:TC}(q:∀r∈C9 m,r∈F/\r∈W):FR s F W (cG C t m k x) H:=by
 intro u v a;unfold cG at a;split at a
 case h_2=>cases a
 rename_i z y id l
 split at a
 .cases a
 rename_i d
 split at a
 .cases a
 rename_i w c g
 obtain⟨e,n⟩:=q id (by simp[C9]);have j:=(ir (λ_ _ _ h _=>h:jP F H H) e g).1;split at a
 .cases a
 next b=>
  cases a;refine tz n j rfl λo f=>?_;unfold cG;simp only[l,d,(ir f e g).2,b];rfl
 next i b=>
  split at a
  next p=>
   cases a;refine tz n j rfl λo f=>?_;unfold cG;simp only[l,d,(ir f e g).2,b,p];rfl
  .cases a
def MO{b:Prop}{C:ke}{t:TP}{m k:TR}{H:Tu}{F W:TC}(d:∀r∈C9 m,r∈F/\r∈W):FR b F W (iQ C t m k) H:=by
 intro c v a;cases a
def Bc{b:Prop}{m s x:TR}{H:Tu}{F W:TC}(d:∀r∈C9 m,r∈F/\r∈W):FR b F W (fE m s x) H:=by
 intro c v a;cases a
def Bb{b:Prop}{C:ke}{t:TP}{m k:TR}{H:Tu}{F W:TC}(d:∀r∈C9 m,r∈F/\r∈W):FR b F W (oR C t m k) H:=by
 intro c v a;cases a
def PQ{f:Prop}{C:ke}{t:TP}{l c:TR}{H:Tu}{F W:TC}(d:f):FR f F W (dz C t l c) H:=by
 intro j v a;unfold dz at a;split at a
 case h_2=>cases a
 rename_i i g e n o r
 split at a
 case h_2=>cases a
 rename_i b q
 split at a
 .cases a
 rename_i h
 split at a
 case h_2=>cases a
 rename_i z s
 split at a
 next p=>
  cases a;refine tu (mk:=λk=>.slice (some ⟨k,0,le b.size⟩) i.toNat (g.toNat+1)) d rfl (.slice _ _ _) λm _=>?_;unfold dz
  simp_all
 .cases a
def Bd{C:ke}{t:TP}{m k:TR}{ok:Bool}{H:Tu}{F:TC}(g:∀r∈C9 m,r∈F):YP F (dK C t m k ok) H:=by
 intro v a h e;unfold dK at a;unfold dK;split at a
 case h_2=>cases a
 rename_i o j l
 split at a
 .cases a
 rename_i b
 simp only[b];split at a
 .cases a
 rename_i z n
 split at a
 .exact a
 next id=>
  have d:=g id (by simp[C9]);split at a
  .cases a
  rename_i i c f
  simp only[(ir e d f).2];exact a
 .cases a
def Vr{C:ke}{t:TP}{a:Addr}{d c e:Tk}{H:Tu}{F:TC}(f:∀r∈C9 (.pointer (some a)),r∈F):YP F (lI C t a d c e) H:=by
 intro v b;cases b
end Sx
namespace Sx
def ER(a_:TC)(a:Tg)(o:Oper):TC:=(df a_ o).1.flatMap λx=>A6 (df a_ o).2 (a x)
def JE(a_:TC)(a:Tg)(o:Oper):TC:=(fh a_ o).flatMap λx=>C9 (a x)
def VS(N:Tc)(a_:TC)(o:Oper):Bool:=
 match az N a_ o with
 |some .hw=>(match o.op with
  | .call c=>(match c.callee with
   | .builtin _=>true
   |_=>false)
  |_=>true)
 |some .hr=>(match o.op with
  | .call c=>(match c.callee with
   | .builtin _=>true
   |_=>false)
  |_=>true)
 |some _=>true
 |none=>false
def dE{C:ke}{a:Tg}{o:Oper}{e:DM}(h:cI C a o=some e):∃v,e = .val v:=by
 unfold cI at h
 grind
def dN{x:Tk}{e:DM}(h:x.map DM.val=some e):∃v,e = .val v:=by
 obtain⟨v,_,rfl⟩:=Dv.1 h;exact⟨v,rfl⟩
def P_{a:Tk}{b:Option DM}{e:DM}(c:b=some e->∃v,e = .val v)(h:pQ a b=some e):∃v,e = .val v:=by
 unfold pQ at h
 grind
def YO(Q a:Prop)(F W:TC):DM->Prop
 | .F2 f=>∀H,FR a F W f H
 | .ET f=>∀H,YP F f H
 | .call _ _=>Q
 | .yield _ _=>Q
 |_=>True
def bX{Q a:Prop}{F W:TC}{e:DM}(h:∃v,e = .val v):YO Q a F W e:=by
 obtain⟨v,rfl⟩:=h;trivial
def jT{v:TR}{p:Nat×Nat}(h:iP v=some p):C9 v=[p.1]:=by
 unfold iP at h;split at h
 next a=>
  split at h
  next c=>
   cases h;cases b:a.spot with
   |none=>simp[C9,b]
   |some k=>simp_all
  .cases h
 .cases h
def zf{Q c:Prop}{C:ke}{a_:TC}{d:Tq}{t:TP}{v:TR}{e:DM}{F W:TC}(a:∀x,d=some x->a_.getD x 0≠x+2->c)(h:cH C a_ d t v=some e):YO Q c F W e:=by
 unfold cH at h;split at h
 .cases h
 .split at h
  .cases h
  .split at h
   .cases h
   .split at h
    .cases h;trivial
    next b=>
     cases h;exact λH=>wZ (a _ rfl b) (.cells v.cells.toList (mG C.P t) true) (λn=>.pointer (some ⟨n,0,none⟩)) rfl .ptr
def Ml{C:ke}{a_:TC}{u:Tg}{o:Oper}{e:DM}(g:ar C a_ u o=some e):YO (∃c f,o.op = .call c/\c.callee = .value f) (dv a_ o=true) (ER a_ u o) (JE a_ u o) e:=by
 unfold ar at g;split at g
 .cases g;trivial
 .cases g;trivial
 .split at g
  .cases g;trivial
  .cases g
 next t h=>
  obtain⟨z,_,g⟩:=EB.1 g;exact zf (λx F D=>by simp only[dv,h,F];cases O:Nat.beq (a_.getD x 0) (x+2)with
   |false=>rfl
   |true=>simp_all) g
 next t x h=>
  exact zf (λx F D=>by simp only[dv,h,F];cases O:Nat.beq (a_.getD x 0) (x+2)with
   |false=>rfl
   |true=>simp_all) g
 .split at g
  .exact bX (dN g)
  .cases g
 next t n V h=>
  split at g
  .obtain⟨r,_,rfl⟩:=Dv.1 g;exact λH=>wZ (by simp only[dv,h]) (.cells r.2 r.1 true) (λk=>.slice (some ⟨k,0,le r.1⟩) n (n+1)) rfl (.slice _ _ _)
  .cases g
 next t a h=>
  unfold dV at g;split at g
  next G=>
   split at g
   next p D=>
    cases g;intro H v E M J;obtain⟨P,B,K⟩:=EB.1 E;have L:p.1∈ER a_ u o:=by simp[ER,df,A6,h,G,jT D]
    refine EB.2 ⟨P,?_,K⟩;unfold gc at B ⊢;split at B
    next hY=>cases B;rw[gG J L hY]
    .cases B
   .obtain⟨p,_,rfl⟩:=Dv.1 g;exact λH v E M _=>E
  .obtain⟨p,_,g⟩:=EB.1 g;exact bX (dN g)
  .obtain⟨p,_,rfl⟩:=Dv.1 g;trivial
 next t a x h=>
  unfold fg at g;split at g
  .cases g
  .split at g
   next G=>
    obtain⟨p,D,rfl⟩:=Dv.1 g;exact λH=>MP (by simp[ER,df,A6,h,G,jT D]) (by simp[JE,fh,h,G,jT D])
   .cases g
   .obtain⟨p,_,rfl⟩:=Dv.1 g;trivial
 .split at g<;>cases g<;>trivial
 .split at g
  .split at g
   .split at g
    .cases g;trivial
    .cases g
   .exact bX (dE g)
  .split at g
   .split at g
    .cases g;trivial
    .cases g
   .exact bX (dE g)
  .exact bX (dE g)
 .split at g
  .cases g
  .cases g;trivial
 next t r h=>
  split at g
  .cases g;exact λH=>wZ (by simp only[dv,h]) (.map [] 0) (λn=>.map (some n)) rfl .map
  .cases g
 next t l c h=>
  cases g;exact λH=>PQ (by simp only[dv,h])
 next t x S Q T h=>
  split at g
  next a F=>
   split at g
   .exact bX (dN g)
   .cases g;exact λH=>Vr λr i=>by simp[ER,df,A6,U8,h,F];exact i
  .exact bX (P_ dE g)
 .exact bX (dN g)
 .exact bX (dN g)
 .exact bX (dN g)
 .exact bX (dN g)
 next t m k U h=>
  split at g
  .exact bX (dN g)
  .cases g;exact λH=>Bd λr i=>by simp[ER,df,A6,h];exact i
 next t m k v h=>
  cases g;exact λH=>ri λr i=>⟨by simp[ER,df,A6,h];exact i,by simp[JE,fh,h];exact i⟩
 next t m k v h=>
  cases g;exact λH=>ri λr i=>⟨by simp[ER,df,A6,h];exact i,by simp[JE,fh,h];exact i⟩
 next t m k h=>
  cases g;exact λH=>MO λr i=>⟨by simp[ER,df,A6,h];exact i,by simp[JE,fh,h];exact i⟩
 next t m s v h=>
  cases g;exact λH=>Bc λr i=>⟨by simp[ER,df,A6,h];exact i,by simp[JE,fh,h];exact i⟩
 .split at g
  .split at g
   .cases g
   .exact bX (dN g)
  .cases g
 next c h=>
  unfold gJ at g;simp only at g;cases j:c.callee with
  |invoke r m=>simp_all
  |builtin b=>
   simp only[j]at g;unfold aX at g;split at g
   next s x t y I=>
    split at g
    .cases g
    .cases g;have w:∃a b,c.args.toList=[a,b]/\u a=s/\u b=x:=by
      match c.args.toList,y with
      | [a,b],y=>grind
     obtain⟨a,b,q,rfl,rfl⟩:=w;exact λH=>Ba (by simp only[dv,h,j]) (λr i=>⟨by simp[ER,df,A6,h,j,q,i],by simp[JE,fh,h,j,q,i]⟩) λr i=>by simp[ER,df,A6,h,j,q,i]
   next x t y I=>
    split at g
    .cases g;trivial
    next id R=>
     cases g;have A:∃a,c.args.toList=[a]/\u a = .map (some id):=by
      simp_all
     obtain⟨a,q,N⟩:=A;intro H v E M J;obtain⟨p,B,K⟩:=Dv.1 E;have L:id∈ER a_ u o:=by simp[ER,df,A6,n8,h,j,q,N]
     exact Dv.2 ⟨p,(ir J L B).2,K⟩
    .cases g;trivial
    .exact bX (dE g)
   .split at g
    .cases g;trivial
    .cases g;trivial
    .cases g;trivial
    .cases g
   next d x t y I=>
    cases g;have w:∃a b,c.args.toList=[a,b]/\u a=d/\u b=x:=by
     match c.args.toList,y with
     | [a,b],y=>grind
    obtain⟨a,b,q,rfl,rfl⟩:=w;exact λH=>PP (λr i=>⟨by simp[ER,df,A6,h,j,q,i],by simp[JE,fh,h,j,q,i]⟩) λr i=>by simp[ER,df,A6,h,j,q,i]
   next m k t y I=>
    cases g;have w:∃a b,c.args.toList=[a,b]/\u a=m/\u b=k:=by
     match c.args.toList,y with
     | [a,b],y=>grind
    obtain⟨a,b,q,rfl,rfl⟩:=w;exact λH=>Bb λr i=>⟨by simp[ER,df,A6,h,j,q,i],by simp[JE,fh,h,j,q,i]⟩
   next x t y I=>
    cases g;have A:∃a,c.args.toList=[a]/\u a=x:=by
     simp_all
    obtain⟨a,q,rfl⟩:=A;exact λH=>MN λr i=>⟨by simp[ER,df,A6,h,j,q,i],by simp[JE,fh,h,j,q,i]⟩
   .exact bX (dE g)
  |value f=>
   simp only[j]at g;split at g
   .cases g
   .split at g
    .split at g
     .cases g;exact⟨c,f,h,j⟩
     .cases g
    .split at g
     .cases g;exact⟨c,f,h,j⟩
     .cases g
    .cases g
 .exact bX (dE g)
 .exact bX (dE g)
 .cases g
section
variable [Cf] {C:ke} {B:Below} {N:Tc} {a_:TC} {ops:To}
def rZ(N:Tc)(a_:TC)(ops:To)(o:Oper)(g9 i7:St):Prop:=
 (∀t∈bh ops o,i7.tmps[t]?=g9.tmps[t]?)/\(match az N a_ o with
 |some (.row s _)=>i7.loc[s]?=g9.loc[s]?
 |_=>True)/\jP (ER a_ (h9 g9.tmps) o) g9.heap i7.heap
def fD(dst:Tq)(e:CU)(rw:Option (Nat×Option (Tn)))(k:Ts)(i7:St):St:=
 ({ tmps:=i7.tmps,loc:=(match rw with|some p=>i7.loc.set p.1 p.2|none=>i7.loc),heap:=(match k with
  |none=>e.heap i7.heap
  |some k=>match e.push with
   |some p=>(e.put i7.heap).set k p.1
   |none=>e.put i7.heap) }:St).put dst (match k with
  |none=>e.val i7.heap.length
  |some k=>e.val k)
def MQ(U:DE N B){i:Nat}{o:Oper}(M:ops[i]?=some o)(y:VS N a_ o=true){g9 F:St}(t:ao C B a_ ops i g9 F) :
  ∃(e:CU) (rw:Option (Nat×Option (Tn))),F=fD o.dst e rw none g9/\(∀p,rw=some p->az N a_ o=some (.row p.1 true))/\(e.push≠none->az N a_ o=some .hw)/\
   (∀p,e.set=some p->p.1∈JE a_ (h9 g9.tmps) o/\∃x,g9.heap[p.1]?=some x/\x.alive=true)/\(∀p,e.push=some p->dv a_ o=true/\Dm p.2/\p.1.alive=true)/\
   ∀i7,rZ N a_ ops o g9 i7->∀n:Nat->Option Nat,
    (e.push=none->n i=none->dY C B a_ ops n i i7 (fD o.dst e rw none i7))/\
    (∀p k,e.push=some p->n i=some k->(e.put i7.heap)[k]?=some .dead->dY C B a_ ops n i i7 (fD o.dst e rw (some k) i7)):=by
 have E:az N a_ o≠none:=by intro h;unfold VS at y;rw[h]at y;cases y
 by_cases L:az N a_ o=some .hr∨az N a_ o=some .hw
 case neg=>
  obtain⟨e,I,J,K⟩:=ji U M E t;have W:e.hp=none:=by
   cases z:e.hp with
   |none=>rfl
   |some x=>exact absurd (.inr (J.2 (by rw[z];simp))) L
  have A:∀i7,e.on o.dst i7=fD o.dst ⟨none,none,e.v⟩ e.rw none i7:=λi7=>by
   unfold Ef.on fD;rw[W];rfl
  refine⟨⟨none,none,e.v⟩,e.rw,by rw[I,A],J.1,λh=>absurd rfl h,λp b=>(by cases b),λp b=>(by cases b),λi7 d n=>⟨λ_ m=>?_,λp k b=>(by cases b)⟩⟩;unfold dY;rw[m];rw[←A];refine K i7 ⟨d.1,?_⟩;have:=d.2.1
  grind
 case pos=>
  unfold ao at t;simp only[M]at t;have B9:∀i7,rZ N a_ ops o g9 i7->cv ops i7.tmps o=cv ops g9.tmps o:=λi7 d=>ym d.1;have val:∀v:Value,F=g9.put o.dst v->(∀i7,rZ N a_ ops o g9 i7->ao C B a_ ops i i7 (i7.put o.dst v))->
    ∃(e:CU) (rw:Option (Nat×Option (Tn))),F=fD o.dst e rw none g9/\(∀p,rw=some p->az N a_ o=some (.row p.1 true))/\(e.push≠none->az N a_ o=some .hw)/\
     (∀p,e.set=some p->p.1∈JE a_ (h9 g9.tmps) o/\∃x,g9.heap[p.1]?=some x/\x.alive=true)/\(∀p,e.push=some p->dv a_ o=true/\Dm p.2/\p.1.alive=true)/\
     ∀i7,rZ N a_ ops o g9 i7->∀n:Nat->Option Nat,
      (e.push=none->n i=none->dY C B a_ ops n i i7 (fD o.dst e rw none i7))/\
      (∀p k,e.push=some p->n i=some k->(e.put i7.heap)[k]?=some .dead->dY C B a_ ops n i i7 (fD o.dst e rw (some k) i7)):=by
   intro v u h;refine⟨⟨none,none,v⟩,none,u,λp b=>(by cases b),λh=>absurd rfl h,λp b=>(by cases b),λp b=>(by cases b),λi7 d n=>⟨λ_ m=>?_,λp k b=>(by cases b)⟩⟩;unfold dY;rw[m];exact h i7 d
  split at t
  .exact t.elim
  next X=>
   refine val undef t λi7 d=>?_;unfold ao
   simp_all
  next X=>
   have step:∀ {i7 G:St},rZ N a_ ops o g9 i7->((∃e,ar C a_ (h9 i7.tmps) o=some e/\mV B e o.dst i7 G)∨(∃v,nu C i7.tmps o v/\G=i7.put o.dst v))->ao C B a_ ops i i7 G:=by
    intro i7 G d h;unfold ao
    simp_all
   rcases t with⟨e,z,O⟩|⟨v,u,rfl⟩
   .have H:∀i7,rZ N a_ ops o g9 i7->ar C a_ (h9 i7.tmps) o=some e:=λi7 d=>by
     rw[oW N a_ E (zI d.1)];exact z
    have a:=iO (N:=N) (λ_=>rfl) E z;have j:=Ml z;cases e with
    |val v=>
     obtain⟨p,b,rfl⟩:=O;cases b;exact val v rfl λi7 d=>step d (.inl ⟨_,H i7 d,_,rfl,rfl⟩)
    |Fv s vs=>
     have a:az N a_ o=some (.row s true):=a
     simp_all
    |G4 s f=>
     have a:az N a_ o=some (.row s false):=a
     simp_all
    |Fw s f=>
     have a:az N a_ o=some (.row s true):=a
     simp_all
    |ET f=>
     obtain⟨p,b,rfl⟩:=O;simp only[aW]at b;obtain⟨v,u,rfl⟩:=Dv.1 b;refine val v rfl λi7 d=>step d (.inl ⟨_,H i7 d,(i7,v),?_,rfl⟩);simp only[aW,j _ _ u _ d.2.2,EA]
    |F2 f=>
     obtain⟨p,b,rfl⟩:=O;simp only[aW]at b;obtain⟨q,u,rfl⟩:=Dv.1 b;obtain⟨e,Z,l2,l3,P,Q⟩:=j g9.heap q.1 q.2 u;refine⟨e,none,?_,λp b=>(by cases b),λ_=>a,l3,P,λi7 d n=>⟨λb m=>?_,λp k b m V=>?_⟩⟩
     .unfold fD;rw[Z,l2]
     .unfold dY;rw[m];exact step d (.inl ⟨_,H i7 d,({ i7 with heap:=e.heap i7.heap },e.val i7.heap.length),by simp only[aW,Q _ d.2.2,EA],rfl⟩)
     .unfold dY;rw[m];refine⟨o,f,e.put i7.heap,p.1,p.2,M,by simp_all,H i7 d,?_,?_,V,(P p b).2.1,?_⟩
      .rw[Q _ d.2.2];unfold CU.heap CU.val;rw[b]
      .unfold CU.put;split<;>simp
      .unfold fD CU.val;rw[b]
    |call f r=>
     exfalso;have a:(az N a_ o=some (.neu f)/\N f=some (2*r.length))∨(az N a_ o=some .hr/\N f=some (2*r.length+1))∨az N a_ o=some .hw:=a;rcases a with⟨h,_⟩|⟨h,_⟩|h
     .simp_all
     .obtain⟨c,g,R,S⟩:=j;unfold VS at y
      simp_all
     .obtain⟨c,g,R,S⟩:=j;unfold VS at y
      simp_all
    |yield l r=>
     exfalso;have a:az N a_ o=some .hw:=a;obtain⟨c,g,R,S⟩:=j;unfold VS at y
     simp_all
   .refine val v rfl λi7 d=>step d (.inr ⟨v,?_,rfl⟩);obtain⟨I,J,K,T⟩:=u;have D:=zI d.1;refine⟨I,?_,K,λw=>?_⟩
    .simp_all
    .rw[execOp_congr N a_ E (s9:=λx=>FS (h9 g9.tmps x)) λx Y=>by rw[D x Y]];exact T w
end
end Sx
namespace Sx
section
variable [Cf] {C:ke} {B:Below} {N:Tc} {a_:TC} {ops:To}
def Eo(S:Nat->St->St->Prop):TC->St->St->Prop
 | [],g9,a=>a=g9
 |i :: l,g9,a=>∃i9,S i g9 i9/\Eo S l i9 a
def pK{S:Nat->St->St->Prop}{i:Nat}{post:TC}:∀(pre:TC),(∀k∈pre,∀g9 i9 a:St,S k g9 i9->S i i9 a->∃i7,S i g9 i7/\S k i7 a)->
  ∀g9 a:St,Eo S (pre++i :: post) g9 a->Eo S (i :: (pre++post)) g9 a
 | [],_,g9,a,h=>h
 |k :: pre,b,g9,a,⟨i9,h1,d⟩=>by
  obtain⟨c,e,f⟩:=pK pre (λk l=>b k (by simp[l])) i9 a d;obtain⟨i7,g,j⟩:=b k (by simp) g9 i9 c h1 e;exact⟨i7,g,c,j,f⟩
def yU{S:Nat->St->St->Prop}(b:∀(i:Nat) o,ops[i]?=some o->∀e∈o.after.toList,Region.binds .any e=true->e.on<i)
  (d:∀i k:Nat,i<ops.size->k<i->Iv ops k i∨∀g9 i9 f:St,S k g9 i9->S i i9 f->∃i7,S i g9 i7/\S k i7 f):∀(fuel t:Nat) (a:Array Bool),a.size=ops.size->(ED ops.size a).length=fuel->
  (∀(x:Nat) o,a.getD x true=true->ops[x]?=some o->∀e∈o.after.toList,Region.binds .any e=true->a.getD e.on false=true)->
  ∀g9 f:St,Eo S (ED ops.size a) g9 f->Eo S (Region.linearise.go .any ops fuel t a []) g9 f/\(Region.linearise.go .any ops fuel t a []).Nodup/\∀x∈Region.linearise.go .any ops fuel t a [],a.getD x true=false
 |0,t,a,_,Z,_,g9,f,h=>by
  have:ED ops.size a=[]:=NE.1 Z;rw[this]at h;simpa[Region.linearise.go]using h
 |fuel+1,t,a,V,Z,w,g9,f,h=>by
  simp only[Region.linearise.go];generalize E:((range ops.size).filter λi=>!a.getD i true&&((ops[i]?).map (·.after.all λe=>!Region.binds .any e||a.getD e.on false)).getD false)=rs;have l:∀i∈rs,i<ops.size/\a.getD i true=false/\∀o,ops[i]?=some o->∀e∈o.after.toList,Region.binds .any e=true->a.getD e.on false=true:=by
   intro i P;rw[←E,Ge,Cd]at P;obtain⟨h1,L⟩:=P;simp only[te,qB]at L;refine⟨h1,L.1,λo u e I H=>?_⟩;have M:=L.2;rw[u]at M;simp only[EA,QU]at M;rw[w1]at M
   grind
  have U:rs≠[]:=by
   have hu:ED ops.size a≠[]:=by grind
   obtain⟨F,tl,q⟩:=qc0 hu;have Q:F∈ED ops.size a:=by rw[q];simp
   have g:=Q;rw[ED,Ge,Cd]at g;have n:F∈rs:=by
    rw[←E,Ge,Cd];refine⟨g.1,?_⟩;simp only[te];refine⟨g.2,?_⟩;have u:ops[F]?=some ops[F]:=by simp[g.1]
    rw[u];simp only[EA,QU];rw[w1];intro e I;cases H:Region.binds .any e with
    |false=>simp
    |true=>
     have ag:=b F _ u e (by simpa using I) H;simp only[DJ,mH];by_cases ad:a.getD e.on true=true
     .grind
     .exfalso;have s:e.on∈ED ops.size a:=by
       rw[ED,Ge,Cd]
       grind
      rw[q]at s;rcases Dy.1 s with s|s
      .omega
      .have hs:(ED ops.size a).Pairwise (· < ·):=qcP _ m4;rw[q,Je]at hs
       grind
   grind
  have c:0<rs.length:=kE.2 U;have z:rs[t%rs.length]?=some (rs[t%rs.length]'(It _ c)):=FN (It _ c);rw[z];simp only;generalize P:rs[t%rs.length]'(It _ c)=i;have n:i∈rs:=by grind
  obtain⟨i1,i2,i3⟩:=l i n;rw[linearise_go_acc,List.reverse_singleton,List.singleton_append];have R:i∈(range ops.size).filter λj=>!a.getD j true:=by
   simp_all
  obtain⟨r,post,K,e2,e3⟩:=iL List.nodup_range R;have A:=mX K;have p:ED ops.size (a.setIfInBounds i true)=r++post:=by
   rw[←e2];unfold ED;refine qdd λj hj=>?_;rw[Wi,Wi,Yp]
   grind
  have T:=pK (S:=S) (i:=i) (post:=post) r (λk Y g9 i9 f W X=>by
   obtain⟨m1,m2⟩:=e3 k Y;rw[Ge,Cd]at m1;rcases d i k i1 (A k Y)with v|O
   .exfalso;have:=qG w v i3
    grind
   .exact O _ _ _ W X) g9 f
  obtain⟨i9,W,X⟩:=T (by rw[←K];exact h);obtain⟨r1,r2,r3⟩:=yU b d fuel (t / rs.length) (a.setIfInBounds i true) (by simp[V]) (by
    rw[p];have:(ED ops.size a).length=(r++post).length+1:=by
     show(List.filter _ _).length=_;rw[K];simp;omega
    omega) (by
    intro x o J u e I H;have G:∀y,a.getD y false=true->(a.setIfInBounds i true).getD y false=true:=by
     intro y hy;rw[Wi]at hy ⊢;rw[Yp]
     grind
    by_cases m:x=i
    .simp_all
    .refine G _ (w x o ?_ u e I H);rw[Wi,Yp,qs (λe=>m e.symm)]at J
     simp_all) i9 f (by rw[p];exact X)
  have D:∀x∈Region.linearise.go .any ops fuel (t / rs.length) (a.setIfInBounds i true) [],x≠i/\a.getD x true=false:=by
   intro x J;have:=r3 x J;rw[Wi,Yp]at this;by_cases m:i=x
   .simp_all
   .rw[qs m]at this;exact⟨De m,by simp_all⟩
  refine⟨⟨i9,W,r1⟩,nD.2 ⟨λs=>(D i s).1 rfl,r2⟩,λx J=>?_⟩
  grind
end
end Sx
namespace Sx
def fe(a:List (Nat×ra))(H:Tu):Tu:=a.foldl (λH p=>H.set p.1 p.2) H
def iZ:∀(a:List (Nat×ra)) (H:Tu),(fe a H).length=H.length
 | [],H=>rfl
 |p :: a,H=>by
  show(fe a (H.set p.1 p.2)).length=_;rw[iZ a];simp
def lH{r:Nat}:∀ {a:List (Nat×ra)} {H:Tu},(∀p∈a,p.1≠r)->(fe a H)[r]?=H[r]?
 | [],H,_=>rfl
 |p :: a,H,h=>by
  show(fe a (H.set p.1 p.2))[r]?=_;rw[lH λq b=>h q (E2 _ b),Ha (h p (by simp))]
def vZ{i:Nat}{x:ra}:∀ {a:List (Nat×ra)} {H:Tu},(∀p∈a,p.1≠i)->fe a (H.set i x)=(fe a H).set i x
 | [],H,_=>rfl
 |p :: a,H,h=>by
  show fe a ((H.set i x).set p.1 p.2)=(fe a (H.set p.1 p.2)).set i x;rw[List.set_comm _ _ (De (h p (by simp))),vZ λq b=>h q (E2 _ b)]
def jr:∀ {a b:List (Nat×ra)} {H:Tu},(∀p∈a,∀q∈b,p.1≠q.1)->fe a (fe b H)=fe b (fe a H)
 | [],b,H,_=>rfl
 |p :: a,b,H,h=>by
  show fe a ((fe b H).set p.1 p.2)=fe b (fe a (H.set p.1 p.2));rw[←vZ λq c=>De (h p (by simp) q c)];exact jr λq c=>h q (E2 _ c)
section
variable [Cf] {C:ke} {B:Below} {N:Tc} {a_:TC} {ops:To}
structure Rec where
 g9:St
 e:CU
 rw:Option (Nat×Option (Tn))
 k:Option Nat
def Rec.on(r:Rec)(o:Oper)(i7:St):St:=fD o.dst r.e r.rw r.k i7
def Rec.Jm(N:Tc)(a_:TC)(ops:To)(r:Rec)(o:Oper)(i7:St):Prop:=
 rZ N a_ ops o r.g9 i7/\∀k,r.k=some k->(r.e.put i7.heap)[k]?=some .dead
def Rec.slot(r:Rec):List (Nat×ra):=match r.k,r.e.push with
 |some k,some p=>[(k,p.1)]
 |_,_=>[]
def Rec.ws(r:Rec):List (Nat×ra):=r.e.set.toList++r.slot
structure Rec.Ok(C:ke)(B:Below)(N:Tc)(a_:TC)(ops:To)(i:Nat)(o:Oper)(r:Rec):Prop where
 row:∀p,r.rw=some p->az N a_ o=some (.row p.1 true)
 wr:∀p,r.e.set=some p->p.1∈JE a_ (h9 r.g9.tmps) o
 kp:r.k=none↔r.e.push=none
 fr:∀p,r.e.push=some p->Dm p.2/\az N a_ o=some .hw/\dv a_ o=true
 step:∀i7,r.Jm N a_ ops o i7->∀sl:Nat->Option Nat,sl i=r.k->dY C B a_ ops sl i i7 (r.on o i7)
def fc(e:CU)(H:Tu):e.put H=fe e.set.toList H:=by
 unfold CU.put;cases e.set<;>rfl
def gQ{r:Rec}{o:Oper}{i7:St}(h:r.k=none↔r.e.push=none):(r.on o i7).heap=fe r.ws i7.heap:=by
 unfold Rec.on fD;rw[lr];unfold Rec.ws Rec.slot;cases a:r.k with
 |none=>
  simp only[CU.heap,h.1 a,fc,GM]
 |some k=>
  cases b:r.e.push with
  |none=>simp_all
  |some p=>
   simp only[fc];show(fe r.e.set.toList i7.heap).set k p.1=_;unfold fe
   simp_all
def pP{r:Rec}{o:Oper}{i7:St}:(r.on o i7).loc=(match r.rw with|some p=>i7.loc.set p.1 p.2|none=>i7.loc):=by
 unfold Rec.on fD;rw[tO]
 all_goals grind
def Rec.val(r:Rec):Value:=match r.k with
 |some k=>r.e.val k
 |none=>r.e.v
def oq{r:Rec}{o:Oper}{i7:St}(h:r.k=none↔r.e.push=none):(r.on o i7).tmps=(match o.dst with|some d=>i7.tmps.set d r.val|none=>i7.tmps):=by
 unfold Rec.on fD;rw[tP];unfold Rec.val;cases a:r.k with
 |none=>simp only[CU.val,h.1 a];all_goals grind
 |some k=>cases o.dst<;>rfl
def H7:MC->MC->Bool
 | .row s w,.row a w'=>!Nat.beq s a||(!w && !w')
 |_,_=>true
def Rv(N:Tc)(a_:TC)(ops:To)(a b:Oper):Bool:=
 match az N a_ a,az N a_ b with
 |some m,some n=>H7 m n&&bv a.dst (bh ops b)&&bv b.dst (bh ops a)&&bf a.dst b.dst
 |_,_=>false
def qO{d:Tq}{l:TC}(a:bv d l=true):∀t∈l,∀x,d=some x->x≠t:=by
 intro t c x e b;subst e b;simp only[bv,qB,et,decide_eq_false_iff_not]at a;exact a c
def LU{a b:Oper}{m n:MC}{f rb:Rec}{G:Nat}(z:az N a_ a=some m)(A:az N a_ b=some n)(j:f.Ok C B N a_ ops G a)(g:H7 m n=true∨H7 n m=true)(D:bv a.dst (bh ops b)=true)
  (y:∀p∈f.ws,p.1∉ER a_ (h9 rb.g9.tmps) b) {i7:St}:rZ N a_ ops b rb.g9 (f.on a i7)↔rZ N a_ ops b rb.g9 i7:=by
 have v:∀t∈bh ops b,(f.on a i7).tmps[t]?=i7.tmps[t]?:=λt v=>by
  unfold Rec.on fD;exact tN λx i=>qO D t v x i
 have J:∀s w,az N a_ b=some (.row s w)->(f.on a i7).loc[s]?=i7.loc[s]?:=λs w u=>by
  rw[pP];cases k:f.rw with
  |none=>rfl
  |some p=>
   have o:=j.row p k;rw[z]at o;rw[A]at u;cases o;cases u;have:p.1≠s:=by
    intro E;subst E;rcases g with h|h<;>simp[H7]at h
   simp_all
 have q:∀r∈ER a_ (h9 rb.g9.tmps) b,(f.on a i7).heap[r]?=i7.heap[r]?:=λr d=>by
  rw[gQ j.kp];exact lH λp F e=>y p F (e▸d)
 constructor
 .rintro⟨H,I,l⟩;refine⟨λt h=>by simp_all,?_,λr d x i c=>by rw[←q r d];exact l r d x i c⟩
  grind
 .rintro⟨H,I,l⟩;refine⟨λt h=>by simp_all,?_,λr d x i c=>by rw[q r d];exact l r d x i c⟩
  grind
def dB{a b:Oper}{c rb:Rec}{P Q:Nat}(d:c.Ok C B N a_ ops P a)(f:rb.Ok C B N a_ ops Q b)(i:Rv N a_ ops a b=true)
  (M:∀p∈c.ws,p.1∉ER a_ (h9 rb.g9.tmps) b) (O:∀p∈rb.ws,p.1∉ER a_ (h9 c.g9.tmps) a) (r:∀p∈c.ws,∀q∈rb.ws,p.1≠q.1) {i7:St} (I:c.Jm N a_ ops a i7) (J:rb.Jm N a_ ops b (c.on a i7)) :
  rb.Jm N a_ ops b i7/\c.Jm N a_ ops a (rb.on b i7)/\rb.on b (c.on a i7)=c.on a (rb.on b i7):=by
 unfold Rv at i;split at i
 case h_2=>cases i
 rename_i m n z A
 simp only[te]at i;obtain⟨⟨⟨t,K⟩,L⟩,F⟩:=i;have S:=LU (rb:=rb) z A d (.inl t) K M (i7:=i7);have R:=LU (rb:=c) A z f (.inr t) L O (i7:=i7);refine⟨⟨S.1 J.1,λk h=>?_⟩,⟨R.2 I.1,λk h=>?_⟩,?_⟩
 .have o:=J.2 k h;have w:∃p,rb.e.push=some p:=by
   cases j:rb.e.push with
   |none=>rw[f.kp.2 j]at h;cases h
   |some p=>exact⟨p,rfl⟩
  obtain⟨p,j⟩:=w;have g:(k,p.1)∈rb.ws:=by simp[Rec.ws,Rec.slot,h,j]
  rw[gQ d.kp,fc,←jr (λq l s i e=>r q l s (Jf _ i) e),lH (λq l e=>r q l _ g e)]at o;rw[fc];exact o
 .have o:=I.2 k h;have v:∃p,c.e.push=some p:=by
   cases j:c.e.push with
   |none=>rw[d.kp.2 j]at h;cases h
   |some p=>exact⟨p,rfl⟩
  obtain⟨p,j⟩:=v;have g:(k,p.1)∈c.ws:=by simp[Rec.ws,Rec.slot,h,j]
  rw[gQ f.kp,fc,jr (λq l s i e=>r q (Jf _ l) s i e),lH (λq l e=>r _ g q l e.symm)];rw[fc]at o;exact o
 .have o:(rb.on b (c.on a i7)).tmps=(c.on a (rb.on b i7)).tmps:=by
   rw[oq f.kp,oq d.kp,oq d.kp,oq f.kp];cases D:a.dst with
   |none=>rfl
   |some x=>
    cases E:b.dst with
    |none=>rfl
    |some y=>
     rw[D,E]at F;have:x≠y:=by
      intro u;subst u;simp[bf]at F
     exact set_comm _ _ _ this
  have T:(rb.on b (c.on a i7)).loc=(c.on a (rb.on b i7)).loc:=by
   rw[pP,pP,pP,pP];cases D:c.rw with
   |none=>rfl
   |some p=>
    cases E:rb.rw with
    |none=>rfl
    |some q=>
     have G:=d.row p D;have H:=f.row q E;rw[z]at G;rw[A]at H;cases G;cases H;have:p.1≠q.1:=by
      intro u;rw[u]at t;simp[H7]at t
     exact set_comm _ _ _ this
  have U:(rb.on b (c.on a i7)).heap=(c.on a (rb.on b i7)).heap:=by
   rw[gQ f.kp,gQ d.kp,gQ d.kp,gQ f.kp];exact(jr r).symm
  generalize rb.on b (c.on a i7)=x at *;generalize c.on a (rb.on b i7)=y at *;cases x;simp_all
end
end Sx
namespace Sx
section
variable [Cf] {C:ke} {B:Below} {N:Tc} {a_:TC} {ops:To}
def St.Dh(g9:St)(m:Nat):St:=g9.pad (m - g9.heap.length)
def M'(N:Tc)(a_:TC)(ops:To)(a:Nat->Rec)(i:Nat)(i7 b:St):Prop:=∃o,ops[i]?=some o/\(a i).Jm N a_ ops o i7/\b=(a i).on o i7
def lG{D:Tu}:∀ {a:List (Nat×ra)} {H:Tu},(∀p∈a,p.1<H.length)->fe a (H++D)=fe a H++D
 | [],H,_=>rfl
 |p :: a,H,h=>by
  show fe a ((H++D).set p.1 p.2)=fe a (H.set p.1 p.2)++D;rw[qcS _ _ (h p (by simp)),lG λq b=>by
   grind]
structure RunOk(C:ke)(B:Below)(N:Tc)(a_:TC)(ops:To)(l:TC)(g9 i5:St)(rc:Nat->Rec):Prop where
 len:g9.heap.length<=i5.heap.length
 ok:∀i∈l,∀o,ops[i]?=some o->(rc i).Ok C B N a_ ops i o
 slot:∀i∈l,∀k,(rc i).k=some k->g9.heap.length<=k/\k<i5.heap.length
 inj:∀i∈l,∀j∈l,∀k,(rc i).k=some k->(rc j).k=some k->i=j
 i_:∀t,(∀j∈l,∀o,ops[j]?=some o->o.dst≠some t)->i5.tmps[t]?=g9.tmps[t]?
 args:∀i∈l,∀t,(∀j∈l,i<=j->∀o,ops[j]?=some o->o.dst≠some t)->i5.tmps[t]?=(rc i).g9.tmps[t]?
 res:∀i∈l,∀o d v,ops[i]?=some o->o.dst=some d->(∀j∈l,i<j->∀o,ops[j]?=some o->o.dst≠some d)->i5.tmps[d]?=some v->v=(rc i).val
 run:∀m,i5.heap.length<=m->Eo (M' N a_ ops rc) l (St.Dh g9 m) (St.Dh i5 m)
def Mm{dst:Tq}{e:CU}{rw:Option (Nat×Option (Tn))}{g9:St}:(fD dst e rw none g9).heap.length=g9.heap.length+(match e.push with|some _=>1|none=>0):=by
 unfold fD;rw[lr];simp only[CU.heap,CU.put]
 grind
def lT{dst:Tq}{e:CU}{rw:Option (Nat×Option (Tn))}{k:Ts}{g9:St}:(fD dst e rw k g9).tmps=(match dst with|some d=>g9.tmps.set d (match k with|none=>e.val g9.heap.length|some k=>e.val k)|none=>g9.tmps):=by
 unfold fD;rw[tP]
 all_goals grind
def Ws(F:DE N B){i:Nat}{o:Oper}(I:ops[i]?=some o)(G:VS N a_ o=true){g9 i9:St}(K:ao C B a_ ops i g9 i9) :
  ∃r:Rec,r.g9=g9/\r.Ok C B N a_ ops i o/\g9.heap.length<=i9.heap.length/\(∀k,r.k=some k->k=g9.heap.length/\k<i9.heap.length)/\
   (∀t,o.dst≠some t->i9.tmps[t]?=g9.tmps[t]?)/\(∀d v,o.dst=some d->i9.tmps[d]?=some v->v=r.val)/\
   ∀m,i9.heap.length<=m->r.Jm N a_ ops o (St.Dh g9 m)/\St.Dh i9 m=r.on o (St.Dh g9 m):=by
 obtain⟨e,rw,g,A,D,E,q,s⟩:=MQ (N:=N) F I G K;have b:i9.heap.length=g9.heap.length+(match e.push with|some _=>1|none=>0):=by rw[g];exact Mm
 refine⟨⟨g9,e,rw,match e.push with|some _=>some g9.heap.length|none=>none⟩,rfl,⟨A,λp a=>(E p a).1,?_,λp a=>⟨(q p a).2.1,D (by simp_all),(q p a).1⟩,?_⟩,by omega,?_,?_,?_,?_⟩
 .grind
 .intro y n z f;unfold Rec.on;simp only at f ⊢;cases a:e.push with
  |none=>
   rw[a]at f;exact(s y n.1 z).1 a f
  |some p=>
   rw[a]at f;refine(s y n.1 z).2 p _ a f (n.2 _ ?_);simp only[a]
 .grind
 .intro t L;rw[g];unfold fD;exact tN λx w e=>L (by rw[w,e])
 .intro d v H h;rw[g,lT,H]at h;simp only[GC]at h;split at h
  .split at h
   .cases h;unfold Rec.val;simp only[CU.val]
    grind
   .cases h
  simp_all
 .intro m R;have u:(St.Dh g9 m).heap=g9.heap++List.replicate (m - g9.heap.length) .dead:=rfl;have c:∀p∈e.set.toList,p.1<g9.heap.length:=λp a=>by
   grind
  refine⟨⟨⟨λt _=>rfl,?_,λr _ x w _=>?_⟩,λk j=>?_⟩,?_⟩
  .cases az N a_ o with
   |none=>trivial
   |some M=>cases M<;>first|trivial|rfl
  .grind
  .simp only at j;cases a:e.push with
   |none=>rw[a]at j;cases j
   |some p=>
    rw[a]at j b;cases j;simp only at b ⊢;rw[fc,u,lG c,Hb (by rw[iZ];omega),iZ,Wj,Yu,n_ (by omega)]
  · -- the same state
   have O:(St.Dh i9 m).tmps=((⟨g9,e,rw,match e.push with|some _=>some g9.heap.length|none=>none⟩ : Rec).on o (St.Dh g9 m)).tmps:=by
    show i9.tmps=_;unfold Rec.on;rw[g,lT,lT];show _=(match o.dst with|some d=>g9.tmps.set d _|none=>g9.tmps);cases o.dst with
    |none=>rfl
    |some d=>
     simp only[CU.val]
     grind
   have P:(St.Dh i9 m).loc=((⟨g9,e,rw,match e.push with|some _=>some g9.heap.length|none=>none⟩ : Rec).on o (St.Dh g9 m)).loc:=by
    show i9.loc=_;unfold Rec.on;rw[g];unfold fD;rw[tO,tO];rfl
   have e3:(St.Dh i9 m).heap=((⟨g9,e,rw,match e.push with|some _=>some g9.heap.length|none=>none⟩ : Rec).on o (St.Dh g9 m)).heap:=by
    show i9.heap++List.replicate (m - i9.heap.length) .dead=_;unfold Rec.on;have l:i9.heap=e.heap g9.heap:=by rw[g];unfold fD;rw[lr]
    unfold fD;rw[lr,u];cases a:e.push with
    |none=>
     rw[a]at b;simp only[a,CU.heap,fc]at l ⊢;rw[lG c,l];simp only[iZ]
    |some p=>
     rw[a]at b;simp only at b;simp only[a,CU.heap,fc]at l ⊢;rw[lG c,l];have J:m - g9.heap.length=(m - g9.heap.length - 1)+1:=by omega
     rw[J,o5];rw[ag _ _ (by grind),iZ,Wj,List.set_cons_zero]
     grind
   generalize Q:(⟨g9,e,rw,match e.push with|some _=>some g9.heap.length|none=>none⟩ : Rec).on o (St.Dh g9 m)=X at *;generalize St.Dh i9 m=Y at *;cases X;cases Y
   simp_all
def rL{S b:Nat->St->St->Prop}:∀ {l:TC},(∀i∈l,∀g9 a,S i g9 a->b i g9 a)->∀ {g9 a:St},Eo S l g9 a->Eo b l g9 a
 | [],_,_,_,h=>h
 |i :: l,c,g9,a,⟨i9,h1,d⟩=>⟨i9,c i (by simp) _ _ h1,rL (λj e=>c j (E2 _ e)) d⟩
def Lc(J:DE N B):∀(l:TC) (g9 u:St),l.Pairwise (· < ·)->(∀i∈l,∃o,ops[i]?=some o/\VS N a_ o=true)->bp C B a_ ops l g9 u->∃z:Nat->Rec,RunOk C B N a_ ops l g9 u z
 | [],g9,u,_,_,h=>by
  have:u=g9:=h;subst this;exact⟨λ_=>⟨u,⟨none,none,undef⟩,none,none⟩,x5 _,λ_ h=>(by cases h),λ_ h=>(by cases h),λ_ h=>(by cases h),λ_ _=>rfl,λ_ h=>(by cases h),λ_ h=>(by cases h),λ_ _=>rfl⟩
 |i :: l,g9,u,A,y,⟨O,P,Q⟩=>by
  obtain⟨o,E,S⟩:=y i (by simp);obtain⟨r,rfl,Z,T,G,r4,U,V⟩:=Ws J E S P;rw[Je]at A;obtain⟨z,R⟩:=Lc J l O u A.2 (λj a=>y j (E2 _ a)) Q;have F:∀j∈l,j≠i:=λj a e=>by grind
  have c:∀j∈l,(if j=i then r else z j)=z j:=λj a=>qs (F j a);refine⟨λj=>if j=i then r else z j,NG T R.len,?_,?_,?_,?_,?_,?_,?_⟩
  .intro j a q p;rcases Dy.1 a with rfl|a
   .simp_all
   .simp only[c j a];exact R.ok j a q p
  .intro j a k n;rcases Dy.1 a with rfl|a
   .simp only[if_true]at n;obtain⟨H,I⟩:=G k n;have:=R.len;omega
   .simp only[c j a]at n;have:=R.slot j a k n;omega
  .intro j a f b k n g;rcases Dy.1 a with q1|q1<;>rcases Dy.1 b with s|s
   .rw[q1,s]
   .simp only[q1,if_true]at n;simp only[c f s]at g;have H:=G k n;have I:=R.slot f s k g;omega
   .simp only[s,if_true]at g;simp only[c j q1]at n;have H:=G k g;have I:=R.slot j q1 k n;omega
   .simp only[c j q1]at n;simp only[c f s]at g;exact R.inj j q1 f s k n g
  .intro t D;rw[R.i_ t λj a=>D j (E2 _ a)]
   simp_all
  .intro j a t D;rcases Dy.1 a with rfl|a
   .simp only[if_true];have w:∀f∈l,∀q,ops[f]?=some q->q.dst≠some t:=λf b=>D f (E2 _ b) (cn (A.1 f b));rw[R.i_ t w]
    simp_all
   .simp only[c j a];exact R.args j a t λf b=>D f (E2 _ b)
  .intro j a q d v p K x M;rcases Dy.1 a with rfl|a
   .simp only[if_true];rw[E]at p;cases p;refine U d v K ?_;rw[←R.i_ d λf b=>x f (E2 _ b) (A.1 f b)];exact M
   .simp only[c j a];exact R.res j a q d v p K (λf b=>x f (E2 _ b)) M
  .intro m L;obtain⟨s1,s2⟩:=V m (NG R.len L);refine⟨St.Dh O m,⟨o,E,?_,?_⟩,?_⟩
   .simp_all
   .simp_all
   .refine rL (λj a W X h=>?_) (R.run m L);obtain⟨q,q1,s,Y⟩:=h;exact⟨q,q1,by simp_all,by simp_all⟩
end
end Sx
namespace Sx
section
variable [Cf] {C:ke} {B:Below} {N:Tc} {a_:TC} {ops:To}
def vY(o:Oper)(g9:St):CF N a_ ops o g9 g9:=by
 refine⟨λ_ _=>rfl,?_⟩
 grind
def Nb{o:Oper}{g9 i7:St}(h:CF N a_ ops o g9 i7):CF N a_ ops o i7 g9:=by
 refine⟨λt a=>(h.1 t a).symm,?_⟩;have h:=h.2
 grind
def fy{o:Oper}{g9 i7 b:St}(h:CF N a_ ops o g9 i7)(h':CF N a_ ops o i7 b):CF N a_ ops o g9 b:=by
 refine⟨λt a=>(h'.1 t a).trans (h.1 t a),?_⟩;have h:=h.2;have h':=h'.2;cases c:az N a_ o with
 |none=>trivial
 |some m=>rw[c]at h h';cases m<;>first|trivial|exact h'.trans h
structure Loc(C:ke)(B:Below)(N:Tc)(a_:TC)(ops:To)(j:Nat)(b:Oper)(f:Ef)(i7 m8:St):Prop where
 is:m8=f.on b.dst i7
 tc:ur (az N a_ b) f
 st:∀j6,CF N a_ ops b i7 j6->ao C B a_ ops j j6 (f.on b.dst j6)
def qv(N:Tc)(a_:TC)(ops:To)(a b:Oper):Bool:=
 match az N a_ a,az N a_ b with
 |some m,some n=>m.ok2 n&&bv a.dst (bh ops b)&&bv b.dst (bh ops a)&&bf a.dst b.dst
 |_,_=>false
def Ar{i j:Nat}{a b:Oper}{e f:Ef}(d:qv N a_ ops a b=true){i7 g q:St}(h1:Loc C B N a_ ops i a e i7 g)(c:Loc C B N a_ ops j b f g q) :
  Loc C B N a_ ops j b f i7 (f.on b.dst i7)/\Loc C B N a_ ops i a e (f.on b.dst i7) q/\CF N a_ ops b g i7:=by
 unfold qv at d;split at d
 next m n k l=>
  simp only[te]at d;obtain⟨⟨⟨h,s⟩,t⟩,u⟩:=d;have r:CF N a_ ops b g i7:=by
   rw[h1.is];exact Nb (AA k l (.inl h) s h1.tc i7)
  have v:CF N a_ ops a i7 (f.on b.dst i7):=AA l k (.inr h) t c.tc i7;refine⟨⟨rfl,c.tc,λo p=>c.st o (fy r p)⟩,⟨?_,h1.tc,λo p=>h1.st o (fy v p)⟩,r⟩;rw[c.is,h1.is];exact KT k l h u h1.tc c.tc i7
 .cases d
def Fz(N:Tc)(a_:TC)(ops:To)(a b:Oper):Bool:=
 (match az N a_ a with
 |some .hr=>true
 |_=>false)&&((match az N a_ b with
 |some .hw=>true
 |_=>false)&&(bv a.dst (bh ops b)&&(bv b.dst (bh ops a)&&(bv a.dst (bh ops a)&&bf a.dst b.dst))))
def iH{o:Oper}(b:az N a_ o=some .hr){e:Ef}(a:ur (az N a_ o) e):e.rw=none/\e.hp=none:=by
 rw[b]at a;constructor
 .cases h:e.rw with
  |none=>rfl
  |some p=>have:=a.1 p h;cases this
 .cases h:e.hp with
  |none=>rfl
  |some p=>have:=a.2 (by rw[h];simp);cases this
def ij{e:Ef}{d:Tq}{g9:St}{t:Nat}(h:∀x,d=some x->x≠t):(e.on d g9).tmps[t]?=g9.tmps[t]?:=by
 unfold Ef.on;exact tN h
def bN{d:Tq}{l:TC}(h:bv d l=true){t:Nat}(a:t∈l):∀x,d=some x->x≠t:=by
 intro x b e;subst e;rw[b]at h;simp only[bv,qB,et,decide_eq_false_iff_not]at h;exact h a
def LG{k i:Nat}{a b:Oper}{e f:Ef}(n:Fz N a_ ops a b=true){i7 j d:St}(h1:Loc C B N a_ ops k a e i7 j)(m:Loc C B N a_ ops i b f j d)(z:∀c,CF N a_ ops a d c->ao C B a_ ops k c (e.on a.dst c)) :
  Loc C B N a_ ops i b f i7 (f.on b.dst i7)/\Loc C B N a_ ops k a e (f.on b.dst i7) d/\CF N a_ ops a d (f.on b.dst i7):=by
 unfold Fz at n;simp only[te]at n;obtain⟨H,I,u,J,v,q⟩:=n;have D:az N a_ a=some .hr:=by
  grind
 have E:az N a_ b=some .hw:=by
  grind
 obtain⟨w,r⟩:=iH D h1.tc;have g:∀l:St,(e.on a.dst l).heap=l.heap:=λl=>by rw[dW,r];rfl
 have G:CF N a_ ops b j i7:=by
  refine⟨λt o=>?_,?_⟩
  .rw[h1.is];exact(ij (bN u o)).symm
  .rw[E];show i7.heap=j.heap;rw[h1.is,g]
 have h:d=e.on a.dst (f.on b.dst i7):=by
  rw[m.is,h1.is];have K:(f.on b.dst (e.on a.dst i7)).tmps=(e.on a.dst (f.on b.dst i7)).tmps:=by
   simp only[mh];cases h:a.dst with
   |none=>rfl
   |some x=>
    cases F:b.dst with
    |none=>rfl
    |some y=>
     rw[h,F]at q;have:x≠y:=by intro A;subst A;simp[bf]at q
     exact set_comm _ _ _ this
  have L:(f.on b.dst (e.on a.dst i7)).loc=(e.on a.dst (f.on b.dst i7)).loc:=by
   simp only[zD,w]
  have M:(f.on b.dst (e.on a.dst i7)).heap=(e.on a.dst (f.on b.dst i7)).heap:=by
   simp only[dW,r,qdo]
  generalize f.on b.dst (e.on a.dst i7)=x at *;generalize e.on a.dst (f.on b.dst i7)=y at *;cases x;simp_all
 have s:CF N a_ ops a d (f.on b.dst i7):=by
  rw[h];refine⟨λt o=>(ij (bN v o)).symm,?_⟩
  simp_all
 exact⟨⟨rfl,m.tc,λc p=>m.st c (fy G p)⟩,⟨h,h1.tc,λc p=>z c (fy s p)⟩,s⟩
def Wv(q:Nat->Nat->Oper->Oper->Bool)(j:Nat)(b:Oper)(m:Nat):TA->Nat->Bool
 | [],_=>true
 |a :: l,n=>(Nat.testBit m n||q n j a b)&&Wv q j b m l (n+1)
def xH(q:Nat->Nat->Oper->Oper->Bool)(ms:TC):TA->TA->Nat->Bool
 |_,[],_=>true
 |pre,b :: l,i=>Wv q i b (ms.getD i 0) pre 0&&xH q ms (pre++[b]) l (i+1)
def Lg{q:Nat->Nat->Oper->Oper->Bool}{i:Nat}{b:Oper}{m:Nat}:∀ {l:TA} {k:Nat},Wv q i b m l k=true->∀(j:Nat) a,l[j]?=some a->m.testBit (k+j)=true∨q (k+j) i a b=true
 | [],k,_,j,a,h=>by simp at h
 |a :: l,k,h,j,c,d=>by
  simp only[Wv,te,Gd]at h;cases j with
  |zero=>simp_all
  |succ j=>
   have:=Lg h.2 j c (by simpa using d)
   grind
def tH{q:Nat->Nat->Oper->Oper->Bool}{ms:TC}:∀ {l pre:TA} {i:Nat},pre.length=i->xH q ms pre l i=true->∀(j:Nat) b,l[j]?=some b->∀(k:Nat) a,k<i+j->(pre++l)[k]?=some a->(ms.getD (i+j) 0).testBit k=true∨q k (i+j) a b=true
 | [],pre,i,_,_,j,b,h,_,_,_,_=>by simp at h
 |b :: l,pre,i,f,h,j,c,e,k,a,g,d=>by
  simp only[xH,te]at h;cases j with
  |zero=>
   simp at e;subst e;rw[GD (by omega)]at d;have:=Lg h.1 k a d;simpa using this
  |succ j=>
   have:=tH (pre:=pre++[b]) (i:=i+1) (by simp[f]) h.2 j c (by simpa using e) k a (by omega) (by simpa using d)
   grind
def SZ(q:Nat->Oper->Bool):TA->Nat->Bool
 | [],_=>true
 |b :: l,i=>q i b&&SZ q l (i+1)
def JN{q:Nat->Oper->Bool}:∀ {l:TA} {i:Nat},SZ q l i=true->∀(j:Nat) b,l[j]?=some b->q (i+j) b=true
 | [],i,_,j,b,h=>by simp at h
 |a :: l,i,h,j,b,c=>by
  simp only[SZ,te]at h;cases j with
  |zero=>simp_all
  |succ j=>
   have:=JN h.2 j b (by simpa using c)
   grind
def T1(N:Tc)(a_:TC)(ops:To)(k i n j:Nat)(a b:Oper):Bool:=
 match Nat.beq j i,Nat.beq n i with
 |true,_=>Nat.beq n k
 |_,true=>false
 |_,_=>qv N a_ ops a b
def wg(N:Tc)(a_:TC)(ops:To)(k i:Nat):Bool:=
 fC ops.toList 0&&(Nat.blt k i&&(ops.toList.all (λo=>(az N a_ o).isSome)&&(xH (T1 N a_ ops k i) (E' ops.toList []) [] ops.toList 0 &&
  match ops[k]?,ops[i]? with
  |some a,some b=>Fz N a_ ops a b&&(a.dst.isSome&&SZ (λj o=>Nat.beq j k||bv o.dst a.dst.toList) ops.toList 0)
  |_,_=>false)))
def nh(k:DE N B)(a:∀(j:Nat) b,ops[j]?=some b->az N a_ b≠none){j:Nat}{b:Oper}(c:ops[j]?=some b){i7 d:St}(h:ao C B a_ ops j i7 d):∃f,Loc C B N a_ ops j b f i7 d:=by
 obtain⟨f,e,g,i⟩:=ji k c (a j b c) h;exact⟨f,e,g,i⟩
def Ju(C:ke)(B:Below)(N:Tc)(a_:TC)(ops:To)(k i:Nat)(a:Oper)(e:Ef)(j:Nat)(i7 d:St):Prop:=
 ∃b f,ops[j]?=some b/\Loc C B N a_ ops j b f i7 d/\(j=k->f=e)/\(j=i->∀c,CF N a_ ops a d c->ao C B a_ ops k c (e.on a.dst c))
def Rk{k i:Nat}{a b:Oper}{e:Ef}(H:ops[k]?=some a)(I:ops[i]?=some b)(r:Fz N a_ ops a b=true)(L:xH (T1 N a_ ops k i) (E' ops.toList []) [] ops.toList 0=true)(j n:Nat)(K:j<ops.size)(Q:n<j) :
  Iv ops n j∨∀i7 t s:St,Ju C B N a_ ops k i a e n i7 t->Ju C B N a_ ops k i a e j t s->∃p,Ju C B N a_ ops k i a e j i7 p/\Ju C B N a_ ops k i a e n p s:=by
 have m:ops[j]?=some ops[j]:=by simp[K]
 have o:ops[n]?=some (ops[n]'(by omega)):=by simp_all
 generalize ops[j]=y at m;generalize ops[n]'(by omega)=x at o;have d:=tH (pre:=[]) (i:=0) rfl L j y (by simpa using m) n x (by omega) (by simpa using o);rw[EM]at d;rcases d with d|d
 .exact .inl (oG ops.toList [] rfl (λi k h=>by simp at h) j n d)
 right;rintro i7 t s ⟨R,f,w,z,A,P⟩ ⟨S,g,D,E,F,G⟩;rw[o]at w;cases w;rw[m]at D;cases D;unfold T1 at d;cases c:Nat.beq j i with
 |true=>
  rw[c]at d;have c:=Dp c;have q:=Dp d;subst c q;rw[H]at o;cases o;rw[I]at m;cases m;obtain rfl:=A rfl;obtain⟨u,v,O⟩:=LG r z E (G rfl);exact⟨_,⟨_,g,I,u,F,λ_ p M=>G rfl p (fy O M)⟩,_,f,H,v,λ_=>rfl,λJ=>absurd J (by omega)⟩
 |false=>
  rw[c]at d;cases l:Nat.beq n i with
  |true=>simp_all
  |false=>
   rw[l]at d;have d:qv N a_ ops x y=true:=d;have c:j≠i:=λh=>by simp_all
   have l:n≠i:=λh=>by simp_all
   obtain⟨u,v,_⟩:=Ar d z E;exact⟨_,⟨y,g,m,u,F,λh=>absurd h c⟩,x,f,o,v,A,λh=>absurd h l⟩
def KW{b c:TC}:∀ {g9 a:St},bp C B a_ ops (b++c) g9 a->∃i9,bp C B a_ ops b g9 i9/\bp C B a_ ops c i9 a:=by
 induction b with
 |nil=>intro g9 a h;exact⟨g9,rfl,h⟩
 |cons x l i=>
  rintro g9 a ⟨i9,d,e⟩;obtain⟨j,f,g⟩:=i e;exact⟨j,⟨i9,d,f⟩,g⟩
def xU{S:Nat->St->St->Prop}{d e:TC}:∀ {g9 i9 a:St},Eo S d g9 i9->Eo S e i9 a->Eo S (d++e) g9 a:=by
 induction d with
 |nil=>intro g9 i9 a b c;cases b;exact c
 |cons x l g=>
  rintro g9 i9 a ⟨h,b,f⟩ c;exact⟨h,b,g f c⟩
def mj{S:Nat->St->St->Prop}(b:∀i g9 a,S i g9 a->ao C B a_ ops i g9 a):∀ {l:TC} {g9 a:St},Eo S l g9 a->bp C B a_ ops l g9 a
 | [],_,_,h=>h
 |_ :: _,_,_,⟨i9,h1,c⟩=>⟨i9,b _ _ _ h1,mj b c⟩
def jp{S:Nat->St->St->Prop}:∀ {l:TC},(∀i∈l,∀g9 a,ao C B a_ ops i g9 a->S i g9 a)->∀ {g9 a:St},bp C B a_ ops l g9 a->Eo S l g9 a
 | [],_,_,_,h=>h
 |_ :: _,b,_,_,⟨i9,h1,c⟩=>⟨i9,b _ (by simp) _ _ h1,jp (λi d=>b i (E2 _ d)) c⟩
def zH(g:DE N B)(a:∀(j:Nat) b,ops[j]?=some b->az N a_ b≠none){d:Nat}:∀ {l:TC},(∀j∈l,∀b,ops[j]?=some b->∀x,b.dst=some x->x≠d)->∀ {g9 e:St},bp C B a_ ops l g9 e->e.tmps[d]?=g9.tmps[d]?
 | [],_,_,_,h=>by cases h;rfl
 |j :: l,k,g9,e,⟨i9,h1,m⟩=>by
  rw[zH g a (λi o=>k i (E2 _ o)) m];cases c:ops[j]? with
  |none=>
   have:i9=g9:=by simpa[ao,c]using h1
   rw[this]
  |some b=>
   obtain⟨f,n⟩:=nh g a c h1;rw[n.is];exact ij (k j (by simp) b c)
def S5(D:DE N B){k i:Nat}(q:wg N a_ ops k i=true){g9 i9 n9 M:St}(h1:bp C B a_ ops (List.range' 0 (ops.toList.take (i+1)).length) g9 i9)(h2:ao C B a_ ops k i9 n9)(hs:GU ops k i9 n9)
  (h3:bp C B a_ ops (List.range' (i+1) (ops.toList.drop (i+1)).length) i9 M):eo C B a_ ops g9 M:=by
 unfold wg at q;simp only[te]at q;obtain⟨g1,g2,g3,g4,K⟩:=q;have ag:k<i:=by simp_all
 have c:∀(j:Nat) b,ops[j]?=some b->az N a_ b≠none:=by
  grind
 split at K
 case h_2=>cases K
 rename_i a b E y
 simp only[te]at K;obtain⟨u,Q,g6⟩:=K;obtain⟨d,L⟩:=xT.1 Q;have hi:i<ops.size:=(Is.1 y).1;have ht:(ops.toList.take (i+1)).length=i+1:=by simp;omega
 rw[ht]at h1;have I:List.range' 0 (i+1)=List.range' 0 k++(k :: (List.range' (k+1) (i - k - 1)++[i])):=by
  have e1:List.range' 0 (i+1)=List.range' 0 k++List.range' (0+k) (i+1 - k):=by rw[qcR];congr 1;omega
  have e2:List.range' (0+k) (i+1 - k)=k :: List.range' (k+1) (i - k):=by
   rw[show i+1 - k=(i - k)+1 by omega,r4,EM]
  have e3:List.range' (k+1) (i - k)=List.range' (k+1) (i - k - 1)++[i]:=by
   have:List.range' (k+1) (i - k)=List.range' (k+1) (i - k - 1)++List.range' (k+1+(i - k - 1)) 1:=by rw[qcR];congr 1;omega
   grind
  rw[e1,e2,e3]
 rw[I]at h1;obtain⟨B7,p1,P,p2,p3⟩:=KW h1;obtain⟨B8,p4,Ca,p5,p6⟩:=KW p3;cases p6;obtain⟨e,F⟩:=nh D c E p2;have hm:az N a_ a=some .hr:=by
  have u:=u;unfold Fz at u
  grind
 obtain⟨e1,e2⟩:=iH hm F.tc;have r:∀j,j≠k->∀b,ops[j]?=some b->∀x,b.dst=some x->x≠d:=by
  intro j ad b p x hx;have:=JN g6 j b (by simpa using p);rw[EM]at this;cases V:Nat.beq j k with
  |true=>simp_all
  |false=>
   rw[V,mH,L]at this;exact bN this (by simp) x hx
 have w:i9.tmps[d]?=P.tmps[d]?:=by
  have:bp C B a_ ops (List.range' (k+1) (i - k - 1)++[i]) P i9:=p3;refine zH D c (λj p=>r j ?_) this
  grind
 obtain⟨g,T⟩:=nh D c E h2;obtain⟨f1,f2⟩:=iH hm T.tc;have U:g=e:=by
  obtain⟨a',d',x,Y,J,A,Z⟩:=hs;rw[E]at Y;cases Y;rw[L]at J;cases J;rw[T.is,mh,L]at Z;simp only[GC]at Z;rw[n_ trivial,n_ (x0.1 A).1]at Z;rw[w,F.is,mh,L]at A;simp only[GC]at A;rw[n_ trivial]at A;split at A
  .cases g;cases e
   simp_all
  .cases A
 subst U;have l:∀j,j≠k->j≠i->j<ops.size->∀z O,ao C B a_ ops j z O->Ju C B N a_ ops k i a g j z O:=by
  intro j hk W p z O h;have G:ops[j]?=some ops[j]:=by simp[p]
  obtain⟨f,R⟩:=nh D c G h;exact⟨_,f,G,R,λh=>absurd h hk,λh=>absurd h W⟩
 have H:Eo (Ju C B N a_ ops k i a g) (range ops.size) g9 M:=by
  have e0:range ops.size=List.range' 0 (i+1)++List.range' (i+1) (ops.toList.drop (i+1)).length:=by
   have:(ops.toList.drop (i+1)).length=ops.size - (i+1):=by simp
   rw[this,Yv];have:=qcR (s:=0) (m:=i+1) (n:=ops.size - (i+1))
   grind
  rw[e0,I];refine xU (xU (i9:=B7) (jp (λj p=>?_) p1) ⟨P,⟨a,g,E,F,λ_=>rfl,λh=>absurd h (by omega)⟩,xU (i9:=B8) (jp (λj p=>?_) p4) ⟨i9,?_,rfl⟩⟩) (jp (λj p=>?_) h3)
  .rw[qde]at p;exact l j (by omega) (by omega) (by omega)
  .rw[qde]at p;exact l j (by omega) (by omega) (by omega)
  .obtain⟨f,R⟩:=nh D c y p5;exact⟨b,f,y,R,λh=>absurd h (by omega),λ_=>T.st⟩
  .rw[qde]at p;have:(ops.toList.drop (i+1)).length=ops.size - (i+1):=by simp
   exact l j (by omega) (by omega) (by omega)
 have v:∀(i:Nat) o,ops[i]?=some o->∀e∈o.after.toList,Region.binds .any e=true->e.on<i:=by
  intro i o X e F y;have:=ep g1 i o (by simpa using X) e F y;omega
 have hz:ED ops.size (Array.replicate ops.size false)=range ops.size:=by
  unfold ED
  simp_all
 refine .inl λt=>?_;obtain⟨r1,_,_⟩:=yU (S:=Ju C B N a_ ops k i a g) v (λj n p hn=>Rk E y u g4 j n p hn) ops.size t (Array.replicate ops.size false) (by simp) (by rw[hz];simp) (λx o hx X=>by
  have al:x<ops.size:=(Is.1 X).1
  simp_all) g9 M (by rw[hz];exact H)
 refine mj (λj z O hS=>?_) r1;obtain⟨b',f,Y,J,_,_⟩:=hS;rw[J.is];exact J.st z (vY b' z)
end
end Sx
namespace Sx
section
variable [Cf] {C:ke} {B:Below} {N:Tc} {a_:TC} {ops:To}
def Bl{a b:Tq}(i:bf a b=true){e f:Ef}(h:e.rw=none)(d:e.hp=none)(i7:St):f.on b (e.on a i7)=e.on a (f.on b i7):=by
 have g:∀c:St,(e.on a c).heap=c.heap:=λc=>by rw[dW,d];rfl
 have k:(f.on b (e.on a i7)).tmps=(e.on a (f.on b i7)).tmps:=by
  simp only[mh];cases a with
  |none=>rfl
  |some x=>
   cases b with
   |none=>rfl
   |some y=>
    have:x≠y:=by intro j;subst j;simp[bf]at i
    exact set_comm _ _ _ this
 have l:(f.on b (e.on a i7)).loc=(e.on a (f.on b i7)).loc:=by
  simp only[zD,h]
 have m:(f.on b (e.on a i7)).heap=(e.on a (f.on b i7)).heap:=by
  simp only[dW,d,qdo]
 generalize f.on b (e.on a i7)=x at *;generalize e.on a (f.on b i7)=y at *;cases x;simp_all
def xQ{a b:Oper}(c:Fz N a_ ops a b=true):az N a_ a=some .hr/\az N a_ b=some .hw/\bv a.dst (bh ops b)=true/\bv b.dst (bh ops a)=true/\bv a.dst (bh ops a)=true/\bf a.dst b.dst=true:=by
 unfold Fz at c
 grind
def WL{k i:Nat}{a b:Oper}{e f:Ef}(p:Fz N a_ ops b a=true){i7 j h:St}(h1:Loc C B N a_ ops k a e i7 j)(d:Loc C B N a_ ops i b f j h)(o:∀c,CF N a_ ops b i7 c->ao C B a_ ops i c (f.on b.dst c)) :
  Loc C B N a_ ops i b f i7 (f.on b.dst i7)/\Loc C B N a_ ops k a e (f.on b.dst i7) h:=by
 obtain⟨q,r,l,v,w,m⟩:=xQ p;obtain⟨n,g⟩:=iH q d.tc;refine⟨⟨rfl,d.tc,o⟩,⟨?_,h1.tc,λc u=>h1.st c (fy ⟨λt s=>ij (bN l s),?_⟩ u)⟩⟩
 .rw[d.is,h1.is];exact(Bl m n g i7).symm
 .rw[r];show(f.on b.dst i7).heap=i7.heap;rw[dW,g];rfl
def HS(k i:Nat):List (Nat×Nat)->Bool
 | []=>false
 |p :: l=>match Nat.beq p.1 k,Nat.beq p.2 i with
  |true,true=>true
  |_,_=>HS k i l
def tB{k i:Nat}:∀ {l:List (Nat×Nat)},HS k i l=true->(k,i)∈l
 | [],h=>by cases h
 |p :: l,h=>by
  unfold HS at h;split at h
  next h1 a=>
   rw[←Dp h1,←Dp a]
   grind
  .exact E2 _ (tB h)
def BO(N:Tc)(a_:TC)(ops:To)(c:List (Nat×Nat))(n j:Nat)(a b:Oper):Bool:=
 qv N a_ ops a b||((Fz N a_ ops a b&&HS n j c)||(Fz N a_ ops b a&&HS j n c))
def WI(ops:To):TA->Bool
 | []=>true
 |b :: l=>bv b.dst (bh ops b)&&((l.all λa=>bv a.dst (bh ops b)&&bf a.dst b.dst)&&WI ops l)
def zk(N:Tc)(a_:TC)(ops:To)(a:List (Nat×Nat)):Bool:=
 fC ops.toList 0&&(ops.toList.all (λo=>(az N a_ o).isSome)&&(WI ops ops.toList&&xH (BO N a_ ops a) (E' ops.toList []) [] ops.toList 0))
def yg:∀ {l:TA},WI ops l=true->∀(j:Nat) b,l[j]?=some b->∀(n:Nat) a,l[n]?=some a->(j<=n->bv a.dst (bh ops b)=true)/\(j<n->bf a.dst b.dst=true)
 | [],_,j,b,h,_,_,_=>by simp at h
 |c :: l,h,j,b,e,n,a,f=>by
  simp only[WI,te,A5]at h;obtain⟨h1,g,d⟩:=h;cases j with
  |zero=>
   grind
  |succ j=>
   cases n with
   |zero=>omega
   |succ n=>
    have:=yg d j b (by simpa using e) n a (by simpa using f)
    simp_all
def YK{c:St}:∀(m i:Nat) (i7:St) (a:List (Tu)),Fk C B a_ ops (List.range' i m) i7 a c->
  ∃st:Nat->St,st i=i7/\st (i+m)=c/\(∀j,i<=j->j<i+m->ao C B a_ ops j (st j) (st (j+1)))/\∀j,j<m->a[j]?=some (st (i+j+1)).heap
 |0,i,i7,a,h=>by
  obtain⟨_,rfl⟩:=h;exact⟨λ_=>c,rfl,rfl,λj _ _=>absurd (show j<i+0 by assumption) (by omega),λj d=>absurd d (by omega)⟩
 |m+1,i,i7,a,h=>by
  rw[r4]at h;obtain⟨l,b,n,e,g⟩:=h;subst e;obtain⟨st,o,p,q,r⟩:=YK m (i+1) l b g;refine⟨λj=>if j=i then i7 else st j,by simp,?_,λj f k=>?_,λj d=>?_⟩
  .grind
  .grind
  grind
def I4(C:ke)(B:Below)(N:Tc)(a_:TC)(ops:To)(e:Nat->Ef)(st:Nat->St)(c:St)(j:Nat)(i7 a:St):Prop:=
 ∃b,ops[j]?=some b/\Loc C B N a_ ops j b (e j) i7 a/\(∀t∈bh ops b,i7.tmps[t]?=c.tmps[t]?)/\(az N a_ b=some .hw->i7.heap=(st j).heap/\a.heap=(st (j+1)).heap)
def Ko{o:Oper}{e:Ef}(b:ur (az N a_ o) e)(a:az N a_ o≠some .hw):e.hp=none:=by
 cases h:e.hp with
 |none=>rfl
 |some p=>exact absurd (b.2 (by rw[h];simp)) a
def yC{a b:Oper}(c:qv N a_ ops a b=true):az N a_ a≠some .hw∨az N a_ b≠some .hw:=by
 unfold qv at c;split at c
 next m n f g=>
  simp only[te]at c;by_cases d:az N a_ a=some .hw
  .by_cases e:az N a_ b=some .hw
   .rw[d]at f;rw[e]at g;cases f;cases g;exact absurd c.1.1.1 (by decide)
   .exact .inr e
  .exact .inl d
 .cases c
def AN{a b:Oper}(c:qv N a_ ops a b=true):bv b.dst (bh ops a)=true:=by
 unfold qv at c
 grind
def PX{W:List (Nat×Nat)}{e:Nat->Ef}{st:Nat->St}{o:St}(U:∀k i,(k,i)∈W->i<ops.size->∀a,ops[k]?=some a->az N a_ a=some .hr->∀c,CF N a_ ops a { o with heap:=(if k<=i then(st (i+1)).heap else(st i).heap) } c->ao C B a_ ops k c ((e k).on a.dst c))
  (hp:xH (BO N a_ ops W) (E' ops.toList []) [] ops.toList 0=true) (j n:Nat) (V:j<ops.size) (hn:n<j) :
  Iv ops n j∨∀i7 u v:St,I4 C B N a_ ops e st o n i7 u->I4 C B N a_ ops e st o j u v->∃c,I4 C B N a_ ops e st o j i7 c/\I4 C B N a_ ops e st o n c v:=by
 have p:ops[j]?=some ops[j]:=by simp[V]
 have q:ops[n]?=some (ops[n]'(by omega)):=by simp_all
 generalize ops[j]=y at p;generalize ops[n]'(by omega)=x at q;have d:=tH (pre:=[]) (i:=0) rfl hp j y (by simpa using p) n x (by omega) (by simpa using q);rw[EM]at d;rcases d with d|d
 .exact .inl (oG ops.toList [] rfl (λi k h=>by simp at h) j n d)
 right;rintro i7 u v ⟨x',R,g,D,Y⟩ ⟨y',S,r,J,Z⟩;rw[q]at R;cases R;rw[p]at S;cases S;unfold BO at d;simp only[Gd,te]at d;have E:u.heap=(e n).hp.getD i7.heap:=by rw[g.is,dW]
 have F:v.heap=(e j).hp.getD u.heap:=by rw[r.is,dW]
 have G:((e j).on y.dst i7).heap=(e j).hp.getD i7.heap:=dW;rcases d with d|⟨d,K⟩|⟨d,K⟩
 .obtain⟨w,z,w3⟩:=Ar d g r;refine⟨_,⟨y,p,w,λt b=>(w3.1 t b).trans (J t b),λs=>?_⟩,x,q,z,λt b=>(ij (bN (AN d) b)).trans (D t b),λs=>?_⟩
  .have L:az N a_ x≠some .hw:=(yC d).resolve_right λh=>h s;rw[Ko g.tc L]at E
   grind
  .have M:az N a_ y≠some .hw:=(yC d).resolve_left λh=>h s;rw[Ko r.tc M]at F G
   grind
 .obtain⟨m,H,I,A,Q,X⟩:=xQ d;obtain⟨O,P⟩:=Z H;have L:(e n).hp=none:=(iH m g.tc).2;rw[L]at E;have E:u.heap=i7.heap:=E;have f:∀c,CF N a_ ops x v c->CF N a_ ops x { o with heap:=(if n<=j then(st (j+1)).heap else(st j).heap) } c:=by
   intro c l;refine⟨λt b=>?_,?_⟩
   .rw[l.1 t b,r.is,ij (bN A b),g.is,ij (bN Q b)];exact D t b
   .rw[m];show c.heap=if n<=j then(st (j+1)).heap else(st j).heap
    rw[n_ (by omega),←P];have:=l.2
    simp_all
  obtain⟨w,z,_⟩:=LG d g r λc l=>U n j (tB K) V x q m c (f c l);refine⟨_,⟨y,p,w,λt b=>?_,λ_=>?_⟩,x,q,z,λt b=>(ij (bN A b)).trans (D t b),λs=>?_⟩
  .rw[←J t b,g.is];exact(ij (bN I b)).symm
  .simp_all
  simp_all
 .obtain⟨m,H,I,A,Q,X⟩:=xQ d;obtain⟨O,P⟩:=Y H;have M:(e j).hp=none:=(iH m r.tc).2;rw[M]at F G;have F:v.heap=u.heap:=F;have G:((e j).on y.dst i7).heap=i7.heap:=G;have T:∀t∈bh ops y,i7.tmps[t]?=o.tmps[t]?:=λt b=>by
   rw[←J t b,g.is];exact(ij (bN A b)).symm
  have f:∀c,CF N a_ ops y i7 c->CF N a_ ops y { o with heap:=(if j<=n then(st (n+1)).heap else(st n).heap) } c:=by
   intro c l;refine⟨λt b=>?_,?_⟩
   .rw[l.1 t b];exact T t b
   .rw[m];show c.heap=if j<=n then(st (n+1)).heap else(st n).heap
    rw[qs (by omega),←O];have:=l.2
    simp_all
  obtain⟨w,z⟩:=WL d g r λc l=>U j n (tB K) (by omega) y p m c (f c l);refine⟨_,⟨y,p,w,T,λs=>?_⟩,x,q,z,λt b=>(ij (bN I b)).trans (D t b),λ_=>?_⟩
  .rw[m]at s;cases s
  simp_all
def LA(e:DE N B)(a:∀(j:Nat) b,ops[j]?=some b->az N a_ b≠none){st:Nat->St}{t i:Nat}:∀(m:Nat),(∀j,i<=j->j<i+m->ao C B a_ ops j (st j) (st (j+1))/\∀b,ops[j]?=some b->∀x,b.dst=some x->x≠t)->(st (i+m)).tmps[t]?=(st i).tmps[t]?
 |0,_=>rfl
 |m+1,h=>by
  obtain⟨h1,g⟩:=h (i+m) (by omega) (by omega);rw[←LA e a m λj c k=>h j c (by omega),show i+(m+1)=i+m+1 by omega];cases d:ops[i+m]? with
  |none=>
   have:st (i+m+1)=st (i+m):=by simpa[ao,d]using h1
   rw[this]
  |some b=>
   obtain⟨f,c⟩:=nh e a d h1;rw[c.is];exact ij (g b d)
def Q7{S:Nat->St->St->Prop}{st:Nat->St}:∀(m i:Nat),(∀j,i<=j->j<i+m->S j (st j) (st (j+1)))->Eo S (List.range' i m) (st i) (st (i+m))
 |0,i,_=>rfl
 |m+1,i,h=>by
  rw[r4];refine⟨st (i+1),h i (by omega) (by omega),?_⟩;have:=Q7 m (i+1) λj a b=>h j (by omega) (by omega)
  grind
def JP(P:DE N B){X:List (Nat×Nat)}(q:zk N a_ ops X=true){g9 l:St}{A:List (Tu)}(h1:Fk C B a_ ops (range ops.size) g9 A l)(h2:EN C B a_ ops g9 A l X):eo C B a_ ops g9 l:=by
 unfold zk at q;simp only[te]at q;obtain⟨g1,g2,Z,g4⟩:=q;have m:∀(j:Nat) b,ops[j]?=some b->az N a_ b≠none:=by
  grind
 have w:∀ {i:Nat} {o:Oper},ops[i]?=some o->i<ops.size:=λD=>(Is.1 D).1;rw[Yv]at h1;obtain⟨st,s1,s2,O,s4⟩:=YK ops.size 0 g9 A h1;rw[EM]at s2;have O:∀j,j<ops.size->ao C B a_ ops j (st j) (st (j+1)):=λj c=>O j (by omega) (by omega);have s4:∀j,j<ops.size->A[j]?=some (st (j+1)).heap:=λj c=>by simp_all
 have R:∀j,∃f,∀b,ops[j]?=some b->Loc C B N a_ ops j b f (st j) (st (j+1)):=by
  intro j;cases c:ops[j]? with
  |none=>exact⟨⟨.nilFunc,none,none⟩,λb h=>by cases h⟩
  |some b=>
   obtain⟨f,T⟩:=nh P m c (O j (w c));exact⟨f,λY h=>by cases h;exact T⟩
 obtain⟨e,K⟩:=Classical.axiomOfChoice R;have p:∀(j:Nat) (t:Nat),j<=ops.size->(∀n,j<=n->∀a,ops[n]?=some a->∀x,a.dst=some x->x≠t)->l.tmps[t]?=(st j).tmps[t]?:=by
  intro j t c h;have:=LA (t:=t) (i:=j) P m (ops.size - j) λn h3 h4=>⟨O n (by omega),h n h3⟩
  simp_all
 have r:∀(j:Nat) b,ops[j]?=some b->∀t∈bh ops b,(st j).tmps[t]?=l.tmps[t]?:=by
  intro j b c t ht;refine(p j t (cn (w c)) λn L a s x hx=>?_).symm;exact bN ((yg Z j b (by simpa using c) n a (by simpa using s)).1 L) ht x hx
 have Q:∀k i,i<ops.size->atM g9.heap A (k,i)=if k<=i then(st (i+1)).heap else(st i).heap:=by
  intro k i D;unfold atM;show List.getD (g9.heap :: A) (match Nat.ble k i with|true=>i+1|false=>i) g9.heap=_;by_cases E:k<=i
  .rw[DK E,n_ E,List.getD_eq_getElem?_getD,q6,s4 i D];rfl
  .rw[show Nat.ble k i=false by rw[←Gb];simp_all,qs E,List.getD_eq_getElem?_getD]
   grind
 have T:∀k i,(k,i)∈X->i<ops.size->∀a,ops[k]?=some a->az N a_ a=some .hr->∀W,CF N a_ ops a { l with heap:=(if k<=i then(st (i+1)).heap else(st i).heap) } W->ao C B a_ ops k W ((e k).on a.dst W):=by
  intro k i hm D a s hr;obtain⟨n9,M,o,d,x,G,H,q3,q4⟩:=h2 (k,i) hm;have G:ops[k]?=some o:=G;rw[s]at G;cases G;rw[Q k i D]at M;obtain⟨g,U⟩:=nh P m s M;have hl:=K k a s;obtain⟨f1,f2⟩:=iH hr U.tc;obtain⟨f3,f4⟩:=iH hr hl.tc;have V:g=e k:=by
   have E:l.tmps[d]?=(st (k+1)).tmps[d]?:=p (k+1) d (w s) λn L b u y hy=>by
    have:=(yg Z k a (by simpa using s) n b (by simpa using u)).2 (by omega);intro h;subst h;rw[hy,H]at this;simp[bf]at this
   have I:(g.on a.dst { l with heap:=(if k<=i then(st (i+1)).heap else(st i).heap) }).tmps[d]?=some x:=by rw[←U.is];exact q4
   have J:((e k).on a.dst (st k)).tmps[d]?=some x:=by rw[←hl.is,←E];exact q3
   rw[mh,H]at I J;simp only[GC]at I J;rw[n_ trivial]at I J;split at I
   .split at J
    .generalize e k=z at *;cases g;cases z
     grind
    .cases J
   .cases I
  subst V;exact U.st
 have F:Eo (I4 C B N a_ ops e st l) (range ops.size) g9 l:=by
  rw[Yv];have:=Q7 (S:=I4 C B N a_ ops e st l) (st:=st) ops.size 0 λj _ c=>by
   rw[EM]at c;have u:ops[j]?=some ops[j]:=by simp[c]
   exact⟨_,u,K j _ u,r j _ u,λ_=>⟨rfl,rfl⟩⟩
  simp_all
 have v:∀(i:Nat) o,ops[i]?=some o->∀e∈o.after.toList,Region.binds .any e=true->e.on<i:=by
  intro i o ho e K u;have:=ep g1 i o (by simpa using ho) e K u;omega
 have hz:ED ops.size (Array.replicate ops.size false)=range ops.size:=by
  unfold ED
  simp_all
 refine .inl λt=>?_;obtain⟨M,_,_⟩:=yU (S:=I4 C B N a_ ops e st l) v (λj n c L=>PX T g4 j n c L) ops.size t (Array.replicate ops.size false) (by simp) (by rw[hz];simp) (λx o hx ho=>by
  simp_all) g9 l (by rw[hz];exact F)
 refine mj (λj i7 m8 hS=>?_) M;obtain⟨Y,G,H,_,_⟩:=hS;rw[H.is];exact H.st i7 (vY Y i7)
end
end Sx
namespace Sx
section
variable [Cf] {C:ke} {B:Below} {N:Tc} {a_:TC} {ops:To}
def Ac(q:Oper->Oper->Bool)(b:Oper)(m:Nat):TA->Nat->Bool
 | [],_=>true
 |a :: l,k=>(Nat.testBit m k||q a b)&&Ac q b m l (k+1)
def tG(q:Oper->Oper->Bool)(ms:TC):TA->TA->Nat->Bool
 |_,[],_=>true
 |pre,b :: l,i=>Ac q b (ms.getD i 0) pre 0&&tG q ms (pre++[b]) l (i+1)
def vU{q:Oper->Oper->Bool}{b:Oper}{m:Nat}:∀ {l:TA} {k:Nat},Ac q b m l k=true->∀(j:Nat) a,l[j]?=some a->m.testBit (k+j)=true∨q a b=true
 | [],k,_,j,a,h=>by simp at h
 |a :: l,k,h,j,c,d=>by
  simp only[Ac,te,Gd]at h;cases j with
  |zero=>simp_all
  |succ j=>
   have:=vU h.2 j c (by simpa using d)
   grind
def rD{q:Oper->Oper->Bool}{ms:TC}:∀ {l pre:TA} {i:Nat},pre.length=i->tG q ms pre l i=true->∀(j:Nat) b,l[j]?=some b->∀(k:Nat) a,k<i+j->(pre++l)[k]?=some a->(ms.getD (i+j) 0).testBit k=true∨q a b=true
 | [],pre,i,_,_,j,b,h,_,_,_,_=>by simp at h
 |b :: l,pre,i,f,h,j,c,e,k,a,g,d=>by
  simp only[tG,te]at h;cases j with
  |zero=>
   simp at e;subst e;rw[GD (by omega)]at d;have:=vU h.1 k a d;simpa using this
  |succ j=>
   have:=rD (pre:=pre++[b]) (i:=i+1) (by simp[f]) h.2 j c (by simpa using e) k a (by omega) (by simpa using d)
   grind
def uN{b:Oper}{m i:Nat}:∀ {l:TA} {k:Nat} (j:Nat) a,l[j]?=some a->m.testBit (k+j)=false->OC a_ a b=true->(k+j,i)∈uM a_ b m i l k
 | [],k,j,a,h,_,_=>by simp at h
 |a :: l,k,j,c,e,f,d=>by
  unfold uM;cases j with
  |zero=>
   simp_all
  |succ j=>
   have:=uN (i:=i) (k:=k+1) j c (by simpa using e) (by rwa [show k+1+j=k+(j+1)by omega]) d
   grind
def uL{ms:TC}:∀ {l pre:TA} {i:Nat},pre.length=i->∀(j:Nat) b,l[j]?=some b->∀(k:Nat) a,k<i+j->(pre++l)[k]?=some a->(ms.getD (i+j) 0).testBit k=false->OC a_ a b=true->(k,i+j)∈yJ a_ ms pre l i
 | [],pre,i,_,j,b,h,_,_,_,_,_,_=>by simp at h
 |b :: l,pre,i,g,j,c,e,k,a,n,d,m,f=>by
  unfold yJ;rw[Ed];cases j with
  |zero=>
   simp at e;subst e;rw[GD (by omega)]at d;have:=uN (a_:=a_) (i:=i) (k:=0) k a d (by simpa using m) f
   simp_all
  |succ j=>
   right;have:=uL (pre:=pre++[b]) (i:=i+1) (by simp[g]) j c (by simpa using e) k a (by omega) (by simpa using d) (by rwa [show i+1+j=i+(j+1)by omega]) f
   grind
def kA(a_:TC)(o:Oper):TC:=((df a_ o).1++fh a_ o).filterMap λx=>match x with
 | .tmp t=>some t
 |_=>none
def WH(a_:TC):TA->TA->Bool
 |_,[]=>true
 |pre,b :: l=>bv b.dst (kA a_ b)&&(pre.all λa=>bv b.dst (kA a_ a)&&bf a.dst b.dst)&&WH a_ (pre++[b]) l
def yf:∀ {l pre:TA},WH a_ pre l=true->∀(j:Nat) b,l[j]?=some b->∀(k:Nat) a,(pre++l)[k]?=some a->(k<=pre.length+j->bv b.dst (kA a_ a)=true)/\(k<pre.length+j->bf a.dst b.dst=true)
 | [],pre,_,j,b,h,_,_,_=>by simp at h
 |b :: l,pre,h,j,c,f,k,a,e=>by
  simp only[WH,te,A5]at h;obtain⟨⟨h1,g⟩,d⟩:=h;cases j with
  |zero=>
   grind
  |succ j=>
   have:=yf d j c (by simpa using f) k a (by simpa using e)
   grind
def Jp(N:Tc)(a_:TC)(ops:To):Bool:=
 fC ops.toList 0&&(ops.toList.all (VS N a_)&&(ops.toList.any (dv a_)&&(ops.toList.all (λo=>!dv a_ o||o.dst.isSome)&&(WH a_ [] ops.toList&&tG (λa b=>Rv N a_ ops a b && !kM a b) (E' ops.toList []) [] ops.toList 0))))
def WF(N:Tc)(a_:TC)(ops:To)(i:Nat):Nat->Option Nat
 |0=>none
 |k+1=>match ops[k]?,ops[i]? with
  |some a,some b=>match Fz N a_ ops a b&&wg N a_ ops k i with
   |true=>some k
   |false=>WF N a_ ops i k
  |_,_=>none
def WE(N:Tc)(a_:TC)(ops:To):Nat->Option (List (Nat×Nat))
 |0=>none
 |i+1=>match WF N a_ ops i i with
  |some k=>some [(k+1000,i)]
  |none=>WE N a_ ops i
def zm(N:Tc)(a_:TC)(ops:To)(j:Nat)(b:Oper)(m:Nat):TA->Nat->List (Nat×Nat)
 | [],_=>[]
 |a :: l,n=>match Nat.testBit m n||qv N a_ ops a b,Fz N a_ ops a b with
  |true,_=>zm N a_ ops j b m l (n+1)
  |false,true=>(n,j) :: zm N a_ ops j b m l (n+1)
  |false,false=>(j,n) :: zm N a_ ops j b m l (n+1)
def I3(N:Tc)(a_:TC)(ops:To)(ms:TC):TA->TA->Nat->List (Nat×Nat)
 |_,[],_=>[]
 |pre,b :: l,i=>zm N a_ ops i b (ms.getD i 0) pre 0++I3 N a_ ops ms (pre++[b]) l (i+1)
def Vv(N:Tc)(a_:TC)(ops:To):Option (List (Nat×Nat)):=
 match zk N a_ ops (I3 N a_ ops (E' ops.toList []) [] ops.toList 0)with
 |true=>some ((5000,0) :: I3 N a_ ops (E' ops.toList []) [] ops.toList 0)
 |false=>none
def Zt(N:Tc):Dr:=λa_ ops=>match yK a_ ops with
 | []=>match vT N a_ ops with
  |true=>some []
  |false=>match WE N a_ ops ops.size with
   |some a=>match Fe a with
    |none=>some a
    |some _=>none
   |none=>Vv N a_ ops
 |p :: a=>match Fe (p :: a),Gh (p :: a),Jp N a_ ops with
  |none,none,true=>some (p :: a)
  |_,_,_=>Vv N a_ ops
def Lz{i:Nat}:∀ {n k:Nat},WF N a_ ops i n=some k->wg N a_ ops k i=true
 |0,k,h=>by cases h
 |n+1,k,h=>by
  unfold WF at h;split at h
  .split at h
   .simp_all
   .exact Lz h
  .cases h
def Ly:∀ {n:Nat} {a:List (Nat×Nat)},WE N a_ ops n=some a->∃k i,a=[(k+1000,i)]/\wg N a_ ops k i=true
 |0,a,h=>by cases h
 |n+1,a,h=>by
  unfold WE at h;split at h
  next k b=>
   cases h;exact⟨k,n,rfl,Lz b⟩
  .exact Ly h
def Pe{o:Oper}(h:DR a_ o=0):(df a_ o).1=[]/\fh a_ o=[]/\dv a_ o=false:=by
 obtain⟨dst,k,i,pos,d,guard⟩:=o;cases k<;>simp only[DR]at h<;>first|(exact⟨rfl,rfl,rfl⟩)|(exact absurd h (by decide))|skip
 case alloc t=>cases g:dv a_ ⟨dst,.alloc t,i,pos,d,guard⟩with
  |true=>rw[g]at h;cases h
  |false=>exact⟨rfl,rfl,rfl⟩
 case box t x=>cases g:dv a_ ⟨dst,.box t x,i,pos,d,guard⟩with
  |true=>rw[g]at h;cases h
  |false=>exact⟨rfl,rfl,rfl⟩
 case load t a=>
  split at h
  .cases h
  next j=>
   refine⟨?_,rfl,rfl⟩;simp only[df]
 case store t a x=>
  split at h
  .cases h
  next j=>
   refine⟨?_,?_,rfl⟩
   .simp only[df]
   .simp only[fh]
 case call c=>
  cases e:c.callee with
  |builtin b=>
   rw[e]at h;simp only[df,fh,dv,e]
   grind
  |value f=>simp only[df,fh,dv,e];simp_all
  |invoke r m=>simp only[df,fh,dv,e];simp_all
def X4{o:Oper}(h:DR a_ o=1):fh a_ o=[]/\dv a_ o=false:=by
 obtain⟨dst,j,i,pos,d,guard⟩:=o;cases j<;>simp only[DR]at h<;>first|(exact⟨rfl,rfl⟩)|(exact absurd h (by decide))|skip
 case alloc t=>cases g:dv a_ ⟨dst,.alloc t,i,pos,d,guard⟩with
  |true=>rw[g]at h;cases h
  |false=>exact⟨rfl,rfl⟩
 case box t x=>cases g:dv a_ ⟨dst,.box t x,i,pos,d,guard⟩with
  |true=>rw[g]at h;cases h
  |false=>exact⟨rfl,rfl⟩
 case store t a x=>split at h<;>cases h
 case call c=>
  cases e:c.callee with
  |builtin b=>
   rw[e]at h;simp only[fh,dv,e];cases b<;>first|(exact⟨rfl,rfl⟩)|(exact absurd h (by simp))
  |value f=>simp only[fh,dv,e];exact⟨trivial,trivial⟩
  |invoke r m=>simp only[fh,dv,e];exact⟨trivial,trivial⟩
def tg(o:Oper):DR a_ o=0∨DR a_ o=1∨DR a_ o=2:=by
 obtain⟨dst,d,e,pos,b,guard⟩:=o;cases d<;>simp only[DR]<;>first|(exact .inl trivial)|(exact .inr (.inl trivial))|(exact .inr (.inr trivial))|skip
 case alloc t=>split<;>simp
 case box t x=>split<;>simp
 case load t a=>split<;>simp
 case store t a x=>split<;>simp
 case call c=>split<;>first|(split<;>simp)|simp
end
end Sx
namespace Sx
section
variable [Cf] {C:ke} {B:Below} {N:Tc} {a_:TC} {ops:To}
def MD{mk:Nat->TR}(h:Dm mk)(k:Nat):C9 (mk k)=[k]:=by
 cases h<;>simp[C9,le]
def Aj{S:Nat->St->St->Prop}{d:Nat->Ts}(c:∀i g9 a,S i g9 a->dY C B a_ ops d i g9 a):∀ {l:TC},l.Nodup->∀ {g9 a:St},Eo S l g9 a->jt C B a_ ops d l g9 a
 | [],_,_,_,h=>h
 |i :: l,b,g9,a,⟨i9,h1,e⟩=>by
  rw[nD]at b;exact⟨b.1,i9,c i _ _ h1,Aj c b.2 e⟩
def VU{o:Oper}{t:Nat}(h:Operand.tmp t∈(df a_ o).1++fh a_ o):t∈kA a_ o:=by
 unfold kA
 grind
def S4 [C8](hN:DE N B)(A:Jp N a_ ops=true){g9 m:St}(h:bp C B a_ ops (range ops.size) g9 m)(O:JI a_ ops m.tmps (yK a_ ops)):eo C B a_ ops g9 m:=by
 simp only[Jp,te]at A;obtain⟨g1,g2,g3,g4,g5,g6⟩:=A;have ap:∀i∈range ops.size,∃o,ops[i]?=some o/\VS N a_ o=true:=by
  simp_all
 obtain⟨f,R⟩:=Lc hN (range ops.size) g9 m m4 ap h;have ax:∀ {i:Nat} {o:Oper},ops[i]?=some o->i<ops.size:=λc=>(Is.1 c).1;have g:∀ {i:Nat} {o:Oper},ops[i]?=some o->i∈range ops.size:=λc=>Cd.2 (ax c);have hl:∀ {i:Nat} {o:Oper},ops[i]?=some o->ops.toList[i]?=some o:=λc=>by simpa using c
 have av:∀ {i:Nat} {o:Oper},ops[i]?=some o->∀x∈(df a_ o).1++fh a_ o,h9 m.tmps x=h9 (f i).g9.tmps x:=by
  intro i o c x T;refine mn λt ht=>?_;subst ht;refine R.args i (g c) t λj hj an o' G I=>?_;have:=(yf g5 j o' (hl G) i o (by simpa using c)).1 (by omega);exact qO this t (VU T) t I rfl
 have hF:∀ {i:Nat} {o:Oper},ops[i]?=some o->∀r∈ER a_ (h9 (f i).g9.tmps) o,r∈gE a_ m.tmps o:=by
  intro i o c r hr;unfold ER at hr;unfold gE
  grind
 have hW:∀ {i:Nat} {o:Oper},ops[i]?=some o->HG a_ m.tmps o->∀p∈(f i).ws,p.1∈SM a_ m.tmps o:=by
  intro i o c ag p hp;have K:=R.ok i (g c) o c;unfold Rec.ws at hp;unfold SM;rw[Gc];rcases Ed.1 hp with hp|hp
  .have:=K.wr p (by simpa using hp);unfold JE at this;obtain⟨x,T,hr⟩:=Gc.1 this;exact⟨x,Jf _ T,by rw[av c x (SE _ T)];exact hr⟩
  .unfold Rec.slot at hp;split at hp
   next k q s z=>
    have hp:p=(k,q.1):=by simpa using hp
    subst hp;obtain⟨f1,f2,f3⟩:=K.fr q z;have L:DR a_ o=2:=by
     rcases tg (a_:=a_) o with u|u|u
     .rw[(Pe u).2.2]at f3;cases f3
     .rw[(X4 u).2]at f3;cases f3
     .exact u
    have al:o.dst.isSome=true:=by
     grind
    obtain⟨d,I⟩:=xT.1 al;obtain⟨v,hv⟩:=ag d I L;have Q:=R.res i (g c) o d v c I (λj hj an o' G ad=>by
     have:=(yf g5 j o' (hl G) i o (by simpa using c)).2 (by omega);rw[I,ad]at this;simp[bf]at this) hv
    refine⟨.tmp d,um I L,?_⟩;have V:h9 m.tmps (.tmp d)=v:=by simp[h9,List.getD_eq_getElem?_getD,hv]
    rw[V,Q];unfold Rec.val CU.val;rw[s];simp only[z];rw[MD f1]
    simp_all
   .cases hp
 have a2:∀ {i:Nat} {o:Oper},ops[i]?=some o->DR a_ o≠2->(f i).ws=[]:=by
  intro i o c hc;have K:=R.ok i (g c) o c;have hw:fh a_ o=[]/\dv a_ o=false:=by
   rcases tg (a_:=a_) o with u|u|u
   .exact(Pe u).2
   .exact X4 u
   omega
  have X:(f i).e.set=none:=by
   cases hs:(f i).e.set with
   |none=>rfl
   |some p=>
    have:=K.wr p hs;unfold JE at this
    simp_all
  have Y:(f i).e.push=none:=by
   cases hs:(f i).e.push with
   |none=>rfl
   |some p=>have:=(K.fr p hs).2.2;simp_all
  unfold Rec.ws Rec.slot
  simp_all
 have ay:∀ {i:Nat} {o:Oper},DR a_ o=0->ER a_ (h9 (f i).g9.tmps) o=[]:=by
  intro i o hc;unfold ER;rw[(Pe hc).1];rfl
 refine .inr ⟨λi=>if i<ops.size then(f i).k else none,m.heap.length - g9.heap.length,g3,?_,?_,λt=>?_⟩
 .intro i k s;simp only at s;split at s
  next c=>
   have:=R.slot i (Cd.2 c) k s;omega
  .cases s
 .intro i j k s y;simp only at s y;split at s
  next c=>
   split at y
   next hj=>
    exact R.inj i (Cd.2 c) j (Cd.2 hj) k s y
   .cases y
  .cases s
 have F:∀(i:Nat) o,ops[i]?=some o->∀e∈o.after.toList,Region.binds .any e=true->e.on<i:=by
  intro i o V e he w;have:=ep g1 i o (by simpa using V) e he w;omega
 have H:∀i k:Nat,i<ops.size->k<i->Iv ops k i∨∀U s8 W:St,M' N a_ ops f k U s8->M' N a_ ops f i s8 W->∃j6,M' N a_ ops f i U j6/\M' N a_ ops f k j6 W:=by
  intro i k c aE;have w:ops[i]?=some ops[i]:=by simp[c]
  have E:ops[k]?=some (ops[k]'(by omega)):=by simp_all
  generalize ops[i]=b at w;generalize ops[k]'(by omega)=a at E;have z:=rD (pre:=[]) (i:=0) rfl g6 i b (by simpa using w) k a (by omega) (by simpa using E);rw[EM]at z;cases P:(List.getD (E' ops.toList []) i 0).testBit k with
  |true=>exact .inl (oG ops.toList [] rfl (λi k h=>by simp at h) i k P)
  |false=>
   right;rw[P]at z;have z:=z.resolve_left (by simp);simp only[te]at z;obtain⟨q1,q2⟩:=z;have d:(∀p∈(f k).ws,p.1∉ER a_ (h9 (f i).g9.tmps) b)/\(∀p∈(f i).ws,p.1∉ER a_ (h9 (f k).g9.tmps) a)/\(∀p∈(f k).ws,∀q∈(f i).ws,p.1≠q.1):=by
    cases n:OC a_ a b with
    |true=>
     have hm:=uL (a_:=a_) (ms:=E' ops.toList []) (l:=ops.toList) (pre:=[]) (i:=0) rfl i b (by simpa using w) k a (by omega) (by simpa using E) (by simp_all) n;rw[EM]at hm;obtain⟨a',b',r1,r2,s1,s2,s3,s4,s5⟩:=O (k,i) hm
     grind
    |false=>
     have n:Nat.ble 3 (DR a_ a+DR a_ b)=false:=by
      unfold OC at n
      simp_all
     have a0:¬3<=DR a_ a+DR a_ b:=λh=>by rw[DK h]at n;cases n
     rcases tg (a_:=a_) a with X|X|X<;>rcases tg (a_:=a_) b with Y|Y|Y
     .simp_all
     .simp_all
     .simp_all
     .simp_all
     .simp_all
     .omega
     .simp_all
     .omega
     .omega
   rintro U s8 W ⟨a1,J,Z,rfl⟩ ⟨b1,h3,h4,rfl⟩;rw[E]at J;rw[w]at h3;cases J;cases h3;obtain⟨w1,w2,w3⟩:=dB (R.ok k (g E) a E) (R.ok i (g w) b w) q1 d.1 d.2.1 d.2.2 Z h4;exact⟨_,⟨b,w,w1,rfl⟩,⟨a,E,w2,w3⟩⟩
 have hz:ED ops.size (Array.replicate ops.size false)=range ops.size:=by
  unfold ED
  simp_all
 have D:=R.run m.heap.length (x5 _);have M:St.Dh m m.heap.length=m:=by
  unfold St.Dh St.pad
  simp_all
 rw[M]at D;obtain⟨r1,r2,_⟩:=yU (S:=M' N a_ ops f) F H ops.size t (Array.replicate ops.size false) (by simp) (by rw[hz];simp) (λx o T V=>by
  simp_all) _ _ (by rw[hz];exact D)
 refine Aj (λi U W hS=>?_) r2 r1;obtain⟨o,J,Z,rfl⟩:=hS;exact(R.ok i (g J) o J).step U Z _ (by simp_all)
def Nm(k i:Nat):Gh [(k+1000,i)]=some (k,i):=by
 have a:Nat.ble 1000 (k+1000)=true:=DK (Nat.le_add_left 1000 k);generalize c:k+1000=m at *;have b:m - 1000=k:=by omega
 unfold Gh;simp only[a,b]
def KJ{a:List (Nat×Nat)}(h:Vv N a_ ops=some a):∃l,Fe a=some l/\zk N a_ ops l=true:=by
 unfold Vv at h;split at h
 next b=>
  cases h;exact⟨_,rfl,b⟩
 .cases h
def Ux [C8]{C:ke}(g:∀f n,N f=some n->I9 N C f n=true)(j:∀f args H r H',C8.kh f args H r H'->N f=none∨(N f=some (2*args.length+1)/\H'=H)):NN C (Zt N):=by
 intro a_ ops z h;unfold Zt at h;split at h
 .split at h
  next a=>
   cases h;exact λn b m t o=>jk g j a_ ops a n b m t
  .split at h
   next x=>
    split at h
    next q=>
     cases h;obtain⟨k,i,s,a⟩:=Ly x;have e:Gh z=some (k,i):=s▸Nm k i;rw[q];simp only;rw[e];exact λn b A D m c d u v=>S5 (rr g j n).1.1 a c d u v
    .cases h
   .obtain⟨l,e,a⟩:=KJ h;rw[e];exact λn b m o c d=>JP (rr g j n).1.1 a c d
 next p E w=>
  split at h
  next q y a=>
   cases h;rw[q];simp only;rw[y];exact λn b m t o=>S4 (rr g j n).1.1 a t (by rw[w];exact o)
  .obtain⟨l,e,a⟩:=KJ h;rw[e];exact λn b m o c d=>JP (rr g j n).1.1 a c d
end
end Sx
end Go.Am
namespace Go.Am
open Sx Go.Proofs
def x2:List (Nat×Nat):=[(61,6),(87,6),(25,4),(49,4),(62,4),(63,4),(24,4),(104,4),(85,2),(90,6),(65,4),(98,4),(99,4),(64,2),(66,2),(32,2),(81,2),(127,4),(100,2),(129,2),(40,4),(131,4),(105,4),(78,6),(37,2),(149,2),(79,4),(80,4),(155,6),(156,2),(157,2),(158,4),(140,4),(41,4),(162,2),(163,4),(170,2),(94,4),(128,2),(113,3),(151,2),(12,0),(110,7)]
def KE(l:List (Nat×Nat))(f:Nat):Ts:=match l with
 | []=>none
 |p :: l=>match Nat.beq p.1 f with
  |true=>some p.2
  |false=>KE l f
def I_(f:TQ):Ts:=KE x2 f
def vA{f n:Nat}:∀ {l:List (Nat×Nat)},KE l f=some n->(f,n)∈l
 |p :: l,h=>by
  unfold KE at h;split at h
  next e=>
   cases h;have:=Dp e;subst this;exact M9
  .exact E2 _ (vA h)
def VI:(x2.all λp=>I9 I_ cc p.1 p.2)=true:=by kernel_rfl
def VH(f n:Nat)(h:I_ f=some n):I9 I_ cc f n=true:=A5.1 VI (f,n) (vA h)
def IH:Dr:=Zt I_
def nF(k:Nat)(a:List An):Fn1:=fn1 cc.P k ((ac k).getD ⟨[],[]⟩) a
def iF {k:Nat} {g:Func} {a:List An} (h0:(xc k).C.P.funcs[k]?=some g) (h:(g.body,((g.name == "runtime.NumGoroutine")||(xc k).C.opq k),g.ntmps,g.results.toList,ac k)=(some (er (xc k) (nF k a).code),false,(nF k a).nt,(nF k a).rvs,some (nF k a).sg)):Gn (xc k) ac k (nF k a):=by
 simp only[QR]at h;exact⟨⟨g,h0,h.1,h.2.1,h.2.2.1,h.2.2.2.1⟩,rfl,h.2.2.2.2⟩
abbrev vd(k:Nat)(a:List An):(R b:Type)->A_ R b->TG->b->(TG->b->R)->R:=λR b A ls h K=>aw A (xc k) ac IH (nF k a) ls h K
abbrev v7(k:Nat)(a:List An):Prop:=Gn (xc k) ac k (nF k a)
def i3:v7 3 an3:=iF Tryz.func3 (by kernel_rfl)
def i4:v7 4 an4:=iF Tryz.func4 (by kernel_rfl)
def i8:v7 8 an8:=iF Tryz.func8 (by kernel_rfl)
def i10:v7 10 an10:=iF Tryz.func10 (by kernel_rfl)
def i11:v7 11 an11:=iF Tryz.func11 (by kernel_rfl)
def i12:v7 12 an12:=iF Tryz.func12 (by kernel_rfl)
def i13:v7 13 an13:=iF Tryz.func13 (by kernel_rfl)
def i14:v7 14 an14:=iF Tryz.func14 (by kernel_rfl)
def i16:v7 16 an16:=iF Tryz.func16 (by kernel_rfl)
def i18:v7 18 an18:=iF Tryz.func18 (by kernel_rfl)
def i23:v7 23 an23:=iF Tryz.func23 (by kernel_rfl)
def i24:v7 24 an24:=iF Tryz.func24 (by kernel_rfl)
def i25:v7 25 an25:=iF Tryz.func25 (by kernel_rfl)
def i26:v7 26 an26:=iF Tryz.func26 (by kernel_rfl)
def i28:v7 28 an28:=iF Tryz.func28 (by kernel_rfl)
def i29:v7 29 an29:=iF Tryz.func29 (by kernel_rfl)
def i30:v7 30 an30:=iF Tryz.func30 (by kernel_rfl)
def i31:v7 31 an31:=iF Tryz.func31 (by kernel_rfl)
def i32:v7 32 an32:=iF Tryz.func32 (by kernel_rfl)
def i33:v7 33 an33:=iF Tryz.func33 (by kernel_rfl)
def i34:v7 34 an34:=iF Tryz.func34 (by kernel_rfl)
def i35:v7 35 an35:=iF Tryz.func35 (by kernel_rfl)
def i36:v7 36 an36:=iF Tryz.func36 (by kernel_rfl)
def i37:v7 37 an37:=iF Tryz.func37 (by kernel_rfl)
def i38:v7 38 an38:=iF Tryz.func38 (by kernel_rfl)
def i40:v7 40 an40:=iF Tryz.func40 (by kernel_rfl)
def i41:v7 41 an41:=iF Tryz.func41 (by kernel_rfl)
def i44:v7 44 an44:=iF Tryz.func44 (by kernel_rfl)
def i45:v7 45 an45:=iF Tryz.func45 (by kernel_rfl)
def i46:v7 46 an46:=iF Tryz.func46 (by kernel_rfl)
def i48:v7 48 an48:=iF Tryz.func48 (by kernel_rfl)
def i49:v7 49 an49:=iF Tryz.func49 (by kernel_rfl)
def i58:v7 58 an58:=iF Tryz.func58 (by kernel_rfl)
def i61:v7 61 an61:=iF Tryz.func61 (by kernel_rfl)
def i62:v7 62 an62:=iF Tryz.func62 (by kernel_rfl)
def i63:v7 63 an63:=iF Tryz.func63 (by kernel_rfl)
def i64:v7 64 an64:=iF Tryz.func64 (by kernel_rfl)
def i65:v7 65 an65:=iF Tryz.func65 (by kernel_rfl)
def i66:v7 66 an66:=iF Tryz.func66 (by kernel_rfl)
def i67:v7 67 an67:=iF Tryz.func67 (by kernel_rfl)
def i68:v7 68 an68:=iF Tryz.func68 (by kernel_rfl)
def i69:v7 69 an69:=iF Tryz.func69 (by kernel_rfl)
def i70:v7 70 an70:=iF Tryz.func70 (by kernel_rfl)
def i71:v7 71 an71:=iF Tryz.func71 (by kernel_rfl)
def i72:v7 72 an72:=iF Tryz.func72 (by kernel_rfl)
def i73:v7 73 an73:=iF Tryz.func73 (by kernel_rfl)
def i74:v7 74 an74:=iF Tryz.func74 (by kernel_rfl)
def i75:v7 75 an75:=iF Tryz.func75 (by kernel_rfl)
def i76:v7 76 an76:=iF Tryz.func76 (by kernel_rfl)
def i77:v7 77 an77:=iF Tryz.func77 (by kernel_rfl)
def i78:v7 78 an78:=iF Tryz.func78 (by kernel_rfl)
def i79:v7 79 an79:=iF Tryz.func79 (by kernel_rfl)
def i80:v7 80 an80:=iF Tryz.func80 (by kernel_rfl)
def i81:v7 81 an81:=iF Tryz.func81 (by kernel_rfl)
def i83:v7 83 an83:=iF Tryz.func83 (by kernel_rfl)
def i84:v7 84 an84:=iF Tryz.func84 (by kernel_rfl)
def i85:v7 85 an85:=iF Tryz.func85 (by kernel_rfl)
def i86:v7 86 an86:=iF Tryz.func86 (by kernel_rfl)
def i87:v7 87 an87:=iF Tryz.func87 (by kernel_rfl)
def i88:v7 88 an88:=iF Tryz.func88 (by kernel_rfl)
def i90:v7 90 an90:=iF Tryz.func90 (by kernel_rfl)
def i93:v7 93 an93:=iF Tryz.func93 (by kernel_rfl)
def i94:v7 94 an94:=iF Tryz.func94 (by kernel_rfl)
def i98:v7 98 an98:=iF Tryz.func98 (by kernel_rfl)
def i99:v7 99 an99:=iF Tryz.func99 (by kernel_rfl)
def i100:v7 100 W9:=iF Tryz.func100 (by kernel_rfl)
def i101:v7 101 W_:=iF Tryz.func101 (by kernel_rfl)
def i102:v7 102 Xa:=iF Tryz.func102 (by kernel_rfl)
def i103:v7 103 Xb:=iF Tryz.func103 (by kernel_rfl)
def i104:v7 104 Xc:=iF Tryz.func104 (by kernel_rfl)
def i105:v7 105 Xd:=iF Tryz.func105 (by kernel_rfl)
def i106:v7 106 Xe:=iF Tryz.func106 (by kernel_rfl)
def i107:v7 107 Xf:=iF Tryz.func107 (by kernel_rfl)
def i108:v7 108 Xg:=iF Tryz.func108 (by kernel_rfl)
def i109:v7 109 Xh:=iF Tryz.func109 (by kernel_rfl)
def i110:v7 110 Xi:=iF Tryz.func110 (by kernel_rfl)
def i111:v7 111 Xj:=iF Tryz.func111 (by kernel_rfl)
def i112:v7 112 Xk:=iF Tryz.func112 (by kernel_rfl)
def i113:v7 113 Xl:=iF Tryz.func113 (by kernel_rfl)
def i114:v7 114 Xm:=iF Tryz.func114 (by kernel_rfl)
def i115:v7 115 Xn:=iF Tryz.func115 (by kernel_rfl)
def i116:v7 116 Xo:=iF Tryz.func116 (by kernel_rfl)
def i126:v7 126 Xp:=iF Tryz.func126 (by kernel_rfl)
def i127:v7 127 Xq:=iF Tryz.func127 (by kernel_rfl)
def i128:v7 128 Xr:=iF Tryz.func128 (by kernel_rfl)
def i129:v7 129 Xs:=iF Tryz.func129 (by kernel_rfl)
def i130:v7 130 Xt:=iF Tryz.func130 (by kernel_rfl)
def i131:v7 131 Xu:=iF Tryz.func131 (by kernel_rfl)
def i132:v7 132 Xv:=iF Tryz.func132 (by kernel_rfl)
def i140:v7 140 Xw:=iF Tryz.func140 (by kernel_rfl)
def i141:v7 141 Xx:=iF Tryz.func141 (by kernel_rfl)
def i142:v7 142 Xy:=iF Tryz.func142 (by kernel_rfl)
def i143:v7 143 Xz:=iF Tryz.func143 (by kernel_rfl)
def i149:v7 149 XA:=iF Tryz.func149 (by kernel_rfl)
def i150:v7 150 XB:=iF Tryz.func150 (by kernel_rfl)
def i151:v7 151 XD:=iF Tryz.func151 (by kernel_rfl)
def i152:v7 152 XE:=iF Tryz.func152 (by kernel_rfl)
def i153:v7 153 XF:=iF Tryz.func153 (by kernel_rfl)
def i154:v7 154 XH:=iF Tryz.func154 (by kernel_rfl)
def i155:v7 155 XI:=iF Tryz.func155 (by kernel_rfl)
def i156:v7 156 XJ:=iF Tryz.func156 (by kernel_rfl)
def i157:v7 157 XK:=iF Tryz.func157 (by kernel_rfl)
def i158:v7 158 XL:=iF Tryz.func158 (by kernel_rfl)
def i162:v7 162 XM:=iF Tryz.func162 (by kernel_rfl)
def i163:v7 163 XN:=iF Tryz.func163 (by kernel_rfl)
def i164:v7 164 XO:=iF Tryz.func164 (by kernel_rfl)
def i166:v7 166 XP:=iF Tryz.func166 (by kernel_rfl)
def i167:v7 167 XQ:=iF Tryz.func167 (by kernel_rfl)
def i168:v7 168 XR:=iF Tryz.func168 (by kernel_rfl)
def i170:v7 170 XS:=iF Tryz.func170 (by kernel_rfl)
def i171:v7 171 XT:=iF Tryz.func171 (by kernel_rfl)
def i172:v7 172 XU:=iF Tryz.func172 (by kernel_rfl)
def e4:@f4=vd 4 an4:=by kernel_rfl
def e13:@f13=vd 13 an13:=by kernel_rfl
def e25:@f25=vd 25 an25:=by kernel_rfl
def e29:@f29=vd 29 an29:=by kernel_rfl
def e37:@f37=vd 37 an37:=by kernel_rfl
def e48:@f48=vd 48 an48:=by kernel_rfl
def e61:@f61=vd 61 an61:=by kernel_rfl
def e65:@f65=vd 65 an65:=by kernel_rfl
def e76:@f76=vd 76 an76:=by kernel_rfl
def e77:@f77=vd 77 an77:=by kernel_rfl
def e87:@f87=vd 87 an87:=by kernel_rfl
def e94:@f94=vd 94 an94:=by kernel_rfl
def e107:@UT=vd 107 Xf:=by kernel_rfl
def e114:@R8=vd 114 Xm:=by kernel_rfl
def e129:@GT=vd 129 Xs:=by kernel_rfl
def e163:@Sf=vd 163 XN:=by kernel_rfl
def e170:@Sj=vd 170 XS:=by kernel_rfl
def e172:@Sl=vd 172 XU:=by kernel_rfl
def e30:@f30=vd 30 an30:=by kernel_rfl
def e35:@f35=vd 35 an35:=by kernel_rfl
def e45:@f45=vd 45 an45:=by kernel_rfl
def e46:@f46=vd 46 an46:=by kernel_rfl
def e68:@f68=vd 68 an68:=by kernel_rfl
def e74:@f74=vd 74 an74:=by kernel_rfl
def e78:@f78=vd 78 an78:=by kernel_rfl
def e101:@UQ=vd 101 W_:=by kernel_rfl
def e104:@R2=vd 104 Xc:=by kernel_rfl
def e109:@UU=vd 109 Xh:=by kernel_rfl
def e128:@Sa=vd 128 Xr:=by kernel_rfl
def e131:@RU=vd 131 Xu:=by kernel_rfl
def e141:@UY=vd 141 Xx:=by kernel_rfl
def e150:@U1=vd 150 XB:=by kernel_rfl
def e18:@f18=vd 18 an18:=by kernel_rfl
def e36:@f36=vd 36 an36:=by kernel_rfl
def e44:@f44=vd 44 an44:=by kernel_rfl
def e62:@f62=vd 62 an62:=by kernel_rfl
def e66:@f66=vd 66 an66:=by kernel_rfl
def e67:@f67=vd 67 an67:=by kernel_rfl
def e79:@f79=vd 79 an79:=by kernel_rfl
def e99:@f99=vd 99 an99:=by kernel_rfl
def e102:@f102=vd 102 Xa:=by kernel_rfl
def e105:@R3=vd 105 Xd:=by kernel_rfl
def e111:@R5=vd 111 Xj:=by kernel_rfl
def e112:@R6=vd 112 Xk:=by kernel_rfl
def e115:@R9=vd 115 Xn:=by kernel_rfl
def e116:@UW=vd 116 Xo:=by kernel_rfl
def e126:@f126=vd 126 Xp:=by kernel_rfl
def e127:@R_=vd 127 Xq:=by kernel_rfl
def e130:@UX=vd 130 Xt:=by kernel_rfl
def e140:@Sb=vd 140 Xw:=by kernel_rfl
def e142:@UZ=vd 142 Xy:=by kernel_rfl
def e149:@RV=vd 149 XA:=by kernel_rfl
def e152:@U2=vd 152 XE:=by kernel_rfl
def e162:@Se=vd 162 XM:=by kernel_rfl
def e3:@f3=vd 3 an3:=by kernel_rfl
def e8:@f8=vd 8 an8:=by kernel_rfl
def e26:@f26=vd 26 an26:=by kernel_rfl
def e31:@f31=vd 31 an31:=by kernel_rfl
def e41:@f41=vd 41 an41:=by kernel_rfl
def e58:@f58=vd 58 an58:=by kernel_rfl
def e71:@f71=vd 71 an71:=by kernel_rfl
def e72:@f72=vd 72 an72:=by kernel_rfl
def e83:@f83=vd 83 an83:=by kernel_rfl
def e84:@f84=vd 84 an84:=by kernel_rfl
def e90:@f90=vd 90 an90:=by kernel_rfl
def e93:@f93=vd 93 an93:=by kernel_rfl
def e100:@R1=vd 100 W9:=by kernel_rfl
def e103:@UR=vd 103 Xb:=by kernel_rfl
def e155:@Sd=vd 155 XI:=by kernel_rfl
def e156:@RW=vd 156 XJ:=by kernel_rfl
def e164:@U3=vd 164 XO:=by kernel_rfl
def e12:@f12=vd 12 an12:=by kernel_rfl
def e24:@f24=vd 24 an24:=by kernel_rfl
def e38:@X0=vd 38 an38:=by kernel_rfl
def e49:@f49=vd 49 an49:=by kernel_rfl
def e69:@f69=vd 69 an69:=by kernel_rfl
def e70:@f70=vd 70 an70:=by kernel_rfl
def e73:@f73=vd 73 an73:=by kernel_rfl
def e81:@ZJ=vd 81 an81:=by kernel_rfl
def e86:@f86=vd 86 an86:=by kernel_rfl
def e106:@US=vd 106 Xe:=by kernel_rfl
def e110:@UV=vd 110 Xi:=by kernel_rfl
def e113:@R7=vd 113 Xl:=by kernel_rfl
def e132:@f132=vd 132 Xv:=by kernel_rfl
def e166:@f166=vd 166 XP:=by kernel_rfl
def e168:@Si=vd 168 XR:=by kernel_rfl
def e171:@U4=vd 171 XT:=by kernel_rfl
def e10:@f10=vd 10 an10:=by kernel_rfl
def e11:@f11=vd 11 an11:=by kernel_rfl
def e14:@f14=vd 14 an14:=by kernel_rfl
def e16:@f16=vd 16 an16:=by kernel_rfl
def e23:@f23=vd 23 an23:=by kernel_rfl
def e28:@f28=vd 28 an28:=by kernel_rfl
def e32:@f32=vd 32 an32:=by kernel_rfl
def e33:@f33=vd 33 an33:=by kernel_rfl
def e34:@f34=vd 34 an34:=by kernel_rfl
def e40:@f40=vd 40 an40:=by kernel_rfl
def e63:@f63=vd 63 an63:=by kernel_rfl
def e64:@f64=vd 64 an64:=by kernel_rfl
def e75:@f75=vd 75 an75:=by kernel_rfl
def e80:@f80=vd 80 an80:=by kernel_rfl
def e85:@f85=vd 85 an85:=by kernel_rfl
def e88:@f88=vd 88 an88:=by kernel_rfl
def e98:@f98=vd 98 an98:=by kernel_rfl
def e108:@R4=vd 108 Xg:=by kernel_rfl
def e143:@U0=vd 143 Xz:=by kernel_rfl
def e151:@f151=vd 151 XD:=by kernel_rfl
def e153:@f153=vd 153 XF:=by kernel_rfl
def e154:@Sc=vd 154 XH:=by kernel_rfl
def e157:@f157=vd 157 XK:=by kernel_rfl
def e158:@f158=vd 158 XL:=by kernel_rfl
def e167:@f167=vd 167 XQ:=by kernel_rfl
end Go.Am
namespace Go.Am
namespace Sx
def NI(P:TI)(a:TP->DataW Unit->Option (Tn)):List (Nat×TypeId)->List (DataW Unit)->Nat->Option (Tn)
 | [],[],_=>some []
 |(o,t) :: l,d :: ds,off=>match Nat.beq o off,a t d with
  |true,some v=>match Nat.beq v.length (P.cellsOf t),NI P a l ds (off+v.length)with
   |true,some vs=>some (v++vs)
   |_,_=>none
  |_,_=>none
 |_,_,_=>none
def l9(P:TI):Nat->TP->DataW Unit->Option (Tn)
 |0,_,_=>none
 |a+1,t,d=>match P.underlying t,d with
  |some .bool,.lit (.bool b)=>some [.bool b]
  |some (.int k),.lit (.int _ n)=>some [.int k n]
  |some (.struct c),.agg ds=>match NI P (l9 P a) (c.toList.map λf=>(f.offset,f.type)) ds 0 with
   |some vs=>if vs.length=P.cellsOf t then some vs else none
   |none=>none
  |some (.array n e),.agg ds=>match NI P (l9 P a) ((range n).map λi=>(i*P.cellsOf e,e)) ds 0 with
   |some vs=>if vs.length=P.cellsOf t then some vs else none
   |none=>none
  |_,_=>none
section
variable {P:TI} {w:TS} {base:Nat} {spare:Tx} {held:Bool} {enc:TypeId×Value->Unit}
def Jn{g:TP->DataW Unit->Option (Tn)}{fuel:Nat}(c:∀t d vs,g t d=some vs->∀cs p,DataW.trod enc P w base spare held fuel t cs=some (d,p)->cs=vs){i6:Type}(o:i6->Nat)(ty:i6->TP)(cs:Tn) :
  ∀(l:List i6) (xs:List (DataW Unit×List MemPlace)) (off:Nat) (vs:Tn),l.mapM (λa=>DataW.trod enc P w base spare held fuel (ty a) ((cs.drop (o a)).take (P.cellsOf (ty a))))=some xs->
   NI P g (l.map λa=>(o a,ty a)) (xs.map (·.1)) off=some vs->(cs.drop off).take vs.length=vs
 | [],xs,off,vs,h1,b=>by
  simp only[l2,cq,FL]at h1;subst h1;simp only[H6,NI,FL]at b;subst b;simp
 |a :: l,xs,off,vs,h1,b=>by
  rw[Wo]at h1;obtain⟨x,i,h1⟩:=EB.1 h1;obtain⟨m,j,h1⟩:=EB.1 h1;cases h1;simp only[DD,NI]at b;split at b
  next v e h=>
   split at b
   next n e3 e4=>
    cases b;have e:=Dp e;have e3:=Dp e3;have f:=c _ _ _ h _ _ i;have k:=Jn c o ty cs l m _ _ j e4;rw[e,←e3]at f;rw[GA,jj,f,FF];rw[k]
   .cases b
  .cases b
def RL:∀(l:Nat) (t:TP) (d:DataW Unit) (vs:Tn),l9 P l t d=some vs->∀(fuel:Nat) (cs:Tn) (p:List MemPlace),DataW.trod enc P w base spare held fuel t cs=some (d,p)->cs=vs
 |0,_,_,_,h=>by cases h
 |l+1,t,d,vs,h=>by
  intro fuel cs p a;cases fuel with
  |zero=>simp[DataW.trod]at a
  |succ fuel=>
   have j:∀t d vs,l9 P l t d=some vs->∀cs p,DataW.trod enc P w base spare held fuel t cs=some (d,p)->cs=vs:=λt d vs h cs p=>RL l t d vs h fuel cs p;simp only[l9]at h;split at h
   next b e=>
    cases h;simp only[DataW.trod,e]at a
    grind
   next k v n e=>
    cases h;simp only[DataW.trod,e]at a
    grind
   next u r e=>
    split at h
    next s c=>
     split at h
     next e3=>
      cases h;simp only[DataW.trod,e]at a;split at a
      next e4=>
       obtain⟨o,m,g⟩:=Dv.1 a;simp only[QR,DataW.agg.injEq]at g;rw[←g.1]at c;have:=Jn j (λf:Field=>f.offset) (λf:Field=>f.type) cs _ o 0 _ m c
       grind
      .cases a
     .cases h
    .cases h
   next n q r e=>
    split at h
    next s c=>
     split at h
     next e3=>
      cases h;simp only[DataW.trod,e]at a;split at a
      next e4=>
       obtain⟨o,m,g⟩:=Dv.1 a;simp only[QR,DataW.agg.injEq]at g;rw[←g.1]at c;have:=Jn j (λi=>i*P.cellsOf q) (λ_=>q) cs _ o 0 _ m c
       grind
      .cases a
     .cases h
    .cases h
   .cases h
end
section
variable [Cf]
def vh [D1]{W:TS}{g:Nat}{vs:Tn}(h0:Nat.blt g gB=true)(h1:vs.all bg=true)(f:vs.all flat=true)(h:∃c e fr,W.heap[g]?=some (.cells c e fr)/\c.toList=vs) :
  Ek g<W.heap.size/\vs.all bg=true/\∃c e fr,W.heap[Ek g]?=some (.cells c e fr)/\cz (λ_=>none) vs c (Ft g):=by
 obtain⟨c,e,fr,a,j⟩:=h;rw[Kg h0,Kh h0];refine⟨(Is.1 a).1,h1,c,e,fr,a,.FJ ?_⟩;rw[j];exact⟨rfl,λi x y b d=>by rw[b]at d;cases d;exact .of_flat (A5.1 f x (Cb b))⟩
end
end Sx
namespace Sx
open Go.ChangeShapes Go.WideShapes Go.ChangeAt Go.WideMaps Go.WideElems Go.RowKit
def Vm{W a:TS}(h1:a.os=W.os)(d:a.output=W.output)(e:∀b,b<W.heap.size->a.heap[b]?=W.heap[b]?)(c:MemPlace->Prop):W.keptBut a c:=by
 refine⟨h1,d,λi f=>?_⟩
 grind
def rg{P:TI}{w:TS}{a:List (String×DataW Unit)}{m:List MemPlace}(h:DataW.LaidVars P w a m):∀n d,(n,d)∈a->∀g t b vs,P.globalNamed n=some g->(P.globals[g]?).map (·.type)=some t->l9 P b t d=some vs->
  ∃c e fr,w.heap[g]?=some (.cells c e fr)/\c.toList=vs:=by
 induction a generalizing m with
 |nil=>intro n d h;cases h
 |cons x l E=>
  obtain⟨F,B⟩:=x;obtain⟨C,G,A,j,p,q,o,r,s,u,y,z⟩:=h;intro n d k g t b vs f i v;rcases Dy.1 k with e|k
  .cases e;rw[o]at f;cases f;rw[r]at i;cases i;have D:=RL b _ _ vs v _ _ _ u;unfold World.var? at s
   grind
  grind
section
variable [Cf] [C8]
end
end Sx
namespace Sx
section
variable [Cf] [C8]
def XX(b:Bool)(x y:Prop):Prop:=(b=true->x)/\(b=false->y)
abbrev _root_.Tw:=Int->Prop
def S7(op:BinOp)(k:TL)(a b:Int)(K:Tw):Prop:=
 match op with
 | .add=>K (k.wrap (a+b))
 | .sub=>K (k.wrap (a - b))
 | .mul=>K (k.wrap (a*b))
 | .quo=>b≠0/\K (k.wrap (a.tdiv b))
 | .rem=>b≠0/\K (a.tmod b)
 | .and=>(b=1/\K (a%2))∨(b≠1/\∃n,rY .and k a b n/\K n)
 |op=>∃n,rY op k a b n/\K n
abbrev _root_.Tp:=Bool->Prop
def Up(c:BinOp)(a b:Int)(K:Tp):Prop:=
 match c with
 | .eql=>K (a==b)
 | .neq=>K (a != b)
 | .lss=>K (decide (a<b))
 | .leq=>K (decide (a<=b))
 | .gtr=>K (decide (a > b))
 | .geq=>K (decide (a ≥ b))
 |_=>False
def lA{i6:Type}(o:Option i6)(K:i6->Prop):Prop:=∃x,o=some x/\K x
def l5(ls:TG)(K:Int->TG->Prop):Prop:=match ls with | .i n :: r=>K n r|_=>False
def m3(ls:TG)(K:Bool->TG->Prop):Prop:=match ls with | .b n :: r=>K n r|_=>False
def g6(ls:TG)(K:Value->TG->Prop):Prop:=match ls with | .v n :: r=>K n r|_=>False
def l1(ls:TG)(K:Prop):Prop:=match ls with | []=>K|_=>False
def dD(k:TL)(ls:Tn)(K:Int->Tn->Prop):Prop:=match ls with | .int k' n :: r=>k=k'/\K n r|_=>False
def eL(ls:Tn)(K:Bool->Tn->Prop):Prop:=match ls with | .bool n :: r=>K n r|_=>False
abbrev _root_.Ta:=Value->Tn->Prop
def eF(ls:Tn)(K:Ta):Prop:=match ls with|n :: r=>K n r|_=>False
def ez(ls:Tn)(K:Prop):Prop:=match ls with | []=>K|_=>False
def h8(h:Tu):cP:=λi=>h[i]?
abbrev _root_.Tf:=List Value->Prop
def G'(f:Pk)(h:Tu)(K:Tf):Prop:=∃cs,f.run (h8 h)=some cs/\K cs
def ga(f:Hp)(h:Tu)(K:Tn->Tu->Prop):Prop:=∃a cs,f.run (h8 h) h.length=some (a,cs)/\K cs (ig h a)
def y4(C:ke)(Sg:Td)(g:TQ)(ls:TG)(h:Tu)(K:TG->Tu->Prop):Prop:=∃a h',aI C Sg g ls h a h'/\K a h'
def Zg(C:ke)(v:Value)(args:Tn)(b:TN)(h:Tu)(K:TG->Tu->Prop):Prop:=∃a h',wo C v args b h a h'/\K a h'
def r2(F:(TG->Tu->Prop)->TG->Tu->Prop)(n:Nat):TG->Tu->Prop:=
 match n with
 |0=>λ_ _=>False
 |n+1=>F (r2 F n)
def z3(F:(TG->Tu->Prop)->TG->Tu->Prop)(ls:TG)(h:Tu):Prop:=∃n,r2 F n ls h
def eM(C:ke)(T:Tv)(d:Nat)(v:Value)(a:Tn)(h:Tu)(K:Tm->Tu->Prop):Prop:=
 ∃g first cap r c b,v = .func (.func g) first cap/\
  jE C g (first.toList++[.func (.yield h.length) #[] #[]]++cap.toList) (h++[.loop (Em (T d) d a)]) r c/\
  eH c h.length=some b/\b.state≠.busy/\K b.pending (c.set h.length (.loop { b with state:=.exhausted }))
def K4(c:Tm)(a b:Prop)(ks:List (Nat×Prop)):Prop:=
 match c with
 |none=>a
 |some .ret=>b
 |some (.exit id)=>∃x,(id,x)∈ks/\x
 |_=>False
def b3(l:Nat)(h:Tu)(K:Tu->Prop):Prop:=∃a,eH h l=some a/\a.state = .ready/\K (h.set l (.loop { a with state:=.busy }))
def hN(l:Nat)(j:Tm)(h:Tu)(K:Tu->Prop):Prop:=∃a,eH h l=some a/\K (h.set l (.loop { a with state:=if j.isNone then .ready else .done,pending:=j }))
def PA(C:ke)(Sg:Td)(T:Tv):A_ Prop (Tu) where
 fail:=False
 cond:=XX
 w7:=S7
 E5:=λd k a c b K=>∃n,JJ d k a c b n/\K n
 cmp:=Up
 eqs:=λl K=>K (ch l)
 conv:=λk a K=>K (k.wrap a)
 FO:=λt a b K=>K (if t then a else b)
 h_:=lA
 k_:=λv K=>aJ v=true/\K
 oo:=l5
 D7:=m3
 Ck:=g6
 u4:=l1
 rv:=dD
 DV:=eL
 BM:=eF
 ts:=ez
 ka:=G'
 heap:=ga
 new:=λo h K=>K h.length (h++[o])
 call:=y4 C Sg
 A7:=Zg C
 join:=λb m=>m b
 loop:=z3
 Ec:=eM C T
 D4:=K4
 Ir:=b3
 Gw:=hN
def gF(C:ke)(Sg:Td)(T:Tv):nc (PA C Sg T) C Sg T id id where
 fail:=λh=>h
 cond:=by
  intro b x y h;cases b
  .exact .inr ⟨rfl,h.2 rfl⟩
  .exact .inl ⟨rfl,h.1 rfl⟩
 w7:=by
  intro e k a b K h;have h:S7 e k a b K:=h;cases e<;>simp only[S7]at h
  .exact⟨_,λP t w=>by simp[binOp,Op.intArith],h⟩
  .exact⟨_,λP t w=>by simp[binOp,Op.intArith],h⟩
  .exact⟨_,λP t w=>by simp[binOp,Op.intArith],h⟩
  .obtain⟨u,h⟩:=h;exact⟨_,λP t w=>by simp[binOp,Op.intDiv,u],h⟩
  .obtain⟨u,h⟩:=h;exact⟨_,λP t w=>by simp[binOp,Op.intDiv,u],h⟩
  .rcases h with⟨rfl,H⟩|⟨_,n,q,s⟩
   .exact⟨_,qb rfl,H⟩
   grind
  all_goals exact h
 E5:=λe k a A b K h=>h
 cmp:=by
  intro e a b K h;have h:Up e a b K:=h;cases e<;>simp only[Up]at h<;>exact⟨_,rfl,h⟩
 eqs:=λl K h=>h
 conv:=λk a K h=>h
 FO:=λt a b K h=>h
 h_:=λo K h=>h
 k_:=λv K h=>h
 oo:=by
  intro d K h
  match d,h with
  | .i n :: r,h=>exact⟨n,r,rfl,h⟩
 D7:=by
  intro d K h
  match d,h with
  | .b n :: r,h=>exact⟨n,r,rfl,h⟩
 Ck:=by
  intro d K h
  match d,h with
  | .v n :: r,h=>exact⟨n,r,rfl,h⟩
 u4:=by
  intro d K h
  match d,h with
  | [],h=>exact⟨rfl,h⟩
 rv:=by
  intro k d K h
  match d,h with
  | .int A n :: r,h=>
   obtain⟨rfl,h⟩ : k=A/\K n r:=h
   grind
 DV:=by
  intro d K h
  match d,h with
  | .bool n :: r,h=>exact⟨n,r,rfl,h⟩
 BM:=by
  intro d K h
  match d,h with
  |n :: r,h=>exact⟨n,r,rfl,h⟩
 ts:=by
  intro d K h
  match d,h with
  | [],h=>exact⟨rfl,h⟩
 ka:=λf h K c=>c
 heap:=by
  intro f h K c;obtain⟨p,G,q,s⟩:=c;exact⟨p,G,_,q,rfl,s⟩
 new:=λo h K c=>⟨_,rfl,c⟩
 call:=λg d h K c=>c
 A7:=λv z S h K c=>c
 join:=λb m h=>h
 loop:=by
  intro F d h c;obtain⟨n,c⟩:=c;exact⟨r2 F,λd h=>(id:False->False),λn d h=>rfl,n,c⟩
 Ec:=by
  intro U v D h K c;obtain⟨g,first,E,r,O,B,q,s,I,Q,R⟩:=c
  grind
 D4:=by
  intro N J L M h;have h:K4 N J L M:=h;unfold K4 at h
  grind
 Ir:=by
  intro l h K c;obtain⟨B,q,s,I⟩:=c
  simp_all
 Gw:=by
  intro l j h K c;obtain⟨B,q,s⟩:=c
  simp_all
def SL.E1{l:SL}{k:LK}(h:l.is k=true)(a:k.plain=true):scalar l.val=true:=by
 cases l<;>cases k<;>first|(cases a;done)|(cases h;done)|rfl
def mO:∀ {cs:List SL} {ks:TJ},aZ cs ks=true->ks.all LK.plain=true->(cs.map SL.val).all scalar=true
 | [],[],_,_=>rfl
 |c :: cs,k :: ks,h,a=>by
  simp only[aZ,te]at h;simp only[SC,te]at a;simp only[DD,SC,te];exact⟨SL.E1 h.1 a.1,mO h.2 a.2⟩
 | [],_ :: _,h,_=>by cases h
 |_ :: _,[],h,_=>by cases h
def S0.H3{x:S0}{k:SK}(h:x.is k=true)(a:k.plain=true):gk x.val=true:=by
 cases x with
 |leaf l=>
  cases k with
  |leaf k=>
   have:=SL.E1 h a;show gk l.val=true;cases b:l.val<;>rw[b]at this<;>first|exact this|cases this
  |agg _=>cases h
 |agg c=>
  cases k with
  |leaf k=>cases h
  |agg d=>exact mO h a
def kP{v:TR}(h:gk v=true):flat v=true:=by
 cases v<;>first|exact h|cases h
def jQ:∀ {xs:List S0} {sks:TN},cE xs sks=true->sks.all SK.plain=true->(ak xs).all gk=true
 | [],[],_,_=>rfl
 |x :: xs,k :: ks,h,a=>by
  simp only[cE,te]at h;simp only[SC,te]at a;simp only[ak,DD,SC,te];exact⟨S0.H3 h.1 a.1,jQ h.2 a.2⟩
 | [],_ :: _,h,_=>by cases h
 |_ :: _,[],h,_=>by cases h
def AG{xs:List S0}{sks:TN}(h:cE xs sks=true)(a:sks.all SK.plain=true):(ak xs).all flat=true:=by
 have:=jQ h a;rw[A5]at this ⊢;exact λv b=>kP (this v b)
def Bm{vs:Tn}(h:vs.all gk=true):flat (gl vs)=true:=by
 match vs,h with
 | [],_=>rfl
 | [v],h=>
  simp only[SC,List.all_nil,qdz]at h;exact kP h
 |a :: b :: l,h=>
  show flat (.tuple (a :: b :: l).toArray)=true;simp only[flat,te];exact⟨by simp,h⟩
end
@[reducible] def KnoC (C:ke) (N:Tc) [Cf]:C8:=⟨λf args r=>∀H,en C f args H r H,λf args H r H'=>(N f=none∨(N f=some (2*args.length+1)/\H'=H))/\en C f args H r H'⟩
section
variable [Cf]
def Ct(C:ke)(N:Tc)(Sg:Td)(g:TQ)(ls a:TG):Prop:=let _:C8:=KnoC C N;∀H,aI C Sg g ls H a H
def wk{C:ke}{N:Tc}(a:C.P.follows .mixedOrders=true){f:TQ}{args:Tn}{H:Tu}{r:TR}{H':Tu}(h:let _:C8:=KnoC C N;jE C f args H r H'):en C f args H r H':=
 @RK _ _ (KnoC C N) a (λ_ _ _ h=>h) (λ_ _ _ _ _ h=>h.2) _ _ _ _ _ h
def XY{C:ke}{N:Tc}{Sg:Td}(l:C.P.follows .mixedOrders=true)(j:∀g vs,C.G g=some vs->vs.all Sr=true){g:TQ}{sg:GH}(e:Sg g=some sg)(a:sg.plain=true){ls f:TG}{H':Tu}
  (h:let _:C8:=KnoC C N;aI C Sg g ls [] f H'):Ct C N Sg g ls f:=by
 let _:C8:=KnoC C N
 obtain⟨n,o,p,b,c,d,i⟩:=h;rw[e]at b;cases b;simp only[GH.plain,te]at a;have k:=AG c.1 a.1;have m:=Bm (jQ d.1 a.2);intro H;exact⟨sg,o,p,e,c,d,⟨0,.inl ⟨λH=>O9 j (wk l i) k m H,rfl⟩⟩⟩
end
section
variable [Cf] [C8]
def dd{n:Int}(h1:-9223372036854775808<=n)(a:n<=9223372036854775807):IntKind.wrap .i64 n=n:=by
 simp only[IntKind.wrap,IntKind.bits,IntKind.signed,Bool.true_and,ge_iff_le,Es];omega
def uo{n:Int}(h1:0<=n)(a:n<=255):IntKind.wrap .u8 n=n:=by
 simp only[IntKind.wrap,IntKind.bits,IntKind.signed,Bool.false_and,D5,if_false];omega
end
end Sx
namespace Sx
section
variable [Cf]
abbrev _root_.TF:=Nat->Nat
def eA(g9:TF)(v:Value):Value:=match v with
 | .slice (some a) b c=>.slice (some ⟨g9 a.block,a.off,a.spot⟩) b c
 |v=>v
def YE(g9:TF):SL->SL
 | .v x=>.v (eA g9 x)
 |s=>s
def em(g9:TF):S0->S0
 | .leaf l=>.leaf (YE g9 l)
 | .agg cs=>.agg (cs.map (YE g9))
def OkV(n:Nat)(v:Value):Prop:=(flat v=true/\∀g9,eA g9 v=v)∨∃j off len cx e,j<n/\v = .slice (some ⟨j,off,le e⟩) len cx
def hC(n:Nat):Lf->Prop
 | .v x=>OkV n x
 |_=>True
end
end Sx
end Go.Am
namespace Go.Am
open Sx
abbrev FB:=List Lf->wa->(TG->wa->RT)->RT
def nf:FB:=λ_ _ _=>none
def Hk(a:TG)(_:wa):RT:=tJ a λa=>some a
def Vx(g:FB):FB:=λa h K=>tJ a λa=>@Option.rec _ (λ_=>RT) none (λb=>K b h) (g a .empty Hk)
abbrev cB(x y:RT)(b:Bool):RT:=@Bool.rec (λ_=>RT) x y b
section
variable {Sg:Td} {T:Tv} {call:fV}
end
section
variable [Cf] [C8]
def UH(a:TG):TG->Bool:=@List.rec _ (λ_=>TG->Bool) (λb=>@List.rec _ (λ_=>Bool) true (λ_ _ _=>false) b) (λx _ c b=>@List.rec _ (λ_=>Bool) false (λy m _=>@Bool.rec (λ_=>Bool) false (c m) (IQ x y)) b) a
def AR{x y:Lf}(h:IQ x y=true):x=y:=by
 cases x<;>cases y<;>first|(cases h;done)|skip
 .have h:OZ _ _=true:=h;rw[wH,beq_iff_eq]at h;rw[h]
 next a b=>cases a<;>cases b<;>first|rfl|cases h
def qP:∀ {a b:TG},UH a b=true->a=b
 | [],[],_=>rfl
 |x :: a,y :: b,h=>by
  have h:@Bool.rec (λ_=>Bool) false (UH a b) (IQ x y)=true:=h;cases e:IQ x y with
  |true=>rw[e]at h;rw[AR e,qP h]
  |false=>rw[e]at h;cases h
 | [],_ :: _,h=>by cases h
 |_ :: _,[],h=>by cases h
def NO(C:ke)(Sg:Td)(T:Tv)(k:Nat)(g:FB):Prop:=∀ls h K w,dR ls->g ls h K=some w->∃a h',aI C Sg k ls (f_ T (CT h)) a (f_ T (CT h'))/\K a h'=some w
def YOk(C:ke)(Sg:Td)(T:Tv)(a:Nat)(g:Tn->Nat->FB):Prop:=∀vs l ls h K w st c xs,h.at l=some (.lp a st c vs)->Told ((T a).params.map (·.2)) ls xs->g vs l ls h K=some w->
  ∃b h',io C l (ak xs) (f_ T (CT h)) (.bool b) (f_ T (CT h'))/\K [.b b] h'=some w
def LM:Hk=λa _=>some a:=by
 funext a h
 exact fw a _
def Vy{C:ke}{Sg:Td}{T:Tv}(d:∀f sg ls a H',Sg f=some sg->sg.plain=true->aI C Sg f ls [] a H'->∀H,aI C Sg f ls H a H)
  {k:Nat} {g:FB} {sg:GH} (l:NO C Sg T k g) (n:Sg k=some sg) (m:sg.plain=true):NO C Sg T k (Vx g):=by
 intro ls h K w c b;unfold Vx at b;rw[fw,LM]at b;cases e:g ls .empty (λa _=>some a)with
 |none=>rw[e]at b;cases b
 |some a=>
  rw[e]at b;obtain⟨o,p,i,j⟩:=l ls .empty _ a c e;cases j;exact⟨a,h,d k sg ls a _ n m i _,b⟩
end
end Go.Am
namespace Go.Am
open Sx Go.Proofs
section
variable {R HT:Type} (A:A_ R HT)
def y176(vs:Tn)(e:Nat)(ls:TG)(h:HT)(K:TG->HT->R):R:=A.BM vs λx8 u=>A.k_ x8 (A.BM u λa v=>A.k_ a (A.ts v (A.oo ls λf w=>A.oo w λg x=>A.Ck x λx16 y=>A.oo y λi z=>A.oo z λB C=>A.oo C λD E=>A.Ck E λF G=>A.u4 G (A.new (.cells [.int .i64 0,.int .i64 0,.slice none 0 0,.int .u8 0,.int .i64 0,.int .i64 0,.slice none 0 0] 7 true) h λo H=>A.heap (.st (.pointer (some ⟨o,0,none⟩)) [.int .i64 f,.int .i64 g,x16,.int .u8 i,.int .i64 B,.int .i64 D,F]) H λf7 I=>A.Ir e I λd=>A.ka (.lg cc 1 a) d λJ=>A.BM J λp L=>A.k_ p (A.ts L (A.ka (.lg cc 7 (.pointer (some ⟨o,0,none⟩))) d λM=>A.rv .i64 M λj N=>A.rv .i64 N λk O=>A.BM O λq P=>A.k_ q (A.rv .u8 P λl Q=>A.rv .i64 Q λS T=>A.rv .i64 T λm U=>A.BM U λr V=>A.k_ r (A.ts V (A.new (.cells [.int .i64 j,.int .i64 k,q,.int .u8 l,.int .i64 S,.int .i64 m,r] 7 true) d λeC W=>A.heap (.ap cc 7 88 p (.slice (some ⟨eC,0,some 17⟩) 1 2)) W λX Y=>A.BM X λs Z=>A.k_ s (A.ts Z (A.heap (.st a [s]) Y λf9 c=>A.ka (.lg cc 1 a) c λe6=>A.BM e6 λt e7=>A.k_ t (A.ts e7 (A.h_ (G3 t) λe9=>A.ka (.lg cc 1 x8) c λf0=>A.rv .i64 f0 λn f1=>A.ts f1 (A.cmp .eql e9 n λf2=>A.cond f2 (A.Gw e (some (.exit 0)) c λf5=>K [.b false] f5) (A.Gw e none c λf6=>K [.b true] f6)))))))))))))))
end
def lC:@y176=λR b A vs a ls h K=>uS A (xc 0) ac IH (aa 176) vs a ls h K:=by kernel_rfl
instance val0 : Cf := ⟨λ_ => 0⟩
instance kno0:C8:=KnoC cc I_
def GE:cc.P.follows .mixedOrders=true:=by kernel_rfl
def ta(g:Nat)(vs:Tn)(h:cc.G g=some vs):vs.all Sr=true:=by
 unfold cc at h;simp only at h;split at h<;>first|(cases h;done)|(obtain rfl:=DU h;kernel_rfl)
def uK:NN cc IH:=Ux VH (λ_ _ _ _ _ (h:_/\_)=>h.1)
abbrev YN(k:Nat)(g:FB):Prop:=NO cc ac aa k g
abbrev W4(c:fV):Prop:=D0 cc ac aa c
def zW(f:TQ)(sg:GH)(ls a:TG)(H':Tu)(d:ac f=some sg)(c:sg.plain=true)(b:aI cc ac f ls [] a H'):∀H,aI cc ac f ls H a H:=XY GE ta d c b
def UB{k:Nat}{g:FB}{sg:GH}(h:YN k g)(a:ac k=some sg)(b:sg.plain=true):YN k (Vx g):=Vy zW h a b
def nA:A_ RT wa->FB:=λ_=>nf
def C3(F:A_ RT wa->FB):A_ RT wa->FB:=λA=>Vx (F A)
inductive TrA where
 |leaf
 |node (v:A_ RT wa->FB) (l r:TrA)
def GZ(p:Dt):TrA->A_ RT wa->FB:=
 Dt.rec (motive:=λ_=>TrA->A_ RT wa->FB) (λt=>TrA.casesOn t nA λv _ _=>v) (λ_ a t=>TrA.casesOn t nA λ_ l _=>a l) (λ_ a t=>TrA.casesOn t nA λ_ _ r=>a r) p
def y_of{d:Nat}{g:fV->Tn->Nat->FB}{ct:fV->fV}{c:fV}(h0:∀vs l ls h K,uS (BA ac aa (ct c)) (xc 0) ac IH (aa d) vs l ls h K=g c vs l ls h K)(k:W4 (ct c)):YOk cc ac aa d (g c):=by
 intro vs l ls h K w o n p e m a;rw[←h0]at a;obtain⟨b,j,f,i⟩:=yO (X:=xc 0) (W0 (w:=w) k) uK (kQ e) rfl rfl rfl rfl m a;exact⟨b,j,f,i⟩
def Hj:TrA:=(.node nA (.node nA (.node nA (.node nA (.node nA (.node f31 (.node (C3 f63) (.node (C3 R_) .leaf .leaf) .leaf) .leaf) (.node nA (.node (C3 f79) (.node U0 .leaf .leaf) .leaf) (.node R5 .leaf .leaf))) (.node f23 (.node nA (.node f71 .leaf .leaf) (.node UR (.node (C3 f167) .leaf .leaf) .leaf)) (.node nA (.node (C3 f87) (.node (C3 f151) .leaf .leaf) .leaf) .leaf))) (.node f11 (.node nA (.node (C3 f35) (.node (C3 f67) (.node (C3 RU) .leaf .leaf) .leaf) (.node (C3 f99) (.node (C3 Sf) .leaf .leaf) .leaf)) (.node nA (.node (C3 f83) .leaf .leaf) (.node R9 .leaf .leaf))) (.node nA (.node nA (.node f75 .leaf .leaf) (.node UT (.node U4 .leaf .leaf) .leaf)) (.node nA (.node nA (.node (C3 Sd) .leaf .leaf) .leaf) .leaf)))) (.node nA (.node nA (.node nA (.node f33 (.node (C3 f65) (.node (C3 GT) .leaf .leaf) .leaf) .leaf) (.node (C3 f49) (.node (C3 ZJ) .leaf .leaf) (.node R7 .leaf .leaf))) (.node (C3 f25) (.node (C3 f41) (.node f73 .leaf .leaf) (.node (C3 R3) .leaf .leaf)) (.node nA (.node nA (.node (C3 f153) .leaf .leaf) .leaf) .leaf))) (.node f13 (.node nA (.node (C3 f37) (.node f69 .leaf .leaf) (.node UQ .leaf .leaf)) (.node nA (.node (C3 f85) (.node (C3 RV) .leaf .leaf) .leaf) .leaf)) (.node f29 (.node f45 (.node f77 (.node UY .leaf .leaf) .leaf) (.node UU .leaf .leaf)) (.node (C3 f61) (.node f93 (.node (C3 f157) .leaf .leaf) .leaf) .leaf))))) (.node nA (.node f4 (.node f8 (.node f16 (.node (C3 f32) (.node (C3 f64) (.node (C3 Sa) .leaf .leaf) .leaf) .leaf) (.node f48 (.node (C3 f80) .leaf .leaf) (.node R6 .leaf .leaf))) (.node (C3 f24) (.node (C3 f40) (.node f72 .leaf .leaf) (.node (C3 R2) (.node (C3 Si) .leaf .leaf) .leaf)) (.node nA (.node f88 (.node U2 .leaf .leaf) .leaf) .leaf))) (.node (C3 f12) (.node nA (.node (C3 f36) (.node f68 (.node f132 .leaf .leaf) .leaf) (.node (C3 R1) (.node U3 .leaf .leaf) .leaf)) (.node nA (.node f84 .leaf .leaf) (.node UW .leaf .leaf))) (.node f28 (.node f44 (.node f76 (.node (C3 Sb) .leaf .leaf) .leaf) (.node (C3 R4) (.node (C3 Sl) .leaf .leaf) .leaf)) (.node nA (.node nA (.node (C3 RW) .leaf .leaf) .leaf) .leaf)))) (.node nA (.node (C3 f10) (.node f18 (.node (C3 f34) (.node (C3 f66) (.node UX .leaf .leaf) .leaf) (.node (C3 f98) (.node (C3 Se) .leaf .leaf) .leaf)) (.node nA .leaf (.node R8 .leaf .leaf))) (.node f26 (.node nA (.node f74 .leaf .leaf) (.node US (.node (C3 Sj) .leaf .leaf) .leaf)) (.node (C3 f58) (.node (C3 f90) (.node (C3 Sc) .leaf .leaf) .leaf) .leaf))) (.node f14 (.node nA (.node (C3 X0) (.node f70 .leaf .leaf) (.node f102 (.node (C3 f166) .leaf .leaf) .leaf)) (.node nA (.node (C3 f86) (.node U1 .leaf .leaf) .leaf) .leaf)) (.node f30 (.node f46 (.node (C3 f78) (.node UZ .leaf .leaf) .leaf) (.node UV .leaf .leaf)) (.node (C3 f62) (.node (C3 f94) (.node (C3 f158) .leaf .leaf) .leaf) (.node (C3 f126) .leaf .leaf)))))))
def YF(c:fV):fV:=λa=>match a with
 | .f f=>match Nat.blt f 173 with
  |true=>GZ (cC f) Hj (BA ac aa c)
  |false=>nf
 | .y b d l=>uS (BA ac aa c) (xc 0) ac IH (aa b) d l
def GG(n:Nat):fV:=Nat.rec (motive:=λ_=>fV) (λ_ _ _ _=>none) (λ_ c=>YF c) n
section
variable {k:Nat} {F:(R HT:Type)->A_ R HT->TG->HT->(TG->HT->R)->R} {fn:Fn1} {c:fV}
def tn(h1:GZ (cC k) Hj=nA:=by kernel_rfl):YN k (GZ (cC k) Hj (BA ac aa c)):=by
 intro d h K w b a;rw[h1]at a;cases a
def oy(g:F=λR HT A ls h K=>aw A (xc k) ac IH fn ls h K)(i:Gn (xc k) ac k fn)(j:W4 c):YN k (F RT wa (BA ac aa c)):=by
 intro ls h K w a b;rw[g]at b;obtain⟨l,f,d,_,e⟩:=sL (W0 (w:=w) j) uK i a b;exact⟨l,f,d,e⟩
def tw(a:F=λR HT A ls h K=>aw A (xc k) ac IH fn ls h K)(b:Gn (xc k) ac k fn)(d:W4 c)(h1:GZ (cC k) Hj=F RT wa:=by kernel_rfl):YN k (GZ (cC k) Hj (BA ac aa c)):=by
 rw[h1];exact oy a b d
def tm(a:F=λR HT A ls h K=>aw A (xc k) ac IH fn ls h K)(b:Gn (xc k) ac k fn)(f:W4 c){sg:GH}(d:ac k=some sg:=by rfl)(e:sg.plain=true:=by kernel_rfl)(h1:GZ (cC k) Hj=C3 (F RT wa):=by kernel_rfl):YN k (GZ (cC k) Hj (BA ac aa c)):=by
 rw[h1];exact UB (oy a b f) d e
end
def WN{c:fV}(a:W4 c):∀f,Nat.blt f 173=true->YN f (GZ (cC f) Hj (BA ac aa c))
 |0,_=>tn
 |1,_=>tn
 |2,_=>tn
 |3,_=>tn
 |4,_=>tw e4 i4 a
 |5,_=>tn
 |6,_=>tn
 |7,_=>tn
 |8,_=>tw e8 i8 a
 |9,_=>tn
 |10,_=>tm e10 i10 a
 |11,_=>tw e11 i11 a
 |12,_=>tm e12 i12 a
 |13,_=>tw e13 i13 a
 |14,_=>tw e14 i14 a
 |15,_=>tn
 |16,_=>tw e16 i16 a
 |17,_=>tn
 |18,_=>tw e18 i18 a
 |19,_=>tn
 |20,_=>tn
 |21,_=>tn
 |22,_=>tn
 |23,_=>tw e23 i23 a
 |24,_=>tm e24 i24 a
 |25,_=>tm e25 i25 a
 |26,_=>tw e26 i26 a
 |27,_=>tn
 |28,_=>tw e28 i28 a
 |29,_=>tw e29 i29 a
 |30,_=>tw e30 i30 a
 |31,_=>tw e31 i31 a
 |32,_=>tm e32 i32 a
 |33,_=>tw e33 i33 a
 |34,_=>tm e34 i34 a
 |35,_=>tm e35 i35 a
 |36,_=>tm e36 i36 a
 |37,_=>tm e37 i37 a
 |38,_=>tm e38 i38 a
 |39,_=>tn
 |40,_=>tm e40 i40 a
 |41,_=>tm e41 i41 a
 |42,_=>tn
 |43,_=>tn
 |44,_=>tw e44 i44 a
 |45,_=>tw e45 i45 a
 |46,_=>tw e46 i46 a
 |47,_=>tn
 |48,_=>tw e48 i48 a
 |49,_=>tm e49 i49 a
 |50,_=>tn
 |51,_=>tn
 |52,_=>tn
 |53,_=>tn
 |54,_=>tn
 |55,_=>tn
 |56,_=>tn
 |57,_=>tn
 |58,_=>tm e58 i58 a
 |59,_=>tn
 |60,_=>tn
 |61,_=>tm e61 i61 a
 |62,_=>tm e62 i62 a
 |63,_=>tm e63 i63 a
 |64,_=>tm e64 i64 a
 |65,_=>tm e65 i65 a
 |66,_=>tm e66 i66 a
 |67,_=>tm e67 i67 a
 |68,_=>tw e68 i68 a
 |69,_=>tw e69 i69 a
 |70,_=>tw e70 i70 a
 |71,_=>tw e71 i71 a
 |72,_=>tw e72 i72 a
 |73,_=>tw e73 i73 a
 |74,_=>tw e74 i74 a
 |75,_=>tw e75 i75 a
 |76,_=>tw e76 i76 a
 |77,_=>tw e77 i77 a
 |78,_=>tm e78 i78 a
 |79,_=>tm e79 i79 a
 |80,_=>tm e80 i80 a
 |81,_=>tm e81 i81 a
 |82,_=>tn
 |83,_=>tm e83 i83 a
 |84,_=>tw e84 i84 a
 |85,_=>tm e85 i85 a
 |86,_=>tm e86 i86 a
 |87,_=>tm e87 i87 a
 |88,_=>tw e88 i88 a
 |89,_=>tn
 |90,_=>tm e90 i90 a
 |91,_=>tn
 |92,_=>tn
 |93,_=>tw e93 i93 a
 |94,_=>tm e94 i94 a
 |95,_=>tn
 |96,_=>tn
 |97,_=>tn
 |98,_=>tm e98 i98 a
 |99,_=>tm e99 i99 a
 |100,_=>tm e100 i100 a
 |101,_=>tw e101 i101 a
 |102,_=>tw e102 i102 a
 |103,_=>tw e103 i103 a
 |104,_=>tm e104 i104 a
 |105,_=>tm e105 i105 a
 |106,_=>tw e106 i106 a
 |107,_=>tw e107 i107 a
 |108,_=>tm e108 i108 a
 |109,_=>tw e109 i109 a
 |110,_=>tw e110 i110 a
 |111,_=>tw e111 i111 a
 |112,_=>tw e112 i112 a
 |113,_=>tw e113 i113 a
 |114,_=>tw e114 i114 a
 |115,_=>tw e115 i115 a
 |116,_=>tw e116 i116 a
 |117,_=>tn
 |118,_=>tn
 |119,_=>tn
 |120,_=>tn
 |121,_=>tn
 |122,_=>tn
 |123,_=>tn
 |124,_=>tn
 |125,_=>tn
 |126,_=>tm e126 i126 a
 |127,_=>tm e127 i127 a
 |128,_=>tm e128 i128 a
 |129,_=>tm e129 i129 a
 |130,_=>tw e130 i130 a
 |131,_=>tm e131 i131 a
 |132,_=>tw e132 i132 a
 |133,_=>tn
 |134,_=>tn
 |135,_=>tn
 |136,_=>tn
 |137,_=>tn
 |138,_=>tn
 |139,_=>tn
 |140,_=>tm e140 i140 a
 |141,_=>tw e141 i141 a
 |142,_=>tw e142 i142 a
 |143,_=>tw e143 i143 a
 |144,_=>tn
 |145,_=>tn
 |146,_=>tn
 |147,_=>tn
 |148,_=>tn
 |149,_=>tm e149 i149 a
 |150,_=>tw e150 i150 a
 |151,_=>tm e151 i151 a
 |152,_=>tw e152 i152 a
 |153,_=>tm e153 i153 a
 |154,_=>tm e154 i154 a
 |155,_=>tm e155 i155 a
 |156,_=>tm e156 i156 a
 |157,_=>tm e157 i157 a
 |158,_=>tm e158 i158 a
 |159,_=>tn
 |160,_=>tn
 |161,_=>tn
 |162,_=>tm e162 i162 a
 |163,_=>tm e163 i163 a
 |164,_=>tw e164 i164 a
 |165,_=>tn
 |166,_=>tm e166 i166 a
 |167,_=>tm e167 i167 a
 |168,_=>tm e168 i168 a
 |169,_=>tn
 |170,_=>tm e170 i170 a
 |171,_=>tw e171 i171 a
 |172,_=>tm e172 i172 a
 |n+173,h=>by rw[Gf]at h;omega
def Rx{c:fV}(k:W4 c):W4 (YF c):=by
 refine⟨λf b h K w i a=>?_,λj d l b h K w p o q e n a=>?_⟩
 .have a:(match Nat.blt f 173 with|true=>GZ (cC f) Hj (BA ac aa c)|false=>nf) b h K=some w:=a;cases e:Nat.blt f 173 with
  |true=>rw[e]at a;exact WN k f e b h K w i a
  |false=>rw[e]at a;cases a
 .have m:YOk cc ac aa j (λd l b h K=>uS (BA ac aa c) (xc 0) ac IH (aa j) d l b h K):=y_of (g:=λc d l b h K=>uS (BA ac aa c) (xc 0) ac IH (aa j) d l b h K) (ct:=λc=>c) (λ_ _ _ _ _=>rfl) k;exact m d l b h K w p o q e n a
def qa:∀n,W4 (GG n)
 |0=>⟨λ_ _ _ _ _ _ h=>by(cases h),λ_ _ _ _ _ _ _ _ _ _ _ _ h=>by(cases h)⟩
 |n+1=>Rx (qa n)
end Go.Am
namespace Go.Am
namespace Sx
section
variable [Cf] [C8]
def A0(T:Tv)(f:Pk)(h:HL)(K:Tf):Prop:=∃cs,f.run (r_ T h)=some cs/\K cs
abbrev _root_.Tb:=List Value->HL->Prop
def q5(T:Tv)(f:Hp)(h:HL)(K:Tb):Prop:=∃a cs,f.run (r_ T h) h.length=some (a,cs)/\K cs (bH h a)
abbrev _root_.Te:=List Lf->HL->Prop
def v4(C:ke)(Sg:Td)(T:Tv)(g:TQ)(ls:TG)(h:HL)(K:Te):Prop:=∃a h',aI C Sg g ls (f_ T h) a (f_ T h')/\K a h'
def Zf(C:ke)(T:Tv)(v:Value)(args:Tn)(b:TN)(h:HL)(K:Te):Prop:=∃a h',wo C v args b (f_ T h) a (f_ T h')/\K a h'
def Ss(F:(TG->HL->Prop)->TG->HL->Prop)(n:Nat):TG->HL->Prop:=
 match n with
 |0=>λ_ _=>False
 |n+1=>F (Ss F n)
def X8(F:(TG->HL->Prop)->TG->HL->Prop)(ls:TG)(h:HL):Prop:=∃n,Ss F n ls h
def eD(C:ke)(T:Tv)(e:Nat)(v:Value)(a:Tn)(h:HL)(K:Tm->HL->Prop):Prop:=
 ∃g first cap r c b d,v = .func (.func g) first cap/\
  jE C g (first.toList++[.func (.yield (f_ T h).length) #[] #[]]++cap.toList) (f_ T h++[.loop (Em (T e) e a)]) r c/\
  eH c (f_ T h).length=some b/\b.state≠.busy/\f_ T d=c.set (f_ T h).length (.loop { b with state:=.exhausted })/\K b.pending d
def g3(T:Tv)(l:Nat)(h:HL)(K:HL->Prop):Prop:=∃a h',eH (f_ T h) l=some a/\a.state = .ready/\f_ T h'=(f_ T h).set l (.loop { a with state:=.busy })/\K h'
def bm(T:Tv)(l:Nat)(j:Tm)(h:HL)(K:HL->Prop):Prop:=∃a h',eH (f_ T h) l=some a/\f_ T h'=(f_ T h).set l (.loop { a with state:=if j.isNone then .ready else .done,pending:=j })/\K h'
def PH(C:ke)(Sg:Td)(T:Tv):A_ Prop HL where
 fail:=False
 cond:=XX
 w7:=S7
 E5:=λd k a c b K=>∃n,JJ d k a c b n/\K n
 cmp:=Up
 eqs:=λl K=>K (ch l)
 conv:=λk a K=>K (k.wrap a)
 FO:=λt a b K=>K (if t then a else b)
 h_:=lA
 k_:=λv K=>aJ v=true/\K
 oo:=l5
 D7:=m3
 Ck:=g6
 u4:=l1
 rv:=dD
 DV:=eL
 BM:=eF
 ts:=ez
 ka:=A0 T
 heap:=q5 T
 new:=λo h K=>K h.length (h++[.o o])
 call:=v4 C Sg T
 A7:=Zf C T
 join:=λb m=>m b
 loop:=X8
 Ec:=eD C T
 D4:=K4
 Ir:=g3 T
 Gw:=bm T
def NV(C:ke)(Sg:Td)(T:Tv):nc (PH C Sg T) C Sg T id (f_ T) where
 fail:=(gF C Sg T).fail
 cond:=(gF C Sg T).cond
 w7:=(gF C Sg T).w7
 E5:=(gF C Sg T).E5
 cmp:=(gF C Sg T).cmp
 eqs:=(gF C Sg T).eqs
 conv:=(gF C Sg T).conv
 FO:=(gF C Sg T).FO
 h_:=(gF C Sg T).h_
 k_:=(gF C Sg T).k_
 oo:=(gF C Sg T).oo
 D7:=(gF C Sg T).D7
 Ck:=(gF C Sg T).Ck
 u4:=(gF C Sg T).u4
 rv:=(gF C Sg T).rv
 DV:=(gF C Sg T).DV
 BM:=(gF C Sg T).BM
 ts:=(gF C Sg T).ts
 ka:=by
  intro f h K a;obtain⟨d,e,i⟩:=a;exact⟨d,by rw[←pw];exact e,i⟩
 heap:=by
  intro f h K a;obtain⟨c,d,e,i⟩:=a;exact⟨c,d,_,by rw[←pw,jd];exact e,lO T c h,i⟩
 new:=λo h K a=>⟨_,kw T h _,by rw[jd];exact a⟩
 call:=λg k h K a=>a
 A7:=λv p r h K a=>a
 join:=λb m h=>h
 loop:=by
  intro F k h a;obtain⟨n,a⟩:=a;exact⟨Ss F,λk h=>(id:False->False),λn k h=>rfl,n,a⟩
 Ec:=λs v q h K a=>a
 D4:=(gF C Sg T).D4
 Ir:=λl h K a=>a
 Gw:=λl j h K a=>a
section
variable {C:ke} {Sg:Td} {T:Tv} {call:fV} (hc:D0 C Sg T call)
include hc
theorem Q8{e:BinOp}{k d:TL}{a b:Int}{K:Int->RT}{c:Tw}(i:∀n,K n=dk->c n)(h:(BA Sg T call).E5 e k a d b K=dk):(PH C Sg T).E5 e k a d b c:=by
 obtain⟨n,f,g⟩:=Lr (w:=[]) h;exact⟨n,f,i _ g⟩
end
def zd{F:(TG->HL->Prop)->TG->HL->Prop}(Inv:Nat->TG->HL->Prop)
  (step:∀m ls h,Inv m ls h->∀a:TG->HL->Prop,(∀b ls h,b<m->Inv b ls h->a ls h)->F a ls h):∀n m ls h,m<n->Inv m ls h->Ss F n ls h
 |0,_,_,_,d,_=>absurd d (qdw _)
 |n+1,m,ls,h,d,e=>step m ls h e (Ss F n) λb ls h h' c=>zd Inv step n b ls h (by omega) c
def aG{F:(TG->HL->Prop)->TG->HL->Prop}(Inv:Nat->TG->HL->Prop){m:Nat}{ls:TG}{h:HL}(c:Inv m ls h)
  (step:∀m ls h,Inv m ls h->∀a:TG->HL->Prop,(∀b ls h,b<m->Inv b ls h->a ls h)->F a ls h):X8 F ls h:=
 ⟨m+1,zd Inv step (m+1) m ls h (Nat.lt_succ_self m) c⟩
end
end Sx
end Go.Am
end

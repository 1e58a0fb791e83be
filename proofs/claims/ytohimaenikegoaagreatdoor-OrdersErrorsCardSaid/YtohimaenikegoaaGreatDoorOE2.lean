import Derived.Test.YtohimaenikegoaaGreatDoorOE1
import Derived.Test.YtohimaenikegoaaGreatDoorProg
set_option linter.all false
noncomputable section
set_option maxRecDepth 100000
open List(range replicate)
namespace Go.Am
section
variable [Co] {C:m'}
structure F0(S S':Fg):Prop where
 call:∀f args H r H',S.call f args H r H'->S'.call f args H r H'
 yield:∀l args H r H',S.yield l args H r H'->S'.yield l args H r H'
 ex:∀fid c g9 e i6,S.ex fid c g9 e i6->S'.ex fid c g9 e i6
def wI{B B':Below}(d:∀f args H r H',B.call f args H r H'->B'.call f args H r H')(g:∀l args H r H',B.yield l args H r H'->B'.yield l args H r H')
  {e:DS} {dst:Tq} {g9 c:St} (h:mY B e dst g9 c):mY B' e dst g9 c:=by
 cases e<;>first
  |exact h
  |(obtain⟨r,H,a,b⟩:=h;first|exact⟨r,H,d _ _ _ _ _ a,b⟩|exact⟨r,H,g _ _ _ _ _ a,b⟩)
def da{B B':Below}(d:∀f args H r H',B.call f args H r H'->B'.call f args H r H')(g:∀l args H r H',B.yield l args H r H'->B'.yield l args H r H')
  {b_:TC} {ops:To} {i:Nat} {g9 a:St} (h:ao C B b_ ops i g9 a):ao C B' b_ ops i g9 a:=by
 unfold ao at *;split at h
 .exact h
 .split at h
  .exact h
  .exact h
  .rcases h with⟨e,b,c⟩|h
   .exact .inl ⟨e,b,wI d g c⟩
   .exact .inr h
def fO{B B':Below}(a:∀f args H r H',B.call f args H r H'->B'.call f args H r H')(b:∀l args H r H',B.yield l args H r H'->B'.yield l args H r H')
  {b_:TC} {ops:To}:∀ {l:TC} {g9 c:St},br C B b_ ops l g9 c->br C B' b_ ops l g9 c
 | [],_,_,h=>h
 |_ :: _,_,_,⟨j6,h1,d⟩=>⟨j6,da a b h1,fO a b d⟩
def nq{B B':Below}(a:∀f args H r H',B.call f args H r H'->B'.call f args H r H')(b:∀l args H r H',B.yield l args H r H'->B'.yield l args H r H')
  {b_:TC} {ops:To}:∀ {l:TC} {g9 c:St},fM C B b_ ops l g9 c->fM C B' b_ ops l g9 c
 | [],_,_,h=>h
 |_ :: _,_,_,⟨e,j6,h0,h1,d⟩=>⟨e,j6,h0,da a b h1,nq a b d⟩
def lN{B B':Below}(a:∀f args H r H',B.call f args H r H'->B'.call f args H r H')(b:∀l args H r H',B.yield l args H r H'->B'.yield l args H r H')
  {b_:TC} {ops:To} {d:Nat->Ts}:∀ {l:TC} {g9 c:St},ju C B b_ ops d l g9 c->ju C B' b_ ops d l g9 c
 | [],_,_,h=>h
 |i :: _,_,_,⟨h0,j6,h1,e⟩=>⟨h0,j6,by
  unfold ed at h1 ⊢;split at h1
  .exact da a b h1
  .exact h1,lN a b e⟩
def wx{B B':Below}(a:∀f args H r H',B.call f args H r H'->B'.call f args H r H')(b:∀l args H r H',B.yield l args H r H'->B'.yield l args H r H')
  {b_:TC} {ops:To} {g9 c:St} (h:eo C B b_ ops g9 c):eo C B' b_ ops g9 c:=
 h.imp (λh t=>fO a b (h t)) λ⟨j,n,d,e,g,i⟩=>⟨j,n,d,e,g,λt=>lN a b (i t)⟩
def wM{S v:Fg}(h:F0 S v){m:TC}{c:Code}{g9:St}{e:Exit}{y:St}(i:pz C S m c g9 e y):pz C v m c g9 e y:=by
 cases c with
 |skip=>exact i
 |label l=>exact i
 |ret=>exact i
 |exit id=>exact i
 |goto l=>exact i
 |refuse w=>exact i
 |seq a b=>
  obtain⟨n,u,j,d⟩:=i;exact⟨n,u,h.ex _ _ _ _ _ j,d.imp (λd=>⟨d.1,h.ex _ _ _ _ _ d.2⟩) id⟩
 |cond c a b=>
  obtain⟨t,j,d⟩:=i;exact⟨t,j,h.ex _ _ _ _ _ d⟩
 |block id b=>
  obtain⟨n,j,d⟩:=i;exact⟨n,h.ex _ _ _ _ _ j,d⟩
 |loop b=>
  obtain⟨n,u,j,d⟩:=i;exact⟨n,u,h.ex _ _ _ _ _ j,d.imp (λd=>⟨d.1,h.ex _ _ _ _ _ d.2⟩) id⟩
 |scope b=>exact h.ex _ _ _ _ _ i
 |region id B k=>
  obtain⟨j,d⟩:=i;refine⟨j,?_⟩;cases k with
  |true=>
   obtain⟨D,q,s⟩:=d;exact⟨D,q,wx h.call h.yield s⟩
  |false=>exact nq h.call h.yield d
 |rangeFunc f o assign x=>
  obtain⟨z,g,first,p,F,tm,r,H,E,j,d,q,s,A⟩:=i;exact⟨z,g,first,p,F,tm,r,H,E,j,d,q,h.call _ _ _ _ _ s,A⟩
def sE{S a:Fg}(h:F0 S a){f:TQ}{args:Tn}{H:Tu}{r:TR}{H':Tu}(m:nT C S f args H r H'):nT C a f args H r H':=by
 obtain⟨c,b,e,d,n,g,i,j,k,l⟩:=m;exact⟨c,b,e,d,n,g,i,j,h.ex _ _ _ _ _ k,l⟩
def qL{S a:Fg}(h:F0 S a){l:Nat}{args:Tn}{H:Tu}{r:TR}{H':Tu}(m:lQ C S l args H r H'):lQ C a l args H r H':=by
 obtain⟨o,n,q,e,p,s,j,b,c,d,f,g,i,k⟩:=m;exact⟨o,n,q,e,p,s,j,b,c,h.ex _ _ _ _ _ d,f,g,h.ex _ _ _ _ _ i,k⟩
class C7 where
 kn:TQ->Tn->Value->Prop
 kh:TQ->Tn->Tu->Value->Tu->Prop
variable [C7]
def noK:NX:=λf a H r b=>(C7.kn f a r/\b=H)∨C7.kh f a H r b
def sm(C:m')(n:Nat):Fg:=Nl C noK n
def LG:∀n,F0 (sm C n) (sm C (n+1))
 |0=>⟨λ_ _ _ _ _ h=>.inl h,λ_ _ _ _ _ h=>h.elim,λ_ _ _ _ _ h=>h.elim⟩
 |n+1=>by
  have a:=LG n;exact⟨λ_ _ _ _ _ h=>h.imp id (sE a),λ_ _ _ _ _ h=>qL (C:=C) a h,λ_ _ _ _ _ h=>wM a h⟩
def jE{n:Nat}:∀ {m:Nat},n<=m->F0 (sm C n) (sm C m)
 |0,h=>by
  obtain rfl:n=0:=Nat.le_zero.1 h;exact⟨λ_ _ _ _ _ h=>h,λ_ _ _ _ _ h=>h,λ_ _ _ _ _ h=>h⟩
 |m+1,h=>by
  by_cases c:n=m+1
  .subst c;exact⟨λ_ _ _ _ _ h=>h,λ_ _ _ _ _ h=>h,λ_ _ _ _ _ h=>h⟩
  .have b:=jE (n:=n) (m:=m) a_;have a:=LG (C:=C) m;exact⟨λ_ _ _ _ _ h=>a.call _ _ _ _ _ (b.call _ _ _ _ _ h),λ_ _ _ _ _ h=>a.yield _ _ _ _ _ (b.yield _ _ _ _ _ h),λ_ _ _ _ _ h=>a.ex _ _ _ _ _ (b.ex _ _ _ _ _ h)⟩
def jF(C:m')(f:TQ)(args:Tn)(H:Tu)(r:Value)(H':Tu):Prop:=∃n,(sm C n).call f args H r H'
def ip(C:m')(l:Nat)(args:Tn)(H:Tu)(r:Value)(H':Tu):Prop:=∃n,(sm C n).yield l args H r H'
def Du(C:m')(a:TC)(c:Code)(g9:St)(e:Exit)(b:St):Prop:=∃n,(sm C n).ex a c g9 e b
def uB(C:m'):Below:={ call:=jF C,yield:=ip C }
theorem R5(d:C.P.follows .mixedOrders=true)(a:∀f args r,C7.kn f args r->∀H,dG C f args H r H)(c:∀f args H r H',C7.kh f args H r H'->dG C f args H r H'){f:TQ}{args:Tn}{H:Tu}{r:TR}{H':Tu}(h:jF C f args H r H'):dG C f args H r H':=by
 obtain⟨n,h⟩:=h;exact(Lv d (K:=noK) (λf args H r H' h=>by
  rcases h with⟨b,rfl⟩|h
  .exact a f args r b _
  simp_all) n).1.call _ _ _ _ _ h
def My{e:DS}{dst:Tq}{g9 a:St}(h:mY (uB C) e dst g9 a):∃n,mY (sm C n).toBelow e dst g9 a:=by
 cases e<;>first
  |exact⟨0,h⟩
  |(obtain⟨r,H,⟨n,b⟩,c⟩:=h;exact⟨n,r,H,b,c⟩)
def jv{b_:TC}{ops:To}{i:Nat}{g9 c:St}(h:ao C (uB C) b_ ops i g9 c):∃n,ao C (sm C n).toBelow b_ ops i g9 c:=by
 unfold ao at h;split at h
 next b=>exact⟨0,by unfold ao;rw[b];exact h⟩
 next o b=>
  split at h
  .exact h.elim
  next d=>exact⟨0,by unfold ao;simp_all⟩
  next d=>
   rcases h with⟨e,f,a⟩|h
   .obtain⟨n,a⟩:=My a;exact⟨n,by unfold ao;simp_all⟩
   .exact⟨0,by unfold ao;simp_all⟩
def iU{b_:TC}{ops:To}:∀ {l:TC} {g9 d:St},br C (uB C) b_ ops l g9 d->∃n,br C (sm C n).toBelow b_ ops l g9 d
 | [],_,_,h=>⟨0,h⟩
 |_ :: _,_,_,⟨j6,h1,a⟩=>by
  obtain⟨n,h1⟩:=jv h1;obtain⟨m,a⟩:=iU a;have c:=jE (C:=C) (f0 n m);have b:=jE (C:=C) (eD n m);exact⟨max n m,j6,da c.call c.yield h1,fO b.call b.yield a⟩
theorem gj.refl(g9:St):gj g9 g9:=⟨rfl,rfl,rfl,λi x y a b=>kb⟩
def rJ{B:Below}{b_:TC}{ops:To}:∀ {l:TC} {g9 a:St},br C B b_ ops l g9 a->fM C B b_ ops l g9 a
 | [],_,_,h=>h
 |_ :: _,g9,_,⟨j6,h1,b⟩=>⟨g9,j6,.refl g9,h1,rJ b⟩
section rules
variable {fid:TC} {g9 j6 i6:St} {e s8:Exit} {a b:Code}
def Du.skip:Du C fid .skip g9 .normal g9:=⟨1,rfl,rfl⟩
def Du.label{l:Nat}:Du C fid (.label l) g9 .normal g9:=⟨1,rfl,rfl⟩
def Du.ret:Du C fid .ret g9 .ret g9:=⟨1,rfl,rfl⟩
def Du.exit{id:Nat}:Du C fid (.exit id) g9 (.exit id) g9:=⟨1,rfl,rfl⟩
def Du.seq(h1:Du C fid a g9 .normal j6)(c:Du C fid b j6 e i6):Du C fid (.seq a b) g9 e i6:=by
 obtain⟨n,h1⟩:=h1;obtain⟨m,c⟩:=c;exact⟨max n m+1,.normal,j6,(jE (f0 n m)).ex _ _ _ _ _ h1,.inl ⟨rfl,(jE (eD n m)).ex _ _ _ _ _ c⟩⟩
def Du.seqX(h1:Du C fid a g9 e i6)(c:e≠.normal):Du C fid (.seq a b) g9 e i6:=by
 obtain⟨n,h1⟩:=h1;exact⟨n+1,e,i6,h1,.inr ⟨c,rfl,rfl⟩⟩
def Du.cond{c:TK}{t:Bool}(d:jw g9.tmps c = .bool t)(h:Du C fid (if t then a else b) g9 e i6):Du C fid (.cond c a b) g9 e i6:=by
 obtain⟨n,h⟩:=h;exact⟨n+1,t,d,h⟩
def Du.block{id:Nat}(h:Du C fid b g9 e i6):Du C fid (.block id b) g9 (jS id e) i6:=by
 obtain⟨n,h⟩:=h;exact⟨n+1,e,h,rfl⟩
def Du.loop(h1:Du C fid b (g9.clear (aQ fid b)) .normal j6)(c:Du C fid (.loop b) j6 e i6):Du C fid (.loop b) g9 e i6:=by
 obtain⟨n,h1⟩:=h1;obtain⟨m,c⟩:=c;exact⟨max n m+1,.normal,j6,(jE (f0 n m)).ex _ _ _ _ _ h1,.inl ⟨rfl,(jE (eD n m)).ex _ _ _ _ _ c⟩⟩
def Du.loopX(h1:Du C fid b (g9.clear (aQ fid b)) e i6)(c:e≠.normal):Du C fid (.loop b) g9 e i6:=by
 obtain⟨n,h1⟩:=h1;exact⟨n+1,e,i6,h1,.inr ⟨c,rfl,rfl⟩⟩
def Du.scope(h:Du C fid b g9 e i6):Du C fid (.scope b) g9 e i6:=by
 obtain⟨n,h⟩:=h;exact⟨n+1,h⟩
def Du.region{id:Nat}{ops:To}(h:br C (uB C) fid ops (range ops.size) g9 i6):Du C fid (.region id ops false) g9 .normal i6:=by
 obtain⟨n,h⟩:=iU h;exact⟨n+1,rfl,rJ h⟩
def Du.draw{id:Nat}{ops:To}(c:∀n,br C (sm C n).toBelow fid ops (range ops.size) g9 i6->eo C (sm C n).toBelow fid ops g9 i6)
  (h:br C (uB C) fid ops (range ops.size) g9 i6):Du C fid (.region id ops true) g9 .normal i6:=by
 obtain⟨n,h⟩:=iU h;exact⟨n+1,rfl,g9,.refl g9,c n h⟩
def Du.drawS{g:St}{id:Nat}{ops:To}{o p:TC}{k:Nat}(c:∀n,br C (sm C n).toBelow fid ops o g9 j6->ao C (sm C n).toBelow fid ops k j6 g->br C (sm C n).toBelow fid ops p j6 i6->eo C (sm C n).toBelow fid ops g9 i6)
  (h1:br C (uB C) fid ops o g9 j6) (d:ao C (uB C) fid ops k j6 g) (f:br C (uB C) fid ops p j6 i6):Du C fid (.region id ops true) g9 .normal i6:=by
 obtain⟨n,h1⟩:=iU h1;obtain⟨m,d⟩:=jv d;obtain⟨l,f⟩:=iU f;have h:=jE (C:=C) (show n<=max n (max m l)by omega);have i:=jE (C:=C) (show m<=max n (max m l)by omega);have j:=jE (C:=C) (show l<=max n (max m l)by omega);exact⟨max n (max m l)+1,rfl,g9,.refl g9,c _ (fO h.call h.yield h1) (da i.call i.yield d) (fO j.call j.yield f)⟩
def Du.drawA{id:Nat}{ops:To}{n:Nat}(h:eo C (sm C n).toBelow fid ops g9 i6):Du C fid (.region id ops true) g9 .normal i6:=
 ⟨n+1,rfl,g9,.refl g9,h⟩
def Du.rangeFunc{f:TK}{params:Array Tmp}{assign body:Code}{g:TQ}{first cap:Tl}{y0:TQ}{tm:Tn}{r:TR}{H:Tu}{c:Fp}
  (h0:fid≠[]) (h1:yx g9.tmps tm) (h:jw g9.tmps f = .func (.func g) first cap) (i:n_ (.func (.func g) first cap)=true)
  (d:jF C g (first.toList++[.func (.yield g9.heap.length) #[] #[]]++cap.toList)
    (g9.heap++[.loop { state:=.ready,pending:=none,fn:=y0,tmps:=tm,params:=params.toList,assign,body }]) r H)
  (j:eI H g9.heap.length=some c) (k:c.state≠.busy) (l:yQ c.pending=some e) :
  Du C fid (.rangeFunc f params assign body) g9 e { g9 with heap:=H.set g9.heap.length (.loop { c with state:=.exhausted }) }:=by
 obtain⟨n,d⟩:=d;exact⟨n+1,h0,g,first,cap,y0,tm,r,H,c,h1,h,i,d,j,k,l,rfl⟩
def jF.intro{f:TQ}{args:Tn}{H:Tu}{d:Func}{c:Code}{vs:Tn}
  (h1:C.P.funcs[f]?=some d) (h:d.body=some c) (i:((d.name == "runtime.NumGoroutine")||C.opq f)=false)
  (g:Du C (C.b_ f) c (mZ d args H) e g9) (j:e = .normal∨e = .ret) (k:dd C g9 d.results.toList=some vs) (l:n_ (fQ vs)=true) :
  jF C f args H (fQ vs) g9.heap:=by
 obtain⟨n,g⟩:=g;exact⟨n+1,.inr ⟨d,c,e,g9,vs,h1,h,i,g,j,k,rfl,l,rfl⟩⟩
def ip.intro{l:Nat}{args:Tn}{H:Tu}{c f i:Fp}{d:St}{j:Tm}
  (h1:eI H l=some c) (k:args.length=c.params.length)
  (g:Du C [] c.assign { tmps:=cR c.params args c.tmps,loc:=[],heap:=H } .normal j6)
  (o:eI j6.heap l=some f) (p:f.state = .ready)
  (h:Du C [] c.body { j6 with heap:=j6.heap.set l (.loop { f with state:=.busy }) } e d) (q:I9 e=some j) (r:eI d.heap l=some i) :
  ip C l args H (.bool j.isNone) (d.heap.set l (.loop { i with state:=if j.isNone then .ready else .done,pending:=j })):=by
 obtain⟨n,g⟩:=g;obtain⟨m,h⟩:=h;exact⟨max n m+1,c,j6,f,e,d,i,j,h1,k,(jE (f0 n m)).ex _ _ _ _ _ g,o,p,(jE (eD n m)).ex _ _ _ _ _ h,q,r,rfl,rfl⟩
end rules
end
inductive Lf where
 |i (n:Int)
 |b (t:Bool)
 |v (x:Value)
inductive LK where
 |i (k:TL)
 |b
 |v
abbrev _root_.TJ:=List LK
inductive SK where
 |leaf (k:LK)
 |agg (ks:TJ)
inductive SL where
 |i (k:TL) (n:Int)
 |b (t:Bool)
 |l (t:Bool)
 |v (x:Value)
inductive S0 where
 |leaf (l:SL)
 |agg (cs:List SL)
inductive SV where
 |st (x:S0)
 |JK (xs:List S0)
 |GD (s off:Nat)
 |IF (s base:Nat) (ix:List (Int×Nat))
 |ID (g off:Nat)
 |Kv (g base:Nat) (ix:List (Int×Nat))
 |un
 |no
inductive LR where
 |Ix
 |nil
 |any (n:Nat)
 |row (cs:List SL)
structure Env where
 tm:List SV
 lc:List LR
def SL.val:SL->Value
 | .i k n=>.int k n
 | .b t=>.bool t
 | .l t=>.bool t
 | .v x=>x
def SL.lf:SL->Lf
 | .i _ n=>.i n
 | .b t=>.b t
 | .l t=>.b t
 | .v x=>.v x
def S0.val:S0->Value
 | .leaf l=>l.val
 | .agg cs=>.agg ⟨cs.map SL.val⟩
def S0.cells:S0->List SL
 | .leaf l=>[l]
 | .agg cs=>cs
def C8(a:Nat):List (Int×Nat)->Nat
 | []=>a
 |p :: l=>C8 (a+p.1.toNat*p.2) l
def SV.val:SV->Value
 | .st x=>x.val
 | .JK xs=>.tuple ⟨xs.map S0.val⟩
 | .GD s off=>.pointer (some ⟨s,off,some 0⟩)
 | .IF s a ix=>.pointer (some ⟨s,C8 a ix,some 0⟩)
 | .ID g off=>.pointer (some ⟨g,off,some 1⟩)
 | .Kv g a ix=>.pointer (some ⟨g,C8 a ix,some 1⟩)
 | .un=>undef
 | .no=>undef
def aF(x:Value):Bool:=n_ x&&aS x&&aO x && !aH x
def Fy(x:Value):Option Unit:=if bB x then some ()else none
def Iq:Value->SL
 | .int k n=>.i k n
 | .bool t=>.l t
 |v=>.v v
def Hm:Value->Option S0
 | .agg cs=>match cs.toList.all scalar with
  |true=>some (.agg (cs.toList.map Iq))
  |false=>none
 |v=>match scalar v with
  |true=>some (.leaf (Iq v))
  |false=>none
def kNo(k:TL):Nat:=@IntKind.rec (λ_=>Nat) 0 1 2 3 4 5 6 7 k
def cY(a b:TL):Bool:=Nat.beq (kNo a) (kNo b)
def SL.is:SL->LK->Bool
 | .i k _,.i a=>cY k a
 | .b _,.b=>true
 | .l _,.b=>true
 | .v _,.v=>true
 |_,_=>false
def aT:List SL->TJ->Bool
 | [],[]=>true
 |c :: cs,k :: ks=>c.is k&&aT cs ks
 |_,_=>false
def S0.is:S0->SK->Bool
 | .leaf l,.leaf k=>l.is k
 | .agg cs,.agg ks=>aT cs ks
 |_,_=>false
def SL.lk:SL->LK
 | .i k _=>.i k
 | .b _=>.b
 | .l _=>.b
 | .v _=>.v
structure Live where
 tm:List (Nat×SK)
 rows:List (Nat×List LK)
abbrev _root_.TN:=List SK
inductive AC where
 |skip
 |ret
 |exit (id:Nat)
 |label (l:Nat)
 |seq (a b:AC)
 |scope (b:AC)
 |region (id:Nat) (ops:To) (draw:Bool) (hs:List (TN)) (j:Option Live)
 |cond (c:TK) (a b:AC) (j:Option Live)
 |block (id:Nat) (b:AC) (j:Option Live)
 |loop (b:AC) (l:Live)
 |rangeFunc (f:TK) (j8:Nat) (ids:TC)
structure Site where
 nt:Nat
 caps:List (Nat×SK)
 params:List (Nat×SK)
 assign:AC
 body:AC
def AC.erase(T:Nat->Tmp->Code):AC->Code
 | .skip=>.skip
 | .ret=>.ret
 | .exit id=>.exit id
 | .label l=>.label l
 | .seq a b=>.seq (a.erase T) (b.erase T)
 | .scope b=>.scope (b.erase T)
 | .region id ops d _ _=>.region id ops d
 | .cond c a b _=>.cond c (a.erase T) (b.erase T)
 | .block id b _=>.block id (b.erase T)
 | .loop b _=>.loop (b.erase T)
 | .rangeFunc f e _=>match f with
  | .tmp t=>T e t
  |_=> .refuse ""
def rG:Nat->Tmp->Code:=λ_ _=> .refuse ""
def gi(s:Site)(t:Tmp):Code:=.rangeFunc (.tmp t) (s.params.map (·.1)).toArray (s.assign.erase rG) (s.body.erase rG)
def HD:Code->List Nat
 | .region _ ops _=>ops.toList.filterMap (·.dst)
 | .seq a b=>HD a++HD b
 | .cond _ a b=>HD a++HD b
 | .block _ b=>HD b
 | .loop b=>HD b
 | .scope b=>HD b
 |_=>[]
def jZ(b_:TC)(o:Oper):Ts:=
 match o.op with
 | .box .. | .alloc _=>match o.dst with
  |some d=>if b_.getD d 0=d+2 then some d else none
  |none=>none
 | .store _ a _=>match nI b_ a with
  |s+2=>some s
  |_=>none
 |_=>none
def Fw(b_:TC):Code->List Nat
 | .region _ ops _=>ops.toList.filterMap (jZ b_)
 | .seq a b=>Fw b_ a++Fw b_ b
 | .cond _ a b=>Fw b_ a++Fw b_ b
 | .block _ b=>Fw b_ b
 | .loop b=>Fw b_ b
 | .scope b=>Fw b_ b
 | .rangeFunc _ _ a b=>Fw b_ a++Fw b_ b
 |_=>[]
section
variable {R:Type}
def fN(n:Nat)(k:Nat->R):R:=Nat.rec (motive:=λ_=>R) (k n) (λm _=>k m) (Nat.succ n)
def fI(n:Int)(k:Int->R):R:=Int.rec (motive:=λ_=>R) (λm=>fN m λm=>k (.ofNat m)) (λm=>fN m λm=>k (.negSucc m)) n
def ew(n:Nat)(k:Nat->R):fN n k=k n:=rfl
def kR(n:Int)(k:Int->R):fI n k=k n:=by cases n<;>rfl
end
def VH(a b:Int):Bool:=Int.rec (λm=>Int.rec (λn=>Nat.ble m n) (λ_=>false) b) (λm=>Int.rec (λ_=>true) (λn=>Nat.ble n m) b) a
def KK{a b:Int}:VH a b=true↔a<=b:=by
 cases a<;>cases b<;>simp only[VH,HB,D7,false_iff,true_iff,Int.ofNat_eq_natCast]<;>omega
def Mu{i7:Type}(l:List i7):Nat->Nat->Option (List i7):=
 List.rec (motive:=λ_=>Nat->Nat->Option (List i7))
  (λb n=>Nat.rec (Nat.rec (some []) (λ_ _=>none) n) (λ_ _=>none) b)
  (λa _ c b n=>Nat.rec (Nat.rec (some []) (λm _=>Option.rec none (λl=>some (a :: l)) (c 0 m)) n) (λo _=>c o n) b) l
def oX{i7:Type}:∀(l:List i7) (off n:Nat),Mu l off n=if off+n<=l.length then some ((l.drop off).take n)else none
 | [],0,0=>rfl
 | [],0,n+1=>by rw[te c_];rfl
 | [],o+1,n=>by rw[te c_];rfl
 |a :: l,0,0=>by rw[rv c_];rfl
 |a :: l,0,n+1=>by
  show(Option.rec none (λl=>some (a :: l)) (Mu l 0 n):Option (List i7))=_;rw[oX l 0 n];by_cases h:0+n<=l.length
  .simp_all
  .rw[te h,te (by simp at h ⊢;omega)]
 |a :: l,o+1,n=>by
  show Mu l o n=_;rw[oX l o n]
  grind
def W_{i7:Type}(l:List i7):Nat->List i7->Option (List i7):=
 List.rec (motive:=λ_=>Nat->List i7->Option (List i7))
  (λd c=>Nat.rec (List.rec (some []) (λ_ _ _=>none) c) (λ_ _=>none) d)
  (λa t e d c=>Nat.rec (List.rec (some (a :: t)) (λb f _=>Option.rec none (λl=>some (b :: l)) (e 0 f)) c) (λo _=>Option.rec none (λl=>some (a :: l)) (e o c)) d) l
def yh{i7:Type}:∀(l:List i7) (off:Nat) (new:List i7),W_ l off new=if off+new.length<=l.length then some (l.take off++new++l.drop (off+new.length))else none
 | [],0,[]=>rfl
 | [],0,b :: c=>by rw[te c_];rfl
 | [],o+1,new=>by rw[te c_];rfl
 |a :: l,0,[]=>by rw[rv c_];rfl
 |a :: l,0,b :: c=>by
  show(Option.rec none (λl=>some (b :: l)) (W_ l 0 c):Option (List i7))=_;rw[yh l 0 c];by_cases h:0+c.length<=l.length
  .simp_all
  .rw[te h,te (by simp at h ⊢;omega)]
 |a :: l,o+1,new=>by
  show(Option.rec none (λl=>some (a :: l)) (W_ l o new):Option (List i7))=_;rw[yh l o new];by_cases h:o+new.length<=l.length
  .rw[rv h,rv (by simp at h ⊢;omega)];grind
  .rw[te h,te (by simp at h ⊢;omega)]
abbrev cQ:=Nat->Option p_
inductive Cw where
 |set (i:Nat) (o:p_)
 |push (o:p_)
def Cw.on(H:Tu):Cw->List p_
 | .set i o=>H.set i o
 | .push o=>H++[o]
def ii(H:Tu)(l:List Cw):Tu:=l.foldl Cw.on H
def iD(g:cQ)(id:Nat):Option (Tn):=
 match g id with
 |some (.cells a _ _)=>some a
 |_=>none
def eP(n:Nat)(p:Value)(g:cQ):Option (Tn):=
 match p with
 | .pointer (some a)=>match a.spot with
  |none=>(iD g a.block).bind λb=>cut b a.off n
  |some _=>none
 |_=>none
def fs(C:m')(n:Nat)(p:Value)(g:cQ):Option (Tn):=
 match p with
 | .pointer (some a)=>match a.spot with
  |none=>(iD g a.block).bind λb=>cut b a.off n
  |some k=>match Nat.beq k 1 with
   |true=>(C.G a.block).bind λb=>cut b a.off n
   |false=>none
 |_=>none
def JH(p:Value)(new:Tn)(g:cQ)(_:Nat):Option (List Cw×List Value):=
 match p with
 | .pointer (some a)=>match a.spot with
  |none=>match g a.block with
   |some (.cells c e true)=>(s_ c a.off new).map λb=>([.set a.block (.cells b e true)],[])
   |_=>none
  |some _=>none
 |_=>none
def NP(C:m')(r_:Nat)(g:cQ):Value->Option (List Value×Nat)
 | .slice none 0 0=>some ([],0)
 | .slice (some a) len _=>
  if a.spot=some 1 then((C.G a.block).bind λvs=>cut vs a.off (len*r_)).map λx=>(x,len)
  else if a.spot=le r_ then
   match g a.block with
   |some (.cells vs e _)=>if e=r_ then(cut vs a.off (len*r_)).map λx=>(x,len)else none
   |_=>none
  else none
 | .string s=>if r_=1 then some (s.data.toList.map λb=>.int .u8 b.toNat,s.size)else none
 |_=>none
def Em(C:m')(r_ bytes:Nat)(s x:Value)(g:cQ)(n0:Nat):Option (List Cw×List Value):=
 match NP C r_ g x with
 |none=>none
 |some (c,n)=>
  match s with
  | .slice none 0 0=>
   if n=0 then some ([],[.slice none 0 0])
   else if bc n bytes then some ([.push (.cells c r_ true)],[.slice (some ⟨n0,0,le r_⟩) n 0])else none
  | .slice (some a) b i=>
   if a.spot≠le r_ then none else
   match g a.block with
   |some (.cells h e rw)=>
    if e≠r_ then none else
    match cut h a.off (b*r_)with
    |none=>none
    |some d=>
     match i with
     |0=>
      if n=0 then some ([],[.slice (some a) b 0])
      else if rw&&bc (b+n) bytes then
       some ([.set a.block .dead,.push (.cells (d++c) r_ true)],[.slice (some ⟨n0,0,le r_⟩) (b+n) 0])
      else none
     |cap+1=>
      if b+n<=cap then
       if rw then(s_ h (a.off+b*r_) c).map λf=>([.set a.block (.cells f e true)],[.slice (some a) (b+n) (cap+1)])
       else if n=0 then some ([],[.slice (some a) b (cap+1)])else none
      else if bc (b+n) bytes then
       some ([.push (.cells (d++c) r_ true)],[.slice (some ⟨n0,0,le r_⟩) (b+n) 0])
      else none
   |_=>none
  |_=>none
def cpG(C:m')(r_:Nat)(d x:Value)(g:cQ)(_:Nat):Option (List Cw×List Value):=none
def clG(r_:Nat)(z:Tn)(x:Value)(g:cQ)(_:Nat):Option (List Cw×List Value):=none
def Ex(r_:Nat)(x:Value)(d e f:Tt):Tk:=
 match x with
 | .slice (some a) b g=>
  if a.spot≠some 1/\a.spot≠le r_ then none else
  if 0<=d.getD 0/\d.getD 0<=e.getD b/\bS b g e f then
   fN (a.off+(d.getD 0).toNat*r_) λo=>fN ((e.getD b).toNat - (d.getD 0).toNat) λn=>fN (bK g (d.getD 0).toNat f) λc=>
   some (.slice (some { a with off:=o }) n c)
  else none
 | .slice none 0 0=>if d.getD 0=0/\e.getD 0=0/\f.getD 0=0/\(f.isNone∨e.isSome)then some (.slice none 0 0)else none
 |_=>none
def RI(s:Ts):Ts:=match s with
 |none=>none
 |some k=>match Nat.beq k 1 with
  |true=>some 1
  |false=>none
def BL(r_:Nat)(x:Value)(i:Int):Tk:=
 match x with
 | .slice (some a) b _=>Int.rec (λj=>match Nat.blt j b with
  |true=>fN (Nat.add a.off (Nat.mul j r_)) λo=>some (.pointer (some ⟨a.block,o,RI a.spot⟩))
  |false=>none) (λ_=>none) i
 |_=>none
def RJ(s:Ts):RI s=if s=some 1 then some 1 else none:=by
 unfold RI;cases s with
 |none=>rfl
 |some k=>
  cases e:Nat.beq k 1 with
  |true=>simp_all
  |false=>
   rw[te (λh=>by cases h;cases e)];simp only[e]
def rj(r_:Nat)(x:Value)(i:Int):BL r_ x i=match (motive:=Value->Tk) x with
 | .slice (some a) len _=>
  if 0<=i/\i<(len:Int)then some (.pointer (some ⟨a.block,a.off+i.toNat*r_,if a.spot=some 1 then some 1 else none⟩))else none
 |_=>none:=by
 unfold BL;split
 next a len _=>
  cases i with
  |ofNat j=>
   simp only[ew,RJ];cases e:Nat.blt j len with
   |true=>
    simp_all
   |false=>
    have:¬j<len:=λh=>by rw[←Gp,e]at h;cases h
    simp_all
  |negSucc j=>
   simp_all
 .rfl
def Py(len r_:Nat)(x:Value)(i:Int):Tk:=
 match x with
 | .pointer (some a)=>if 0<=i/\i<(len:Int)then some (.pointer (some { a with off:=a.off+i.toNat*r_ }))else none
 |_=>none
def Dm(off:Nat)(x:Value):Tk:=
 match x with
 | .pointer (some a)=>some (.pointer (some { a with off:=a.off+off }))
 |_=>none
def C5(x:Value):Tk:=
 match x with
 | .pointer (some a)=>some (.pointer (some a))
 | .func (.func f) a b=>some (.func (.func f) a b)
 | .func (.yield f) a b=>some (.func (.yield f) a b)
 |_=>none
def MA(a:List UInt8):List UInt8->Bool:=
 List.rec (motive:=λ_=>List UInt8->Bool) (λb=>List.rec true (λ_ _ _=>false) b)
  (λx _ c b=>List.rec false (λy t _=>Bool.rec false (c t) (Nat.beq x.toNat y.toNat)) b) a
def yN:∀(a b:List UInt8),MA a b=true↔a=b
 | [],[]=>⟨λ_=>rfl,λ_=>rfl⟩
 | [],_ :: _=>⟨λh=>(by cases h),λh=>(by cases h)⟩
 |_ :: _,[]=>⟨λh=>(by cases h),λh=>(by cases h)⟩
 |x :: a,y :: b=>by
  show(Bool.rec false (MA a b) (Nat.beq x.toNat y.toNat):Bool)=true↔_;cases e:Nat.beq x.toNat y.toNat with
  |true=>
   have:x=y:=UInt8.toNat_inj.1 (Dx e);show MA a b=true↔_;rw[yN a b,this];simp
  |false=>
   constructor
   .intro h;cases h
   .intro h
    simp_all
def LM(x y:Value):Option Bool:=match x with
 | .string a=>match y with
  | .string b=>some (MA a.data.toList b.data.toList)
  |_=>none
 |_=>none
def GF:Value->Option Int
 | .slice _ n _=>some n
 |_=>none
def Is(s:ByteArray)(j:Int):Tt:=match j with
 | .ofNat n=>(s.data.toList[n]?).map λb=>Int.ofNat b.toNat
 |_=>none
def RV{s:ByteArray}{j b:Int}(h:Is s j=some b):0<=j/\(s[j.toNat]?).map (λb=>Value.int .u8 b.toNat)=some (.int .u8 b):=by
 unfold Is at h;split at h
 next n=>
  obtain⟨x,c,rfl⟩:=DC.1 h;refine⟨GK n,?_⟩;have:s[n]?=some x:=by
   rw[Array.getElem?_toList]at c;obtain⟨a,d⟩:=IG.1 c;have e:n<s.size:=a;rw[getElem?_pos s n e];exact congrArg some d
  simp_all
 .cases h
def OA:Value->Option Int
 | .slice (some _) _ (n+1)=>some n
 | .slice none 0 0=>some 0
 |_=>none
def m5(m:Value)(g:cQ):Option (Tn):=
 match m with
 | .map (some id)=>match g id with
  |some (.map a _)=>some [.int .i64 a.length]
  |_=>none
 |_=>none
def E0(len:Nat)(i:Int):Option Unit:=Int.rec (λj=>match Nat.blt j len with
 |true=>some ()
 |false=>none) (λ_=>none) i
def PI(len:Nat)(i:Int):E0 len i=if 0<=i/\i<(len:Int)then some ()else none:=by
 unfold E0;cases i with
 |ofNat j=>
  simp only;cases e:Nat.blt j len with
  |true=>simp_all
  |false=>
   have:¬j<len:=λh=>by rw[←Gp,e]at h;cases h
   simp_all
 |negSucc j=>simp_all
def DX(l c:Int):Option Unit:=if 0<=l/\l<=c/\c<=1048576 then some ()else none
abbrev _root_.TG:=List Lf
def ko(cs:TG)(a:Nat)(ix:List (Int×Nat))(n:Nat):Option (TG):=Mu cs (C8 a ix) n
def QR(cs:TG)(a:Nat)(ix:List (Int×Nat))(n:Nat):ko cs a ix n=if C8 a ix+n<=cs.length then some ((cs.drop (C8 a ix)).take n)else none:=oX _ _ _
def j'(cs:TG)(a:Nat)(ix:List (Int×Nat))(new:TG):Option (TG):=W_ cs (C8 a ix) new
def WE(cs:TG)(a:Nat)(ix:List (Int×Nat))(new:TG):j' cs a ix new=if C8 a ix+new.length<=cs.length then some (cs.take (C8 a ix)++new++cs.drop (C8 a ix+new.length))else none:=yh _ _ _
def qc(vs:Tn)(a:Nat)(ix:List (Int×Nat))(n:Nat):Option (Tn):=Mu vs (C8 a ix) n
def QS(vs:Tn)(a:Nat)(ix:List (Int×Nat))(n:Nat):qc vs a ix n=cut vs (C8 a ix) n:=oX _ _ _
def eX(C:m')(n:Nat)(p:Value):Option (Tn):=
 match p with
 | .pointer (some a)=>if a.spot=some 1 then(C.G a.block).bind λb=>cut b a.off n else none
 |_=>none
inductive Pk where
 |ld (n:Nat) (p:Value)
 |lg (C:m') (n:Nat) (p:Value)
 |fn (f:cQ->Option (Tn))
def Pk.run:Pk->cQ->Option (Tn)
 | .ld n p=>eP n p
 | .lg C n p=>fs C n p
 | .fn f=>f
inductive Hp where
 |st (p:Value) (new:Tn)
 |ap (C:m') (r_ bytes:Nat) (s x:Value)
 |fn (f:cQ->Nat->Option (List Cw×List Value))
def Hp.run:Hp->cQ->Nat->Option (List Cw×List Value)
 | .st p new=>JH p new
 | .ap C r_ bytes s x=>Em C r_ bytes s x
 | .fn f=>f
structure B_(R HT:Type):Type 1 where
 fail:R
 cond:Bool->R->R->R
 z_:BinOp->TL->Int->Int->(Int->R)->R
 FK:BinOp->TL->Int->TL->Int->(Int->R)->R
 cmp:BinOp->Int->Int->(Bool->R)->R
 eqs:List (Lf×Lf)->(Bool->R)->R
 conv:TL->Int->(Int->R)->R
 Gq:Bool->Int->Int->(Int->R)->R
 j_:{i7:Type}->Option i7->(i7->R)->R
 nC:Value->R->R
 pu:TG->(Int->TG->R)->R
 D9:TG->(Bool->TG->R)->R
 Ci:TG->(Value->TG->R)->R
 w_:TG->R->R
 td:TL->Tn->(Int->Tn->R)->R
 D1:Tn->(Bool->Tn->R)->R
 BM:Tn->(Value->Tn->R)->R
 v9:Tn->R->R
 my:Pk->HT->(Tn->R)->R
 heap:Hp->HT->(Tn->HT->R)->R
 new:p_->HT->(Nat->HT->R)->R
 call:TQ->TG->HT->(TG->HT->R)->R
 BO:Value->Tn->TN->HT->(TG->HT->R)->R
 join:(TG->HT->R)->((TG->HT->R)->R)->R
 loop:((TG->HT->R)->TG->HT->R)->TG->HT->R
 Ei:Nat->Value->Tn->HT->(Tm->HT->R)->R
 DZ:Tm->R->R->List (Nat×R)->R
 H7:Nat->HT->(HT->R)->R
 Gt:Nat->Tm->HT->(HT->R)->R
section
variable {R HT:Type} (A:B_ R HT)
def E9{i7:Type}(x:i7)(l:List i7):Nat->(List i7->R)->R:=
 List.rec (motive:=λ_=>Nat->(List i7->R)->R) (λ_ k=>k [])
  (λa c b i k=>match i with
   |0=>k (x :: c)
   |i+1=>b i λl=>k (a :: l)) l
def NQ(ks:TJ):TG->(List SL->TG->R)->R:=
 List.rec (motive:=λ_=>TG->(List SL->TG->R)->R) (λa K=>K [] a)
  (λk _ d a K=>match k with
   | .i k=>A.pu a λn r=>d r λc r=>K (.i k n :: c) r
   | .b=>A.D9 a λt r=>d r λc r=>K (.b t :: c) r
   | .v=>A.Ci a λx r=>d r λc r=>K (.v x :: c) r) ks
def hv(c:SK)(ls:TG)(K:S0->TG->R):R:=
 match c with
 | .leaf k=>match k with
  | .i k=>A.pu ls λn r=>K (.leaf (.i k n)) r
  | .b=>A.D9 ls λt r=>K (.leaf (.b t)) r
  | .v=>A.Ci ls λx r=>K (.leaf (.v x)) r
 | .agg a=>NQ A a ls λd r=>K (.agg d) r
def Iw(sks:TN):TG->(List S0->TG->R)->R:=
 List.rec (motive:=λ_=>TG->(List S0->TG->R)->R) (λa K=>K [] a)
  (λc _ b a K=>hv A c a λx r=>b r λd r=>K (x :: d) r) sks
def ucL(ks:TJ):Tn->(List SL->Tn->R)->R:=
 List.rec (motive:=λ_=>Tn->(List SL->Tn->R)->R) (λa K=>K [] a)
  (λk _ d a K=>match k with
   | .i k=>A.td k a λn r=>d r λc r=>K (.i k n :: c) r
   | .b=>A.D1 a λt r=>d r λc r=>K (.b t :: c) r
   | .v=>A.BM a λx r=>A.nC x (d r λc r=>K (.v x :: c) r)) ks
def JL(c:SK)(cs:Tn)(K:S0->Tn->R):R:=
 match c with
 | .leaf k=>match k with
  | .i k=>A.td k cs λn r=>K (.leaf (.i k n)) r
  | .b=>A.D1 cs λt r=>K (.leaf (.b t)) r
  | .v=>A.BM cs λx r=>A.nC x (K (.leaf (.v x)) r)
 | .agg a=>ucL A a cs λd r=>K (.agg d) r
def xk(sks:TN):Tn->(List S0->Tn->R)->R:=
 List.rec (motive:=λ_=>Tn->(List S0->Tn->R)->R) (λa K=>K [] a)
  (λc _ b a K=>JL A c a λx r=>b r λd r=>K (x :: d) r) sks
def bX:List S0->List Lf
 | []=>[]
 |x :: l=>x.cells.map SL.lf++bX l
def aj(l:List S0):Tn:=l.map S0.val
def nV(l:List S0):Tn:=l.flatMap λx=>x.cells.map SL.val
def hK(tm:List SV):List (Nat×SK)->Option (TG)
 | []=>some []
 |(t,a) :: l=>match tm.getD t .no,hK tm l with
  | .st x,some ls=>match x.is a with
   |true=>some (x.cells.map SL.lf++ls)
   |false=>none
  |_,_=>none
def cf(a:List LR):List (Nat×List LK)->Option (TG)
 | []=>some []
 |(s,ks) :: l=>match a.getD s .Ix,cf a l with
  | .row cs,some ls=>match aT cs ks with
   |true=>some (cs.map SL.lf++ls)
   |false=>none
  |_,_=>none
def pk(c:Env)(lv:Live):Option (TG):=
 match hK c.tm lv.tm,cf c.lc lv.rows with
 |some a,some b=>some (a++b)
 |_,_=>none
def SV.D6(ks:TC):SV->Bool
 | .JK _=>true
 | .GD s _=>ks.contains s
 | .IF s _ _=>ks.contains s
 |_=>false
def ZP(b ks:TC)(l:List SV):Nat->(List SV->R)->R:=
 List.rec (motive:=λ_=>Nat->(List SV->R)->R) (λ_ K=>K [])
  (λx _ a i K=>a (i+1) λl=>match b.contains i||x.D6 ks with
   |true=>K (.no :: l)
   |false=>K (x :: l)) l
def tb(n:Nat)(K:Nat->R):R:=Nat.casesOn n (K 0) λm=>K (Nat.succ m)
def OL(d ks:TC)(c:LR)(l:List LR):Nat->(List LR->R)->R:=
 List.rec (motive:=λ_=>Nat->(List LR->R)->R) (λ_ K=>K [])
  (λx _ b i K=>b (i+1) λl=>match ks.contains i,d.contains i with
   |true,_=>K (c :: l)
   |false,true=>(match x with
    | .row a=>tb a.length λn=>K (.any n :: l)
    | .any n=>K (.any n :: l)
    |_=>K (.Ix :: l))
   |false,false=>K (x :: l)) l
def jj(lv:List (Nat×SK)):List S0->List SV->(List SV->R)->R:=
 List.rec (motive:=λ_=>List S0->List SV->(List SV->R)->R) (λ_ tm K=>K tm)
  (λp _ b a tm K=>match a with
   |x :: a=>E9 (.st x) tm p.1 λtm=>b a tm K
   | []=>A.fail) lv
def hB(lv:List (Nat×List LK)):TG->List LR->(List LR->TG->R)->R:=
 List.rec (motive:=λ_=>TG->List LR->(List LR->TG->R)->R) (λb a K=>K a b)
  (λp _ d b a K=>NQ A p.2 b λc r=>E9 (.row c) a p.1 λa=>d r a K) lv
def e6(b_:TC)(c:Code)(d:LR)(lv:Live)(b:Env)(ls:TG)(K:Env->R):R:=
 ZP (HD c) (aQ b_ c) b.tm 0 λtm=>OL (Fw b_ c) (aQ b_ c) d b.lc 0 λa=>
  Iw A (lv.tm.map (·.2)) ls λe r=>jj A lv.tm e tm λtm=>hB A lv.rows r a λa r=>A.w_ r (K ⟨tm,a⟩)
abbrev KN(R HT:Type):=Env->HT->R
def vx(b_:TC)(c:Code)(j:Option Live)(b:Env)(e:KN R HT)(a:KN R HT->R):R:=
 match j with
 |none=>a e
 |some lv=>A.join (λd h=>e6 A b_ c .Ix lv b d λb=>e b h) λf=>a λb h=>match pk b lv with
  |some d=>f d h
  |none=>A.fail
structure CB where
 C:m'
 b_:List Nat
 T:Nat->Site
def l_(a:Env):TK->SV
 | .tmp t=>a.tm.getD t .no
 | .const v=>match Hm v with
  |some x=>.st x
  |none=>.no
 | .global g=>match Nat.blt g gB with
  |true=>.ID g 0
  |false=>.no
 | .func f=>.st (.leaf (.v (.func (.func f) #[] #[])))
def Cg(a:Env)(x:TK):Option S0:=
 match l_ a x with
 | .st x=>some x
 |_=>none
def CO(a:Env):List Operand->Option (List S0)
 | []=>some []
 |x :: l=>match Cg a x,CO a l with
  |some x,some l=>some (x :: l)
  |_,_=>none
def IX:TK->Option Nat
 | .const (.int _ (.ofNat n))=>some n
 |_=>none
def m_(d:Tq)(x:SV)(a:Env)(h:HT)(K:KN R HT):R:=
 match d with
 |some d=>E9 x a.tm d λtm=>K ⟨tm,a.lc⟩ h
 |none=>K a h
def tT(b:Env)(s:Nat):Option (List SL):=
 match b.lc.getD s .Ix with
 | .row a=>some a
 |_=>none
def Hq:SK->List LK
 | .leaf k=>[k]
 | .agg ks=>ks
def DU(cs:List SL)(off n:Nat):Option (List SL):=if off+n<=cs.length then some ((cs.drop off).take n)else none
def jd(cs:List SL)(off:Nat)(new:List SL):Option (List SL):=if off+new.length<=cs.length then some (cs.take off++new++cs.drop (off+new.length))else none
def ux(cs:List SL)(ks:TJ):Nat->List (Int×Nat)->Bool
 |a,[]=>match DU cs a ks.length with
  |some ds=>aT ds ks
  |none=>true
 |a,p :: l=>!Nat.beq p.2 0&&(range (cs.length+1)).all λj=>ux cs ks (a+j*p.2) l
def GH(a:Bool)(cs:List SL):Option S0:=
 match a,cs with
 |true,cs=>some (.agg cs)
 |false,[c]=>some (.leaf c)
 |_,_=>none
def sW(pl:Nat->Option (Nat×Nat))(cs:List SL):List (Nat×S0)->Option (List SL)
 | []=>some cs
 |(i,x) :: l=>match pl i with
  |some (off,n)=>match Nat.beq x.cells.length n with
   |true=>match jd cs off x.cells with
    |some cs=>sW pl cs l
    |none=>none
   |false=>none
  |none=>none
def A2(P:TI)(t:TP):Option Bool:=
 match P.underlying t with
 |some (.struct _)|some (.array _ _)=>some true
 |some _=>some false
 |none=>none
def yu(P:TI)(t:TP):Option S0:=(eU P t).bind Hm
def ky:SK->Bool
 | .leaf _=>false
 | .agg _=>true
def O8:Bool->Bool->Bool
 |true,true=>true
 |false,false=>true
 |_,_=>false
def V7(X:CB)(d:Tq)(t:TP)(x:S0)(a:Env)(h:HT)(K:KN R HT):R:=
 match d with
 |none=>A.fail
 |some d=>match Nat.beq (X.b_.getD d 0) (d+2)with
  |true=>match a.lc.getD d .Ix with
   | .nil=>E9 (.row x.cells) a.lc d λb=>E9 (.GD d 0) a.tm d λtm=>K ⟨tm,b⟩ h
   |_=>A.fail
  |false=>A.new (.cells (x.cells.map SL.val) (mK X.C.P t) true) h λn h=>m_ (some d) (.st (.leaf (.v (.pointer (some ⟨n,0,none⟩))))) a h K
def Hn(d:Tq)(b:SK)(cs:Tn)(a:Env)(h:HT)(K:KN R HT):R:=
 JL A b cs λx r=>A.v9 r (m_ d (.st x) a h K)
def Ip(d:Tq)(b:SK)(ls:TG)(a:Env)(h:HT)(K:KN R HT):R:=
 hv A b ls λx r=>A.w_ r (m_ d (.st x) a h K)
def P7(X:CB)(d:Tq)(i:SK)(j:Bool)(n:Nat)(a:TK)(e:Env)(h:HT)(K:KN R HT):R:=
 match nI X.b_ a,l_ e a with
 |0,.st (.leaf (.v p))=>A.my (.lg X.C n p) h λc=>Hn A d i c e h K
 |1,.ID g f=>match X.C.G g with
  |some m=>match cut m f n with
   |some c=>match c.all scalar,GH j (c.map Iq)with
    |true,some x=>m_ d (.st x) e h K
    |_,_=>Hn A d i c e h K
   |none=>A.fail
  |none=>A.fail
 |1,.Kv g b k=>match X.C.G g with
  |some m=>A.j_ (qc m b k n) λc=>Hn A d i c e h K
  |none=>A.fail
 |1,.st (.leaf (.v p))=>A.j_ (eX X.C n p) λc=>Hn A d i c e h K
 |s+2,.GD l f=>match Nat.beq s l,(tT e s).bind (λc=>(DU c f n).bind (GH j))with
  |true,some x=>m_ d (.st x) e h K
  |_,_=>A.fail
 |s+2,.IF l b k=>match Nat.beq s l,tT e s with
  |true,some c=>match ux c (Hq i) b k&&Nat.beq n (Hq i).length with
   |true=>A.j_ (ko (c.map SL.lf) b k n) λo=>Ip A d i o e h K
   |false=>A.fail
  |_,_=>A.fail
 |_,_=>A.fail
def RR(r:LR)(off:Nat)(new:List SL):Option (List SL):=
 match r with
 | .row a=>jd a off new
 | .any n=>match Nat.beq off 0&&Nat.beq n new.length with
  |true=>some new
  |false=>none
 |_=>none
def JI(X:CB)(d:Tq)(t:TP)(a:TK)(x:S0)(c:Env)(h:HT)(K:KN R HT):R:=
 match Nat.beq x.cells.length (X.C.P.cellsOf t)&&(X.C.P.info? t).isSome with
 |false=>A.fail
 |true=>match nI X.b_ a,l_ c a with
  |0,.st (.leaf (.v p))=>A.heap (.st p (x.cells.map SL.val)) h λ_ h=>m_ d .un c h K
  |s+2,.GD i g=>match Nat.beq s i,RR (c.lc.getD s .Ix) g x.cells with
   |true,some e=>E9 (.row e) c.lc s λf=>m_ d .un ⟨c.tm,f⟩ h K
   |_,_=>A.fail
  |s+2,.IF i b j=>match Nat.beq s i,tT c s with
   |true,some e=>match ux e (x.cells.map SL.lk) b j with
    |false=>A.fail
    |true=>A.j_ (j' (e.map SL.lf) b j (x.cells.map SL.lf)) λk=>NQ A (e.map SL.lk) k λe r=>A.w_ r (E9 (.row e) c.lc s λf=>m_ d .un ⟨c.tm,f⟩ h K)
   |_,_=>A.fail
  |_,_=>A.fail
def ea:BinOp->Bool
 | .eql | .neq | .lss | .leq | .gtr | .geq=>true
 |_=>false
def KE:BinOp->Bool
 | .shl | .shr=>true
 |_=>false
def ni(F:TP->Option (TJ)):List Field->Nat->Option (TJ)
 | [],_=>some []
 |f :: a,off=>match decide (f.name = "_"),Nat.beq f.offset off,F f.type with
  |false,true,some ks=>(ni F a (off+ks.length)).map (ks ++ ·)
  |_,_,_=>none
def CG(P:TI):Nat->TP->Option (TJ)
 |0,_=>none
 |d+1,t=>match P.underlying t with
  |some (.int k)=>some [.i k]
  |some .bool=>some [.b]
  |some (.struct a)=>match P.stoodInHeld t,ni (CG P d) a.toList 0 with
   |false,some ks=>match Nat.beq ks.length (P.cellsOf t)with
    |true=>some ks
    |false=>none
   |_,_=>none
  |some (.array n e)=>match CG P d e with
   |some ks=>match Nat.beq ks.length (P.cellsOf e)&&Nat.beq (replicate n ks).flatten.length (P.cellsOf t)with
    |true=>some (replicate n ks).flatten
    |false=>none
   |none=>none
  |_=>none
def U5:Int->Int->Bool
 | .ofNat a,.ofNat b=>Nat.beq a b
 | .negSucc a,.negSucc b=>Nat.beq a b
 |_,_=>false
def fF:TJ->Tn->Tn->Option Bool
 | [],[],[]=>some true
 | .i k :: ks,.int a x :: xs,.int b y :: ys=>match cY a k,cY b k,fF ks xs ys with
  |true,true,some r=>(match U5 x y with
   |true=>some r
   |false=>some false)
  |_,_,_=>none
 | .b :: ks,.bool x :: xs,.bool y :: ys=>match fF ks xs ys with
  |some r=>(match O8 x y with
   |true=>some r
   |false=>some false)
  |none=>none
 |_,_,_=>none
def x9:TJ->Tn->Tn->Option Bool
 | [],_,_=>some true
 | .i k :: ks,.int a x :: xs,.int b y :: ys=>match cY a k,cY b k with
  |true,true=>(match U5 x y with
   |true=>x9 ks xs ys
   |false=>some false)
  |_,_=>none
 | .b :: ks,.bool x :: xs,.bool y :: ys=>match O8 x y with
  |true=>x9 ks xs ys
  |false=>some false
 |_,_,_=>none
def jA(ks:TJ)(cs:Tn):Tj->Nat->Option (Ts)
 | [],_=>some none
 |e :: a,i=>match e.key with
  | .agg ds=>match x9 ks cs ds.toList with
   |some true=>some (some i)
   |some false=>jA ks cs a (i+1)
   |none=>none
  |_=>none
def f2{R:Type}(v:Value)(d:R)(K:TL->Int->R):R:=match v with
 | .int a m=>K a m
 |_=>d
def f1{R:Type}(v:Value)(d:R)(K:Bool->R):R:=match v with
 | .bool a=>K a
 |_=>d
def Z6(a b:Int):Bool:=@Int.rec (λ_=>Bool) (λm=>@Int.rec (λ_=>Bool) (λn=>Nat.beq m n) (λ_=>false) b) (λm=>@Int.rec (λ_=>Bool) (λ_=>false) (λn=>Nat.beq m n) b) a
def OY(ks:TJ):Tn->Tn->Option Bool:=
 @List.rec LK (λ_=>Tn->Tn->Option Bool)
  (λ_ _=>some true)
  (λk _ e c d=>@List.rec Value (λ_=>Option Bool) none (λx c _=>@List.rec Value (λ_=>Option Bool) none (λy d _=>
   @LK.rec (λ_=>Option Bool)
    (λk=>f2 x none λa m=>f2 y none λb n=>@Bool.rec (λ_=>Option Bool) none (@Bool.rec (λ_=>Option Bool) none (@Bool.rec (λ_=>Option Bool) (some false) (e c d) (Z6 m n)) (cY b k)) (cY a k))
    (f1 x none λa=>f1 y none λb=>@Bool.rec (λ_=>Option Bool) (some false) (e c d) (O8 a b))
    none k) d) c) ks
def U6(a b:Int):Z6 a b=U5 a b:=by cases a<;>cases b<;>rfl
def wG:∀(ks:TJ) (xs ys:Tn),OY ks xs ys=x9 ks xs ys
 | [],_,_=>by simp only[x9];rfl
 |k :: ks,[],ys=>by cases k<;>rfl
 |k :: ks,x :: xs,[]=>by cases k<;>cases x<;>rfl
 | .v :: ks,x :: xs,y :: ys=>by cases x<;>cases y<;>rfl
 | .b :: ks,x :: xs,y :: ys=>by
  cases x<;>first|(cases y<;>rfl)|skip
  cases y<;>first|rfl|skip
  rename_i a b
  show @Bool.rec (λ_=>Option Bool) (some false) (OY ks xs ys) (O8 a b)=_;rw[wG ks xs ys];simp only[x9];cases O8 a b<;>rfl
 | .i k :: ks,x :: xs,y :: ys=>by
  cases x<;>first|(cases y<;>rfl)|skip
  cases y<;>first|rfl|skip
  rename_i a m b n
  show @Bool.rec (λ_=>Option Bool) none (@Bool.rec (λ_=>Option Bool) none (@Bool.rec (λ_=>Option Bool) (some false) (OY ks xs ys) (Z6 m n)) (cY b k)) (cY a k)=_;rw[wG ks xs ys,U6];simp only[x9];cases cY a k<;>cases cY b k<;>first|rfl|(cases U5 m n<;>rfl)
def Km(ks:TJ)(cs:Tn)(c:Tj):Nat->Option (Ts):=
 @List.rec MapEntry (λ_=>Nat->Option (Ts)) (λ_=>some none) (λe _ d i=>match e.key with
  | .agg a=>@Option.rec Bool (λ_=>Option (Ts)) none (λb=>@Bool.rec (λ_=>Option (Ts)) (fN (Nat.succ i) d) (some (some i)) b) (OY ks cs a.toList)
  |_=>none) c
def oe(ks:TJ)(cs:Tn):∀(a:Tj) (i:Nat),Km ks cs a i=jA ks cs a i
 | [],_=>rfl
 |e :: a,i=>by
  have h:Km ks cs (e :: a) i=match e.key with
   | .agg ds=>@Option.rec Bool (λ_=>Option (Ts)) none (λb=>@Bool.rec (λ_=>Option (Ts)) (Km ks cs a (i+1)) (some (some i)) b) (OY ks cs ds.toList)
   |_=>none:=rfl
  rw[h];simp only[jA,wG,oe ks cs a];split
  next ds _=>
   cases x9 ks cs ds.toList with
   |none=>rfl
   |some b=>cases b<;>rfl
  .rfl
def uX(P:TI)(kt:TP)(k:Value)(a:Tj):Option (Ts):=
 match k with
 | .agg b=>match A2 P kt,CG P 10000 kt with
  |some true,some c=>match Km c b.toList a 0 with
   |some r=>some r
   |none=>sY P kt k a
  |_,_=>sY P kt k a
 |_=>sY P kt k a
def H5(P:TI)(kt:TP)(k:Value):Bool:=
 match k with
 | .agg b=>match A2 P kt with
  |some true=>match CG P 10000 kt with
   |some a=>match fF a b.toList b.toList with
    |some _=>true
    |none=>jC P kt k
   |none=>jC P kt k
  |_=>jC P kt k
 |_=>jC P kt k
def Hd(g:cQ)(id:Nat):Option (List MapEntry×Nat):=
 match g id with
 |some (.map a c)=>some (a,c)
 |_=>none
def gp(a:Bool)(v:Value):Option (Tn):=
 match v,a with
 | .agg b,true=>some b.toList
 | .agg _,false=>none
 |_,true=>none
 |v,false=>some [v]
def Fb(C:m')(kt:TP)(b:Bool)(z:Value)(m k:Value)(ok:Bool)(g:cQ):Option (Tn):=
 if !H5 C.P kt k then none else
 match m with
 | .map none=>(gp b z).map λa=>a++if ok then [.bool false]else []
 | .map (some id)=>
  match Hd g id with
  |none=>none
  |some (c,_)=>
   match uX C.P kt k c with
   |none=>none
   |some none=>(gp b z).map λa=>a++if ok then [.bool false]else []
   |some (some i)=>((em c i).bind (gp b)).map λa=>a++if ok then [.bool true]else []
 |_=>none
def FO(C:m')(kt:TP)(m k v:Value)(g:cQ)(_:Nat):Option (List Cw×List Value):=
 match m with
 | .map (some id)=>
  if !H5 C.P kt k then none else
  match Hd g id with
  |none=>none
  |some (a,c)=>
   match uX C.P kt k a with
   |none=>none
   |some none=>some ([.set id (.map (a++[{ key:=k,val:=v,born:=c }]) (c+1))],[])
   |some (some i)=>
    if (a[i]?).all (λe=>Instr.sameBits 10000 e.key k)then some ([.set id (.map (a.modify i λe=>{ e with key:=k,val:=v }) c)],[])else none
 |_=>none
def meG(C:m')(kt:TP)(a:Bool)(z:Value)(m k:Value)(g:cQ)(_:Nat):Option (List Cw×List Value):=none
def esG(m:Value)(b:Int)(v:Value)(g:cQ)(_:Nat):Option (List Cw×List Value):=none
def deG(C:m')(kt:TP)(m k:Value)(g:cQ)(_:Nat):Option (List Cw×List Value):=none
def lr(n:Nat)(x y:Value):Option Bool:=match Nat.beq n (dw x),Nat.beq n (dw y)with
 |true,true=>mi x y
 |_,_=>none
def vN{P:TI}{t:TP}{a:TypeDesc}{x y:TR}{b:Bool}(e:P.underlying t=some a)(h:lr (mj a) x y=some b):mi x y=some b/\tH P t x y=true:=by
 unfold lr at h;split at h
 next c d=>
  refine⟨h,?_⟩;unfold tH
  simp_all
 .cases h
def sx(ks:TJ):Bool:=ks.all λk=>match k with
 | .v=>false
 |_=>true
def ZG(X:CB)(d:Tq)(e:BinOp)(t:TP)(a b:S0)(c:Env)(h:HT)(K:KN R HT):R:=
 match a,b with
 | .leaf (.i k x),.leaf (.i m y)=>
  match KE e,cY k m,ea e with
  |true,_,_=>A.FK e k x m y λn=>m_ d (.st (.leaf (.i k n))) c h K
  |false,true,true=>A.cmp e x y λt=>m_ d (.st (.leaf (.b t))) c h K
  |false,true,false=>A.z_ e k x y λn=>m_ d (.st (.leaf (.i k n))) c h K
  |_,_,_=>A.fail
 | .agg g,.agg j=>match CG X.C.P 10000 t,X.C.P.eqGuardType X.C.P.depth t,A2 X.C.P t with
  |some l,false,some true=>match aT g l&&aT j l&&sx l with
   |true=>match e with
    | .eql=>A.eqs ((g.map SL.lf).zip (j.map SL.lf)) λt=>m_ d (.st (.leaf (.b t))) c h K
    | .neq=>A.eqs ((g.map SL.lf).zip (j.map SL.lf)) λt=>m_ d (.st (.leaf (.b (!t)))) c h K
    |_=>A.fail
   |false=>A.fail
  |_,_,_=>A.fail
 | .leaf (.v x),.leaf (.v y)=>match X.C.P.underlying t with
  |some .string=>match e with
   | .eql=>A.j_ (LM x y) λf=>m_ d (.st (.leaf (.b f))) c h K
   | .neq=>A.j_ (LM x y) λf=>m_ d (.st (.leaf (.b (!f)))) c h K
   |_=>A.fail
  |some o=>match e with
   | .eql=>A.j_ (lr (mj o) x y) λf=>m_ d (.st (.leaf (.b f))) c h K
   | .neq=>A.j_ (lr (mj o) x y) λf=>m_ d (.st (.leaf (.b (!f)))) c h K
   |_=>A.fail
  |none=>A.fail
 | .leaf x,.leaf y=>match x.is .b&&y.is .b,X.C.P.underlying t with
  |true,some .bool=>match e with
   | .eql=>A.eqs [(x.lf,y.lf)] λt=>m_ d (.st (.leaf (.b t))) c h K
   | .neq=>A.eqs [(x.lf,y.lf)] λt=>m_ d (.st (.leaf (.b (!t)))) c h K
   |_=>A.fail
  |_,_=>A.fail
 |_,_=>A.fail
def E3(a:Env):Th->Option (Tt)
 |none=>some none
 |some x=>match l_ a x with
  | .st (.leaf (.i _ n))=>some (some n)
  |_=>none
def nN(a:TN):SK:=match a with
 | [k]=>k
 |_=>.agg []
def Nn(d:Tq)(sks:TN)(b:TG)(a:Env)(h:HT)(K:KN R HT):R:=
 match sks with
 | [c]=>Ip A d c b a h K
 | []=>A.w_ b (m_ d .un a h K)
 |sks=>Iw A sks b λe r=>A.w_ r (m_ d (.JK e) a h K)
structure GN where
 ps:List SK
 rs:List SK
def bW:List S0->TN->Bool
 | [],[]=>true
 |x :: l,k :: ks=>x.is k&&bW l ks
 |_,_=>false
def nR(X:CB)(d:Tq)(o:SK)(b:Builtin)(xs:List S0)(l:Array TypeId)(f:Env)(h:HT)(K:KN R HT):R:=
 match b,xs,l[0]? with
 | .append,[.leaf (.v s),.leaf (.v x)],some t=>match X.C.P.underlying t with
  |some (.slice e)=>match X.C.P.info? e with
   |some c=>match Nat.beq c.size 0||(lR c).isNone||(l[1]?.any λu=>(X.C.P.underlying u) matches some (.int _)|none)||l[1]?.isNone with
    |true=>A.fail
    |false=>A.heap (.ap X.C c.size c.bytes s x) h λg h=>Hn A d (.leaf .v) g f h K
   |none=>A.fail
  |_=>A.fail
 | .len,[x],some t=>match X.C.P.underlying t,x with
  |some (.slice _),.leaf (.v x)=>A.j_ (GF x) λn=>m_ d (.st (.leaf (.i .i64 n))) f h K
  |some (.map _ _),.leaf (.v x)=>A.my (.fn (m5 x)) h λg=>Hn A d (.leaf (.i .i64)) g f h K
  |some (.array n _),_=>m_ d (.st (.leaf (.i .i64 n))) f h K
  |_,_=>A.fail
 | .cap,[x],some t=>match X.C.P.underlying t,x with
  |some (.slice _),.leaf (.v x)=>A.j_ (OA x) λn=>m_ d (.st (.leaf (.i .i64 n))) f h K
  |some (.array n _),_=>m_ d (.st (.leaf (.i .i64 n))) f h K
  |_,_=>A.fail
 | .copy,[.leaf (.v s),.leaf (.v x)],some t=>match X.C.P.underlying t with
  |some (.slice e)=>match Nat.beq (X.C.P.cellsOf e) 0 with
   |true=>A.fail
   |false=>A.heap (.fn (cpG X.C (X.C.P.cellsOf e) s x)) h λg h=>Hn A d (.leaf (.i .i64)) g f h K
  |_=>A.fail
 | .delete,[.leaf (.v m),k],some t=>match X.C.P.underlying t with
  |some (.map p _)=>A.heap (.fn (deG X.C p m k.val)) h λ_ h=>m_ d .un f h K
  |_=>A.fail
 | .clear,[.leaf (.v s)],some t=>match X.C.P.underlying t with
  |some (.slice e)=>match Nat.beq (X.C.P.cellsOf e) 0,yu X.C.P e with
   |false,some z=>A.heap (.fn (clG (X.C.P.cellsOf e) (z.cells.map SL.val) s)) h λ_ h=>m_ d .un f h K
   |_,_=>A.fail
  |_=>A.fail
 | .min,[.leaf (.i k a),.leaf (.i j b)],_=>match cY k j with
  |true=>A.cmp .lss b a λt=>A.Gq t b a λn=>m_ d (.st (.leaf (.i k n))) f h K
  |false=>A.fail
 | .max,[.leaf (.i k a),.leaf (.i j b)],_=>match cY k j with
  |true=>A.cmp .lss a b λt=>A.Gq t b a λn=>m_ d (.st (.leaf (.i k n))) f h K
  |false=>A.fail
 |_,_,_=>A.fail
def md(X:CB)(d:Tq)(t:TP)(x i:TK)(k:Env)(h:HT)(K:KN R HT):R:=
 match X.C.P.underlying t with
 |some (.array c e)=>
  let a:=X.C.P.cellsOf e
  match Nat.beq a 0,l_ k x,l_ k i,IX i with
  |false,.GD s f,_,some n=>match Nat.blt n c with
   |true=>m_ d (.GD s (f+n*a)) k h K
   |false=>A.fail
  |false,.ID g f,_,some n=>match Nat.blt n c with
   |true=>m_ d (.ID g (f+n*a)) k h K
   |false=>A.fail
  |false,.IF s b l,_,some n=>match Nat.blt n c with
   |true=>m_ d (.IF s (b+n*a) l) k h K
   |false=>A.fail
  |false,.Kv g b l,_,some n=>match Nat.blt n c with
   |true=>m_ d (.Kv g (b+n*a) l) k h K
   |false=>A.fail
  |false,.GD s f,.st (.leaf (.i _ j)),_=>A.j_ (E0 c j) λ_=>m_ d (.IF s f [(j,a)]) k h K
  |false,.ID g f,.st (.leaf (.i _ j)),_=>A.j_ (E0 c j) λ_=>m_ d (.Kv g f [(j,a)]) k h K
  |false,.IF s b l,.st (.leaf (.i _ j)),_=>A.j_ (E0 c j) λ_=>m_ d (.IF s b (l++[(j,a)])) k h K
  |false,.Kv g b l,.st (.leaf (.i _ j)),_=>A.j_ (E0 c j) λ_=>m_ d (.Kv g b (l++[(j,a)])) k h K
  |false,.st (.leaf (.v p)),.st (.leaf (.i _ j)),_=>A.j_ (Py c a p j) λq=>A.nC q (m_ d (.st (.leaf (.v q))) k h K)
  |_,_,_,_=>A.fail
 |some (.slice e)=>
  let a:=X.C.P.cellsOf e
  match Nat.beq a 0,l_ k x,l_ k i with
  |false,.st (.leaf (.v p)),.st (.leaf (.i _ j))=>A.j_ (BL a p j) λq=>m_ d (.st (.leaf (.v q))) k h K
  |_,_,_=>A.fail
 |_=>A.fail
def lZ(X:CB)(d:Tq)(t:TP)(x:TK)(f:Nat)(c:Env)(h:HT)(K:KN R HT):R:=
 match X.C.P.underlying t with
 |some (.struct j)=>match j[f]? with
  |some e=>match Nat.beq (X.C.P.cellsOf e.type) 0,l_ c x with
   |false,.GD s b=>m_ d (.GD s (b+e.offset)) c h K
   |false,.ID g b=>m_ d (.ID g (b+e.offset)) c h K
   |false,.IF s a i=>m_ d (.IF s (a+e.offset) i) c h K
   |false,.Kv g a i=>m_ d (.Kv g (a+e.offset) i) c h K
   |false,.st (.leaf (.v p))=>A.j_ (Dm e.offset p) λq=>A.nC q (m_ d (.st (.leaf (.v q))) c h K)
   |_,_=>A.fail
  |none=>A.fail
 |_=>A.fail
abbrev _root_.Td:=FuncId->Option GN
def kH(X:CB)(Sg:Td)(o:Oper)(B:TN)(d:Env)(h:HT)(K:KN R HT):R:=
 match o.op with
 | .move x=>match l_ d x with
  | .no=>A.fail
  |y=>m_ o.dst y d h K
 | .assign x=>match l_ d x with
  | .no=>A.fail
  |y=>m_ o.dst y d h K
 | .pick c a b=>match l_ d c,l_ d a,l_ d b with
  | .st (.leaf (.l true)),.st y,_=>m_ o.dst (.st y) d h K
  | .st (.leaf (.l false)),_,.st y=>m_ o.dst (.st y) d h K
  | .st (.leaf (.b t)),.st y,.st z=>A.cond t (m_ o.dst (.st y) d h K) (m_ o.dst (.st z) d h K)
  |_,_,_=>A.fail
 | .alloc t=>match yu X.C.P t with
  |some x=>V7 A X o.dst t x d h K
  |none=>A.fail
 | .box t x=>match l_ d x with
  | .st x=>V7 A X o.dst t x d h K
  |_=>A.fail
 | .build t J=>match yu X.C.P t,oD X.C.P t,CO d (J.toList.map (·.2))with
  |some z,some pl,some D=>match sW pl z.cells ((J.toList.map (·.1)).zip D)with
   |some w=>m_ o.dst (.st (.agg w)) d h K
   |none=>A.fail
  |_,_,_=>A.fail
 | .buildSlice t n J=>match X.C.P.underlying t,CO d (J.toList.map (·.2))with
  |some (.slice e),some D=>match X.C.P.info? e with
   |some u=>match Nat.beq u.size 0||Nat.blt 16777216 (n*u.size),(lR u).bind Hm with
    |false,some z=>match sW (λi=>some (i*u.size,u.size)) (replicate n z.cells).flatten ((J.toList.map (·.1)).zip D)with
     |some w=>A.new (.cells (w.map SL.val) u.size true) h λm h=>m_ o.dst (.st (.leaf (.v (.slice (some ⟨m,0,le u.size⟩) n (n+1))))) d h K
     |none=>A.fail
    |_,_=>A.fail
   |none=>A.fail
  |_,_=>A.fail
 | .load t a=>match A2 X.C.P t with
  |some G=>match O8 G (ky (nN B))with
   |true=>P7 A X o.dst (nN B) G (if G then X.C.P.cellsOf t else 1) a d h K
   |false=>A.fail
  |none=>A.fail
 | .store t a x=>match l_ d x with
  | .st x=>JI A X o.dst t a x d h K
  |_=>A.fail
 | .nilCheck x=>match l_ d x with
  | .st (.leaf (.v p))=>A.j_ (C5 p) λq=>A.nC q (m_ o.dst (.st (.leaf (.v q))) d h K)
  | .GD s H=>m_ o.dst (.GD s H) d h K
  | .ID s H=>m_ o.dst (.ID s H) d h K
  |_=>A.fail
 | .binOp U t x y _=>match Cg d x,Cg d y with
  |some a,some b=>ZG A X o.dst U t a b d h K
  |_,_=>A.fail
 | .unOp U _ x=>match U,l_ d x with
  | .not,.st (.leaf (.b t))=>m_ o.dst (.st (.leaf (.b (!t)))) d h K
  | .not,.st (.leaf (.l t))=>m_ o.dst (.st (.leaf (.l (!t)))) d h K
  | .neg,.st (.leaf (.i k n))=>A.z_ .sub k 0 n λn=>m_ o.dst (.st (.leaf (.i k n))) d h K
  |_,_=>A.fail
 | .convert sT Y x=>match X.C.P.underlying sT,X.C.P.underlying Y,l_ d x with
  |some (.int _),some (.int k),.st (.leaf (.i _ n))=>A.conv k n λn=>m_ o.dst (.st (.leaf (.i k n))) d h K
  |_,_,_=>A.fail
 | .makeFunc Z first L=>match Z,CO d first.toList,CO d L.toList with
  | .func g,some a,some b=>A.nC (.func (.func g) ⟨aj a⟩ ⟨aj b⟩) (m_ o.dst (.st (.leaf (.v (.func (.func g) ⟨aj a⟩ ⟨aj b⟩)))) d h K)
  |_,_,_=>A.fail
 | .makeMap t r=>match pJ X.C t (r.map λ_=>.int .i64 0),E3 d r with
  |true,some _=>A.new (.map [] 0) h λn h=>m_ o.dst (.st (.leaf (.v (.map (some n))))) d h K
  |_,_=>A.fail
 | .makeSlice t l c=>match X.C.P.underlying t,l_ d l,l_ d c with
  |some (.slice e),.st (.leaf (.i _ l)),.st (.leaf (.i _ c))=>match X.C.P.info? e with
   |some u=>match Nat.beq u.size 0||Nat.blt 4096 u.bytes,(lR u).bind Hm with
    |false,some z=>A.j_ (DX l c) λ_=>
      A.new (.cells (aL (z.cells.map SL.val) c.toNat) u.size true) h λn h=>m_ o.dst (.st (.leaf (.v (.slice (some ⟨n,0,le u.size⟩) l.toNat (c.toNat+1))))) d h K
    |_,_=>A.fail
   |none=>A.fail
  |_,_,_=>A.fail
 | .slice t x S O T=>match X.C.P.underlying t,l_ d x,E3 d S,E3 d O,E3 d T with
  |some (.slice e),.st (.leaf (.v x)),some S,some O,some T=>match Nat.beq (X.C.P.cellsOf e) 0 with
   |true=>A.fail
   |false=>A.j_ (Ex (X.C.P.cellsOf e) x S O T) λq=>A.nC q (m_ o.dst (.st (.leaf (.v q))) d h K)
  |_,_,_,_,_=>A.fail
 | .fieldAddr t x f=>lZ A X o.dst t x f d h K
 | .indexAddr t x i=>md A X o.dst t x i d h K
 | .field t x f=>match X.C.P.underlying t,l_ d x with
  |some (.struct fs),.st (.agg w)=>match fs[f]? with
   |some N=>match (A2 X.C.P N.type).bind (λI=>(DU w N.offset (if I then X.C.P.cellsOf N.type else 1)).bind (GH I))with
    |some x=>m_ o.dst (.st x) d h K
    |none=>A.fail
   |none=>A.fail
  |_,_=>A.fail
 | .index t x i=>match X.C.P.underlying t,l_ d x,l_ d i with
  |some (.array Q e),.st (.agg w),.st (.leaf (.i _ j))=>match A2 X.C.P e with
   |some I=>match O8 I (ky (nN B))&&ux w (Hq (nN B)) 0 [(j,X.C.P.cellsOf e)]&&Nat.beq (if I then X.C.P.cellsOf e else 1) (Hq (nN B)).length with
    |false=>A.fail
    |true=>A.j_ (E0 Q j) λ_=>A.j_ (ko (w.map SL.lf) 0 [(j,X.C.P.cellsOf e)] (if I then X.C.P.cellsOf e else 1)) λls=>Ip A o.dst (nN B) ls d h K
   |none=>A.fail
  |some .string,.st (.leaf (.v (.string s))),.st (.leaf (.i _ j))=>A.j_ (Is s j) λb=>m_ o.dst (.st (.leaf (.i .u8 b))) d h K
  |_,_,_=>A.fail
 | .lookup t m k ok=>match X.C.P.underlying t,l_ d m,Cg d k with
  |some (.map E M),.st (.leaf (.v m)),some k=>match eU X.C.P M with
   |some z=>match B,ok with
    | [F],false=>A.my (.fn (Fb X.C E (ky F) z m k.val false)) h λw=>JL A F w λx r=>A.v9 r (m_ o.dst (.st x) d h K)
    | [F,.leaf .b],true=>A.my (.fn (Fb X.C E (ky F) z m k.val true)) h λw=>JL A F w λx r=>A.D1 r λt r=>A.v9 r (m_ o.dst (.JK [x,.leaf (.b t)]) d h K)
    |_,_=>A.fail
   |none=>A.fail
  |_,_,_=>A.fail
 | .mapUpdate t m k v=>match X.C.P.underlying t,l_ d m,Cg d k,Cg d v with
  |some (.map E _),.st (.leaf (.v m)),some k,some v=>A.heap (.fn (FO X.C E m k.val v.val)) h λ_ h=>m_ o.dst .un d h K
  |_,_,_,_=>A.fail
 | .insert t m k v=>match X.C.P.underlying t,l_ d m,Cg d k,Cg d v with
  |some (.map E _),.st (.leaf (.v m)),some k,some v=>A.heap (.fn (FO X.C E m k.val v.val)) h λ_ h=>m_ o.dst .un d h K
  |_,_,_,_=>A.fail
 | .mapEntry t m k=>match X.C.P.underlying t,l_ d m,Cg d k with
  |some (.map E M),.st (.leaf (.v m)),some k=>match eU X.C.P M with
   |some z=>match B with
    | [F,.leaf (.i .i64)]=>A.heap (.fn (meG X.C E (ky F) z m k.val)) h λw h=>JL A F w λx r=>A.td .i64 r λn r=>A.v9 r (m_ o.dst (.JK [x,.leaf (.i .i64 n)]) d h K)
    |_=>A.fail
   |none=>A.fail
  |_,_,_=>A.fail
 | .entryStore _ m s v=>match l_ d m,l_ d s,Cg d v with
  | .st (.leaf (.v m)),.st (.leaf (.i _ b)),some v=>A.heap (.fn (esG m b v.val)) h λ_ h=>m_ o.dst .un d h K
  |_,_,_=>A.fail
 | .extract t i=>match l_ d t with
  | .JK D=>match D[i]? with
   |some x=>m_ o.dst (.st x) d h K
   |none=>A.fail
  |_=>A.fail
 | .call c=>match CO d c.args.toList with
  |some D=>match c.callee with
   | .builtin b=>nR A X o.dst (nN B) b D c.argTypes d h K
   | .value f=>match l_ d f with
    | .st (.leaf (.v v))=>match f with
     | .func g=>match Sg g with
      |some W=>match bW D W.ps with
       |true=>A.call g (bX D) h λV h=>Nn A o.dst W.rs V d h K
       |false=>A.fail
      |none=>A.fail
     |_=>A.BO v (aj D) B h λV h=>Nn A o.dst B V d h K
    |_=>A.fail
   |_=>A.fail
  |none=>A.fail
 |_=>A.fail
def mH(X:CB)(Sg:Td)(ops:To)(o:Oper)(e:TN)(a:Env)(h:HT)(K:KN R HT):R:=
 match o.guard with
 |none=>kH A X Sg o e a h K
 |some (j,c)=>match (ops[j]?).bind (·.dst)with
  |some d=>match a.tm.getD d .no with
   | .st (.leaf (.l b))=>match b==c with
    |true=>kH A X Sg o e a h K
    |false=>m_ o.dst .un a h K
   | .un=>m_ o.dst .un a h K
   | .st (.leaf (.b t))=>match c with
    |true=>A.cond t (E9 (.st (.leaf (.l true))) a.tm d λtm=>kH A X Sg o e ⟨tm,a.lc⟩ h K) (E9 (.st (.leaf (.l false))) a.tm d λtm=>m_ o.dst .un ⟨tm,a.lc⟩ h K)
    |false=>A.cond t (E9 (.st (.leaf (.l true))) a.tm d λtm=>m_ o.dst .un ⟨tm,a.lc⟩ h K) (E9 (.st (.leaf (.l false))) a.tm d λtm=>kH A X Sg o e ⟨tm,a.lc⟩ h K)
   |_=>A.fail
  |none=>A.fail
abbrev _root_.TA:=List Oper
def M7(X:CB)(Sg:Td)(ops:To)(l:TA):List (TN)->Env->HT->KN R HT->R:=
 List.rec (motive:=λ_=>List (TN)->Env->HT->KN R HT->R) (λ_ a h K=>K a h)
  (λo _ c b a h K=>mH A X Sg ops o (b.headD []) a h λa h=>c b.tail a h K) l
end
namespace Sx
def kQ(_ _:Oper):Bool:=false
def JZ(a:TC)(o:Oper):Nat:=
 o.after.toList.foldl (λm e=>match Region.binds .any e with
  |true=>Nat.lor (Nat.lor m (Nat.shiftLeft 1 e.on)) (a.getD e.on 0)
  |false=>m) 0
def Fi:TA->TC->List Nat
 | [],a=>a
 |o :: l,a=>Fi l (a++[JZ a o])
def Df:Value->List Nat
 | .pointer (some a)=>match a.spot with
  |none=>[a.block]
  |some _=>[]
 | .slice (some a) _ _=>match a.spot with
  |some 1=>[]
  |_=>[a.block]
 | .map (some id)=>[id]
 |_=>[]
def jk:Value->List Nat
 | .pointer (some a)=>match a.spot with
  |none=>[a.block]
  |some _=>[]
 |_=>[]
def vi:Value->List Nat
 | .map (some id)=>[id]
 |_=>[]
def dg(b_:TC)(o:Oper):List Operand×Nat:=
 match o.op with
 | .load _ a=>match nI b_ a with
  |0=>([a],0)
  |_=>([],0)
 | .store _ a _=>match nI b_ a with
  |0=>([a],0)
  |_=>([],0)
 | .slice _ x _ _ _=>([x],1)
 | .lookup _ m _ _=>([m],0)
 | .mapUpdate _ m _ _ | .insert _ m _ _ | .mapEntry _ m _ | .entryStore _ m _ _=>([m],0)
 | .call c=>match c.callee with
  | .builtin b=>match b with
   | .append | .copy=>(c.args.toList,0)
   | .delete | .clear=>(c.args.toList.take 1,0)
   | .len=>(c.args.toList,2)
   |_=>([],0)
  |_=>([],0)
 |_=>([],0)
def BN:Nat->Value->List Nat
 |0,v=>Df v
 |1,v=>jk v
 |_,v=>vi v
def fh(b_:TC)(o:Oper):List Operand:=
 match o.op with
 | .store _ a _=>match nI b_ a with
  |0=>[a]
  |_=>[]
 | .mapUpdate _ m _ _ | .insert _ m _ _ | .mapEntry _ m _ | .entryStore _ m _ _=>[m]
 | .call c=>match c.callee with
  | .builtin b=>match b with
   | .append | .copy | .delete | .clear=>c.args.toList.take 1
   |_=>[]
  |_=>[]
 |_=>[]
def DW(b_:TC)(o:Oper):Nat:=
 match o.op with
 | .load _ a=>match nI b_ a with
  |0=>1
  |_=>0
 | .store _ a _=>match nI b_ a with
  |0=>2
  |_=>0
 | .alloc _ | .box _ _=>match dv b_ o with
  |true=>2
  |false=>0
 | .buildSlice _ _ _ | .makeMap _ _ | .makeSlice _ _ _ | .mapUpdate _ _ _ _ | .mapEntry _ _ _ | .entryStore _ _ _ _ | .insert _ _ _ _=>2
 | .lookup _ _ _ _ | .slice _ _ _ _ _=>1
 | .call c=>match c.callee with
  | .builtin b=>match b with
   | .append | .copy | .delete | .clear=>2
   | .len=>1
   |_=>0
  |_=>0
 |_=>0
def ON(b_:TC)(a b:Oper):Bool:=Nat.ble 3 (DW b_ a+DW b_ b) && !kQ a b
def uO(b_:TC)(b:Oper)(m i:Nat):TA->Nat->List (Nat×Nat)
 | [],_=>[]
 |a :: l,k=>match Nat.testBit m k || !ON b_ a b with
  |true=>uO b_ b m i l (k+1)
  |false=>(k,i) :: uO b_ b m i l (k+1)
def yK(b_:TC)(ms:TC):TA->TA->Nat->List (Nat×Nat)
 |_,[],_=>[]
 |pre,b :: l,i=>uO b_ b (ms.getD i 0) i pre 0++yK b_ ms (pre++[b]) l (i+1)
def yL(b_:TC)(ops:To):List (Nat×Nat):=yK b_ (Fi ops.toList []) [] ops.toList 0
def Hf(x:Nat):TC->Bool
 | []=>false
 |y :: l=>match Nat.beq x y with
  |true=>true
  |false=>Hf x l
def Cr:TC->TC->Bool
 | [],_=>true
 |x :: l,m=>match Hf x m with
  |true=>false
  |false=>Cr l m
def Dp:List (Value×Nat×Value)->Option Unit
 | []=>some ()
 |p :: l=>match Cr (Df p.1) (BN p.2.1 p.2.2)with
  |true=>Dp l
  |false=>none
def v5:SV->Option (Tn)
 | .st (.leaf (.v x))=>some [x]
 | .no=>none
 |_=>some []
def sO(c:Env):List Operand->Option (Tn)
 | []=>some []
 |x :: l=>match v5 (l_ c x),sO c l with
  |some a,some b=>some (a++b)
  |_,_=>none
def Sb(b_:TC)(o:Oper):List Operand:=fh b_ o++match DW b_ o,o.dst with
 |2,some d=>[.tmp d]
 |_,_=>[]
def HQ(us:Tn)(k:Nat)(vs:Tn):List (Value×Nat×Value):=us.flatMap λu=>vs.map λv=>(u,k,v)
def Jy(b_:TC)(c:Env)(a b:Oper):Option (List (Value×Nat×Value)):=
 match sO c (Sb b_ a),sO c (Sb b_ b),sO c (dg b_ a).1,sO c (dg b_ b).1 with
 |some d,some e,some f,some g=>some (HQ d (dg b_ b).2 g++HQ d 0 e++HQ e (dg b_ a).2 f)
 |_,_,_,_=>none
def tZ(b_:TC)(ops:To)(c:Env):List (Nat×Nat)->Option (List (Value×Nat×Value))
 | []=>some []
 |p :: l=>match ops[p.1]?,ops[p.2]?,tZ b_ ops c l with
  |some a,some b,some r=>(Jy b_ c a b).map λx=>x++r
  |_,_,_=>none
def sepK{R a:Type}(A:B_ R a)(b_:TC)(ops:To)(ps:List (Nat×Nat))(c:KN R a):KN R a:=
 match ps with
 | []=>c
 |ps=>λb h=>match tZ b_ ops b ps with
  |some l=>A.j_ (Dp l) λ_=>c b h
  |none=>A.fail
def Gr:List (Nat×Nat)->Option (Nat×Nat)
 | []=>none
 |p :: l=>match l with
  | []=>match Nat.ble 1000 p.1 with
   |true=>some (p.1 - 1000,p.2)
   |false=>none
  |_=>none
def I3(x y:Value):Option Unit:=match x with
 | .func (.yield l) a b=>match y with
  | .func (.yield m) c d=>match Nat.beq l m,a.toList,b.toList,c.toList,d.toList with
   |true,[],[],[],[]=>some ()
   |_,_,_,_,_=>none
  |_=>none
 |_=>none
def UT:SV->Option Value
 | .st (.leaf (.v x))=>some x
 |_=>none
def reK{R a:Type}(A:B_ R a)(X:CB)(Sg:Td)(ops:To)(k:Nat)(e:TN)(b:Env)(h:a)(f:KN R a):R:=
 match ops[k]? with
 |some o=>match o.dst with
  |some d=>mH A X Sg ops o e b h λc _=>match UT (b.tm.getD d .no),UT (c.tm.getD d .no)with
   |some x,some y=>A.j_ (I3 x y) λ_=>f b h
   |_,_=>A.fail
  |none=>A.fail
 |none=>A.fail
def Fm(l:List (Nat×Nat)):Option (List (Nat×Nat)):=match l with
 | []=>none
 |p :: l=>match Nat.ble 5000 p.1 with
  |true=>some l
  |false=>none
def y3:Int->Int->Bool
 | .ofNat a,.ofNat b=>Nat.beq a b
 | .negSucc a,.negSucc b=>Nat.beq a b
 |_,_=>false
def Z5:Ts->Ts->Bool
 |none,none=>true
 |some a,some b=>Nat.beq a b
 |_,_=>false
def I2:Option Addr->Option Addr->Bool
 |none,none=>true
 |some a,some b=>match Nat.beq a.block b.block,Nat.beq a.off b.off with
  |true,true=>Z5 a.spot b.spot
  |_,_=>false
 |_,_=>false
def Pa(x y:Value):Option Unit:=match x with
 | .pointer a=>match y with
  | .pointer b=>match I2 a b with
   |true=>some ()
   |false=>none
  |_=>none
 | .slice a n c=>match y with
  | .slice b m d=>match I2 a b,Nat.beq n m,Nat.beq c d with
   |true,true,true=>some ()
   |_,_,_=>none
  |_=>none
 | .map a=>match y with
  | .map b=>match Z5 a b with
   |true=>some ()
   |false=>none
  |_=>none
 |_=>I3 x y
def Z2(x y:Int):Option Unit:=match y3 x y with
 |true=>some ()
 |false=>none
def y2(x y:Bool):Option Unit:=match x,y with
 |true,true=>some ()
 |false,false=>some ()
 |_,_=>none
def Rn{R c:Type}(A:B_ R c)(x y:SL)(K:R):R:=match x with
 | .i k n=>match y with
  | .i d m=>match cY k d with
   |true=>A.j_ (Z2 n m) λ_=>K
   |false=>A.fail
  |_=>A.fail
 | .b t=>match y with
  | .b u=>A.j_ (y2 t u) λ_=>K
  |_=>A.fail
 | .v a=>match y with
  | .v b=>A.j_ (Pa a b) λ_=>K
  |_=>A.fail
 | .l _=>A.fail
def Lt{R a:Type}(A:B_ R a):List SL->List SL->R->R
 | [],[],K=>K
 |x :: l,y :: m,K=>Rn A x y (Lt A l m K)
 |_,_,_=>A.fail
def samS{R c:Type}(A:B_ R c)(x y:SV)(K:R):R:=match x with
 | .st (.leaf a)=>match y with
  | .st (.leaf b)=>Rn A a b K
  |_=>A.fail
 | .st (.agg a)=>match y with
  | .st (.agg b)=>Lt A a b K
  |_=>A.fail
 |_=>A.fail
def opsM{R a:Type}(A:B_ R a)(X:CB)(Sg:Td)(ops:To)(l:TA):List (TN)->Env->a->(Env->a->List a->R)->R:=
 List.rec (motive:=λ_=>List (TN)->Env->a->(Env->a->List a->R)->R) (λ_ b h K=>K b h [])
  (λo _ g d b h K=>mH A X Sg ops o (d.headD []) b h λb h=>g d.tail b h λc e f=>K c e (h :: f)) l
def atM{i7:Type}(h0:i7)(a:List i7)(p:Nat×Nat):i7:=(h0 :: a).getD (match Nat.ble p.1 p.2 with
 |true=>p.2+1
 |false=>p.2) h0
def reM{R a:Type}(A:B_ R a)(X:CB)(Sg:Td)(ops:To)(f:List (TN))(b:Env)(h0:a)(e:List a)(K:R):List (Nat×Nat)->R
 | []=>K
 |p :: l=>match ops[p.1]? with
  |some o=>match o.dst with
   |some d=>mH A X Sg ops o (f.getD p.1 []) b (atM h0 e p) λc _=>samS A (b.tm.getD d .no) (c.tm.getD d .no) (reM A X Sg ops f b h0 e K l)
   |none=>A.fail
  |none=>A.fail
def regE{R d:Type}(A:B_ R d)(X:CB)(Sg:Td)(ops:To)(b:List (TN))(f:List (Nat×Nat))(a:Env)(h:d)(e:KN R d):R:=
 match Fm f with
 |some l=>opsM A X Sg ops ops.toList b a h λc g i=>reM A X Sg ops b c h i (e c g) l
 |none=>match Gr f with
  |none=>M7 A X Sg ops ops.toList b a h (sepK A X.b_ ops f e)
  |some p=>M7 A X Sg ops (ops.toList.take (p.2+1)) b a h λa h=>reK A X Sg ops p.1 (b.getD p.1 []) a h λa h=>
   M7 A X Sg ops (ops.toList.drop (p.2+1)) (b.drop (p.2+1)) a h e
end Sx
abbrev Dr:=List Nat->To->Option (List (Nat×Nat))
section
variable {R HT:Type} (A:B_ R HT)
def uT(e:Exit)(id:Nat):Bool:=match e with
 | .exit i=>Nat.beq i id
 |_=>false
def oR(tm:List SV):List (Nat×SK)->Option (Tn)
 | []=>some []
 |(t,a) :: l=>match tm.getD t .no,oR tm l with
  | .st x,some vs=>match x.is a with
   |true=>some (x.val :: vs)
   |false=>none
  |_,_=>none
def drX(b:Dr)(a:Bool)(b_:TC)(ops:To):Option (List (Nat×Nat)):=match a with
 |true=>b b_ ops
 |false=>some []
def exec(X:CB)(Sg:Td)(x:Dr)(c:AC):Env->HT->KN R HT->(Exit->KN R HT)->R:=
 AC.rec (motive:=λ_=>Env->HT->KN R HT->(Exit->KN R HT)->R)
  (λd h g _=>g d h)
  (λd h _ i=>i .ret d h)
  (λid d h _ i=>i (.exit id) d h)
  (λ_ d h g _=>g d h)
  (λ_ _ m n d h g i=>m d h (λd h=>n d h g i) i)
  (λ_ r d h g i=>r d h g i)
  (λid q o y j d h g _=>match drX x o X.b_ q with
   |none=>A.fail
   |some B=>vx A X.b_ (.region id q o) j d g λg=>Sx.regE A X Sg q y B d h g)
  (λc a b j m n d h g i=>match l_ d c with
   | .st (.leaf (.l true))=>m d h g i
   | .st (.leaf (.l false))=>n d h g i
   | .st (.leaf (.b t))=>vx A X.b_ (.cond c (a.erase λk t=>gi (X.T k) t) (b.erase λk t=>gi (X.T k) t)) j d g λg=>A.cond t (m d h g i) (n d h g i)
   |_=>A.fail)
  (λid b j r d h g i=>vx A X.b_ (b.erase λk t=>gi (X.T k) t) j d g λg=>r d h g λe=>match uT e id with
   |true=>g
   |false=>i e)
  (λb lv r d h _ i=>match pk d lv with
   |none=>A.fail
   |some s=>match lv.rows.all λp=>!(aQ X.b_ (b.erase λk t=>gi (X.T k) t)).contains p.1 with
    |false=>A.fail
    |true=>A.loop (λu s h=>e6 A X.b_ (b.erase λk t=>gi (X.T k) t) .nil lv d s λd=>r d h (λd h=>match pk d lv with
     |some s=>u s h
     |none=>A.fail) i) s h)
  (λf k w d h g i=>match f,l_ d f,X.b_ with
   | .tmp _,.st (.leaf (.v v)),_ :: _=>match Nat.beq d.tm.length (X.T k).nt,oR d.tm (X.T k).caps with
    |true,some C=>A.Ei k v C h λz h=>A.DZ z (g d h) (i .ret d h) (w.map λid=>(id,i (.exit id) d h))
    |_,_=>A.fail
   |_,_,_=>A.fail) c
def IP(cs:List SL)(K:R):R:=
 List.rec K (λc _ a=>match c with
  | .v x=>A.j_ (Fy x) λ_=>a
  |_=>a) cs
def ij(a:Bool)(x:S0)(K:R):R:=
 match a,x with
 |true,.agg b=>IP A b K
 |_,_=>K
def GL(X:CB)(c:Bool)(j:Env)(h:HT)(l:List ResultVar):TN->TG->(TG->HT->R)->R:=
 List.rec (motive:=λ_=>TN->TG->(TG->HT->R)->R) (λb d K=>match b with
   | []=>K d h
   |_=>A.fail)
  (λm _ i b d K=>match b with
   | []=>A.fail
   |g :: b=>match m with
    | .tmp t=>match j.tm.getD t .no with
     | .st x=>match x.is g with
      |true=>ij A c x (i b (d++x.cells.map SL.lf) K)
      |false=>A.fail
     |_=>A.fail
    | .cell a t=>match A2 X.C.P t with
     |some e=>
      let n:=if e then X.C.P.cellsOf t else 1
      match j.tm.getD a .no with
      | .GD s k=>match (tT j s).bind (λf=>(DU f k n).bind (GH e))with
       |some x=>match x.is g with
        |true=>ij A c x (i b (d++x.cells.map SL.lf) K)
        |false=>A.fail
       |none=>A.fail
      | .st (.leaf (.v p))=>match e,g with
       |true,.agg _=>A.my (.ld n p) h λf=>JL A g f λx r=>A.v9 r (ij A c x (i b (d++x.cells.map SL.lf) K))
       |false,.leaf _=>A.my (.ld n p) h λf=>JL A g f λx r=>A.v9 r (ij A c x (i b (d++x.cells.map SL.lf) K))
       |_,_=>A.fail
      |_=>A.fail
     |none=>A.fail) l
structure Fn1 where
 sg:GN
 nt:Nat
 rvs:List ResultVar
 code:AC
def aw(X:CB)(Sg:Td)(d:Dr)(a:Fn1)(ls:TG)(h:HT)(K:TG->HT->R):R:=
 Iw A a.sg.ps ls λc r=>A.w_ r (
  exec A X Sg d a.code ⟨c.map .st++replicate (a.nt - c.length) .no,replicate a.nt .nil⟩ h
   (λb h=>GL A X (Nat.blt 1 a.rvs.length) b h a.rvs a.sg.rs [] K)
   λe b h=>match e with
    | .ret=>GL A X (Nat.blt 1 a.rvs.length) b h a.rvs a.sg.rs [] K
    |_=>A.fail)
def fX(a:Nat):List (Nat×SK)->List S0->List SV->List SV
 |(t,_) :: l,x :: xs,tm=>fX a l xs (tm.set t (.st x))
 |_,_,tm=>tm
def FE:AC->Bool
 | .seq a b=>FE a&&FE b
 | .scope b=>FE b
 | .cond _ a b _=>FE a&&FE b
 | .block _ b _=>FE b
 | .loop b _=>FE b
 | .rangeFunc _ _ _=>false
 |_=>true
def tz(l:List (Nat×SK)):Bool:=l.all λp=>match p.2 with
 | .leaf _=>true
 | .agg _=>false
def sS(X:CB)(Sg:Td)(a:Dr)(st:Site)(vs:Tn)(l:Nat)(ls:TG)(h:HT)(K:TG->HT->R):R:=
 match tz st.caps&&FE st.assign&&FE st.body with
 |false=>A.fail
 |true=>xk A (st.caps.map (·.2)) vs λd r=>A.v9 r (Iw A (st.params.map (·.2)) ls λf r=>A.w_ r (
  exec A { X with b_:=[] } Sg a st.assign ⟨fX st.nt st.params f (fX st.nt st.caps d (replicate st.nt .no)),[]⟩ h
   (λc h=>A.H7 l h λh=>exec A { X with b_:=[] } Sg a st.body c h
    (λ_ h=>A.Gt l none h λh=>K [.b true] h)
    λe _ h=>match e with
     | .ret=>A.Gt l (some .ret) h λh=>K [.b false] h
     | .exit id=>A.Gt l (some (.exit id)) h λh=>K [.b false] h
     |_=>A.fail)
   λ_ _ _=>A.fail))
end
inductive An where
 |r (hs:List (TN)) (j:Option Live)
 |c (j:Option Live)
 |b (j:Option Live)
 |l (lv:Live)
 |f (j8:Nat) (ids:TC)
abbrev lv:SK:=.leaf .v
abbrev lb:SK:=.leaf .b
abbrev li:SK:=.leaf (.i .i64)
def qy:Code->List An->AC×List An
 | .skip,l=>(.skip,l)
 | .ret,l=>(.ret,l)
 | .exit id,l=>(.exit id,l)
 | .label n,l=>(.label n,l)
 | .seq a b,l=>
  let x:=qy a l
  let y:=qy b x.2
  (.seq x.1 y.1,y.2)
 | .scope b,l=>
  let x:=qy b l
  (.scope x.1,x.2)
 | .region id g d,.r h j :: l=>(.region id g d h j,l)
 | .cond c a b,.c j :: l=>
  let x:=qy a l
  let y:=qy b x.2
  (.cond c x.1 y.1 j,y.2)
 | .block id b,.b j :: l=>
  let x:=qy b l
  (.block id x.1 j,x.2)
 | .loop b,.l lv :: l=>
  let x:=qy b l
  (.loop x.1 lv,x.2)
 | .rangeFunc f _ _ _,.f i e :: l=>(.rangeFunc f i e,l)
 |_,l=>(.exit 1000000,l)
def IW(P:TI)(f:TQ):Code:=((P.funcs[f]?).bind (·.body)).getD .skip
def jc:Code->List (Array Tmp×Code×Code)
 | .seq a b=>jc a++jc b
 | .scope b=>jc b
 | .cond _ a b=>jc a++jc b
 | .block _ b=>jc b
 | .loop b=>jc b
 | .rangeFunc _ c a b=>[(c,a,b)]
 |_=>[]
def cA(c:Code)(i e:Nat)(caps d:List (Nat×SK))(a b:List An):Site:=
 match (jc c)[i]? with
 |some (_,x,y)=>⟨e,caps,d,(qy x a).1,(qy y b).1⟩
 |none=>⟨0,[],[],.skip,.skip⟩
def fn1(P:TI)(f:TQ)(sg:GN)(b:List An):Fn1:=
 match P.funcs[f]? with
 |some a=>⟨sg,a.ntmps,a.results.toList,(qy (IW P f) b).1⟩
 |none=>⟨sg,0,[],.skip⟩
abbrev B2:SK:=.agg [.i .i64,.i .i64,.i .u8]
abbrev Cd:SK:=.agg [.i .u8,.i .i64,.i .i64]
abbrev Cj:SK:=.leaf (.i .u8)
abbrev Cq:SK:=.agg [.i .i64,.i .i64]
abbrev Dt:SK:=.agg [.i .i64,.i .i64,.v]
abbrev Ft:SK:=.agg [.i .i64,.i .i64,.v,.i .u8,.i .i64,.i .i64,.v]
abbrev Gs:SK:=.agg [.i .i64,.i .u8]
abbrev GB:SK:=.agg [.i .i64,.b]
abbrev GP:SK:=.agg [.i .u8,.i .i64]
abbrev I7:SK:=.agg [.i .i64,.i .u8,.i .u8]
abbrev EY:SK:=.agg [.i .i64,.i .i64,.i .i64,.i .i64]
abbrev HZ:SK:=.agg [.i .u8,.i .u8,.v,.v]
abbrev Vt:SK:=.agg [.i .i64,.i .i64,.i .u8,.v]
abbrev Pq:SK:=.leaf (.i .u64)
abbrev Vu:SK:=.agg [.i .u8,.i .u8,.v]
abbrev p3:SK:=.agg [.i .i64,.b,.i .i64,.b,.i .i64,.b,.i .i64,.b]
abbrev p5:SK:=.agg [.i .i64,.i .i64,.i .u8,.i .i64,.i .i64,.i .i64,.i .u8,.i .i64,.i .i64,.i .u8,.i .i64,.i .i64,.i .u8,.i .i64,.i .i64,.i .i64,.i .i64]
abbrev Z:An:=.r [] none
abbrev I:An:=.c none
abbrev E:An:=.b none
abbrev M(x:List (TN)):An:=.r x none
open Go.Proofs
def BP:Tn:=[1,0,0,1,0,-1,1,0,-1,0,0,-1,0,1,-1,0,-1,0,0,1,0,-1,-1,0,1,0,0,-1,0,1,1,0].map (.int .i64)
def w7:Tn:=[.int .i64 0,.int .i64 (-1),.int .u8 2,.int .i64 0,.int .i64 0,.int .i64 (-1),.int .u8 2,.int .i64 0,.int .i64 0,.int .u8 1,.int .i64 0,.int .i64 0,.int .u8 3,.int .i64 0,.int .i64 0,.int .i64 2,.int .i64 0,.int .i64 1,.int .i64 0,.int .u8 1,.int .i64 1,.int .i64 1,.int .i64 0,.int .u8 3,.int .i64 0,.int .i64 0,.int .u8 0,.int .i64 0,.int .i64 0,.int .u8 2,.int .i64 2,.int .i64 2,.int .i64 2,.int .i64 0,.int .i64 0,.int .i64 1,.int .u8 2,.int .i64 1,.int .i64 0,.int .i64 1,.int .u8 0,.int .i64 0,.int .i64 0,.int .u8 3,.int .i64 0,.int .i64 0,.int .u8 1,.int .i64 2,.int .i64 2,.int .i64 0,.int .i64 2,.int .i64 (-1),.int .i64 0,.int .u8 1,.int .i64 0,.int .i64 (-1),.int .i64 0,.int .u8 1,.int .i64 0,.int .i64 0,.int .u8 2,.int .i64 0,.int .i64 0,.int .u8 0,.int .i64 0,.int .i64 0,.int .i64 0,.int .i64 2]
def Q1:List (TC):=[[],[],[0],[0,3,0,5,27,12,99,12],[0,3,0,5,27,12,26,5,29,5,44,5,23,5,29,12],[24,5,24,9,0,11,32,9,9,25,9],[23,4,5,0,7,25,12,24,5,23,5,23,5,24,5,0,5,25,5,5,24,5],[0,3,0,5,6,25,3,23,3,23,3,3,23,3,26,5,0,5,28,6,0,6,0,6,26,6,0,5,25,6,0,5,32,5,0,5],[0,3,4,5,6,23,3,0,5,23,5,23,5,5,5,24,5,23,5,25,3,26,6,27,3,32,6],[23,4,28,12,50,4],[27,8,68,8,26,8,29,8,30,8],[24,5,6],[2],[24,5,6],[23,4,5],[23,4,5,25,10,11,0,4,0,5,25,4,4,0,5,5,24,4,4,23,5,5,26,4,23,5,28,4,4,26,4,4,25,5,5,29,4,26,4,25,5,25,10,0,11,24,10,23,11,28,10,26,10,25,11],[0,3,24,7,8,23,3,26,3,23,3,28,3,0,7,0,7,35,3,26,3,27,3],[],[0,3,4,5,23,3,25,3,27,3,37,3,32,3,27,3],[],[23,4,5,0,4,0,5,24,4,0,5],[],[],[23,4,5,31,16,4,4,23,4,4,52,4,39,4,24,4],[23,4,5,6],[23,4,0,6,23,4,25,4],[0],[0],[23,4,5,33,5,32,5],[23,4,5,28,13,24,17,0,19,39,4,4,0,4,4],[0],[0],[0,3,0,3,24,3,25,3,25,3,25,3,0,3],[0],[0,3,0,3],[0],[24,5,23,8],[0,3,4,3,0,3],[23,4,5,0,4,0,5,23,4,0,5,23,4,23,5],[],[23,4,0,6],[23,4,5,33,5,25,5,0,4,25,5,25,5,0,4,24,5,0,4,23,5,24,5],[],[],[25,6,7,35,7,0,7,7,29,7],[0,3,25,8,45,8,29,8,29,8],[23,4,5,6,7,8,24,12,31,5,23,4,4,23,4,4,24,4,24,4,26,4,25,5,0,12,23,5,24,12,23,12,26,12,29,12,27,12,26,4,24,8,23,12,54,5,65,8,0,4,0,4,38,5,33,5,23,8,8,27,4,4,37,8,8,8,8,23,8,8],[],[0,3,24,7,24,3,3,23,3,3,25,3,26,3,29,3,0,7,27,3,0,7,24,7,26,7,25,7,27,3,25,7,28,7],[23,4,0,6,23,4,24,4,0,4,26,4,23,4,25,4,0,4,24,4,23,4,25,4,0,4,0,4,25,4,0,4,0,4],[],[],[],[],[],[],[],[],[23,4,5,0,4,0,5,23,4,0,5,23,4,23,5],[],[0],[24,5,24,9,26,9,24,9,25,9,0,5,25,9,0,5,24,9,0,5,23,9,24,9],[23,4,5,6,7,8,9,0,11,41,7,23,7],[23,4,5,6,4,0,5,23,4,0,5,25,4,0,5,23,4,0,5,25,4,0,5,25,4,0,5,25,4,0,4,24,4,0,4,25,4,0,4,23,4,0,4],[0,3,4,5,23,3,23,3,24,3,0,5,24,3,0,5,24,5,31,5,25,5,26,5],[23,4,5,6,24,5,0,5,0,4,26,4,31,4,25,4],[0,3,4,5,23,5,5,0,5,5,23,5,5,24,5,5,0,5,5,23,5,5],[23,4,5,0,4,0,5,24,4,0,5,24,4,0,5,24,4,0,5,24,4,0,5],[23,4,5],[0],[32,13,23,16,0,18,0,20],[26,7,0,9,24,13,24,17,0,19,44,7,0,9,24,7,0,9,42,7,0,13,25,7,0,13,55,17,0,19,24,17,0,19,24,17,0,19,24,17,0,19],[0],[0],[23,4,5,6,0,8,25,5,24,5,43,6],[0],[0],[0],[24,5,25,10,0,12],[23,4,27,4,23,4],[23,4,0,6,23,4,25,4],[0,3,0,3,24,3,25,3,25,3,25,3],[],[0],[0,3,29,12,13,0,3,0,3,25,3,33,3,3,42,3,3,29,3,3],[0,3,4,3,24,3,26,3,26,3,0,3,23,3,23,3],[23,4,5,0,7,24,7,0,7,0,7,0,7,23,7,0,7,24,4,25,4],[24,5],[0],[],[24,5],[],[0],[25,6,28,6,0,6],[0],[],[],[],[0],[0],[0,3,4,23,7,3,23,3,28,3],[23,4,5,29,14,15,49,4],[0],[23,4,5],[23,4,0,6,0,8,29,4,23,1,1,1,0,8,0,4,23,8,0,4,23,8,8],[23,4,5,6,0,8],[24,5,25,10,40,5],[31,12,31,12,23,12],[0,3,26,3],[25,6,7,31,6,0,7,0,6,0,7,26,6,0,7,29,6,0,7,57,6,0,7,0,6,0,7,34,7,0,6,0,6,0,7],[27,8],[0],[0],[0],[0],[25,6,27,6,26,6,29,6,30,6,29,6],[25,6,23,9],[],[],[0],[0],[],[0],[],[0],[],[0],[23,4,5,6,7,24,7,24,7,26,7,26,7,23,7],[0],[0,3,0,3,25,3,25,3,25,3,0,3],[34,15],[23,4,5,6,34,5,0,1,0,4,0,4,25,4,0,1,0,5,0,1,25,5,24,5],[0],[0],[0],[0],[0],[0],[0],[0],[23,4,5,6,7,8,9,0,11,23,5,0,1,1,28,4,4,27,7,0,7,25,7,0,7,31,11,26,9],[24,5,23,8,25,13,31,5,32,5],[24,5,6,7,25,5,25,5,27,5,24,7,0,5,0,7],[24,5,25,5,26,5,29,5],[],[],[],[],[],[0],[0,3,24,7,3,24,3,28,7,0,7],[0,3,25,3,23,3],[28,9,10,0,12,0,14,0,16],[23,4,5,6,0,8,33,5],[0,3,4,26,3,24,3,26,3,26,3,0,3,23,3,23,3],[24,5,25,5,24,5,25,5,24,5],[0,3,4],[0,3,23,6],[23,4,5,6,27,4,0,4,27,4,0,4],[],[0],[0],[0,3,4,3,24,3],[23,4,5,6,24,10,31,4,0,1,0,5,0,5,26,4,25,4],[24,5],[],[23,4,5,6,23,9,30,5,0,5,34,5],[23,4,0,6,0,8,9,29,4,0,1,0,8,0,4,0,8,27,4,0,4,28,4,0,4,25,8,23,4,0,8,23,9],[0,3,0,3,24,3,25,3,25,3],[],[0,3,0,3,24,3,25,3,25,3],[25,6],[23,4,5]].map (·.flatMap λx=>if x<21 then[x]else replicate (x-21) 0)
def cc:m' where
 P:=Tryz.prog
 G:=λg=>match g with
  |2=>some BP
  |1=>some w7
  |_=>none
 b_:=λf=>Q1.getD f []
def ac:TQ->Option GN
 |2=>some ⟨[],[]⟩
 |3=>some ⟨[HZ],[lb]⟩
 |4=>some ⟨[HZ],[lb]⟩
 |5=>some ⟨[HZ,Cj,li],[lb]⟩
 |6=>some ⟨[HZ,Cd],[lb]⟩
 |7=>some ⟨[Vu],[lb]⟩
 |8=>some ⟨[HZ],[Dt]⟩
 |9=>some ⟨[Dt,li],[lv,li]⟩
 |10=>some ⟨[],[lb]⟩
 |11=>some ⟨[Dt,Cd,li],[lv,li]⟩
 |12=>some ⟨[],[Cd]⟩
 |13=>some ⟨[Dt,Cd,li],[li,li]⟩
 |14=>some ⟨[Dt,Cd],[Ft,li]⟩
 |15=>some ⟨[Ft,Ft],[li]⟩
 |16=>some ⟨[Dt],[li]⟩
 |18=>some ⟨[Vu],[Ft]⟩
 |20=>some ⟨[Dt,Dt],[lb]⟩
 |23=>some ⟨[Dt,Cd],[lv,li]⟩
 |24=>some ⟨[Cd,B2],[B2]⟩
 |25=>some ⟨[Cq,li],[B2]⟩
 |26=>some ⟨[lv],[lv]⟩
 |27=>some ⟨[lv,li],[lv]⟩
 |28=>some ⟨[lv],[Dt]⟩
 |29=>some ⟨[Dt,Cd],[lv,li]⟩
 |30=>some ⟨[lv],[lv]⟩
 |31=>some ⟨[lv],[lv]⟩
 |32=>some ⟨[Cq],[li]⟩
 |33=>some ⟨[lv,lv],[lb]⟩
 |34=>some ⟨[I7],[lb]⟩
 |35=>some ⟨[Cj],[lb]⟩
 |36=>some ⟨[Cq,li,Cj],[Gs,li]⟩
 |37=>some ⟨[I7],[Gs]⟩
 |38=>some ⟨[Gs,Gs],[li]⟩
 |40=>some ⟨[Cq,li],[B2,li]⟩
 |41=>some ⟨[Cq,B2],[li,li]⟩
 |44=>some ⟨[li,li],[Ft]⟩
 |45=>some ⟨[Ft],[lv]⟩
 |46=>some ⟨[Ft,.agg [.i .u8,.i .i64,.i .u8,.b]],[Ft]⟩
 |48=>some ⟨[Dt],[lv]⟩
 |49=>some ⟨[B2,li],[B2]⟩
 |58=>some ⟨[B2,B2],[li]⟩
 |60=>some ⟨[lv,lv],[lb]⟩
 |61=>some ⟨[Cq,li,li],[li]⟩
 |62=>some ⟨[Cd,Cd],[Cd]⟩
 |63=>some ⟨[B2,B2],[Cd]⟩
 |64=>some ⟨[Cq],[B2]⟩
 |65=>some ⟨[Cd,Cq],[Cq]⟩
 |66=>some ⟨[B2],[Cq]⟩
 |67=>some ⟨[B2,B2],[li]⟩
 |68=>some ⟨[Dt,Cd],[lv,li]⟩
 |69=>some ⟨[lv,lv],[]⟩
 |70=>some ⟨[lv,lv],[lv,li]⟩
 |71=>some ⟨[lv,lv],[]⟩
 |72=>some ⟨[lv,lv],[]⟩
 |73=>some ⟨[li,lv,lv,lv],[lb]⟩
 |74=>some ⟨[lv],[Ft]⟩
 |75=>some ⟨[lv,li,li,lv],[lb]⟩
 |76=>some ⟨[lv,li,lv],[]⟩
 |77=>some ⟨[lv,lv],[li]⟩
 |78=>some ⟨[Cq,li,Cj],[li,li]⟩
 |79=>some ⟨[Cq,li],[lb]⟩
 |80=>some ⟨[Cq,li],[B2]⟩
 |81=>some ⟨[B2],[li]⟩
 |83=>some ⟨[Pq],[li]⟩
 |84=>some ⟨[Ft],[lv]⟩
 |85=>some ⟨[GP],[Cd]⟩
 |86=>some ⟨[GP,B2],[Cj]⟩
 |87=>some ⟨[Cq,li,li],[Cj]⟩
 |88=>some ⟨[lv],[lv]⟩
 |90=>some ⟨[Cq,li,li],[li]⟩
 |92=>some ⟨[lv,li],[li]⟩
 |93=>some ⟨[lv],[li]⟩
 |94=>some ⟨[li,li],[li]⟩
 |98=>some ⟨[li,li],[li]⟩
 |99=>some ⟨[li,li],[li]⟩
 |100=>some ⟨[B2],[.agg [.i .i64,.i .i64,.i .i64,.i .i64,.i .i64,.i .i64]]⟩
 |101=>some ⟨[Dt,Cd],[lv,lv,li]⟩
 |102=>some ⟨[lv,li,li,li,lv],[]⟩
 |103=>some ⟨[Dt,Cd],[lv,li]⟩
 |104=>some ⟨[B2,Cj],[B2,li]⟩
 |105=>some ⟨[Cd,B2],[B2,li]⟩
 |106=>some ⟨[Dt,li,Cj],[Cj,li]⟩
 |107=>some ⟨[lv,Cj,li,li,lb],[]⟩
 |108=>some ⟨[Cd],[lb]⟩
 |109=>some ⟨[lv,GB,GB],[]⟩
 |110=>some ⟨[lv,li,li],[GB]⟩
 |111=>some ⟨[lv],[lv]⟩
 |112=>some ⟨[lv],[lv]⟩
 |113=>some ⟨[lv],[lv]⟩
 |114=>some ⟨[lv],[lv]⟩
 |115=>some ⟨[lv,GB,lv],[lb]⟩
 |116=>some ⟨[lv],[lb]⟩
 |119=>some ⟨[lv,li,li,lv],[]⟩
 |120=>some ⟨[lv,li,li,lv],[li,li]⟩
 |122=>some ⟨[lv,li,li,lv],[lb]⟩
 |124=>some ⟨[lv,li,li,li,lv],[li,lb]⟩
 |126=>some ⟨[Pq],[li]⟩
 |127=>some ⟨[B2,B2],[GP]⟩
 |128=>some ⟨[li],[lb]⟩
 |129=>some ⟨[Cd],[li]⟩
 |130=>some ⟨[Dt],[lv,li]⟩
 |131=>some ⟨[Cd,Cd],[Cd,li]⟩
 |132=>some ⟨[lv,li,li,lv],[]⟩
 |133=>some ⟨[lv,li,li,lv],[]⟩
 |134=>some ⟨[lv,li,li,lv],[]⟩
 |135=>some ⟨[lv,li,li,lv],[li,li]⟩
 |136=>some ⟨[lv,li,li,lv],[]⟩
 |137=>some ⟨[lv,li,li,lv],[lb]⟩
 |138=>some ⟨[lv,li,li,li,lv],[li]⟩
 |139=>some ⟨[lv,li,li,li,lv],[li,lb]⟩
 |140=>some ⟨[Cd,B2],[B2]⟩
 |141=>some ⟨[Dt,li,Cj],[Gs,li,lb,li]⟩
 |142=>some ⟨[lv,GB],[GB]⟩
 |143=>some ⟨[lv,GB],[li]⟩
 |149=>some ⟨[li],[lb]⟩
 |150=>some ⟨[Dt],[lv]⟩
 |151=>some ⟨[Cq],[li]⟩
 |152=>some ⟨[li,Cj,lv,lv,lv],[Cd]⟩
 |153=>some ⟨[Cq,Gs],[GP,li]⟩
 |154=>some ⟨[GP],[Cd,li]⟩
 |155=>some ⟨[EY,li,li],[li,li]⟩
 |156=>some ⟨[Cd],[Cd,li]⟩
 |157=>some ⟨[EY],[Cj]⟩
 |158=>some ⟨[EY,EY],[EY]⟩
 |160=>some ⟨[lv,li,lv,lv],[li]⟩
 |161=>some ⟨[lv,li,li,li,lv,lv],[li]⟩
 |162=>some ⟨[B2],[Cq]⟩
 |163=>some ⟨[Cd,Cq],[Cq,li]⟩
 |164=>some ⟨[lv,Gs],[li,lb]⟩
 |166=>some ⟨[Cq,Gs],[B2,li]⟩
 |167=>some ⟨[B2,Cj],[GP,li]⟩
 |168=>some ⟨[GP],[li]⟩
 |170=>some ⟨[Cq],[li]⟩
 |171=>some ⟨[lv,Gs,lv],[li,lb]⟩
 |172=>some ⟨[I7,Gs],[li]⟩
 |_=>none
def an3:List An:=[Z,M [[HZ]],M [[Dt]],Z,I,Z,M [[Dt]],M [[Dt]],M [[Dt]],Z,I,Z,Z,E,.l ⟨[(12,li)],[]⟩,Z,I,E,M [[],[],[],[Ft],[],[],[],[Ft]],I,Z,Z,Z,I,.r [[],[],[],[],[lv]] (some ⟨[(2,lb)],[]⟩),.r [[],[],[],[Ft],[],[],[Ft]] (some ⟨[(2,lb)],[]⟩)]
def an4:List An:=[Z,M [[HZ]],M [[],[lv]],Z,E,.l ⟨[(5,li)],[]⟩,Z,I,E,M [[],[lv]],Z,M [[Dt]],Z,I,Z,Z,Z,.b (some ⟨[(8,li)],[]⟩),.l ⟨[(8,li),(9,li)],[]⟩,Z,I,E,M [[],[Cq],[],[],[lv]],Z,E,.l ⟨[(11,li)],[]⟩,Z,I,E,M [[],[lv]],Z,M [[Dt]],Z,I,Z,Z,Z,Z,I,.r [] (some ⟨[(2,lb)],[]⟩),.r [] (some ⟨[(2,lb)],[]⟩)]
def an5:List An:=[Z,M [[HZ]],Z,Z,E,Z,.c (some ⟨[(8,li)],[(7,[.i .i64,.i .i64,.v])]⟩),Z,M [[Dt]],Z,.c (some ⟨[(8,li)],[(7,[.i .i64,.i .i64,.v])]⟩),M [[],[Cq]],Z,Z,.c (some ⟨[(8,li)],[(7,[.i .i64,.i .i64,.v])]⟩),Z,Z,M [[Dt]],M [[Dt]],M [[Dt]],Z,I,.r [] (some ⟨[(6,lb)],[]⟩),Z,I,.r [] (some ⟨[(6,lb)],[]⟩),.r [] (some ⟨[(6,lb)],[]⟩)]
def an8:List An:=[Z,M [[],[Vu]],M [[],[Cj],[],[],[Cj]],M [[],[lv]],.c (some ⟨[],[(3,[.i .u8,.i .u8,.v])]⟩),M [[],[lv]],M [[Vu]],Z,.b (some ⟨[],[]⟩),.l ⟨[(5,li)],[]⟩,M [[],[],[lv],[],[],[],[],[],[lv]],I,E,M [[],[lv],[],[],[Cj]],Z,.c (some ⟨[],[]⟩),M [[],[lv]],Z,M [[Dt]]]
def an10:List An:=[Z,Z,Z,Z,E,.l ⟨[(3,li)],[]⟩,Z,I,E,M [[],[],[],[lv]],M [[],[],[],[],[li]],I,Z,Z,M [[],[],[lv]],.r [[],[],[],[],[lv],[],[],[],[],[],[lv],[],[],[lv],[],[],[],[],[],[lv],[],[],[lv],[],[li],[],[],[],[],[lv],[],[],[lv],[],[li]] (some ⟨[(0,lb)],[]⟩)]
def an11:List An:=[Z,M [[Dt],[Cd]],Z,I,Z,M [[li],[],[],[li]],I,Z,Z,Z,.b (some ⟨[],[]⟩),.f 176 [0],M [[lv]]]
def an12:List An:=[Z,Z]
def an13:List An:=[Z,M [[Dt],[Cd]],Z]
def an14:List An:=[Z,M [[Dt],[Cd]],Z,I,Z,Z,E,.f 224 [],Z]
def an16:List An:=[Z,M [[],[Cq]],Z,I,Z,M [[],[lv]],I,Z,M [[],[lv]],E,.l ⟨[(21,li)],[]⟩,Z,I,E,M [[],[I7]],M [[],[Cq],[],[li],[],[Cj]],M [[],[],[],[Gs],[I7]],I,Z,Z,Z,E,.l ⟨[(8,li)],[]⟩,M [[],[],[lv]],I,E,M [[],[lv],[],[],[],[I7],[],[],[lv],[],[],[I7]],I,Z,Z,Z]
def an18:List An:=[Z,M [[],[Cj],[],[],[],[],[Cj]],Z,.b (some ⟨[],[(3,[.i .i64,.i .i64,.v,.i .u8,.i .i64,.i .i64,.v])]⟩),.l ⟨[(4,li)],[(3,[.i .i64,.i .i64,.v,.i .u8,.i .i64,.i .i64,.v])]⟩,M [[],[],[lv]],I,E,M [[Ft]],Z,I,M [[Ft],[],[],[lv],[],[],[],[Cj],[],[],[],[],[],[GP],[],[lv],[],[],[],[Cj],[],[],[lv],[],[],[],[Cj]],Z,M [[Ft]]]
def an23:List An:=[Z,M [[],[],[li],[],[],[],[li]],Z,Z,Z,I,Z,M [[],[],[Cd]],M [[Dt]],Z,E,.l ⟨[(10,lb)],[]⟩,Z,I,E,Z,Z,E,.l ⟨[(10,lb),(11,li)],[]⟩,Z,I,E,Z,.b (some ⟨[(10,lb)],[]⟩),.l ⟨[(10,lb),(12,li)],[]⟩,M [[],[],[],[],[],[],[lb]],I,.b (some ⟨[(10,lb)],[]⟩),M [[],[Cq]],Z,I,M [[],[],[],[Cd]],M [[],[],[],[],[],[],[Cj]],.c (some ⟨[],[(14,[.i .u8,.i .i64,.i .i64])]⟩),M [[],[Cq],[],[],[],[Cq],[],[],[],[],[],[],[Cd]],M [[],[],[],[lb],[],[],[],[],[Cd],[Cd]],.c (some ⟨[],[]⟩),Z,M [[],[],[],[lb]],.c (some ⟨[(10,lb)],[]⟩),M [[],[],[],[],[Cd]],Z,Z,Z,Z]
def an24:List An:=[Z,M [[Cd],[B2]]]
def an25:List An:=[Z,M [[],[],[],[li],[],[],[],[],[li]]]
def an26:List An:=[Z,Z,Z,E,.l ⟨[(4,li)],[]⟩,Z,I,E,Z,.b (some ⟨[],[]⟩),.l ⟨[(5,li)],[]⟩,M [[],[],[],[],[],[],[],[],[B2],[],[],[],[],[B2]],I,E,M [[],[],[],[],[],[],[],[],[Vt],[],[],[],[],[Vt]],Z,Z,Z]
def an28:List An:=[Z,Z,Z,E,.l ⟨[(4,li)],[(3,[.i .i64,.i .i64,.v])]⟩,Z,I,E,M [[],[lv],[],[],[],[],[],[],[Cj]],Z,M [[Dt]]]
def an29:List An:=[Z,M [[Dt],[Cd]],Z,I,Z,M [[],[],[li],[],[],[li]],I,Z,M [[Dt],[Cd]],Z,Z,E,.l ⟨[(55,li)],[]⟩,Z,I,E,M [[],[B2]],M [[],[B2],[li,lb]],Z,.c (some ⟨[],[]⟩),M [[],[B2]],M [[],[],[],[],[lv],[B2]],Z,M [[],[],[],[lv]],M [[],[],[],[lv]],E,.l ⟨[(90,li)],[]⟩,Z,I,E,M [[],[],[B2]],M [[],[B2]],Z,M [[],[],[],[],[],[lv],[],[],[],[],[],[lv]],Z,E,.l ⟨[(119,li)],[]⟩,Z,I,E,M [[],[],[B2]],M [[],[],[],[lv],[],[B2],[li],[],[],[],[lv],[],[B2],[li],[],[lv]],Z,M [[],[],[],[lv]],E,.l ⟨[(150,li)],[]⟩,Z,I,E,M [[],[lv]],Z,E,.l ⟨[(156,li)],[]⟩,Z,I,E,M [[],[],[li]],Z,E,.l ⟨[(165,li)],[]⟩,Z,I,E,M [[],[li]],M [[],[],[],[lv],[],[],[],[],[],[],[lv]],M [[],[],[],[],[lv],[],[],[],[lv]],Z,Z,Z,M [[],[],[],[],[lv]],Z,Z,E,.l ⟨[(216,li)],[]⟩,Z,I,E,M [[],[lv]],Z,Z,Z]
def an30:List An:=[Z,Z]
def an31:List An:=[Z,Z]
def an32:List An:=[Z,M [[],[li],[],[],[],[li],[],[],[],[],[li],[],[],[],[],[li],[],[],[],[],[li],[],[li]],I,Z,Z]
def an33:List An:=[Z,Z]
def an34:List An:=[Z,M [[],[Cj]]]
def an35:List An:=[Z,.r [] (some ⟨[(2,lb)],[]⟩)]
def an36:List An:=[Z,M [[Cq]],Z,I,Z,Z]
def an37:List An:=[Z,M [[],[li],[],[Cj]]]
def an38:List An:=[Z,M [[],[li],[],[li]],I,M [[],[li],[],[li]],M [[],[Cj],[],[],[Cj]]]
def an40:List An:=[Z,M [[Cq]],Z,I,Z,M [[Cq]],I,Z,M [[Cq]]]
def an41:List An:=[Z,M [[Cq]],Z,I,Z,M [[B2],[],[],[],[],[li],[],[],[],[],[li],[],[li],[],[],[],[],[li],[],[],[],[],[li],[],[li]],I,Z,M [[],[li],[],[li],[],[],[li],[],[],[],[Cj]]]
def an44:List An:=[Z,Z,Z,E,.l ⟨[(6,li)],[(5,[.i .i64,.i .i64,.v,.i .u8,.i .i64,.i .i64,.v])]⟩,Z,I,E,M [[],[lv],[],[],[Cq]],Z,M [[Ft]]]
def an45:List An:=[Z,M [[Ft]],Z,Z,E,.l ⟨[(4,lv),(5,li)],[]⟩,Z,I,E,M [[],[],[],[],[GP]],Z,.b (some ⟨[(7,li)],[]⟩),.l ⟨[(7,li)],[]⟩,M [[],[],[],[],[],[],[],[],[],[Cj],[],[Cj],[],[],[],[],[],[],[Cj],[],[Cj],[],[],[],[],[],[],[li],[],[li]],.c (some ⟨[],[]⟩),E,Z,M [[],[],[],[],[],[],[],[],[GP],[GP]],.c (some ⟨[(4,lv)],[]⟩),M [[],[],[],[],[],[GP]],Z,Z]
def an46:List An:=[Z,M [[],[GP]],M [[],[],[Cq],[],[],[],[lv],[],[],[],[Cd]],Z,Z,E,.l ⟨[(8,lv),(7,lv),(9,li)],[(6,[.i .i64,.i .i64,.v,.i .u8,.i .i64,.i .i64,.v])]⟩,M [[],[],[lv]],I,.b (some ⟨[(8,lv),(7,lv)],[(6,[.i .i64,.i .i64,.v,.i .u8,.i .i64,.i .i64,.v])]⟩),M [[],[lv],[],[],[Vt]],M [[],[GP],[],[B2],[],[],[Cj]],I,M [[],[],[B2],[],[],[lv]],Z,M [[],[lv]],E,.l ⟨[(11,lv),(12,li)],[(6,[.i .i64,.i .i64,.v,.i .u8,.i .i64,.i .i64,.v])]⟩,Z,I,E,M [[],[],[lv],[],[],[li]],M [[],[lv],[],[],[li]],.c (some ⟨[],[(6,[.i .i64,.i .i64,.v,.i .u8,.i .i64,.i .i64,.v])]⟩),M [[],[Cd],[Cd]],Z,M [[],[Cd],[],[B2]],Z,Z,E,.l ⟨[(8,lv),(13,li)],[]⟩,Z,I,E,Z,Z,.b (some ⟨[(14,lb)],[]⟩),.l ⟨[(14,lb),(15,li)],[]⟩,Z,I,.b (some ⟨[(14,lb)],[]⟩),M [[],[],[],[],[B2],[],[],[],[],[B2]],I,Z,M [[],[lb]],.c (some ⟨[],[]⟩),M [[],[],[],[],[],[],[lv],[],[],[],[],[lv]],M [[],[],[],[],[],[],[],[lv],[],[],[],[],[],[lv]],Z,Z,.c (some ⟨[(8,lv)],[]⟩),M [[],[],[],[],[Vt]],Z,Z,M [[],[Dt],[],[Cd]],M [[Ft]],Z,E,.l ⟨[(19,li)],[(6,[.i .i64,.i .i64,.v,.i .u8,.i .i64,.i .i64,.v])]⟩,Z,I,.b (some ⟨[],[(6,[.i .i64,.i .i64,.v,.i .u8,.i .i64,.i .i64,.v])]⟩),M [[],[],[],[],[GP],[],[GP]],I,Z,M [[],[],[],[],[],[li],[],[],[Cj],[],[],[lb]],.c (some ⟨[(20,Cj)],[]⟩),Z,M [[],[],[lv],[],[],[],[],[li],[],[],[Cq],[],[],[],[],[li],[],[],[],[],[li]],Z,M [[],[],[lv]],M [[Ft]]]
def an48:List An:=[Z,M [[],[],[li],[],[],[],[li]],Z,E,.l ⟨[(4,li)],[]⟩,M [[],[],[lv]],I,E,M [[],[lv],[],[],[I7]],Z,E,.l ⟨[(6,li)],[]⟩,Z,I,.b (some ⟨[],[]⟩),M [[],[Cq],[],[li]],M [[],[],[],[],[Cq],[],[li],[],[],[],[Cj]],I,M [[],[],[li],[],[],[],[],[Cj]],Z,E,.l ⟨[(8,li)],[]⟩,Z,I,E,M [[],[Cq],[],[],[],[],[li]],.c (some ⟨[],[]⟩),M [[],[],[],[],[],[],[Cj]],Z,Z,Z,Z]
def an49:List An:=[Z,Z,I,M [[],[Cj]],E,Z,I,M [[],[li],[],[li]],Z,I,M [[],[li],[],[],[li]],Z,I,M [[],[li],[],[li]],M [[],[li],[],[],[li]],Z,I,M [[],[li],[],[li],[],[Cj]],M [[],[li],[],[li],[],[Cj]]]
def an58:List An:=[Z,M [[],[li],[],[li],[],[],[li],[],[li],[],[],[Cj],[],[],[Cj]]]
def an61:List An:=[Z,M [[Cq]],M [[],[li],[],[],[],[li],[],[],[],[],[li],[],[li],[],[],[],[],[li],[],[li]],I,Z,M [[],[li],[],[li],[],[],[li],[],[],[],[Cj]]]
def an62:List An:=[Z,M [[Cd],[Cd]],M [[Cd],[Cd]],M [[Cd],[Cd]],Z,E,.l ⟨[(8,Cj)],[]⟩,Z,I,E,M [[],[],[li],[],[],[li]],M [[Cd],[],[],[Cq],[],[],[Cd],[],[],[Cq]],.c (some ⟨[],[]⟩),M [[Cd]],Z,Z]
def an63:List An:=[Z,M [[],[li],[],[li]],I,M [[],[li],[],[li]],M [[],[li],[],[li]],I,M [[],[li],[],[li]],M [[],[Cj],[],[Cj],[],[],[],[],[Cj],[],[Cj]],I,M [[],[li],[],[li],[],[],[],[li],[],[li]],M [[],[li],[],[li],[],[],[li],[],[li]]]
def an64:List An:=[Z,M [[],[li],[],[],[li]],M [[],[li],[],[li],[],[],[],[li],[],[li]],E,Z,.c (some ⟨[],[(3,[.i .i64,.i .i64,.i .u8])]⟩),Z,Z,.c (some ⟨[],[(3,[.i .i64,.i .i64,.i .u8])]⟩),Z,Z,.c (some ⟨[],[(3,[.i .i64,.i .i64,.i .u8])]⟩),Z,Z,M [[B2]]]
def an65:List An:=[Z,M [[],[li],[],[li]],M [[],[Cj]],.c (some ⟨[(5,li)],[]⟩),Z,Z,E,.l ⟨[(5,li),(6,li),(7,li)],[]⟩,M [[],[],[Cj]],I,E,Z,Z,M [[],[],[li],[],[],[],[],[li]]]
def an66:List An:=[Z,M [[B2]],M [[],[],[li],[],[],[li],[],[],[],[li],[],[],[],[],[li],[],[],[li],[],[],[],[li]]]
def an67:List An:=[Z,M [[],[li],[],[li],[],[],[],[li],[],[li],[],[],[],[li],[],[li],[],[],[],[li],[],[li],[],[],[],[Cj],[],[Cj]],.c (some ⟨[],[]⟩),Z,Z]
def an68:List An:=[Z,M [[Dt],[Cd]],Z]
def an69:List An:=[Z,Z]
def an70:List An:=[Z,Z,Z,M [[],[],[],[Dt],[],[],[],[Cd]],Z,E,.l ⟨[(7,lv),(39,li)],[]⟩,Z,I,E,Z,M [[],[],[],[],[Cq]],Z,E,.l ⟨[(7,lv),(52,Cj)],[]⟩,Z,I,.b (some ⟨[(7,lv)],[]⟩),Z,M [[B2]],M [[],[],[],[B2]],M [[],[],[],[Cd],[B2]],Z,I,Z,M [[B2],[B2]],.c (some ⟨[(17,li)],[(16,[.i .i64,.i .i64,.i .u8]),(18,[.i .i64,.i .i64,.i .u8])]⟩),M [[B2],[B2]],M [[],[B2],[B2],[],[lv]],Z,.c (some ⟨[(20,lv),(7,lv)],[]⟩),Z,M [[],[B2],[B2]],Z,M [[],[],[],[],[Cq]],Z,I,M [[],[],[],[Dt]],E,Z,.c (some ⟨[],[]⟩),M [[],[],[],[],[lv]],Z,.c (some ⟨[],[]⟩),M [[],[],[],[],[lv]],M [[],[],[],[],[],[],[],[lv]],M [[],[],[],[],[],[],[],[Cd]],Z,Z,Z]
def an71:List An:=[M [[],[],[],[lv]],E,.l ⟨[(23,li)],[]⟩,Z,I,E,M [[],[],[Cq]],M [[],[],[],[lv]],E,.l ⟨[(35,li)],[]⟩,Z,I,E,M [[],[Cq]],M [[],[],[],[li],[],[li],[],[],[],[li],[],[li]],Z,M [[],[],[],[.agg [.v,.v]]],E,.l ⟨[(58,li)],[]⟩,Z,I,E,M [[],[lv]],Z,E,.l ⟨[(64,li)],[]⟩,Z,I,E,M [[],[Cq]],M [[],[],[],[],[li],[],[li],[],[],[],[],[li],[],[li]],Z,Z,Z,M [[],[],[],[.agg [.v,.v]]],E,.l ⟨[(91,li)],[]⟩,Z,I,E,M [[lv]],Z,E,.l ⟨[(96,li)],[]⟩,Z,I,E,M [[],[],[Cq]],Z,E,.l ⟨[(105,li)],[]⟩,Z,I,E,M [[],[Cq]],M [[],[],[],[],[lv],[],[],[li],[],[li],[],[],[],[li],[],[li],[],[],[],[li],[],[li],[],[],[],[li],[],[li]],Z,Z,Z]
def an72:List An:=[Z,Z,Z,M [[lv],[],[],[lb]],.c (some ⟨[],[]⟩),M [[lv],[lb]]]
def an73:List An:=[Z,M [[],[lv],[],[],[lv]],I,M [[lv],[lv],[],[lb]],M [[lv],[],[],[lv],[],[],[lv],[],[lv],[],[],[lv],[],[],[lv]],I,M [[lv],[],[],[lb]],M [[lv],[],[],[lv],[],[],[lv]],E,.l ⟨[(50,li)],[]⟩,Z,I,.b (some ⟨[],[]⟩),M [[],[li]],M [[lv],[],[],[lv],[],[],[lb]],I,Z,.r [[lv],[],[],[],[],[],[lv],[],[lb]] (some ⟨[(9,lb)],[]⟩),M [[lv],[],[lv]],Z,I,Z,Z,Z]
def an74:List An:=[Z,M [[],[],[],[Dt]],M [[],[lv]],M [[Dt],[],[],[],[Cd],[],[],[],[lv]],M [[],[],[],[lv]],E,.l ⟨[(33,li)],[]⟩,Z,I,E,M [[],[],[B2]],M [[],[lv],[],[B2],[],[],[],[lv],[],[],[lv]],Z,M [[Ft]]]
def an75:List An:=[Z,M [[],[],[],[lv]],M [[],[],[],[lv],[],[],[],[],[lv],[],[],[lv]],M [[],[],[],[lv],[],[],[lv]],E,.l ⟨[(41,li)],[]⟩,Z,I,E,M [[],[li]],M [[],[],[],[lv],[],[],[lb]],.c (some ⟨[],[]⟩),Z,Z,Z]
def an76:List An:=[M [[],[],[],[lv],[],[],[lv]],M [[],[],[],[lv],[],[],[],[lv],[],[],[lv],[],[],[li]],M [[],[],[],[lv],[],[],[],[],[lv],[],[],[lv]],Z,E,.l ⟨[(50,li)],[]⟩,Z,I,E,M [[],[li]],M [[],[],[],[lv]],Z]
def an77:List An:=[Z,Z,E,.l ⟨[(8,li)],[]⟩,Z,I,E,Z,M [[],[],[],[],[I7],[lb]],I,Z,Z,Z]
def an78:List An:=[Z,M [[Cq]],Z,I,Z,M [[B2]],Z,I,Z,M [[Cq],[B2]]]
def an79:List An:=[Z,.r [[],[],[],[],[],[li],[],[],[li]] (some ⟨[(4,lb)],[]⟩)]
def an80:List An:=[Z,M [[],[],[],[li],[],[],[],[],[li]]]
def an81:List An:=[Z,M [[],[li],[],[],[],[li],[],[],[],[],[li],[],[],[],[],[li],[],[],[],[],[Cj]],I,Z,Z]
def an83:List An:=[Z,I,Z,Z]
def an84:List An:=[Z,M [[],[Dt],[],[Cd]],M [[],[Dt]],Z,Z,E,.l ⟨[(6,lv),(7,li)],[]⟩,Z,I,E,Z,E,.l ⟨[(6,lv),(8,li)],[]⟩,Z,I,.b (some ⟨[(6,lv)],[]⟩),M [[],[],[Cq]],M [[],[],[],[],[],[],[],[],[],[],[Cj]],I,M [[],[],[],[Cd],[],[],[Cq],[],[],[],[],[],[],[Cd],[],[],[Cq]],M [[],[],[],[B2],[B2]],Z,Z,Z]
def an85:List An:=[Z,M [[],[Cj]],E,Z,I,M [[],[li]],Z,I,M [[],[li]],Z,I,M [[],[li],[],[li]],M [[],[li],[],[],[li]]]
def an86:List An:=[Z,M [[B2]],M [[],[li],[],[li],[],[li],[],[li],[],[],[li],[],[li],[],[],[],[Cj],[],[li]],M [[],[],[li]],I,Z,Z]
def an87:List An:=[Z,Z,E,.l ⟨[(7,li)],[]⟩,Z,I,E,M [[Cq]],I,Z,I,Z,Z,Z,Z]
def an88:List An:=[Z,Z,E,.l ⟨[(3,li)],[]⟩,Z,I,E,Z,.b (some ⟨[],[]⟩),.l ⟨[(4,li)],[]⟩,M [[],[],[],[],[],[],[],[],[li],[],[],[],[],[li],[],[],[],[],[],[],[],[li],[],[],[],[],[li],[],[],[],[],[],[],[],[Cj],[],[],[],[],[Cj]],.c (some ⟨[],[]⟩),E,M [[],[],[],[],[],[],[],[],[I7],[],[],[],[],[I7]],Z,Z,Z]
def an90:List An:=[Z,Z,I,Z,M [[Cq]],Z,I,Z,Z]
def an93:List An:=[Z,Z,E,.l ⟨[(8,li)],[]⟩,Z,I,E,M [[],[Cq]],M [[],[li],[],[li]],Z,I,Z,Z,Z]
def an94:List An:=[Z,Z,Z,Z,I,Z,I,Z,Z,Z,I,Z,Z,I,Z,Z,I,Z,Z]
def an98:List An:=[Z,Z,I,Z,Z]
def an99:List An:=[Z,Z,I,Z,Z]
def XD:List An:=[Z,M [[],[li],[],[],[li]],Z,M [[],[Cj]],E,Z,I,M [[Cq]],Z,I,M [[Cq]],Z,I,M [[Cq]],M [[Cq]]]
def XE:List An:=[Z,M [[Dt]],Z,I,Z,M [[Cd]],I,Z,M [[Dt]],Z,I,Z,Z,Z,E,.l ⟨[(36,li)],[]⟩,Z,I,E,M [[],[],[Cd]],M [[],[Cq]],M [[],[],[Cd],[Cd]],Z,I,Z,M [[],[],[],[],[],[Cd],[B2]],Z,I,Z,Z,Z]
def XF:List An:=[Z,Z,E,.l ⟨[(3,li),(1,li),(11,lb),(10,lb),(2,li)],[]⟩,.b (some ⟨[(3,li),(1,li),(11,lb),(10,lb),(2,li)],[]⟩),Z,Z,I,Z,Z,I,Z,Z,.c (some ⟨[(3,li)],[]⟩),Z,Z,Z,Z,.c (some ⟨[(13,li),(14,li)],[]⟩),Z,Z,Z,Z,.c (some ⟨[],[]⟩),Z,I,M [[],[],[],[],[],[],[],[],[B2],[],[],[],[B2],[li]],.c (some ⟨[(1,li)],[]⟩),Z,Z,Z,Z,Z,Z,Z,.c (some ⟨[(10,lb),(1,li),(2,li)],[]⟩),Z,Z,Z,Z,Z,Z]
def XH:List An:=[Z,M [[Dt],[Cd]],Z]
def XI:List An:=[Z,M [[B2]],I,Z,M [[],[Cj],[],[],[],[],[B2]],M [[],[li],[],[li],[],[],[li],[],[li]],M [[B2]],I,Z,M [[B2]]]
def XJ:List An:=[Z,M [[Cd],[],[],[],[B2]],I,Z,M [[Cd],[B2]],M [[B2]],I,Z,M [[B2]]]
def XK:List An:=[Z,M [[Dt]],Z,I,Z,M [[],[lv],[],[],[],[Cj]]]
def XL:List An:=[Z,I,Z,Z,.c (some ⟨[],[(10,[.i .i64,.b])]⟩),M [[],[lb]],.r [[],[],[],[],[lb],[],[],[GB]] (some ⟨[],[]⟩)]
def XM:List An:=[Z,.r [[Cd],[],[],[],[],[Cj]] (some ⟨[(2,lb)],[]⟩)]
def XN:List An:=[Z,M [[],[GB],[],[],[GB]],E,M [[],[li],[],[li]],.c (some ⟨[],[]⟩),.r [[],[],[],[],[lb],[],[],[lb],[],[lb]] (some ⟨[],[]⟩),M [[],[GB],[],[],[],[],[GB]],.c (some ⟨[],[]⟩),.r [[],[],[],[],[lb],[],[],[GB],[],[],[GB]] (some ⟨[],[]⟩),M [[],[],[],[lv],[],[li],[],[li],[],[lb],[],[lb]],M [[],[GB]],.c (some ⟨[],[]⟩),M [[],[],[],[lv],[],[li],[],[li],[],[lb],[],[lb]],M [[],[],[],[lv],[],[li],[],[li],[],[lb],[],[lb]]]
def XO:List An:=[Z,Z,I,M [[],[],[],[lv],[],[],[],[li]],M [[],[],[],[lv],[],[],[],[li]]]
def XP:List An:=[Z,Z]
def XQ:List An:=[Z,Z,I,Z,Z]
def XR:List An:=[Z,Z]
def XS:List An:=[Z,Z,I,Z,Z]
def XT:List An:=[Z,M [[],[GB]],Z,M [[],[lb]],.c (some ⟨[(7,li)],[]⟩),Z,M [[],[],[],[lv],[],[li],[],[li]],.c (some ⟨[],[]⟩),M [[],[],[],[lv],[],[li]],Z,.c (some ⟨[],[]⟩),M [[],[],[],[lv],[],[li]],M [[],[],[],[lv],[],[li],[],[li]]]
def XU:List An:=[Z,M [[],[],[],[lv]],E,.l ⟨[(13,li)],[]⟩,Z,I,E,M [[],[p3]],Z,M [[p3]],E,.l ⟨[(5,li),(18,li)],[]⟩,Z,I,E,M [[GB]],M [[],[],[GB]],Z,Z,I,Z,Z,Z]
def XV:List An:=[Z,Z,.c (some ⟨[(0,Pq),(2,li)],[]⟩),Z,Z,Z,.c (some ⟨[(0,Pq),(2,li)],[]⟩),Z,Z,Z,.c (some ⟨[(0,Pq),(2,li)],[]⟩),Z,Z,Z]
def XW:List An:=[Z,M [[B2],[B2]],M [[],[Cj]],E,Z,I,M [[],[li]],Z,I,M [[],[li]],Z,I,M [[],[li]],M [[],[li]]]
def XX:List An:=[Z,Z]
def XY:List An:=[Z,M [[],[Cj],[],[],[],[],[li],[],[],[],[],[li],[],[],[],[],[li],[],[li]],I,Z,Z]
def XZ:List An:=[Z,M [[Dt]],M [[],[Cq]],M [[lv]],Z,Z,Z,E,.l ⟨[(8,lv)],[]⟩,Z,I,E,M [[],[],[li]],Z,Z,E,.l ⟨[(8,lv),(35,Cj)],[]⟩,Z,I,.b (some ⟨[(8,lv)],[]⟩),Z,M [[],[Cq]],Z,I,M [[],[],[],[Cd]],M [[],[],[],[lb]],.c (some ⟨[(8,lv)],[]⟩),M [[lv],[],[],[],[Cd]],Z,M [[lv],[],[],[Cd],[Cd]],I,Z,Z,M [[lv]]]
def X0:List An:=[Z,M [[Cd],[],[],[],[Cd]],I,Z,M [[],[Cj],[],[EY],[],[li],[],[li]],M [[],[Cj],[],[EY],[],[Cj],[],[EY],[],[],[],[],[li],[],[],[],[li]]]
def X1:List An:=[Z,E,.l ⟨[(8,li)],[]⟩,Z,I,E,Z,.b (some ⟨[],[]⟩),.l ⟨[(9,li)],[]⟩,M [[],[],[],[],[],[],[],[],[B2],[],[],[],[],[B2],[li]],I,E,M [[],[],[],[],[],[],[],[],[],[B2],[],[],[],[B2]],Z,Z]
def X2:List An:=[Z,M [[B2],[],[],[Cj],[],[],[Cq]],M [[Cd],[Cq]],Z,M [[Cd],[Cq]],M [[],[li],[],[li],[],[],[],[],[li],[],[li]],M [[.agg [.i .i64,.i .i64,.i .u8,.i .i64,.i .i64,.i .i64,.i .u8,.i .i64,.i .i64,.i .u8,.i .i64,.i .i64,.i .u8,.i .i64,.i .i64,.i .i64,.i .i64,.i .i64,.i .i64,.i .u8,.i .i64,.i .i64,.i .i64,.i .u8,.i .i64,.i .i64,.i .u8,.i .i64,.i .i64,.i .u8,.i .i64,.i .i64,.i .i64,.i .i64,.i .i64,.i .i64,.i .u8,.i .i64,.i .i64,.i .i64,.i .u8,.i .i64,.i .i64,.i .u8,.i .i64,.i .i64,.i .u8,.i .i64,.i .i64,.i .i64,.i .i64,.i .i64,.i .i64,.i .u8,.i .i64,.i .i64,.i .i64,.i .u8,.i .i64,.i .i64,.i .u8,.i .i64,.i .i64,.i .u8,.i .i64,.i .i64,.i .i64,.i .i64]]],E,.l ⟨[(47,li)],[(7,[.i .i64,.i .i64,.i .u8])]⟩,Z,I,E,M [[],[p5]],M [[],[Cq],[Cq]],.c (some ⟨[],[(7,[.i .i64,.i .i64,.i .u8])]⟩),Z,Z,M [[B2]]]
def X3:List An:=[Z,M [[Dt]],Z,I,Z,M [[],[Cq]],Z,I,Z,M [[],[lv],[Gs]],M [[Gs]]]
def X4:List An:=[Z,E,.l ⟨[],[(3,[.i .i64,.b])]⟩,M [[],[],[],[lv],[],[li],[],[],[li],[],[li]],I,E,M [[],[],[],[lv],[],[li],[],[GB]],M [[],[li],[],[lb],[],[lb]],M [[GB]]]
def X5:List An:=[Z,M [[],[GB]],M [[],[lb]],I,M [[],[],[],[lv],[],[li],[],[li]],M [[],[],[],[lv],[],[li],[],[li]]]
def X6:List An:=[Z,.r [] (some ⟨[(2,lb)],[]⟩)]
def X7:List An:=[Z,M [[],[lv]],M [[],[lv]],E,.l ⟨[(13,li)],[]⟩,Z,I,E,M [[],[I7]],M [[],[],[li],[],[Cj]],Z,Z]
def X8:List An:=[Z,M [[Cq]],I,Z,M [[],[li],[],[],[li]]]
def X9:List An:=[Z,M [[],[Cq]],M [[lv],[Gs],[lb]],I,M [[lv],[],[],[Cd]],M [[],[Cq],[Gs]],M [[GP]],M [[Cd],[lv],[],[],[Cd]],M [[Cd]]]
def X_:List An:=[Z,M [[Cq],[Gs]],Z,I,Z,M [[B2],[],[Cj]]]
def X':List An:=[Z,M [[GP]],I,Z,M [[],[Cj]],E,Z,I,M [[],[li]],Z,I,M [[],[li]],Z,I,M [[],[li],[],[li]],M [[],[li],[],[],[li]]]
def Ya:List An:=[Z,M [[],[li],[],[],[],[li],[],[],[],[],[li],[],[],[],[li]]]
def Yb:List An:=[Z,M [[Cd]],I,Z,M [[Cd]]]
def Yc:List An:=[Z,M [[.agg [.i .i64,.i .i64,.i .i64,.i .i64,.i .i64,.i .i64,.i .i64,.i .i64,.i .i64,.i .i64,.i .i64,.i .i64,.i .i64,.i .i64,.i .i64,.i .i64,.i .i64,.i .i64,.i .i64,.i .i64,.i .i64,.i .i64,.i .i64,.i .i64,.i .i64,.i .i64,.i .i64,.i .i64,.i .i64,.i .i64,.i .i64,.i .i64]]],E,.l ⟨[(6,li)],[]⟩,Z,I,E,M [[],[EY]],M [[EY],[EY]],I,Z,Z,Z]
def Yd:List An:=[Z,M [[EY],[],[li],[],[li]],M [[EY],[],[li],[],[li]],Z]
def Ye:List An:=[Z,M [[],[li],[],[],[],[li]]]
def Yf:List An:=[Z,M [[Cd],[],[],[],[Cq]],I,Z,M [[],[Cj],[],[EY],[],[li],[],[li]],M [[],[],[li],[],[],[],[],[li]],M [[Cq]],I,Z,M [[Cq]]]
def Yg:List An:=[Z,M [[],[Gs]]]
def Yh:List An:=[Z,M [[Cq]],Z,I,Z,M [[Cq],[],[li],[],[Cj]],M [[],[],[],[Gs],[Gs]],I,Z,M [[Cq],[],[li]]]
def Yi:List An:=[Z,M [[B2]],I,Z,M [[],[Cj],[],[p5]],M [[],[Cj],[],[li],[],[li]],E,Z,.c (some ⟨[],[(7,[.i .u8,.i .i64])]⟩),M [[],[li],[],[li]],Z,.c (some ⟨[],[(7,[.i .u8,.i .i64])]⟩),M [[],[li],[],[li]],M [[],[Cj]],.c (some ⟨[],[(7,[.i .u8,.i .i64])]⟩),M [[],[li],[],[li]],M [[GP]],I,Z,M [[GP]]]
def Yj:List An:=[Z,M [[],[Cj],[],[],[],[Cj],[],[],[],[],[li],[],[],[],[],[li]],I,Z,Z]
def Yk:List An:=[Z,M [[],[li],[],[],[],[li],[],[],[],[],[li],[],[],[],[],[li]],I,Z,Z]
def Ym:List An:=[Z,Z,Z,E,.l ⟨[(9,li),(10,li)],[]⟩,Z,I,E,Z,M [[],[],[],[],[I7],[Gs],[li]],.c (some ⟨[(9,li),(10,li)],[]⟩),Z,Z,.r [[],[],[],[],[],[],[],[],[],[I7],[Gs],[li]] (some ⟨[(6,li),(7,lb)],[]⟩)]
def Yn:List An:=[Z,M [[I7],[],[Gs]]]
def aa:Nat->Site
 |176=>cA (IW Tryz.prog 11) 0 40 [(5,lv),(10,lv)] [(29,Ft)] [Z] [E,M [[lv],[Ft]],M [[lv],[],[li]],I]
 |224=>cA (IW Tryz.prog 14) 0 24 [(4,lv),(5,lv)] [(21,Ft)] [Z] [E,M [[Ft]]]
 |_=>⟨0,[],[],.skip,.skip⟩
def xc(f:TQ):CB:=⟨cc,Q1.getD f [],aa⟩
end Go.Am
end

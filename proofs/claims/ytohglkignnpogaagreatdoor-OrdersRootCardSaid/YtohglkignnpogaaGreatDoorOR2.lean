import Derived.Test.YtohglkignnpogaaGreatDoorOR1
import Derived.IntWalk
import Derived.Test.YtohglkignnpogaaGreatDoorProg
set_option linter.all false
noncomputable section
set_option maxRecDepth 100000
open List(range replicate)
namespace Go.Am
section
variable [DB] {C:m8}
structure Hd(S S':Gw):Prop where
 call:∀f args H r H',S.call f args H r H'->S'.call f args H r H'
 yield:∀l args H r H',S.yield l args H r H'->S'.yield l args H r H'
 ex:∀fid c g9 e j6,S.ex fid c g9 e j6->S'.ex fid c g9 e j6
def xZ{B B':Below}(d:∀f args H r H',B.call f args H r H'->B'.call f args H r H')(g:∀l args H r H',B.yield l args H r H'->B'.yield l args H r H')
  {e:EZ} {dst:Tq} {g9 c:St} (h:nP B e dst g9 c):nP B' e dst g9 c:=by
 cases e<;>first
  |exact h
  |(obtain⟨r,H,a,b⟩:=h;first|exact⟨r,H,d _ _ _ _ _ a,b⟩|exact⟨r,H,g _ _ _ _ _ a,b⟩)
def dh{B B':Below}(d:∀f args H r H',B.call f args H r H'->B'.call f args H r H')(g:∀l args H r H',B.yield l args H r H'->B'.yield l args H r H')
  {b_:TC} {ops:To} {i:Nat} {g9 a:St} (h:aq C B b_ ops i g9 a):aq C B' b_ ops i g9 a:=by
 unfold aq at *;split at h
 .exact h
 .split at h
  .exact h
  .exact h
  .rcases h with⟨e,b,c⟩|h
   .exact .inl ⟨e,b,xZ d g c⟩
   .exact .inr h
def gk{B B':Below}(a:∀f args H r H',B.call f args H r H'->B'.call f args H r H')(b:∀l args H r H',B.yield l args H r H'->B'.yield l args H r H')
  {b_:TC} {ops:To}:∀ {l:TC} {g9 c:St},br C B b_ ops l g9 c->br C B' b_ ops l g9 c
 | [],_,_,h=>h
 |_ :: _,_,_,⟨j9,h1,d⟩=>⟨j9,dh a b h1,gk a b d⟩
def nZ{B B':Below}(a:∀f args H r H',B.call f args H r H'->B'.call f args H r H')(b:∀l args H r H',B.yield l args H r H'->B'.yield l args H r H')
  {b_:TC} {ops:To}:∀ {l:TC} {g9 c:St},gj C B b_ ops l g9 c->gj C B' b_ ops l g9 c
 | [],_,_,h=>h
 |_ :: _,_,_,⟨e,j9,h0,h1,d⟩=>⟨e,j9,h0,dh a b h1,nZ a b d⟩
def mo{B B':Below}(a:∀f args H r H',B.call f args H r H'->B'.call f args H r H')(b:∀l args H r H',B.yield l args H r H'->B'.yield l args H r H')
  {b_:TC} {ops:To} {d:Nat->Ts}:∀ {l:TC} {g9 c:St},jP C B b_ ops d l g9 c->jP C B' b_ ops d l g9 c
 | [],_,_,h=>h
 |i :: _,_,_,⟨h0,j9,h1,e⟩=>⟨h0,j9,by
  unfold eN at h1 ⊢;split at h1
  .exact dh a b h1
  .exact h1,mo a b e⟩
def xN{B B':Below}(a:∀f args H r H',B.call f args H r H'->B'.call f args H r H')(b:∀l args H r H',B.yield l args H r H'->B'.yield l args H r H')
  {b_:TC} {ops:To} {g9 c:St} (h:eW C B b_ ops g9 c):eW C B' b_ ops g9 c:=
 h.imp (λh t=>gk a b (h t)) λ⟨j,n,d,e,g,i⟩=>⟨j,n,d,e,g,λt=>mo a b (i t)⟩
def ye{S v:Gw}(h:Hd S v){m:TC}{c:Code}{g9:St}{e:Exit}{y:St}(i:qe C S m c g9 e y):qe C v m c g9 e y:=by
 cases c with
 |skip=>exact i
 |label l=>exact i
 |ret=>exact i
 |exit id=>exact i
 |goto l=>exact i
 |refuse w=>exact i
 |seq a b=>
  obtain⟨n,u,j,d⟩:=i;exact⟨n,u,h.ex _ _ _ _ _ j,d.imp (λd=>⟨d.1,h.ex _ _ _ _ _ d.2⟩) id⟩
 |cond c a b=>
  obtain⟨t,j,d⟩:=i;exact⟨t,j,h.ex _ _ _ _ _ d⟩
 |block id b=>
  obtain⟨n,j,d⟩:=i;exact⟨n,h.ex _ _ _ _ _ j,d⟩
 |loop b=>
  obtain⟨n,u,j,d⟩:=i;exact⟨n,u,h.ex _ _ _ _ _ j,d.imp (λd=>⟨d.1,h.ex _ _ _ _ _ d.2⟩) id⟩
 |scope b=>exact h.ex _ _ _ _ _ i
 |region id D k=>
  obtain⟨j,d⟩:=i;refine⟨j,?_⟩;cases k with
  |true=>
   obtain⟨E,q,s⟩:=d;exact⟨E,q,xN h.call h.yield s⟩
  |false=>exact nZ h.call h.yield d
 |rangeFunc f o assign x=>
  obtain⟨A,g,first,p,z,tm,r,H,F,j,d,q,s,B⟩:=i;exact⟨A,g,first,p,z,tm,r,H,F,j,d,q,h.call _ _ _ _ _ s,B⟩
def tE{S a:Gw}(h:Hd S a){f:TQ}{args:Tn}{H:Tu}{r:TR}{H':Tu}(m:oF C S f args H r H'):oF C a f args H r H':=by
 obtain⟨c,b,e,d,n,g,i,j,k,l⟩:=m;exact⟨c,b,e,d,n,g,i,j,h.ex _ _ _ _ _ k,l⟩
def rF{S a:Gw}(h:Hd S a){l:Nat}{args:Tn}{H:Tu}{r:TR}{H':Tu}(n:mr C S l args H r H'):mr C a l args H r H':=by
 obtain⟨p,o,s,e,q,b,j,c,d,f,g,i,k,m⟩:=n;exact⟨p,o,s,e,q,b,j,c,d,h.ex _ _ _ _ _ f,g,i,h.ex _ _ _ _ _ k,m⟩
class En where
 kn:TQ->Tn->Value->Prop
 kh:TQ->Tn->Tu->Value->Tu->Prop
variable [En]
def noK:Pv:=λf a H r b=>(En.kn f a r/\b=H)∨En.kh f a H r b
def sm(C:m8)(n:Nat):Gw:=OU C noK n
def Na:∀n,Hd (sm C n) (sm C (n+1))
 |0=>⟨λ_ _ _ _ _ h=>.inl h,λ_ _ _ _ _ h=>h.elim,λ_ _ _ _ _ h=>h.elim⟩
 |n+1=>by
  have a:=Na n;exact⟨λ_ _ _ _ _ h=>h.imp id (tE a),λ_ _ _ _ _ h=>rF (C:=C) a h,λ_ _ _ _ _ h=>ye a h⟩
def jX{n:Nat}:∀ {m:Nat},n<=m->Hd (sm C n) (sm C m)
 |0,h=>by
  obtain rfl:n=0:=Nat.le_zero.1 h;exact⟨λ_ _ _ _ _ h=>h,λ_ _ _ _ _ h=>h,λ_ _ _ _ _ h=>h⟩
 |m+1,h=>by
  by_cases c:n=m+1
  .subst c;exact⟨λ_ _ _ _ _ h=>h,λ_ _ _ _ _ h=>h,λ_ _ _ _ _ h=>h⟩
  .have b:=jX (n:=n) (m:=m) a_;have a:=Na (C:=C) m;exact⟨λ_ _ _ _ _ h=>a.call _ _ _ _ _ (b.call _ _ _ _ _ h),λ_ _ _ _ _ h=>a.yield _ _ _ _ _ (b.yield _ _ _ _ _ h),λ_ _ _ _ _ h=>a.ex _ _ _ _ _ (b.ex _ _ _ _ _ h)⟩
def jY(C:m8)(f:TQ)(args:Tn)(H:Tu)(r:Value)(H':Tu):Prop:=∃n,(sm C n).call f args H r H'
def iK(C:m8)(l:Nat)(args:Tn)(H:Tu)(r:Value)(H':Tu):Prop:=∃n,(sm C n).yield l args H r H'
def Ez(C:m8)(a:TC)(c:Code)(g9:St)(e:Exit)(b:St):Prop:=∃n,(sm C n).ex a c g9 e b
def uB(C:m8):Below:={ call:=jY C,yield:=iK C }
theorem Uj(d:C.P.follows .mixedOrders=true)(a:∀f args r,En.kn f args r->∀H,en C f args H r H)(c:∀f args H r H',En.kh f args H r H'->en C f args H r H'){f:TQ}{args:Tn}{H:Tu}{r:TR}{H':Tu}(h:jY C f args H r H'):en C f args H r H':=by
 obtain⟨n,h⟩:=h;exact(M1 d (K:=noK) (λf args H r H' h=>by
  rcases h with⟨b,rfl⟩|h
  .exact a f args r b _
  simp_all) n).1.call _ _ _ _ _ h
def N0{e:EZ}{dst:Tq}{g9 a:St}(h:nP (uB C) e dst g9 a):∃n,nP (sm C n).toBelow e dst g9 a:=by
 cases e<;>first
  |exact⟨0,h⟩
  |(obtain⟨r,H,⟨n,b⟩,c⟩:=h;exact⟨n,r,H,b,c⟩)
def jQ{b_:TC}{ops:To}{i:Nat}{g9 c:St}(h:aq C (uB C) b_ ops i g9 c):∃n,aq C (sm C n).toBelow b_ ops i g9 c:=by
 unfold aq at h;split at h
 next b=>exact⟨0,by unfold aq;rw[b];exact h⟩
 next o b=>
  split at h
  .exact h.elim
  next d=>exact⟨0,by unfold aq;simp_all⟩
  next d=>
   rcases h with⟨e,f,a⟩|h
   .obtain⟨n,a⟩:=N0 a;exact⟨n,by unfold aq;simp_all⟩
   .exact⟨0,by unfold aq;simp_all⟩
def jr{b_:TC}{ops:To}:∀ {l:TC} {g9 d:St},br C (uB C) b_ ops l g9 d->∃n,br C (sm C n).toBelow b_ ops l g9 d
 | [],_,_,h=>⟨0,h⟩
 |_ :: _,_,_,⟨j9,h1,a⟩=>by
  obtain⟨n,h1⟩:=jQ h1;obtain⟨m,a⟩:=jr a;have c:=jX (C:=C) (ee n m);have b:=jX (C:=C) (qcy n m);exact⟨max n m,j9,dh c.call c.yield h1,gk b.call b.yield a⟩
theorem gJ.refl(g9:St):gJ g9 g9:=⟨rfl,rfl,rfl,λi x y a b=>j_⟩
def sD{B:Below}{b_:TC}{ops:To}:∀ {l:TC} {g9 a:St},br C B b_ ops l g9 a->gj C B b_ ops l g9 a
 | [],_,_,h=>h
 |_ :: _,g9,_,⟨j9,h1,b⟩=>⟨g9,j9,.refl g9,h1,sD b⟩
section rules
variable {fid:TC} {g9 j9 j6:St} {e uc:Exit} {a b:Code}
def Ez.skip:Ez C fid .skip g9 .normal g9:=⟨1,rfl,rfl⟩
def Ez.label{l:Nat}:Ez C fid (.label l) g9 .normal g9:=⟨1,rfl,rfl⟩
def Ez.ret:Ez C fid .ret g9 .ret g9:=⟨1,rfl,rfl⟩
def Ez.exit{id:Nat}:Ez C fid (.exit id) g9 (.exit id) g9:=⟨1,rfl,rfl⟩
def Ez.seq(h1:Ez C fid a g9 .normal j9)(c:Ez C fid b j9 e j6):Ez C fid (.seq a b) g9 e j6:=by
 obtain⟨n,h1⟩:=h1;obtain⟨m,c⟩:=c;exact⟨max n m+1,.normal,j9,(jX (ee n m)).ex _ _ _ _ _ h1,.inl ⟨rfl,(jX (qcy n m)).ex _ _ _ _ _ c⟩⟩
def Ez.seqX(h1:Ez C fid a g9 e j6)(c:e≠.normal):Ez C fid (.seq a b) g9 e j6:=by
 obtain⟨n,h1⟩:=h1;exact⟨n+1,e,j6,h1,.inr ⟨c,rfl,rfl⟩⟩
def Ez.cond{c:TL}{t:Bool}(d:jn g9.tmps c = .bool t)(h:Ez C fid (if t then a else b) g9 e j6):Ez C fid (.cond c a b) g9 e j6:=by
 obtain⟨n,h⟩:=h;exact⟨n+1,t,d,h⟩
def Ez.block{id:Nat}(h:Ez C fid b g9 e j6):Ez C fid (.block id b) g9 (kN id e) j6:=by
 obtain⟨n,h⟩:=h;exact⟨n+1,e,h,rfl⟩
def Ez.loop(h1:Ez C fid b (g9.clear (aR fid b)) .normal j9)(c:Ez C fid (.loop b) j9 e j6):Ez C fid (.loop b) g9 e j6:=by
 obtain⟨n,h1⟩:=h1;obtain⟨m,c⟩:=c;exact⟨max n m+1,.normal,j9,(jX (ee n m)).ex _ _ _ _ _ h1,.inl ⟨rfl,(jX (qcy n m)).ex _ _ _ _ _ c⟩⟩
def Ez.loopX(h1:Ez C fid b (g9.clear (aR fid b)) e j6)(c:e≠.normal):Ez C fid (.loop b) g9 e j6:=by
 obtain⟨n,h1⟩:=h1;exact⟨n+1,e,j6,h1,.inr ⟨c,rfl,rfl⟩⟩
def Ez.scope(h:Ez C fid b g9 e j6):Ez C fid (.scope b) g9 e j6:=by
 obtain⟨n,h⟩:=h;exact⟨n+1,h⟩
def Ez.region{id:Nat}{ops:To}(h:br C (uB C) fid ops (range ops.size) g9 j6):Ez C fid (.region id ops false) g9 .normal j6:=by
 obtain⟨n,h⟩:=jr h;exact⟨n+1,rfl,sD h⟩
def Ez.draw{id:Nat}{ops:To}(c:∀n,br C (sm C n).toBelow fid ops (range ops.size) g9 j6->eW C (sm C n).toBelow fid ops g9 j6)
  (h:br C (uB C) fid ops (range ops.size) g9 j6):Ez C fid (.region id ops true) g9 .normal j6:=by
 obtain⟨n,h⟩:=jr h;exact⟨n+1,rfl,g9,.refl g9,c n h⟩
def Ez.drawS{p:St}{id:Nat}{ops:To}{g h:TC}{k:Nat}(c:∀n,br C (sm C n).toBelow fid ops g g9 j9->aq C (sm C n).toBelow fid ops k j9 p->br C (sm C n).toBelow fid ops h j9 j6->eW C (sm C n).toBelow fid ops g9 j6)
  (h1:br C (uB C) fid ops g g9 j9) (d:aq C (uB C) fid ops k j9 p) (f:br C (uB C) fid ops h j9 j6):Ez C fid (.region id ops true) g9 .normal j6:=by
 obtain⟨n,h1⟩:=jr h1;obtain⟨m,d⟩:=jQ d;obtain⟨l,f⟩:=jr f;have i:=jX (C:=C) (show n<=max n (max m l)by omega);have j:=jX (C:=C) (show m<=max n (max m l)by omega);have o:=jX (C:=C) (show l<=max n (max m l)by omega);exact⟨max n (max m l)+1,rfl,g9,.refl g9,c _ (gk i.call i.yield h1) (dh j.call j.yield d) (gk o.call o.yield f)⟩
def Ez.drawA{id:Nat}{ops:To}{n:Nat}(h:eW C (sm C n).toBelow fid ops g9 j6):Ez C fid (.region id ops true) g9 .normal j6:=
 ⟨n+1,rfl,g9,.refl g9,h⟩
def Ez.rangeFunc{f:TL}{params:Array Tmp}{assign body:Code}{g:TQ}{first cap:Tl}{B4:TQ}{tm:Tn}{r:TR}{H:Tu}{c:GJ}
  (h0:fid≠[]) (h1:zD g9.tmps tm) (h:jn g9.tmps f = .func (.func g) first cap) (i:nc (.func (.func g) first cap)=true)
  (d:jY C g (first.toList++[.func (.yield g9.heap.length) #[] #[]]++cap.toList)
    (g9.heap++[.loop { state:=.ready,pending:=none,fn:=B4,tmps:=tm,params:=params.toList,assign,body }]) r H)
  (j:fg H g9.heap.length=some c) (k:c.state≠.busy) (l:zZ c.pending=some e) :
  Ez C fid (.rangeFunc f params assign body) g9 e { g9 with heap:=H.set g9.heap.length (.loop { c with state:=.exhausted }) }:=by
 obtain⟨n,d⟩:=d;exact⟨n+1,h0,g,first,cap,B4,tm,r,H,c,h1,h,i,d,j,k,l,rfl⟩
def jY.intro{f:TQ}{args:Tn}{H:Tu}{d:Func}{c:Code}{vs:Tn}
  (h1:C.P.funcs[f]?=some d) (h:d.body=some c) (i:((d.name == "runtime.NumGoroutine")||C.opq f)=false)
  (g:Ez C (C.b_ f) c (nQ d args H) e g9) (j:e = .normal∨e = .ret) (k:dq C g9 d.results.toList=some vs) (l:nc (gM vs)=true) :
  jY C f args H (gM vs) g9.heap:=by
 obtain⟨n,g⟩:=g;exact⟨n+1,.inr ⟨d,c,e,g9,vs,h1,h,i,g,j,k,rfl,l,rfl⟩⟩
def iK.intro{l:Nat}{args:Tn}{H:Tu}{c f g:GJ}{d:St}{j:Tm}
  (h1:fg H l=some c) (k:args.length=c.params.length)
  (h:Ez C [] c.assign { tmps:=cX c.params args c.tmps,loc:=[],heap:=H } .normal j9)
  (o:fg j9.heap l=some f) (p:f.state = .ready)
  (i:Ez C [] c.body { j9 with heap:=j9.heap.set l (.loop { f with state:=.busy }) } e d) (q:Ko e=some j) (r:fg d.heap l=some g) :
  iK C l args H (.bool j.isNone) (d.heap.set l (.loop { g with state:=if j.isNone then .ready else .done,pending:=j })):=by
 obtain⟨n,h⟩:=h;obtain⟨m,i⟩:=i;exact⟨max n m+1,c,j9,f,e,d,g,j,h1,k,(jX (ee n m)).ex _ _ _ _ _ h,o,p,(jX (qcy n m)).ex _ _ _ _ _ i,q,r,rfl,rfl⟩
end rules
end
inductive Lf where
 |i (n:Int)
 |b (t:Bool)
 |v (x:Value)
inductive LK where
 |i (k:TK)
 |b
 |v
abbrev _root_.TJ:=List LK
inductive SK where
 |leaf (k:LK)
 |agg (ks:TJ)
inductive SL where
 |i (k:TK) (n:Int)
 |b (t:Bool)
 |l (t:Bool)
 |v (x:Value)
inductive S0 where
 |leaf (l:SL)
 |agg (cs:List SL)
inductive SV where
 |st (x:S0)
 |K1 (xs:List S0)
 |HQ (s off:Nat)
 |JV (s base:Nat) (ix:List (Int×Nat))
 |JQ (g off:Nat)
 |LU (g base:Nat) (ix:List (Int×Nat))
 |un
 |no
inductive LR where
 |JJ
 |nil
 |any (n:Nat)
 |row (cs:List SL)
structure Env where
 tm:List SV
 lc:List LR
def SL.val:SL->Value
 | .i k n=>.int k n
 | .b t=>.bool t
 | .l t=>.bool t
 | .v x=>x
def SL.lf:SL->Lf
 | .i _ n=>.i n
 | .b t=>.b t
 | .l t=>.b t
 | .v x=>.v x
def S0.val:S0->Value
 | .leaf l=>l.val
 | .agg cs=>.agg ⟨cs.map SL.val⟩
def S0.cells:S0->List SL
 | .leaf l=>[l]
 | .agg cs=>cs
def Ed(a:Nat):List (Int×Nat)->Nat
 | []=>a
 |p :: l=>Ed (a+p.1.toNat*p.2) l
def SV.val:SV->Value
 | .st x=>x.val
 | .K1 xs=>.tuple ⟨xs.map S0.val⟩
 | .HQ s off=>.pointer (some ⟨s,off,some 0⟩)
 | .JV s a ix=>.pointer (some ⟨s,Ed a ix,some 0⟩)
 | .JQ g off=>.pointer (some ⟨g,off,some 1⟩)
 | .LU g a ix=>.pointer (some ⟨g,Ed a ix,some 1⟩)
 | .un=>undef
 | .no=>undef
def aI(x:Value):Bool:=nc x&&aT x&&aP x && !aD x
def GA(x:Value):Option Unit:=if bE x then some ()else none
def JB:Value->SL
 | .int k n=>.i k n
 | .bool t=>.l t
 |v=>.v v
def ID:Value->Option S0
 | .agg cs=>match cs.toList.all scalar with
  |true=>some (.agg (cs.toList.map JB))
  |false=>none
 |v=>match scalar v with
  |true=>some (.leaf (JB v))
  |false=>none
def kNo(k:TK):Nat:=@IntKind.rec (λ_=>Nat) 0 1 2 3 4 5 6 7 k
def df(a b:TK):Bool:=Nat.beq (kNo a) (kNo b)
def SL.is:SL->LK->Bool
 | .i k _,.i a=>df k a
 | .b _,.b=>true
 | .l _,.b=>true
 | .v _,.v=>true
 |_,_=>false
def ba:List SL->TJ->Bool
 | [],[]=>true
 |c :: cs,k :: ks=>c.is k&&ba cs ks
 |_,_=>false
def S0.is:S0->SK->Bool
 | .leaf l,.leaf k=>l.is k
 | .agg cs,.agg ks=>ba cs ks
 |_,_=>false
def SL.lk:SL->LK
 | .i k _=>.i k
 | .b _=>.b
 | .l _=>.b
 | .v _=>.v
structure Live where
 tm:List (Nat×SK)
 rows:List (Nat×List LK)
abbrev _root_.TN:=List SK
inductive AC where
 |skip
 |ret
 |exit (id:Nat)
 |label (l:Nat)
 |seq (a b:AC)
 |scope (b:AC)
 |region (id:Nat) (ops:To) (draw:Bool) (hs:List (TN)) (j:Option Live)
 |cond (c:TL) (a b:AC) (j:Option Live)
 |block (id:Nat) (b:AC) (j:Option Live)
 |loop (b:AC) (l:Live)
 |rangeFunc (f:TL) (m9:Nat) (ids:TC)
structure Site where
 nt:Nat
 caps:List (Nat×SK)
 params:List (Nat×SK)
 assign:AC
 body:AC
def AC.erase(T:Nat->Tmp->Code):AC->Code
 | .skip=>.skip
 | .ret=>.ret
 | .exit id=>.exit id
 | .label l=>.label l
 | .seq a b=>.seq (a.erase T) (b.erase T)
 | .scope b=>.scope (b.erase T)
 | .region id ops d _ _=>.region id ops d
 | .cond c a b _=>.cond c (a.erase T) (b.erase T)
 | .block id b _=>.block id (b.erase T)
 | .loop b _=>.loop (b.erase T)
 | .rangeFunc f e _=>match f with
  | .tmp t=>T e t
  |_=> .refuse ""
def sB:Nat->Tmp->Code:=λ_ _=> .refuse ""
def gI(s:Site)(t:Tmp):Code:=.rangeFunc (.tmp t) (s.params.map (·.1)).toArray (s.assign.erase sB) (s.body.erase sB)
def I2:Code->List Nat
 | .region _ ops _=>ops.toList.filterMap (·.dst)
 | .seq a b=>I2 a++I2 b
 | .cond _ a b=>I2 a++I2 b
 | .block _ b=>I2 b
 | .loop b=>I2 b
 | .scope b=>I2 b
 |_=>[]
def kW(b_:TC)(o:Oper):Ts:=
 match o.op with
 | .box .. | .alloc _=>match o.dst with
  |some d=>if b_.getD d 0=d+2 then some d else none
  |none=>none
 | .store _ a _=>match ou b_ a with
  |s+2=>some s
  |_=>none
 |_=>none
def GO(b_:TC):Code->List Nat
 | .region _ ops _=>ops.toList.filterMap (kW b_)
 | .seq a b=>GO b_ a++GO b_ b
 | .cond _ a b=>GO b_ a++GO b_ b
 | .block _ b=>GO b_ b
 | .loop b=>GO b_ b
 | .scope b=>GO b_ b
 | .rangeFunc _ _ a b=>GO b_ a++GO b_ b
 |_=>[]
section
variable {R:Type}
def fN(n:Nat)(k:Nat->R):R:=Nat.rec (motive:=λ_=>R) (k n) (λm _=>k m) (Nat.succ n)
def fI(n:Int)(k:Int->R):R:=Int.rec (motive:=λ_=>R) (λm=>fN m λm=>k (.ofNat m)) (λm=>fN m λm=>k (.negSucc m)) n
def fc(n:Nat)(k:Nat->R):fN n k=k n:=rfl
def lH(n:Int)(k:Int->R):fI n k=k n:=by cases n<;>rfl
end
def WF(a b:Int):Bool:=Int.rec (λm=>Int.rec (λn=>Nat.ble m n) (λ_=>false) b) (λm=>Int.rec (λ_=>true) (λn=>Nat.ble n m) b) a
def L_{a b:Int}:WF a b=true↔a<=b:=by
 cases a<;>cases b<;>simp only[WF,IX,Fh,false_iff,true_iff,Int.ofNat_eq_natCast]<;>omega
def NX{j7:Type}(l:List j7):Nat->Nat->Option (List j7):=
 List.rec (motive:=λ_=>Nat->Nat->Option (List j7))
  (λb n=>Nat.rec (Nat.rec (some []) (λ_ _=>none) n) (λ_ _=>none) b)
  (λa _ c b n=>Nat.rec (Nat.rec (some []) (λm _=>Option.rec none (λl=>some (a :: l)) (c 0 m)) n) (λo _=>c o n) b) l
def pS{j7:Type}:∀(l:List j7) (off n:Nat),NX l off n=if off+n<=l.length then some ((l.drop off).take n)else none
 | [],0,0=>rfl
 | [],0,n+1=>by rw[rv c_];rfl
 | [],o+1,n=>by rw[rv c_];rfl
 |a :: l,0,0=>by rw[qs c_];rfl
 |a :: l,0,n+1=>by
  show(Option.rec none (λl=>some (a :: l)) (NX l 0 n):Option (List j7))=_;rw[pS l 0 n];by_cases h:0+n<=l.length
  .simp_all
  .rw[rv h,rv (by simp at h ⊢;omega)]
 |a :: l,o+1,n=>by
  show NX l o n=_;rw[pS l o n]
  grind
def Yd{j7:Type}(l:List j7):Nat->List j7->Option (List j7):=
 List.rec (motive:=λ_=>Nat->List j7->Option (List j7))
  (λd c=>Nat.rec (List.rec (some []) (λ_ _ _=>none) c) (λ_ _=>none) d)
  (λa t e d c=>Nat.rec (List.rec (some (a :: t)) (λb f _=>Option.rec none (λl=>some (b :: l)) (e 0 f)) c) (λo _=>Option.rec none (λl=>some (a :: l)) (e o c)) d) l
def zn{j7:Type}:∀(l:List j7) (off:Nat) (new:List j7),Yd l off new=if off+new.length<=l.length then some (l.take off++new++l.drop (off+new.length))else none
 | [],0,[]=>rfl
 | [],0,b :: c=>by rw[rv c_];rfl
 | [],o+1,new=>by rw[rv c_];rfl
 |a :: l,0,[]=>by rw[qs c_];rfl
 |a :: l,0,b :: c=>by
  show(Option.rec none (λl=>some (b :: l)) (Yd l 0 c):Option (List j7))=_;rw[zn l 0 c];by_cases h:0+c.length<=l.length
  .simp_all
  .rw[rv h,rv (by simp at h ⊢;omega)]
 |a :: l,o+1,new=>by
  show(Option.rec none (λl=>some (a :: l)) (Yd l o new):Option (List j7))=_;rw[zn l o new];by_cases h:o+new.length<=l.length
  .rw[qs h,qs (by simp at h ⊢;omega)];grind
  .rw[rv h,rv (by simp at h ⊢;omega)]
abbrev cW:=Nat->Option s_
inductive DL where
 |set (i:Nat) (o:s_)
 |push (o:s_)
def DL.on(H:Tu):DL->List s_
 | .set i o=>H.set i o
 | .push o=>H++[o]
def iG(H:Tu)(l:List DL):Tu:=l.foldl DL.on H
def iZ(g:cW)(id:Nat):Option (Tn):=
 match g id with
 |some (.cells a _ _)=>some a
 |_=>none
def cq(n:Nat)(p:Value)(g:cW):Option (Tn):=
 match p with
 | .pointer (some a)=>match a.spot with
  |none=>(iZ g a.block).bind λb=>cut b a.off n
  |some _=>none
 |_=>none
def x1(C:m8)(n:Nat)(p:Value)(g:cW):Option (Tn):=
 match p with
 | .pointer (some a)=>match a.spot with
  |none=>(iZ g a.block).bind λb=>cut b a.off n
  |some k=>match Nat.beq k 1 with
   |true=>(C.G a.block).bind λb=>cut b a.off n
   |false=>none
 |_=>none
def JD(p:Value)(new:Tn)(g:cW)(_:Nat):Option (List DL×List Value):=
 match p with
 | .pointer (some a)=>match a.spot with
  |none=>match g a.block with
   |some (.cells c e true)=>(qa c a.off new).map λb=>([.set a.block (.cells b e true)],[])
   |_=>none
  |some _=>none
 |_=>none
def M_(C:m8)(ra:Nat)(g:cW):Value->Option (List Value×Nat)
 | .slice none 0 0=>some ([],0)
 | .slice (some a) len _=>
  if a.spot=some 1 then((C.G a.block).bind λvs=>cut vs a.off (len*ra)).map λx=>(x,len)
  else if a.spot=le ra then
   match g a.block with
   |some (.cells vs e _)=>if e=ra then(cut vs a.off (len*ra)).map λx=>(x,len)else none
   |_=>none
  else none
 | .string s=>if ra=1 then some (s.data.toList.map λb=>.int .u8 b.toNat,s.size)else none
 |_=>none
def Fw(C:m8)(ra bytes:Nat)(s x:Value)(g:cW)(n0:Nat):Option (List DL×List Value):=
 match M_ C ra g x with
 |none=>none
 |some (c,n)=>
  match s with
  | .slice none 0 0=>
   if n=0 then some ([],[.slice none 0 0])
   else if bc n bytes then some ([.push (.cells c ra true)],[.slice (some ⟨n0,0,le ra⟩) n 0])else none
  | .slice (some a) b i=>
   if a.spot≠le ra then none else
   match g a.block with
   |some (.cells h e rw)=>
    if e≠ra then none else
    match cut h a.off (b*ra)with
    |none=>none
    |some d=>
     match i with
     |0=>
      if n=0 then some ([],[.slice (some a) b 0])
      else if rw&&bc (b+n) bytes then
       some ([.set a.block .dead,.push (.cells (d++c) ra true)],[.slice (some ⟨n0,0,le ra⟩) (b+n) 0])
      else none
     |cap+1=>
      if b+n<=cap then
       if rw then(qa h (a.off+b*ra) c).map λf=>([.set a.block (.cells f e true)],[.slice (some a) (b+n) (cap+1)])
       else if n=0 then some ([],[.slice (some a) b (cap+1)])else none
      else if bc (b+n) bytes then
       some ([.push (.cells (d++c) ra true)],[.slice (some ⟨n0,0,le ra⟩) (b+n) 0])
      else none
   |_=>none
  |_=>none
def Za(C:m8)(ra:Nat)(d x:Value)(g:cW)(_:Nat):Option (List DL×List Value):=
 match d with
 | .slice none 0 0=>(M_ C ra g x).map λ_=>([],[.int .i64 0])
 | .slice (some a) b _=>
  if a.spot≠le ra then none else
  match M_ C ra g x,g a.block with
  |some (c,n),some (.cells h e true)=>
   if e≠ra then none else
   (qa h a.off (c.take (Nat.min n b*ra))).map λf=>([.set a.block (.cells f e true)],[.int .i64 (Nat.min n b)])
  |_,_=>none
 |_=>none
def clG(ra:Nat)(z:Tn)(x:Value)(g:cW)(_:Nat):Option (List DL×List Value):=none
def FN(ra:Nat)(x:Value)(d e f:Tt):Tk:=
 match x with
 | .slice (some a) b g=>
  if a.spot≠some 1/\a.spot≠le ra then none else
  if 0<=d.getD 0/\d.getD 0<=e.getD b/\bV b g e f then
   fN (a.off+(d.getD 0).toNat*ra) λo=>fN ((e.getD b).toNat - (d.getD 0).toNat) λn=>fN (bM g (d.getD 0).toNat f) λc=>
   some (.slice (some { a with off:=o }) n c)
  else none
 | .slice none 0 0=>if d.getD 0=0/\e.getD 0=0/\f.getD 0=0/\(f.isNone∨e.isSome)then some (.slice none 0 0)else none
 |_=>none
def T0(s:Ts):Ts:=match s with
 |none=>none
 |some k=>match Nat.beq k 1 with
  |true=>some 1
  |false=>none
def B_(ra:Nat)(x:Value)(i:Int):Tk:=
 match x with
 | .slice (some a) b _=>Int.rec (λj=>match Nat.blt j b with
  |true=>fN (Nat.add a.off (Nat.mul j ra)) λo=>some (.pointer (some ⟨a.block,o,T0 a.spot⟩))
  |false=>none) (λ_=>none) i
 |_=>none
def T3(s:Ts):T0 s=if s=some 1 then some 1 else none:=by
 unfold T0;cases s with
 |none=>rfl
 |some k=>
  cases e:Nat.beq k 1 with
  |true=>simp_all
  |false=>
   rw[rv (λh=>by cases h;cases e)];simp only[e]
def qr(ra:Nat)(x:Value)(i:Int):B_ ra x i=match (motive:=Value->Tk) x with
 | .slice (some a) len _=>
  if 0<=i/\i<(len:Int)then some (.pointer (some ⟨a.block,a.off+i.toNat*ra,if a.spot=some 1 then some 1 else none⟩))else none
 |_=>none:=by
 unfold B_;split
 next a len _=>
  cases i with
  |ofNat j=>
   simp only[fc,T3];cases e:Nat.blt j len with
   |true=>
    simp_all
   |false=>
    have:¬j<len:=λh=>by rw[←HA,e]at h;cases h
    simp_all
  |negSucc j=>
   simp_all
 .rfl
def QX(len ra:Nat)(x:Value)(i:Int):Tk:=
 match x with
 | .pointer (some a)=>if 0<=i/\i<(len:Int)then some (.pointer (some { a with off:=a.off+i.toNat*ra }))else none
 |_=>none
def Eu(off:Nat)(x:Value):Tk:=
 match x with
 | .pointer (some a)=>some (.pointer (some { a with off:=a.off+off }))
 |_=>none
def Ec(x:Value):Tk:=
 match x with
 | .pointer (some a)=>some (.pointer (some a))
 | .func (.func f) a b=>some (.func (.func f) a b)
 | .func (.yield f) a b=>some (.func (.yield f) a b)
 |_=>none
def N6(a:List UInt8):List UInt8->Bool:=
 List.rec (motive:=λ_=>List UInt8->Bool) (λb=>List.rec true (λ_ _ _=>false) b)
  (λx _ c b=>List.rec false (λy t _=>Bool.rec false (c t) (Nat.beq x.toNat y.toNat)) b) a
def zW:∀(a b:List UInt8),N6 a b=true↔a=b
 | [],[]=>⟨λ_=>rfl,λ_=>rfl⟩
 | [],_ :: _=>⟨λh=>(by cases h),λh=>(by cases h)⟩
 |_ :: _,[]=>⟨λh=>(by cases h),λh=>(by cases h)⟩
 |x :: a,y :: b=>by
  show(Bool.rec false (N6 a b) (Nat.beq x.toNat y.toNat):Bool)=true↔_;cases e:Nat.beq x.toNat y.toNat with
  |true=>
   have:x=y:=UInt8.toNat_inj.1 (Ey e);show N6 a b=true↔_;rw[zW a b,this];simp
  |false=>
   constructor
   .intro h;cases h
   .intro h
    simp_all
def Ng(x y:Value):Option Bool:=match x with
 | .string a=>match y with
  | .string b=>some (N6 a.data.toList b.data.toList)
  |_=>none
 |_=>none
def HR:Value->Option Int
 | .slice _ n _=>some n
 |_=>none
def JE(s:ByteArray)(j:Int):Tt:=match j with
 | .ofNat n=>(s.data.toList[n]?).map λb=>Int.ofNat b.toNat
 |_=>none
def Ua{s:ByteArray}{j b:Int}(h:JE s j=some b):0<=j/\(s[j.toNat]?).map (λb=>Value.int .u8 b.toNat)=some (.int .u8 b):=by
 unfold JE at h;split at h
 next n=>
  obtain⟨x,c,rfl⟩:=EC.1 h;refine⟨G9 n,?_⟩;have:s[n]?=some x:=by
   rw[Array.getElem?_toList]at c;obtain⟨a,d⟩:=JX.1 c;have e:n<s.size:=a;rw[getElem?_pos s n e];exact congrArg some d
  simp_all
 .cases h
def VJ:Value->Option Int
 | .slice (some _) _ (n+1)=>some n
 | .slice none 0 0=>some 0
 |_=>none
def ca(m:Value)(g:cW):Option (Tn):=
 match m with
 | .map (some id)=>match g id with
  |some (.map a _)=>some [.int .i64 a.length]
  |_=>none
 |_=>none
def FV(len:Nat)(i:Int):Option Unit:=Int.rec (λj=>match Nat.blt j len with
 |true=>some ()
 |false=>none) (λ_=>none) i
def Q3(len:Nat)(i:Int):FV len i=if 0<=i/\i<(len:Int)then some ()else none:=by
 unfold FV;cases i with
 |ofNat j=>
  simp only;cases e:Nat.blt j len with
  |true=>simp_all
  |false=>
   have:¬j<len:=λh=>by rw[←HA,e]at h;cases h
   simp_all
 |negSucc j=>simp_all
def EU(l c:Int):Option Unit:=if 0<=l/\l<=c/\c<=1048576 then some ()else none
abbrev _root_.TG:=List Lf
def ir(cs:TG)(a:Nat)(ix:List (Int×Nat))(n:Nat):Option (TG):=NX cs (Ed a ix) n
def Se(cs:TG)(a:Nat)(ix:List (Int×Nat))(n:Nat):ir cs a ix n=if Ed a ix+n<=cs.length then some ((cs.drop (Ed a ix)).take n)else none:=pS _ _ _
def W2(cs:TG)(a:Nat)(ix:List (Int×Nat))(new:TG):Option (TG):=Yd cs (Ed a ix) new
def XL(cs:TG)(a:Nat)(ix:List (Int×Nat))(new:TG):W2 cs a ix new=if Ed a ix+new.length<=cs.length then some (cs.take (Ed a ix)++new++cs.drop (Ed a ix+new.length))else none:=zn _ _ _
def nm(vs:Tn)(a:Nat)(ix:List (Int×Nat))(n:Nat):Option (Tn):=NX vs (Ed a ix) n
def Sf(vs:Tn)(a:Nat)(ix:List (Int×Nat))(n:Nat):nm vs a ix n=cut vs (Ed a ix) n:=pS _ _ _
def hO(C:m8)(n:Nat)(p:Value):Option (Tn):=
 match p with
 | .pointer (some a)=>if a.spot=some 1 then(C.G a.block).bind λb=>cut b a.off n else none
 |_=>none
inductive Pk where
 |ld (n:Nat) (p:Value)
 |lg (C:m8) (n:Nat) (p:Value)
 |fn (f:cW->Option (Tn))
def Pk.run:Pk->cW->Option (Tn)
 | .ld n p=>cq n p
 | .lg C n p=>x1 C n p
 | .fn f=>f
inductive Hp where
 |st (p:Value) (new:Tn)
 |ap (C:m8) (ra bytes:Nat) (s x:Value)
 |fn (f:cW->Nat->Option (List DL×List Value))
def Hp.run:Hp->cW->Nat->Option (List DL×List Value)
 | .st p new=>JD p new
 | .ap C ra bytes s x=>Fw C ra bytes s x
 | .fn f=>f
structure Dv(R HT:Type):Type 1 where
 fail:R
 cond:Bool->R->R->R
 x6:BinOp->TK->Int->Int->(Int->R)->R
 HB:BinOp->TK->Int->TK->Int->(Int->R)->R
 cmp:BinOp->Int->Int->(Bool->R)->R
 eqs:List (Lf×Lf)->(Bool->R)->R
 conv:TK->Int->(Int->R)->R
 HH:Bool->Int->Int->(Int->R)->R
 jw:{j7:Type}->Option j7->(j7->R)->R
 n4:Value->R->R
 po:TG->(Int->TG->R)->R
 Fu:TG->(Bool->TG->R)->R
 DK:TG->(Value->TG->R)->R
 A1:TG->R->R
 td:TK->Tn->(Int->Tn->R)->R
 E7:Tn->(Bool->Tn->R)->R
 DF:Tn->(Value->Tn->R)->R
 tf:Tn->R->R
 ma:Pk->HT->(Tn->R)->R
 heap:Hp->HT->(Tn->HT->R)->R
 new:s_->HT->(Nat->HT->R)->R
 call:TQ->TG->HT->(TG->HT->R)->R
 Dw:Value->Tn->TN->HT->(TG->HT->R)->R
 join:(TG->HT->R)->((TG->HT->R)->R)->R
 loop:((TG->HT->R)->TG->HT->R)->TG->HT->R
 Ft:Nat->Value->Tn->HT->(Tm->HT->R)->R
 Fg:Tm->R->R->List (Nat×R)->R
 JW:Nat->HT->(HT->R)->R
 HU:Nat->Tm->HT->(HT->R)->R
section
variable {R HT:Type} (A:Dv R HT)
def Gn{j7:Type}(x:j7)(l:List j7):Nat->(List j7->R)->R:=
 List.rec (motive:=λ_=>Nat->(List j7->R)->R) (λ_ k=>k [])
  (λa c b i k=>match i with
   |0=>k (x :: c)
   |i+1=>b i λl=>k (a :: l)) l
def Po(ks:TJ):TG->(List SL->TG->R)->R:=
 List.rec (motive:=λ_=>TG->(List SL->TG->R)->R) (λa K=>K [] a)
  (λk _ d a K=>match k with
   | .i k=>A.po a λn r=>d r λc r=>K (.i k n :: c) r
   | .b=>A.Fu a λt r=>d r λc r=>K (.b t :: c) r
   | .v=>A.DK a λx r=>d r λc r=>K (.v x :: c) r) ks
def unS(c:SK)(ls:TG)(K:S0->TG->R):R:=
 match c with
 | .leaf k=>match k with
  | .i k=>A.po ls λn r=>K (.leaf (.i k n)) r
  | .b=>A.Fu ls λt r=>K (.leaf (.b t)) r
  | .v=>A.DK ls λx r=>K (.leaf (.v x)) r
 | .agg a=>Po A a ls λd r=>K (.agg d) r
def JI(sks:TN):TG->(List S0->TG->R)->R:=
 List.rec (motive:=λ_=>TG->(List S0->TG->R)->R) (λa K=>K [] a)
  (λc _ b a K=>unS A c a λx r=>b r λd r=>K (x :: d) r) sks
def ucL(ks:TJ):Tn->(List SL->Tn->R)->R:=
 List.rec (motive:=λ_=>Tn->(List SL->Tn->R)->R) (λa K=>K [] a)
  (λk _ d a K=>match k with
   | .i k=>A.td k a λn r=>d r λc r=>K (.i k n :: c) r
   | .b=>A.E7 a λt r=>d r λc r=>K (.b t :: c) r
   | .v=>A.DF a λx r=>A.n4 x (d r λc r=>K (.v x :: c) r)) ks
def K4(c:SK)(cs:Tn)(K:S0->Tn->R):R:=
 match c with
 | .leaf k=>match k with
  | .i k=>A.td k cs λn r=>K (.leaf (.i k n)) r
  | .b=>A.E7 cs λt r=>K (.leaf (.b t)) r
  | .v=>A.DF cs λx r=>A.n4 x (K (.leaf (.v x)) r)
 | .agg a=>ucL A a cs λd r=>K (.agg d) r
def y3(sks:TN):Tn->(List S0->Tn->R)->R:=
 List.rec (motive:=λ_=>Tn->(List S0->Tn->R)->R) (λa K=>K [] a)
  (λc _ b a K=>K4 A c a λx r=>b r λd r=>K (x :: d) r) sks
def cV:List S0->List Lf
 | []=>[]
 |x :: l=>x.cells.map SL.lf++cV l
def ao(l:List S0):Tn:=l.map S0.val
def oI(l:List S0):Tn:=l.flatMap λx=>x.cells.map SL.val
def pkT(tm:List SV):List (Nat×SK)->Option (TG)
 | []=>some []
 |(t,a) :: l=>match tm.getD t .no,pkT tm l with
  | .st x,some ls=>match x.is a with
   |true=>some (x.cells.map SL.lf++ls)
   |false=>none
  |_,_=>none
def pkR(a:List LR):List (Nat×List LK)->Option (TG)
 | []=>some []
 |(s,ks) :: l=>match a.getD s .JJ,pkR a l with
  | .row cs,some ls=>match ba cs ks with
   |true=>some (cs.map SL.lf++ls)
   |false=>none
  |_,_=>none
def pk(c:Env)(lv:Live):Option (TG):=
 match pkT c.tm lv.tm,pkR c.lc lv.rows with
 |some a,some b=>some (a++b)
 |_,_=>none
def SV.Ff(ks:TC):SV->Bool
 | .K1 _=>true
 | .HQ s _=>ks.contains s
 | .JV s _ _=>ks.contains s
 |_=>false
def l0(b ks:TC)(l:List SV):Nat->(List SV->R)->R:=
 List.rec (motive:=λ_=>Nat->(List SV->R)->R) (λ_ K=>K [])
  (λx _ a i K=>a (i+1) λl=>match b.contains i||x.Ff ks with
   |true=>K (.no :: l)
   |false=>K (x :: l)) l
def ug(n:Nat)(K:Nat->R):R:=Nat.casesOn n (K 0) λm=>K (Nat.succ m)
def Qd(d ks:TC)(c:LR)(l:List LR):Nat->(List LR->R)->R:=
 List.rec (motive:=λ_=>Nat->(List LR->R)->R) (λ_ K=>K [])
  (λx _ b i K=>b (i+1) λl=>match ks.contains i,d.contains i with
   |true,_=>K (c :: l)
   |false,true=>(match x with
    | .row a=>ug a.length λn=>K (.any n :: l)
    | .any n=>K (.any n :: l)
    |_=>K (.JJ :: l))
   |false,false=>K (x :: l)) l
def upT(lv:List (Nat×SK)):List S0->List SV->(List SV->R)->R:=
 List.rec (motive:=λ_=>List S0->List SV->(List SV->R)->R) (λ_ tm K=>K tm)
  (λp _ b a tm K=>match a with
   |x :: a=>Gn (.st x) tm p.1 λtm=>b a tm K
   | []=>A.fail) lv
def upR(lv:List (Nat×List LK)):TG->List LR->(List LR->TG->R)->R:=
 List.rec (motive:=λ_=>TG->List LR->(List LR->TG->R)->R) (λb a K=>K a b)
  (λp _ d b a K=>Po A p.2 b λc r=>Gn (.row c) a p.1 λa=>d r a K) lv
def reE(b_:TC)(c:Code)(d:LR)(lv:Live)(b:Env)(ls:TG)(K:Env->R):R:=
 l0 (I2 c) (aR b_ c) b.tm 0 λtm=>Qd (GO b_ c) (aR b_ c) d b.lc 0 λa=>
  JI A (lv.tm.map (·.2)) ls λe r=>upT A lv.tm e tm λtm=>upR A lv.rows r a λa r=>A.A1 r (K ⟨tm,a⟩)
abbrev KN(R HT:Type):=Env->HT->R
def wB(b_:TC)(c:Code)(j:Option Live)(b:Env)(e:KN R HT)(a:KN R HT->R):R:=
 match j with
 |none=>a e
 |some lv=>A.join (λd h=>reE A b_ c .JJ lv b d λb=>e b h) λf=>a λb h=>match pk b lv with
  |some d=>f d h
  |none=>A.fail
structure DQ where
 C:m8
 b_:List Nat
 T:Nat->Site
def km(a:Env):TL->SV
 | .tmp t=>a.tm.getD t .no
 | .const v=>match ID v with
  |some x=>.st x
  |none=>.no
 | .global g=>match Nat.blt g gB with
  |true=>.JQ g 0
  |false=>.no
 | .func f=>.st (.leaf (.v (.func (.func f) #[] #[])))
def Dt(a:Env)(x:TL):Option S0:=
 match km a x with
 | .st x=>some x
 |_=>none
def D1(a:Env):List Operand->Option (List S0)
 | []=>some []
 |x :: l=>match Dt a x,D1 a l with
  |some x,some l=>some (x :: l)
  |_,_=>none
def Kc:TL->Option Nat
 | .const (.int _ (.ofNat n))=>some n
 |_=>none
def my(d:Tq)(x:SV)(a:Env)(h:HT)(K:KN R HT):R:=
 match d with
 |some d=>Gn x a.tm d λtm=>K ⟨tm,a.lc⟩ h
 |none=>K a h
def uW(b:Env)(s:Nat):Option (List SL):=
 match b.lc.getD s .JJ with
 | .row a=>some a
 |_=>none
def IG:SK->List LK
 | .leaf k=>[k]
 | .agg ks=>ks
def E1(cs:List SL)(off n:Nat):Option (List SL):=if off+n<=cs.length then some ((cs.drop off).take n)else none
def jA(cs:List SL)(off:Nat)(new:List SL):Option (List SL):=if off+new.length<=cs.length then some (cs.take off++new++cs.drop (off+new.length))else none
def vB(cs:List SL)(ks:TJ):Nat->List (Int×Nat)->Bool
 |a,[]=>match E1 cs a ks.length with
  |some ds=>ba ds ks
  |none=>true
 |a,p :: l=>!Nat.beq p.2 0&&(range (cs.length+1)).all λj=>vB cs ks (a+j*p.2) l
def HV(a:Bool)(cs:List SL):Option S0:=
 match a,cs with
 |true,cs=>some (.agg cs)
 |false,[c]=>some (.leaf c)
 |_,_=>none
def tX(pl:Nat->Option (Nat×Nat))(cs:List SL):List (Nat×S0)->Option (List SL)
 | []=>some cs
 |(i,x) :: l=>match pl i with
  |some (off,n)=>match Nat.beq x.cells.length n with
   |true=>match jA cs off x.cells with
    |some cs=>tX pl cs l
    |none=>none
   |false=>none
  |none=>none
def B2(P:TI)(t:TP):Option Bool:=
 match P.underlying t with
 |some (.struct _)|some (.array _ _)=>some true
 |some _=>some false
 |none=>none
def zA(P:TI)(t:TP):Option S0:=(ft P t).bind ID
def lj:SK->Bool
 | .leaf _=>false
 | .agg _=>true
def Qy:Bool->Bool->Bool
 |true,true=>true
 |false,false=>true
 |_,_=>false
def Xb(X:DQ)(d:Tq)(t:TP)(x:S0)(a:Env)(h:HT)(K:KN R HT):R:=
 match d with
 |none=>A.fail
 |some d=>match Nat.beq (X.b_.getD d 0) (d+2)with
  |true=>match a.lc.getD d .JJ with
   | .nil=>Gn (.row x.cells) a.lc d λb=>Gn (.HQ d 0) a.tm d λtm=>K ⟨tm,b⟩ h
   |_=>A.fail
  |false=>A.new (.cells (x.cells.map SL.val) (nz X.C.P t) true) h λn h=>my (some d) (.st (.leaf (.v (.pointer (some ⟨n,0,none⟩))))) a h K
def IE(d:Tq)(b:SK)(cs:Tn)(a:Env)(h:HT)(K:KN R HT):R:=
 K4 A b cs λx r=>A.tf r (my d (.st x) a h K)
def Jz(d:Tq)(b:SK)(ls:TG)(a:Env)(h:HT)(K:KN R HT):R:=
 unS A b ls λx r=>A.A1 r (my d (.st x) a h K)
def Rn(X:DQ)(d:Tq)(i:SK)(j:Bool)(n:Nat)(a:TL)(e:Env)(h:HT)(K:KN R HT):R:=
 match ou X.b_ a,km e a with
 |0,.st (.leaf (.v p))=>A.ma (.lg X.C n p) h λc=>IE A d i c e h K
 |1,.JQ g f=>match X.C.G g with
  |some m=>match cut m f n with
   |some c=>match c.all scalar,HV j (c.map JB)with
    |true,some x=>my d (.st x) e h K
    |_,_=>IE A d i c e h K
   |none=>A.fail
  |none=>A.fail
 |1,.LU g b k=>match X.C.G g with
  |some m=>A.jw (nm m b k n) λc=>IE A d i c e h K
  |none=>A.fail
 |1,.st (.leaf (.v p))=>A.jw (hO X.C n p) λc=>IE A d i c e h K
 |s+2,.HQ l f=>match Nat.beq s l,(uW e s).bind (λc=>(E1 c f n).bind (HV j))with
  |true,some x=>my d (.st x) e h K
  |_,_=>A.fail
 |s+2,.JV l b k=>match Nat.beq s l,uW e s with
  |true,some c=>match vB c (IG i) b k&&Nat.beq n (IG i).length with
   |true=>A.jw (ir (c.map SL.lf) b k n) λo=>Jz A d i o e h K
   |false=>A.fail
  |_,_=>A.fail
 |_,_=>A.fail
def T9(r:LR)(off:Nat)(new:List SL):Option (List SL):=
 match r with
 | .row a=>jA a off new
 | .any n=>match Nat.beq off 0&&Nat.beq n new.length with
  |true=>some new
  |false=>none
 |_=>none
def KY(X:DQ)(d:Tq)(t:TP)(a:TL)(x:S0)(c:Env)(h:HT)(K:KN R HT):R:=
 match Nat.beq x.cells.length (X.C.P.cellsOf t)&&(X.C.P.info? t).isSome with
 |false=>A.fail
 |true=>match ou X.b_ a,km c a with
  |0,.st (.leaf (.v p))=>A.heap (.st p (x.cells.map SL.val)) h λ_ h=>my d .un c h K
  |s+2,.HQ i g=>match Nat.beq s i,T9 (c.lc.getD s .JJ) g x.cells with
   |true,some e=>Gn (.row e) c.lc s λf=>my d .un ⟨c.tm,f⟩ h K
   |_,_=>A.fail
  |s+2,.JV i b j=>match Nat.beq s i,uW c s with
   |true,some e=>match vB e (x.cells.map SL.lk) b j with
    |false=>A.fail
    |true=>A.jw (W2 (e.map SL.lf) b j (x.cells.map SL.lf)) λk=>Po A (e.map SL.lk) k λe r=>A.A1 r (Gn (.row e) c.lc s λf=>my d .un ⟨c.tm,f⟩ h K)
   |_,_=>A.fail
  |_,_=>A.fail
def w3:BinOp->Bool
 | .eql | .neq | .lss | .leq | .gtr | .geq=>true
 |_=>false
def L4:BinOp->Bool
 | .shl | .shr=>true
 |_=>false
def nT(F:TP->Option (TJ)):List Field->Nat->Option (TJ)
 | [],_=>some []
 |f :: a,off=>match decide (f.name = "_"),Nat.beq f.offset off,F f.type with
  |false,true,some ks=>(nT F a (off+ks.length)).map (ks ++ ·)
  |_,_,_=>none
def DU(P:TI):Nat->TP->Option (TJ)
 |0,_=>none
 |d+1,t=>match P.underlying t with
  |some (.int k)=>some [.i k]
  |some .bool=>some [.b]
  |some (.struct a)=>match P.stoodInHeld t,nT (DU P d) a.toList 0 with
   |false,some ks=>match Nat.beq ks.length (P.cellsOf t)with
    |true=>some ks
    |false=>none
   |_,_=>none
  |some (.array n e)=>match DU P d e with
   |some ks=>match Nat.beq ks.length (P.cellsOf e)&&Nat.beq (replicate n ks).flatten.length (P.cellsOf t)with
    |true=>some (replicate n ks).flatten
    |false=>none
   |none=>none
  |_=>none
def Wc:Int->Int->Bool
 | .ofNat a,.ofNat b=>Nat.beq a b
 | .negSucc a,.negSucc b=>Nat.beq a b
 |_,_=>false
def fY:TJ->Tn->Tn->Option Bool
 | [],[],[]=>some true
 | .i k :: ks,.int a x :: xs,.int b y :: ys=>match df a k,df b k,fY ks xs ys with
  |true,true,some r=>(match Wc x y with
   |true=>some r
   |false=>some false)
  |_,_,_=>none
 | .b :: ks,.bool x :: xs,.bool y :: ys=>match fY ks xs ys with
  |some r=>(match Qy x y with
   |true=>some r
   |false=>some false)
  |none=>none
 |_,_,_=>none
def x8:TJ->Tn->Tn->Option Bool
 | [],_,_=>some true
 | .i k :: ks,.int a x :: xs,.int b y :: ys=>match df a k,df b k with
  |true,true=>(match Wc x y with
   |true=>x8 ks xs ys
   |false=>some false)
  |_,_=>none
 | .b :: ks,.bool x :: xs,.bool y :: ys=>match Qy x y with
  |true=>x8 ks xs ys
  |false=>some false
 |_,_,_=>none
def jU(ks:TJ)(cs:Tn):Tj->Nat->Option (Ts)
 | [],_=>some none
 |e :: a,i=>match e.key with
  | .agg ds=>match x8 ks cs ds.toList with
   |some true=>some (some i)
   |some false=>jU ks cs a (i+1)
   |none=>none
  |_=>none
def valI{R:Type}(v:Value)(d:R)(K:TK->Int->R):R:=match v with
 | .int a m=>K a m
 |_=>d
def valB{R:Type}(v:Value)(d:R)(K:Bool->R):R:=match v with
 | .bool a=>K a
 |_=>d
def lE(a b:Int):Bool:=@Int.rec (λ_=>Bool) (λm=>@Int.rec (λ_=>Bool) (λn=>Nat.beq m n) (λ_=>false) b) (λm=>@Int.rec (λ_=>Bool) (λ_=>false) (λn=>Nat.beq m n) b) a
def Qp(ks:TJ):Tn->Tn->Option Bool:=
 @List.rec LK (λ_=>Tn->Tn->Option Bool)
  (λ_ _=>some true)
  (λk _ e c d=>@List.rec Value (λ_=>Option Bool) none (λx c _=>@List.rec Value (λ_=>Option Bool) none (λy d _=>
   @LK.rec (λ_=>Option Bool)
    (λk=>valI x none λa m=>valI y none λb n=>@Bool.rec (λ_=>Option Bool) none (@Bool.rec (λ_=>Option Bool) none (@Bool.rec (λ_=>Option Bool) (some false) (e c d) (lE m n)) (df b k)) (df a k))
    (valB x none λa=>valB y none λb=>@Bool.rec (λ_=>Option Bool) (some false) (e c d) (Qy a b))
    none k) d) c) ks
def Wd(a b:Int):lE a b=Wc a b:=by cases a<;>cases b<;>rfl
def xX:∀(ks:TJ) (xs ys:Tn),Qp ks xs ys=x8 ks xs ys
 | [],_,_=>by simp only[x8];rfl
 |k :: ks,[],ys=>by cases k<;>rfl
 |k :: ks,x :: xs,[]=>by cases k<;>cases x<;>rfl
 | .v :: ks,x :: xs,y :: ys=>by cases x<;>cases y<;>rfl
 | .b :: ks,x :: xs,y :: ys=>by
  cases x<;>first|(cases y<;>rfl)|skip
  cases y<;>first|rfl|skip
  rename_i a b
  show @Bool.rec (λ_=>Option Bool) (some false) (Qp ks xs ys) (Qy a b)=_;rw[xX ks xs ys];simp only[x8];cases Qy a b<;>rfl
 | .i k :: ks,x :: xs,y :: ys=>by
  cases x<;>first|(cases y<;>rfl)|skip
  cases y<;>first|rfl|skip
  rename_i a m b n
  show @Bool.rec (λ_=>Option Bool) none (@Bool.rec (λ_=>Option Bool) none (@Bool.rec (λ_=>Option Bool) (some false) (Qp ks xs ys) (lE m n)) (df b k)) (df a k)=_;rw[xX ks xs ys,Wd];simp only[x8];cases df a k<;>cases df b k<;>first|rfl|(cases Wc m n<;>rfl)
def LM(ks:TJ)(cs:Tn)(c:Tj):Nat->Option (Ts):=
 @List.rec MapEntry (λ_=>Nat->Option (Ts)) (λ_=>some none) (λe _ d i=>match e.key with
  | .agg a=>@Option.rec Bool (λ_=>Option (Ts)) none (λb=>@Bool.rec (λ_=>Option (Ts)) (fN (Nat.succ i) d) (some (some i)) b) (Qp ks cs a.toList)
  |_=>none) c
def oP(ks:TJ)(cs:Tn):∀(a:Tj) (i:Nat),LM ks cs a i=jU ks cs a i
 | [],_=>rfl
 |e :: a,i=>by
  have h:LM ks cs (e :: a) i=match e.key with
   | .agg ds=>@Option.rec Bool (λ_=>Option (Ts)) none (λb=>@Bool.rec (λ_=>Option (Ts)) (LM ks cs a (i+1)) (some (some i)) b) (Qp ks cs ds.toList)
   |_=>none:=rfl
  rw[h];simp only[jU,xX,oP ks cs a];split
  next ds _=>
   cases x8 ks cs ds.toList with
   |none=>rfl
   |some b=>cases b<;>rfl
  .rfl
def wc(P:TI)(kt:TP)(k:Value)(a:Tj):Option (Ts):=
 match k with
 | .agg b=>match B2 P kt,DU P 10000 kt with
  |some true,some c=>match LM c b.toList a 0 with
   |some r=>some r
   |none=>tZ P kt k a
  |_,_=>tZ P kt k a
 |_=>tZ P kt k a
def Jj(P:TI)(kt:TP)(k:Value):Bool:=
 match k with
 | .agg b=>match B2 P kt with
  |some true=>match DU P 10000 kt with
   |some a=>match fY a b.toList b.toList with
    |some _=>true
    |none=>jW P kt k
   |none=>jW P kt k
  |_=>jW P kt k
 |_=>jW P kt k
def Is(g:cW)(id:Nat):Option (List MapEntry×Nat):=
 match g id with
 |some (.map a c)=>some (a,c)
 |_=>none
def gN(a:Bool)(v:Value):Option (Tn):=
 match v,a with
 | .agg b,true=>some b.toList
 | .agg _,false=>none
 |_,true=>none
 |v,false=>some [v]
def Gr(C:m8)(kt:TP)(b:Bool)(z:Value)(m k:Value)(ok:Bool)(g:cW):Option (Tn):=
 if !Jj C.P kt k then none else
 match m with
 | .map none=>(gN b z).map λa=>a++if ok then [.bool false]else []
 | .map (some id)=>
  match Is g id with
  |none=>none
  |some (c,_)=>
   match wc C.P kt k c with
   |none=>none
   |some none=>(gN b z).map λa=>a++if ok then [.bool false]else []
   |some (some i)=>((eQ c i).bind (gN b)).map λa=>a++if ok then [.bool true]else []
 |_=>none
def G5(C:m8)(kt:TP)(m k v:Value)(g:cW)(_:Nat):Option (List DL×List Value):=
 match m with
 | .map (some id)=>
  if !Jj C.P kt k then none else
  match Is g id with
  |none=>none
  |some (a,c)=>
   match wc C.P kt k a with
   |none=>none
   |some none=>some ([.set id (.map (a++[{ key:=k,val:=v,born:=c }]) (c+1))],[])
   |some (some i)=>
    if (a[i]?).all (λe=>Instr.sameBits 10000 e.key k)then some ([.set id (.map (a.modify i λe=>{ e with key:=k,val:=v }) c)],[])else none
 |_=>none
def meG(C:m8)(kt:TP)(a:Bool)(z:Value)(m k:Value)(g:cW)(_:Nat):Option (List DL×List Value):=none
def esG(m:Value)(b:Int)(v:Value)(g:cW)(_:Nat):Option (List DL×List Value):=none
def deG(C:m8)(kt:TP)(m k:Value)(g:cW)(_:Nat):Option (List DL×List Value):=none
def lU(n:Nat)(x y:Value):Option Bool:=match Nat.beq n (dJ x),Nat.beq n (dJ y)with
 |true,true=>mV x y
 |_,_=>none
def wS{P:TI}{t:TP}{a:TypeDesc}{x y:TR}{b:Bool}(e:P.underlying t=some a)(h:lU (mW a) x y=some b):mV x y=some b/\uH P t x y=true:=by
 unfold lU at h;split at h
 next c d=>
  refine⟨h,?_⟩;unfold uH
  simp_all
 .cases h
def tj(ks:TJ):Bool:=ks.all λk=>match k with
 | .v=>false
 |_=>true
def Dn(X:DQ)(d:Tq)(e:BinOp)(t:TP)(a b:S0)(c:Env)(h:HT)(K:KN R HT):R:=
 match a,b with
 | .leaf (.i k x),.leaf (.i m y)=>
  match L4 e,df k m,w3 e with
  |true,_,_=>A.HB e k x m y λn=>my d (.st (.leaf (.i k n))) c h K
  |false,true,true=>A.cmp e x y λt=>my d (.st (.leaf (.b t))) c h K
  |false,true,false=>A.x6 e k x y λn=>my d (.st (.leaf (.i k n))) c h K
  |_,_,_=>A.fail
 | .agg g,.agg j=>match DU X.C.P 10000 t,X.C.P.eqGuardType X.C.P.depth t,B2 X.C.P t with
  |some l,false,some true=>match ba g l&&ba j l&&tj l with
   |true=>match e with
    | .eql=>A.eqs ((g.map SL.lf).zip (j.map SL.lf)) λt=>my d (.st (.leaf (.b t))) c h K
    | .neq=>A.eqs ((g.map SL.lf).zip (j.map SL.lf)) λt=>my d (.st (.leaf (.b (!t)))) c h K
    |_=>A.fail
   |false=>A.fail
  |_,_,_=>A.fail
 | .leaf (.v x),.leaf (.v y)=>match X.C.P.underlying t with
  |some .string=>match e with
   | .eql=>A.jw (Ng x y) λf=>my d (.st (.leaf (.b f))) c h K
   | .neq=>A.jw (Ng x y) λf=>my d (.st (.leaf (.b (!f)))) c h K
   |_=>A.fail
  |some o=>match e with
   | .eql=>A.jw (lU (mW o) x y) λf=>my d (.st (.leaf (.b f))) c h K
   | .neq=>A.jw (lU (mW o) x y) λf=>my d (.st (.leaf (.b (!f)))) c h K
   |_=>A.fail
  |none=>A.fail
 | .leaf x,.leaf y=>match x.is .b&&y.is .b,X.C.P.underlying t with
  |true,some .bool=>match e with
   | .eql=>A.eqs [(x.lf,y.lf)] λt=>my d (.st (.leaf (.b t))) c h K
   | .neq=>A.eqs [(x.lf,y.lf)] λt=>my d (.st (.leaf (.b (!t)))) c h K
   |_=>A.fail
  |_,_=>A.fail
 |_,_=>A.fail
def Gh(a:Env):Th->Option (Tt)
 |none=>some none
 |some x=>match km a x with
  | .st (.leaf (.i _ n))=>some (some n)
  |_=>none
def oA(a:TN):SK:=match a with
 | [k]=>k
 |_=>.agg []
def OW(d:Tq)(sks:TN)(b:TG)(a:Env)(h:HT)(K:KN R HT):R:=
 match sks with
 | [c]=>Jz A d c b a h K
 | []=>A.A1 b (my d .un a h K)
 |sks=>JI A sks b λe r=>A.A1 r (my d (.K1 e) a h K)
structure H7 where
 ps:List SK
 rs:List SK
def cJ:List S0->TN->Bool
 | [],[]=>true
 |x :: l,k :: ks=>x.is k&&cJ l ks
 |_,_=>false
def oE(X:DQ)(d:Tq)(o:SK)(b:Builtin)(xs:List S0)(l:Array TypeId)(f:Env)(h:HT)(K:KN R HT):R:=
 match b,xs,l[0]? with
 | .append,[.leaf (.v s),.leaf (.v x)],some t=>match X.C.P.underlying t with
  |some (.slice e)=>match X.C.P.info? e with
   |some c=>match Nat.beq c.size 0||(mt c).isNone||(l[1]?.any λu=>(X.C.P.underlying u) matches some (.int _)|none)||l[1]?.isNone with
    |true=>A.fail
    |false=>A.heap (.ap X.C c.size c.bytes s x) h λg h=>IE A d (.leaf .v) g f h K
   |none=>A.fail
  |_=>A.fail
 | .len,[x],some t=>match X.C.P.underlying t,x with
  |some (.slice _),.leaf (.v x)=>A.jw (HR x) λn=>my d (.st (.leaf (.i .i64 n))) f h K
  |some (.map _ _),.leaf (.v x)=>A.ma (.fn (ca x)) h λg=>IE A d (.leaf (.i .i64)) g f h K
  |some (.array n _),_=>my d (.st (.leaf (.i .i64 n))) f h K
  |_,_=>A.fail
 | .cap,[x],some t=>match X.C.P.underlying t,x with
  |some (.slice _),.leaf (.v x)=>A.jw (VJ x) λn=>my d (.st (.leaf (.i .i64 n))) f h K
  |some (.array n _),_=>my d (.st (.leaf (.i .i64 n))) f h K
  |_,_=>A.fail
 | .copy,[.leaf (.v s),.leaf (.v x)],some t=>match X.C.P.underlying t with
  |some (.slice e)=>match Nat.beq (X.C.P.cellsOf e) 0 with
   |true=>A.fail
   |false=>A.heap (.fn (Za X.C (X.C.P.cellsOf e) s x)) h λg h=>IE A d (.leaf (.i .i64)) g f h K
  |_=>A.fail
 | .delete,[.leaf (.v m),k],some t=>match X.C.P.underlying t with
  |some (.map p _)=>A.heap (.fn (deG X.C p m k.val)) h λ_ h=>my d .un f h K
  |_=>A.fail
 | .clear,[.leaf (.v s)],some t=>match X.C.P.underlying t with
  |some (.slice e)=>match Nat.beq (X.C.P.cellsOf e) 0,zA X.C.P e with
   |false,some z=>A.heap (.fn (clG (X.C.P.cellsOf e) (z.cells.map SL.val) s)) h λ_ h=>my d .un f h K
   |_,_=>A.fail
  |_=>A.fail
 | .min,[.leaf (.i k a),.leaf (.i j b)],_=>match df k j with
  |true=>A.cmp .lss b a λt=>A.HH t b a λn=>my d (.st (.leaf (.i k n))) f h K
  |false=>A.fail
 | .max,[.leaf (.i k a),.leaf (.i j b)],_=>match df k j with
  |true=>A.cmp .lss a b λt=>A.HH t b a λn=>my d (.st (.leaf (.i k n))) f h K
  |false=>A.fail
 |_,_,_=>A.fail
def mO(X:DQ)(d:Tq)(t:TP)(x i:TL)(k:Env)(h:HT)(K:KN R HT):R:=
 match X.C.P.underlying t with
 |some (.array c e)=>
  let a:=X.C.P.cellsOf e
  match Nat.beq a 0,km k x,km k i,Kc i with
  |false,.HQ s f,_,some n=>match Nat.blt n c with
   |true=>my d (.HQ s (f+n*a)) k h K
   |false=>A.fail
  |false,.JQ g f,_,some n=>match Nat.blt n c with
   |true=>my d (.JQ g (f+n*a)) k h K
   |false=>A.fail
  |false,.JV s b l,_,some n=>match Nat.blt n c with
   |true=>my d (.JV s (b+n*a) l) k h K
   |false=>A.fail
  |false,.LU g b l,_,some n=>match Nat.blt n c with
   |true=>my d (.LU g (b+n*a) l) k h K
   |false=>A.fail
  |false,.HQ s f,.st (.leaf (.i _ j)),_=>A.jw (FV c j) λ_=>my d (.JV s f [(j,a)]) k h K
  |false,.JQ g f,.st (.leaf (.i _ j)),_=>A.jw (FV c j) λ_=>my d (.LU g f [(j,a)]) k h K
  |false,.JV s b l,.st (.leaf (.i _ j)),_=>A.jw (FV c j) λ_=>my d (.JV s b (l++[(j,a)])) k h K
  |false,.LU g b l,.st (.leaf (.i _ j)),_=>A.jw (FV c j) λ_=>my d (.LU g b (l++[(j,a)])) k h K
  |false,.st (.leaf (.v p)),.st (.leaf (.i _ j)),_=>A.jw (QX c a p j) λq=>A.n4 q (my d (.st (.leaf (.v q))) k h K)
  |_,_,_,_=>A.fail
 |some (.slice e)=>
  let a:=X.C.P.cellsOf e
  match Nat.beq a 0,km k x,km k i with
  |false,.st (.leaf (.v p)),.st (.leaf (.i _ j))=>A.jw (B_ a p j) λq=>my d (.st (.leaf (.v q))) k h K
  |_,_,_=>A.fail
 |_=>A.fail
def mM(X:DQ)(d:Tq)(t:TP)(x:TL)(f:Nat)(c:Env)(h:HT)(K:KN R HT):R:=
 match X.C.P.underlying t with
 |some (.struct j)=>match j[f]? with
  |some e=>match Nat.beq (X.C.P.cellsOf e.type) 0,km c x with
   |false,.HQ s b=>my d (.HQ s (b+e.offset)) c h K
   |false,.JQ g b=>my d (.JQ g (b+e.offset)) c h K
   |false,.JV s a i=>my d (.JV s (a+e.offset) i) c h K
   |false,.LU g a i=>my d (.LU g (a+e.offset) i) c h K
   |false,.st (.leaf (.v p))=>A.jw (Eu e.offset p) λq=>A.n4 q (my d (.st (.leaf (.v q))) c h K)
   |_,_=>A.fail
  |none=>A.fail
 |_=>A.fail
abbrev _root_.Td:=FuncId->Option H7
def A5(X:DQ)(Sg:Td)(o:Oper)(B:TN)(d:Env)(h:HT)(K:KN R HT):R:=
 match o.op with
 | .move x=>match km d x with
  | .no=>A.fail
  |y=>my o.dst y d h K
 | .assign x=>match km d x with
  | .no=>A.fail
  |y=>my o.dst y d h K
 | .pick c a b=>match km d c,km d a,km d b with
  | .st (.leaf (.l true)),.st y,_=>my o.dst (.st y) d h K
  | .st (.leaf (.l false)),_,.st y=>my o.dst (.st y) d h K
  | .st (.leaf (.b t)),.st y,.st z=>A.cond t (my o.dst (.st y) d h K) (my o.dst (.st z) d h K)
  |_,_,_=>A.fail
 | .alloc t=>match zA X.C.P t with
  |some x=>Xb A X o.dst t x d h K
  |none=>A.fail
 | .box t x=>match km d x with
  | .st x=>Xb A X o.dst t x d h K
  |_=>A.fail
 | .build t J=>match zA X.C.P t,pw X.C.P t,D1 d (J.toList.map (·.2))with
  |some z,some pl,some D=>match tX pl z.cells ((J.toList.map (·.1)).zip D)with
   |some w=>my o.dst (.st (.agg w)) d h K
   |none=>A.fail
  |_,_,_=>A.fail
 | .buildSlice t n J=>match X.C.P.underlying t,D1 d (J.toList.map (·.2))with
  |some (.slice e),some D=>match X.C.P.info? e with
   |some u=>match Nat.beq u.size 0||Nat.blt 16777216 (n*u.size),(mt u).bind ID with
    |false,some z=>match tX (λi=>some (i*u.size,u.size)) (replicate n z.cells).flatten ((J.toList.map (·.1)).zip D)with
     |some w=>A.new (.cells (w.map SL.val) u.size true) h λm h=>my o.dst (.st (.leaf (.v (.slice (some ⟨m,0,le u.size⟩) n (n+1))))) d h K
     |none=>A.fail
    |_,_=>A.fail
   |none=>A.fail
  |_,_=>A.fail
 | .load t a=>match B2 X.C.P t with
  |some G=>match Qy G (lj (oA B))with
   |true=>Rn A X o.dst (oA B) G (if G then X.C.P.cellsOf t else 1) a d h K
   |false=>A.fail
  |none=>A.fail
 | .store t a x=>match km d x with
  | .st x=>KY A X o.dst t a x d h K
  |_=>A.fail
 | .nilCheck x=>match km d x with
  | .st (.leaf (.v p))=>A.jw (Ec p) λq=>A.n4 q (my o.dst (.st (.leaf (.v q))) d h K)
  | .HQ s H=>my o.dst (.HQ s H) d h K
  | .JQ s H=>my o.dst (.JQ s H) d h K
  |_=>A.fail
 | .binOp U t x y _=>match Dt d x,Dt d y with
  |some a,some b=>Dn A X o.dst U t a b d h K
  |_,_=>A.fail
 | .unOp U _ x=>match U,km d x with
  | .not,.st (.leaf (.b t))=>my o.dst (.st (.leaf (.b (!t)))) d h K
  | .not,.st (.leaf (.l t))=>my o.dst (.st (.leaf (.l (!t)))) d h K
  | .neg,.st (.leaf (.i k n))=>A.x6 .sub k 0 n λn=>my o.dst (.st (.leaf (.i k n))) d h K
  |_,_=>A.fail
 | .convert sT Y x=>match X.C.P.underlying sT,X.C.P.underlying Y,km d x with
  |some (.int _),some (.int k),.st (.leaf (.i _ n))=>A.conv k n λn=>my o.dst (.st (.leaf (.i k n))) d h K
  |_,_,_=>A.fail
 | .makeFunc Z first L=>match Z,D1 d first.toList,D1 d L.toList with
  | .func g,some a,some b=>A.n4 (.func (.func g) ⟨ao a⟩ ⟨ao b⟩) (my o.dst (.st (.leaf (.v (.func (.func g) ⟨ao a⟩ ⟨ao b⟩)))) d h K)
  |_,_,_=>A.fail
 | .makeMap t r=>match qp X.C t (r.map λ_=>.int .i64 0),Gh d r with
  |true,some _=>A.new (.map [] 0) h λn h=>my o.dst (.st (.leaf (.v (.map (some n))))) d h K
  |_,_=>A.fail
 | .makeSlice t l c=>match X.C.P.underlying t,km d l,km d c with
  |some (.slice e),.st (.leaf (.i _ l)),.st (.leaf (.i _ c))=>match X.C.P.info? e with
   |some u=>match Nat.beq u.size 0||Nat.blt 4096 u.bytes,(mt u).bind ID with
    |false,some z=>A.jw (EU l c) λ_=>
      A.new (.cells (aL (z.cells.map SL.val) c.toNat) u.size true) h λn h=>my o.dst (.st (.leaf (.v (.slice (some ⟨n,0,le u.size⟩) l.toNat (c.toNat+1))))) d h K
    |_,_=>A.fail
   |none=>A.fail
  |_,_,_=>A.fail
 | .slice t x S O T=>match X.C.P.underlying t,km d x,Gh d S,Gh d O,Gh d T with
  |some (.slice e),.st (.leaf (.v x)),some S,some O,some T=>match Nat.beq (X.C.P.cellsOf e) 0 with
   |true=>A.fail
   |false=>A.jw (FN (X.C.P.cellsOf e) x S O T) λq=>A.n4 q (my o.dst (.st (.leaf (.v q))) d h K)
  |_,_,_,_,_=>A.fail
 | .fieldAddr t x f=>mM A X o.dst t x f d h K
 | .indexAddr t x i=>mO A X o.dst t x i d h K
 | .field t x f=>match X.C.P.underlying t,km d x with
  |some (.struct fs),.st (.agg w)=>match fs[f]? with
   |some N=>match (B2 X.C.P N.type).bind (λI=>(E1 w N.offset (if I then X.C.P.cellsOf N.type else 1)).bind (HV I))with
    |some x=>my o.dst (.st x) d h K
    |none=>A.fail
   |none=>A.fail
  |_,_=>A.fail
 | .index t x i=>match X.C.P.underlying t,km d x,km d i with
  |some (.array Q e),.st (.agg w),.st (.leaf (.i _ j))=>match B2 X.C.P e with
   |some I=>match Qy I (lj (oA B))&&vB w (IG (oA B)) 0 [(j,X.C.P.cellsOf e)]&&Nat.beq (if I then X.C.P.cellsOf e else 1) (IG (oA B)).length with
    |false=>A.fail
    |true=>A.jw (FV Q j) λ_=>A.jw (ir (w.map SL.lf) 0 [(j,X.C.P.cellsOf e)] (if I then X.C.P.cellsOf e else 1)) λls=>Jz A o.dst (oA B) ls d h K
   |none=>A.fail
  |some .string,.st (.leaf (.v (.string s))),.st (.leaf (.i _ j))=>A.jw (JE s j) λb=>my o.dst (.st (.leaf (.i .u8 b))) d h K
  |_,_,_=>A.fail
 | .lookup t m k ok=>match X.C.P.underlying t,km d m,Dt d k with
  |some (.map E M),.st (.leaf (.v m)),some k=>match ft X.C.P M with
   |some z=>match B,ok with
    | [F],false=>A.ma (.fn (Gr X.C E (lj F) z m k.val false)) h λw=>K4 A F w λx r=>A.tf r (my o.dst (.st x) d h K)
    | [F,.leaf .b],true=>A.ma (.fn (Gr X.C E (lj F) z m k.val true)) h λw=>K4 A F w λx r=>A.E7 r λt r=>A.tf r (my o.dst (.K1 [x,.leaf (.b t)]) d h K)
    |_,_=>A.fail
   |none=>A.fail
  |_,_,_=>A.fail
 | .mapUpdate t m k v=>match X.C.P.underlying t,km d m,Dt d k,Dt d v with
  |some (.map E _),.st (.leaf (.v m)),some k,some v=>A.heap (.fn (G5 X.C E m k.val v.val)) h λ_ h=>my o.dst .un d h K
  |_,_,_,_=>A.fail
 | .insert t m k v=>match X.C.P.underlying t,km d m,Dt d k,Dt d v with
  |some (.map E _),.st (.leaf (.v m)),some k,some v=>A.heap (.fn (G5 X.C E m k.val v.val)) h λ_ h=>my o.dst .un d h K
  |_,_,_,_=>A.fail
 | .mapEntry t m k=>match X.C.P.underlying t,km d m,Dt d k with
  |some (.map E M),.st (.leaf (.v m)),some k=>match ft X.C.P M with
   |some z=>match B with
    | [F,.leaf (.i .i64)]=>A.heap (.fn (meG X.C E (lj F) z m k.val)) h λw h=>K4 A F w λx r=>A.td .i64 r λn r=>A.tf r (my o.dst (.K1 [x,.leaf (.i .i64 n)]) d h K)
    |_=>A.fail
   |none=>A.fail
  |_,_,_=>A.fail
 | .entryStore _ m s v=>match km d m,km d s,Dt d v with
  | .st (.leaf (.v m)),.st (.leaf (.i _ b)),some v=>A.heap (.fn (esG m b v.val)) h λ_ h=>my o.dst .un d h K
  |_,_,_=>A.fail
 | .extract t i=>match km d t with
  | .K1 D=>match D[i]? with
   |some x=>my o.dst (.st x) d h K
   |none=>A.fail
  |_=>A.fail
 | .call c=>match D1 d c.args.toList with
  |some D=>match c.callee with
   | .builtin b=>oE A X o.dst (oA B) b D c.argTypes d h K
   | .value f=>match km d f with
    | .st (.leaf (.v v))=>match f with
     | .func g=>match Sg g with
      |some W=>match cJ D W.ps with
       |true=>A.call g (cV D) h λV h=>OW A o.dst W.rs V d h K
       |false=>A.fail
      |none=>A.fail
     |_=>A.Dw v (ao D) B h λV h=>OW A o.dst B V d h K
    |_=>A.fail
   |_=>A.fail
  |none=>A.fail
 |_=>A.fail
def A7(X:DQ)(Sg:Td)(ops:To)(o:Oper)(e:TN)(a:Env)(h:HT)(K:KN R HT):R:=
 match o.guard with
 |none=>A5 A X Sg o e a h K
 |some (j,c)=>match (ops[j]?).bind (·.dst)with
  |some d=>match a.tm.getD d .no with
   | .st (.leaf (.l b))=>match b==c with
    |true=>A5 A X Sg o e a h K
    |false=>my o.dst .un a h K
   | .un=>my o.dst .un a h K
   | .st (.leaf (.b t))=>match c with
    |true=>A.cond t (Gn (.st (.leaf (.l true))) a.tm d λtm=>A5 A X Sg o e ⟨tm,a.lc⟩ h K) (Gn (.st (.leaf (.l false))) a.tm d λtm=>my o.dst .un ⟨tm,a.lc⟩ h K)
    |false=>A.cond t (Gn (.st (.leaf (.l true))) a.tm d λtm=>my o.dst .un ⟨tm,a.lc⟩ h K) (Gn (.st (.leaf (.l false))) a.tm d λtm=>A5 A X Sg o e ⟨tm,a.lc⟩ h K)
   |_=>A.fail
  |none=>A.fail
abbrev _root_.TA:=List Oper
def OH(X:DQ)(Sg:Td)(ops:To)(l:TA):List (TN)->Env->HT->KN R HT->R:=
 List.rec (motive:=λ_=>List (TN)->Env->HT->KN R HT->R) (λ_ a h K=>K a h)
  (λo _ c b a h K=>A7 A X Sg ops o (b.headD []) a h λa h=>c b.tail a h K) l
end
namespace Sx
def lG(_ _:Oper):Bool:=false
def Le(a:TC)(o:Oper):Nat:=
 o.after.toList.foldl (λm e=>match Region.binds .any e with
  |true=>Nat.lor (Nat.lor m (Nat.shiftLeft 1 e.on)) (a.getD e.on 0)
  |false=>m) 0
def Gy:TA->TC->List Nat
 | [],a=>a
 |o :: l,a=>Gy l (a++[Le a o])
def El:Value->List Nat
 | .pointer (some a)=>match a.spot with
  |none=>[a.block]
  |some _=>[]
 | .slice (some a) _ _=>match a.spot with
  |some 1=>[]
  |_=>[a.block]
 | .map (some id)=>[id]
 |_=>[]
def lA:Value->List Nat
 | .pointer (some a)=>match a.spot with
  |none=>[a.block]
  |some _=>[]
 |_=>[]
def d7:Value->List Nat
 | .map (some id)=>[id]
 |_=>[]
def dw(b_:TC)(o:Oper):List Operand×Nat:=
 match o.op with
 | .load _ a=>match ou b_ a with
  |0=>([a],0)
  |_=>([],0)
 | .store _ a _=>match ou b_ a with
  |0=>([a],0)
  |_=>([],0)
 | .slice _ x _ _ _=>([x],1)
 | .lookup _ m _ _=>([m],0)
 | .mapUpdate _ m _ _ | .insert _ m _ _ | .mapEntry _ m _ | .entryStore _ m _ _=>([m],0)
 | .call c=>match c.callee with
  | .builtin b=>match b with
   | .append | .copy=>(c.args.toList,0)
   | .delete | .clear=>(c.args.toList.take 1,0)
   | .len=>(c.args.toList,2)
   |_=>([],0)
  |_=>([],0)
 |_=>([],0)
def C':Nat->Value->List Nat
 |0,v=>El v
 |1,v=>lA v
 |_,v=>d7 v
def fG(b_:TC)(o:Oper):List Operand:=
 match o.op with
 | .store _ a _=>match ou b_ a with
  |0=>[a]
  |_=>[]
 | .mapUpdate _ m _ _ | .insert _ m _ _ | .mapEntry _ m _ | .entryStore _ m _ _=>[m]
 | .call c=>match c.callee with
  | .builtin b=>match b with
   | .append | .copy | .delete | .clear=>c.args.toList.take 1
   |_=>[]
  |_=>[]
 |_=>[]
def E3(b_:TC)(o:Oper):Nat:=
 match o.op with
 | .load _ a=>match ou b_ a with
  |0=>1
  |_=>0
 | .store _ a _=>match ou b_ a with
  |0=>2
  |_=>0
 | .alloc _ | .box _ _=>match dI b_ o with
  |true=>2
  |false=>0
 | .buildSlice _ _ _ | .makeMap _ _ | .makeSlice _ _ _ | .mapUpdate _ _ _ _ | .mapEntry _ _ _ | .entryStore _ _ _ _ | .insert _ _ _ _=>2
 | .lookup _ _ _ _ | .slice _ _ _ _ _=>1
 | .call c=>match c.callee with
  | .builtin b=>match b with
   | .append | .copy | .delete | .clear=>2
   | .len=>1
   |_=>0
  |_=>0
 |_=>0
def Qf(b_:TC)(a b:Oper):Bool:=Nat.ble 3 (E3 b_ a+E3 b_ b) && !lG a b
def vQ(b_:TC)(b:Oper)(m i:Nat):TA->Nat->List (Nat×Nat)
 | [],_=>[]
 |a :: l,k=>match Nat.testBit m k || !Qf b_ a b with
  |true=>vQ b_ b m i l (k+1)
  |false=>(k,i) :: vQ b_ b m i l (k+1)
def zT(b_:TC)(ms:TC):TA->TA->Nat->List (Nat×Nat)
 |_,[],_=>[]
 |pre,b :: l,i=>vQ b_ b (ms.getD i 0) i pre 0++zT b_ ms (pre++[b]) l (i+1)
def zU(b_:TC)(ops:To):List (Nat×Nat):=zT b_ (Gy ops.toList []) [] ops.toList 0
def Iu(x:Nat):TC->Bool
 | []=>false
 |y :: l=>match Nat.beq x y with
  |true=>true
  |false=>Iu x l
def DG:TC->TC->Bool
 | [],_=>true
 |x :: l,m=>match Iu x m with
  |true=>false
  |false=>DG l m
def Ew:List (Value×Nat×Value)->Option Unit
 | []=>some ()
 |p :: l=>match DG (El p.1) (C' p.2.1 p.2.2)with
  |true=>Ew l
  |false=>none
def eD:SV->Option (Tn)
 | .st (.leaf (.v x))=>some [x]
 | .no=>none
 |_=>some []
def tQ(c:Env):List Operand->Option (Tn)
 | []=>some []
 |x :: l=>match eD (km c x),tQ c l with
  |some a,some b=>some (a++b)
  |_,_=>none
def Un(b_:TC)(o:Oper):List Operand:=fG b_ o++match E3 b_ o,o.dst with
 |2,some d=>[.tmp d]
 |_,_=>[]
def I'(us:Tn)(k:Nat)(vs:Tn):List (Value×Nat×Value):=us.flatMap λu=>vs.map λv=>(u,k,v)
def KR(b_:TC)(c:Env)(a b:Oper):Option (List (Value×Nat×Value)):=
 match tQ c (Un b_ a),tQ c (Un b_ b),tQ c (dw b_ a).1,tQ c (dw b_ b).1 with
 |some d,some e,some f,some g=>some (I' d (dw b_ b).2 g++I' d 0 e++I' e (dw b_ a).2 f)
 |_,_,_,_=>none
def vg(b_:TC)(ops:To)(c:Env):List (Nat×Nat)->Option (List (Value×Nat×Value))
 | []=>some []
 |p :: l=>match ops[p.1]?,ops[p.2]?,vg b_ ops c l with
  |some a,some b,some r=>(KR b_ c a b).map λx=>x++r
  |_,_,_=>none
def sepK{R a:Type}(A:Dv R a)(b_:TC)(ops:To)(ps:List (Nat×Nat))(c:KN R a):KN R a:=
 match ps with
 | []=>c
 |ps=>λb h=>match vg b_ ops b ps with
  |some l=>A.jw (Ew l) λ_=>c b h
  |none=>A.fail
def HC:List (Nat×Nat)->Option (Nat×Nat)
 | []=>none
 |p :: l=>match l with
  | []=>match Nat.ble 1000 p.1 with
   |true=>some (p.1 - 1000,p.2)
   |false=>none
  |_=>none
def Ki(x y:Value):Option Unit:=match x with
 | .func (.yield l) a b=>match y with
  | .func (.yield m) c d=>match Nat.beq l m,a.toList,b.toList,c.toList,d.toList with
   |true,[],[],[],[]=>some ()
   |_,_,_,_,_=>none
  |_=>none
 |_=>none
def V3:SV->Option Value
 | .st (.leaf (.v x))=>some x
 |_=>none
def reK{R a:Type}(A:Dv R a)(X:DQ)(Sg:Td)(ops:To)(k:Nat)(e:TN)(b:Env)(h:a)(f:KN R a):R:=
 match ops[k]? with
 |some o=>match o.dst with
  |some d=>A7 A X Sg ops o e b h λc _=>match V3 (b.tm.getD d .no),V3 (c.tm.getD d .no)with
   |some x,some y=>A.jw (Ki x y) λ_=>f b h
   |_,_=>A.fail
  |none=>A.fail
 |none=>A.fail
def GD(l:List (Nat×Nat)):Option (List (Nat×Nat)):=match l with
 | []=>none
 |p :: l=>match Nat.ble 5000 p.1 with
  |true=>some l
  |false=>none
def dC:Int->Int->Bool
 | .ofNat a,.ofNat b=>Nat.beq a b
 | .negSucc a,.negSucc b=>Nat.beq a b
 |_,_=>false
def kE:Ts->Ts->Bool
 |none,none=>true
 |some a,some b=>Nat.beq a b
 |_,_=>false
def Kh:Option Addr->Option Addr->Bool
 |none,none=>true
 |some a,some b=>match Nat.beq a.block b.block,Nat.beq a.off b.off with
  |true,true=>kE a.spot b.spot
  |_,_=>false
 |_,_=>false
def QC(x y:Value):Option Unit:=match x with
 | .pointer a=>match y with
  | .pointer b=>match Kh a b with
   |true=>some ()
   |false=>none
  |_=>none
 | .slice a n c=>match y with
  | .slice b m d=>match Kh a b,Nat.beq n m,Nat.beq c d with
   |true,true,true=>some ()
   |_,_,_=>none
  |_=>none
 | .map a=>match y with
  | .map b=>match kE a b with
   |true=>some ()
   |false=>none
  |_=>none
 |_=>Ki x y
def lD(x y:Int):Option Unit:=match dC x y with
 |true=>some ()
 |false=>none
def eg(x y:Bool):Option Unit:=match x,y with
 |true,true=>some ()
 |false,false=>some ()
 |_,_=>none
def SY{R c:Type}(A:Dv R c)(x y:SL)(K:R):R:=match x with
 | .i k n=>match y with
  | .i d m=>match df k d with
   |true=>A.jw (lD n m) λ_=>K
   |false=>A.fail
  |_=>A.fail
 | .b t=>match y with
  | .b u=>A.jw (eg t u) λ_=>K
  |_=>A.fail
 | .v a=>match y with
  | .v b=>A.jw (QC a b) λ_=>K
  |_=>A.fail
 | .l _=>A.fail
def M0{R a:Type}(A:Dv R a):List SL->List SL->R->R
 | [],[],K=>K
 |x :: l,y :: m,K=>SY A x y (M0 A l m K)
 |_,_,_=>A.fail
def samS{R c:Type}(A:Dv R c)(x y:SV)(K:R):R:=match x with
 | .st (.leaf a)=>match y with
  | .st (.leaf b)=>SY A a b K
  |_=>A.fail
 | .st (.agg a)=>match y with
  | .st (.agg b)=>M0 A a b K
  |_=>A.fail
 |_=>A.fail
def opsM{R a:Type}(A:Dv R a)(X:DQ)(Sg:Td)(ops:To)(l:TA):List (TN)->Env->a->(Env->a->List a->R)->R:=
 List.rec (motive:=λ_=>List (TN)->Env->a->(Env->a->List a->R)->R) (λ_ b h K=>K b h [])
  (λo _ g d b h K=>A7 A X Sg ops o (d.headD []) b h λb h=>g d.tail b h λc e f=>K c e (h :: f)) l
def atM{j7:Type}(h0:j7)(a:List j7)(p:Nat×Nat):j7:=(h0 :: a).getD (match Nat.ble p.1 p.2 with
 |true=>p.2+1
 |false=>p.2) h0
def reM{R a:Type}(A:Dv R a)(X:DQ)(Sg:Td)(ops:To)(f:List (TN))(b:Env)(h0:a)(e:List a)(K:R):List (Nat×Nat)->R
 | []=>K
 |p :: l=>match ops[p.1]? with
  |some o=>match o.dst with
   |some d=>A7 A X Sg ops o (f.getD p.1 []) b (atM h0 e p) λc _=>samS A (b.tm.getD d .no) (c.tm.getD d .no) (reM A X Sg ops f b h0 e K l)
   |none=>A.fail
  |none=>A.fail
def regE{R d:Type}(A:Dv R d)(X:DQ)(Sg:Td)(ops:To)(b:List (TN))(f:List (Nat×Nat))(a:Env)(h:d)(e:KN R d):R:=
 match GD f with
 |some l=>opsM A X Sg ops ops.toList b a h λc g i=>reM A X Sg ops b c h i (e c g) l
 |none=>match HC f with
  |none=>OH A X Sg ops ops.toList b a h (sepK A X.b_ ops f e)
  |some p=>OH A X Sg ops (ops.toList.take (p.2+1)) b a h λa h=>reK A X Sg ops p.1 (b.getD p.1 []) a h λa h=>
   OH A X Sg ops (ops.toList.drop (p.2+1)) (b.drop (p.2+1)) a h e
end Sx
abbrev Dr:=List Nat->To->Option (List (Nat×Nat))
section
variable {R HT:Type} (A:Dv R HT)
def vV(e:Exit)(id:Nat):Bool:=match e with
 | .exit i=>Nat.beq i id
 |_=>false
def pK(tm:List SV):List (Nat×SK)->Option (Tn)
 | []=>some []
 |(t,a) :: l=>match tm.getD t .no,pK tm l with
  | .st x,some vs=>match x.is a with
   |true=>some (x.val :: vs)
   |false=>none
  |_,_=>none
def drX(b:Dr)(a:Bool)(b_:TC)(ops:To):Option (List (Nat×Nat)):=match a with
 |true=>b b_ ops
 |false=>some []
def exec(X:DQ)(Sg:Td)(x:Dr)(c:AC):Env->HT->KN R HT->(Exit->KN R HT)->R:=
 AC.rec (motive:=λ_=>Env->HT->KN R HT->(Exit->KN R HT)->R)
  (λd h g _=>g d h)
  (λd h _ i=>i .ret d h)
  (λid d h _ i=>i (.exit id) d h)
  (λ_ d h g _=>g d h)
  (λ_ _ m n d h g i=>m d h (λd h=>n d h g i) i)
  (λ_ r d h g i=>r d h g i)
  (λid q o y j d h g _=>match drX x o X.b_ q with
   |none=>A.fail
   |some B=>wB A X.b_ (.region id q o) j d g λg=>Sx.regE A X Sg q y B d h g)
  (λc a b j m n d h g i=>match km d c with
   | .st (.leaf (.l true))=>m d h g i
   | .st (.leaf (.l false))=>n d h g i
   | .st (.leaf (.b t))=>wB A X.b_ (.cond c (a.erase λk t=>gI (X.T k) t) (b.erase λk t=>gI (X.T k) t)) j d g λg=>A.cond t (m d h g i) (n d h g i)
   |_=>A.fail)
  (λid b j r d h g i=>wB A X.b_ (b.erase λk t=>gI (X.T k) t) j d g λg=>r d h g λe=>match vV e id with
   |true=>g
   |false=>i e)
  (λb lv r d h _ i=>match pk d lv with
   |none=>A.fail
   |some s=>match lv.rows.all λp=>!(aR X.b_ (b.erase λk t=>gI (X.T k) t)).contains p.1 with
    |false=>A.fail
    |true=>A.loop (λu s h=>reE A X.b_ (b.erase λk t=>gI (X.T k) t) .nil lv d s λd=>r d h (λd h=>match pk d lv with
     |some s=>u s h
     |none=>A.fail) i) s h)
  (λf k w d h g i=>match f,km d f,X.b_ with
   | .tmp _,.st (.leaf (.v v)),_ :: _=>match Nat.beq d.tm.length (X.T k).nt,pK d.tm (X.T k).caps with
    |true,some C=>A.Ft k v C h λz h=>A.Fg z (g d h) (i .ret d h) (w.map λid=>(id,i (.exit id) d h))
    |_,_=>A.fail
   |_,_,_=>A.fail) c
def J6(cs:List SL)(K:R):R:=
 List.rec K (λc _ a=>match c with
  | .v x=>A.jw (GA x) λ_=>a
  |_=>a) cs
def iH(a:Bool)(x:S0)(K:R):R:=
 match a,x with
 |true,.agg b=>J6 A b K
 |_,_=>K
def H5(X:DQ)(c:Bool)(j:Env)(h:HT)(l:List ResultVar):TN->TG->(TG->HT->R)->R:=
 List.rec (motive:=λ_=>TN->TG->(TG->HT->R)->R) (λb d K=>match b with
   | []=>K d h
   |_=>A.fail)
  (λm _ i b d K=>match b with
   | []=>A.fail
   |g :: b=>match m with
    | .tmp t=>match j.tm.getD t .no with
     | .st x=>match x.is g with
      |true=>iH A c x (i b (d++x.cells.map SL.lf) K)
      |false=>A.fail
     |_=>A.fail
    | .cell a t=>match B2 X.C.P t with
     |some e=>
      let n:=if e then X.C.P.cellsOf t else 1
      match j.tm.getD a .no with
      | .HQ s k=>match (uW j s).bind (λf=>(E1 f k n).bind (HV e))with
       |some x=>match x.is g with
        |true=>iH A c x (i b (d++x.cells.map SL.lf) K)
        |false=>A.fail
       |none=>A.fail
      | .st (.leaf (.v p))=>match e,g with
       |true,.agg _=>A.ma (.ld n p) h λf=>K4 A g f λx r=>A.tf r (iH A c x (i b (d++x.cells.map SL.lf) K))
       |false,.leaf _=>A.ma (.ld n p) h λf=>K4 A g f λx r=>A.tf r (iH A c x (i b (d++x.cells.map SL.lf) K))
       |_,_=>A.fail
      |_=>A.fail
     |none=>A.fail) l
structure Fn1 where
 sg:H7
 nt:Nat
 rvs:List ResultVar
 code:AC
def aw(X:DQ)(Sg:Td)(d:Dr)(a:Fn1)(ls:TG)(h:HT)(K:TG->HT->R):R:=
 JI A a.sg.ps ls λc r=>A.A1 r (
  exec A X Sg d a.code ⟨c.map .st++replicate (a.nt - c.length) .no,replicate a.nt .nil⟩ h
   (λb h=>H5 A X (Nat.blt 1 a.rvs.length) b h a.rvs a.sg.rs [] K)
   λe b h=>match e with
    | .ret=>H5 A X (Nat.blt 1 a.rvs.length) b h a.rvs a.sg.rs [] K
    |_=>A.fail)
def gw(a:Nat):List (Nat×SK)->List S0->List SV->List SV
 |(t,_) :: l,x :: xs,tm=>gw a l xs (tm.set t (.st x))
 |_,_,tm=>tm
def GX:AC->Bool
 | .seq a b=>GX a&&GX b
 | .scope b=>GX b
 | .cond _ a b _=>GX a&&GX b
 | .block _ b _=>GX b
 | .loop b _=>GX b
 | .rangeFunc _ _ _=>false
 |_=>true
def ux(l:List (Nat×SK)):Bool:=l.all λp=>match p.2 with
 | .leaf _=>true
 | .agg _=>false
def vW(X:DQ)(Sg:Td)(a:Dr)(st:Site)(vs:Tn)(l:Nat)(ls:TG)(h:HT)(K:TG->HT->R):R:=
 match ux st.caps&&GX st.assign&&GX st.body with
 |false=>A.fail
 |true=>y3 A (st.caps.map (·.2)) vs λd r=>A.tf r (JI A (st.params.map (·.2)) ls λf r=>A.A1 r (
  exec A { X with b_:=[] } Sg a st.assign ⟨gw st.nt st.params f (gw st.nt st.caps d (replicate st.nt .no)),[]⟩ h
   (λc h=>A.JW l h λh=>exec A { X with b_:=[] } Sg a st.body c h
    (λ_ h=>A.HU l none h λh=>K [.b true] h)
    λe _ h=>match e with
     | .ret=>A.HU l (some .ret) h λh=>K [.b false] h
     | .exit id=>A.HU l (some (.exit id)) h λh=>K [.b false] h
     |_=>A.fail)
   λ_ _ _=>A.fail))
end
inductive An where
 |r (hs:List (TN)) (j:Option Live)
 |c (j:Option Live)
 |b (j:Option Live)
 |l (lv:Live)
 |f (m9:Nat) (ids:TC)
abbrev lv:SK:=.leaf .v
abbrev lb:SK:=.leaf .b
abbrev M:SK:=.leaf (.i .i64)
def rn:Code->List An->AC×List An
 | .skip,l=>(.skip,l)
 | .ret,l=>(.ret,l)
 | .exit id,l=>(.exit id,l)
 | .label n,l=>(.label n,l)
 | .seq a b,l=>
  let x:=rn a l
  let y:=rn b x.2
  (.seq x.1 y.1,y.2)
 | .scope b,l=>
  let x:=rn b l
  (.scope x.1,x.2)
 | .region id g d,.r h j :: l=>(.region id g d h j,l)
 | .cond c a b,.c j :: l=>
  let x:=rn a l
  let y:=rn b x.2
  (.cond c x.1 y.1 j,y.2)
 | .block id b,.b j :: l=>
  let x:=rn b l
  (.block id x.1 j,x.2)
 | .loop b,.l lv :: l=>
  let x:=rn b l
  (.loop x.1 lv,x.2)
 | .rangeFunc f _ _ _,.f i e :: l=>(.rangeFunc f i e,l)
 |_,l=>(.exit 1000000,l)
def Kb(P:TI)(f:TQ):Code:=((P.funcs[f]?).bind (·.body)).getD .skip
def jz:Code->List (Array Tmp×Code×Code)
 | .seq a b=>jz a++jz b
 | .scope b=>jz b
 | .cond _ a b=>jz a++jz b
 | .block _ b=>jz b
 | .loop b=>jz b
 | .rangeFunc _ c a b=>[(c,a,b)]
 |_=>[]
def site(c:Code)(i e:Nat)(caps d:List (Nat×SK))(a b:List An):Site:=
 match (jz c)[i]? with
 |some (_,x,y)=>⟨e,caps,d,(rn x a).1,(rn y b).1⟩
 |none=>⟨0,[],[],.skip,.skip⟩
def fn1(P:TI)(f:TQ)(sg:H7)(b:List An):Fn1:=
 match P.funcs[f]? with
 |some a=>⟨sg,a.ntmps,a.results.toList,(rn (Kb P f) b).1⟩
 |none=>⟨sg,0,[],.skip⟩
abbrev C_:SK:=.leaf (.i .u8)
abbrev Dp:SK:=.agg [.i .u8,.i .i64,.i .i64]
abbrev Dq:SK:=.agg [.i .i64,.i .i64,.i .u8]
abbrev Dx:SK:=.agg [.i .i64,.i .i64]
abbrev ED:SK:=.agg [.i .i64,.i .i64,.v]
abbrev G4:SK:=.agg [.i .i64,.i .u8,.i .u8]
abbrev HE:SK:=.agg [.i .i64,.i .u8]
abbrev HP:SK:=.agg [.i .i64,.b]
abbrev H9:SK:=.agg [.i .i64,.i .i64,.v,.i .u8,.i .i64,.i .i64,.v]
abbrev H_:SK:=.agg [.i .u8,.i .i64]
abbrev Ge:SK:=.agg [.i .i64,.i .i64,.i .i64,.i .i64]
abbrev QQ:SK:=.leaf (.i .u64)
abbrev Wu:SK:=.agg [.i .i64,.i .i64,.i .u8,.v]
abbrev nH:SK:=.agg [.i .u8,.i .u8,.v,.v]
abbrev nS:SK:=.agg [.i .u8,.i .u8,.v]
abbrev l5:SK:=.agg [.i .i64,.b,.i .i64,.b,.i .i64,.b,.i .i64,.b]
abbrev hR:SK:=.agg [.i .i64,.i .i64,.i .u8,.i .i64,.i .i64,.i .i64,.i .u8,.i .i64,.i .i64,.i .u8,.i .i64,.i .i64,.i .u8,.i .i64,.i .i64,.i .i64,.i .i64]
abbrev Z:An:=.r [] none
abbrev E:An:=.c none
abbrev ts:An:=.b none
abbrev I(x:List (TN)):An:=.r x none
open Go.Proofs
def om:Tn:=[1,0,0,1,0,-1,1,0,-1,0,0,-1,0,1,-1,0,-1,0,0,1,0,-1,-1,0,1,0,0,-1,0,1,1,0].map (.int .i64)
def p5:Tn:=[.int .i64 0,.int .i64 (-1),.int .u8 2,.int .i64 0,.int .i64 0,.int .i64 (-1),.int .u8 2,.int .i64 0,.int .i64 0,.int .u8 1,.int .i64 0,.int .i64 0,.int .u8 3,.int .i64 0,.int .i64 0,.int .i64 2,.int .i64 0,.int .i64 1,.int .i64 0,.int .u8 1,.int .i64 1,.int .i64 1,.int .i64 0,.int .u8 3,.int .i64 0,.int .i64 0,.int .u8 0,.int .i64 0,.int .i64 0,.int .u8 2,.int .i64 2,.int .i64 2,.int .i64 2,.int .i64 0,.int .i64 0,.int .i64 1,.int .u8 2,.int .i64 1,.int .i64 0,.int .i64 1,.int .u8 0,.int .i64 0,.int .i64 0,.int .u8 3,.int .i64 0,.int .i64 0,.int .u8 1,.int .i64 2,.int .i64 2,.int .i64 0,.int .i64 2,.int .i64 (-1),.int .i64 0,.int .u8 1,.int .i64 0,.int .i64 (-1),.int .i64 0,.int .u8 1,.int .i64 0,.int .i64 0,.int .u8 2,.int .i64 0,.int .i64 0,.int .u8 0,.int .i64 0,.int .i64 0,.int .i64 0,.int .i64 2]
def gl0:Tn:=[.int .u8 0,.int .u8 2,.int .u8 1,.int .u8 3]
def Sv:List (TC):=[[],[],[0],[23,4,5,0,7,25,12,24,5,23,5,23,5,24,5,0,5,25,5,5,24,5],[0,3,4,5,6,23,3,0,5,23,5,23,5,5,5,24,5,23,5,25,3,26,6,27,3,32,6],[24,5,6],[2],[0,3,4,0,6,23,9,10,24,14,31,6,29,3,0,9,25,3,3,23,10,23,10,0,10,23,10,0,3,27,3,24,9,26,6,23,14,0,14,0,9,25,6],[27,8,68,8,26,8,29,8,30,8],[0,3,4,5,23,3,25,3,27,3,37,3,32,3,27,3],[24,5,6],[0,3,4,31,3,25,3,35,1,25,3],[23,4,0,6],[23,4,5,33,5,25,5,0,4,25,5,25,5,0,4,24,5,0,4,23,5,24,5],[24,5,23,8],[0],[23,4,5],[23,4,5,0,4,0,5,23,4,0,5,23,4,23,5],[0,3,4,3,0,3],[23,4,5,33,5,32,5],[23,4,5],[25,6,7,35,7,0,7,7,29,7],[0,3,25,8,45,8,29,8,29,8],[23,4,5,6,7,8,24,12,31,5,23,4,4,23,4,4,24,4,24,4,26,4,25,5,0,12,23,5,24,12,23,12,26,12,29,12,27,12,26,4,24,8,23,12,54,5,65,8,0,4,0,4,38,5,33,5,23,8,8,27,4,4,37,8,8,8,8,23,8,8],[23,4,5,28,13,24,17,0,19,39,4,4,0,4,4],[0],[0],[0,3,24,7,8,23,3,26,3,23,3,28,3,0,7,0,7,35,3,26,3,27,3],[0,3,0,3,24,3,25,3,25,3,25,3,0,3],[23,4,27,4,23,4],[23,4,0,6,23,4,25,4],[0,3,0,3,24,3,25,3,25,3,25,3],[24,5,25,10,0,12],[0],[0],[23,4,0,6,23,4,25,4],[0,3,29,12,13,0,3,0,3,25,3,33,3,3,42,3,3,29,3,3],[0,3,4,3,24,3,26,3,26,3,0,3,23,3,23,3],[23,4,5,0,7,24,7,0,7,0,7,0,7,23,7,0,7,24,4,25,4],[23,4,5,6,7,8,9,0,11,41,7,23,7],[23,4,5,6],[0],[23,4,5,31,16,4,4,23,4,4,52,4,39,4,24,4],[24,5],[0],[23,4,5],[0],[23,4,5,0,4,0,5,23,4,0,5,23,4,23,5],[32,13,23,16,0,18,0,20],[26,7,0,9,24,13,24,17,0,19,44,7,0,9,24,7,0,9,42,7,0,13,25,7,0,13,55,17,0,19,24,17,0,19,24,17,0,19,24,17,0,19],[0],[0],[23,4,5,6,0,8,25,5,24,5,43,6],[0],[0],[0],[0,3,0,3],[0],[23,4,0,6,0,8,29,4,23,1,1,1,0,8,0,4,23,8,0,4,23,8,8],[0],[0],[],[],[],[0],[0],[],[0],[0],[0,3,24,7,24,3,3,23,3,3,25,3,26,3,29,3,0,7,27,3,0,7,24,7,26,7,25,7,27,3,25,7,28,7],[24,5,24,9,26,9,24,9,25,9,0,5,25,9,0,5,24,9,0,5,23,9,24,9],[23,4,5,6,7,24,7,24,7,26,7,26,7,23,7],[0,3,4,5,23,5,5,0,5,5,23,5,5,24,5,5,0,5,5,23,5,5],[23,4,5,6,24,5,0,5,0,4,26,4,31,4,25,4],[0],[0,3,4,5,23,3,23,3,24,3,0,5,24,3,0,5,24,5,31,5,25,5,26,5],[23,4,5,0,4,0,5,24,4,0,5,24,4,0,5,24,4,0,5,24,4,0,5],[23,4,5,6,4,0,5,23,4,0,5,25,4,0,5,23,4,0,5,25,4,0,5,25,4,0,5,25,4,0,4,24,4,0,4,25,4,0,4,23,4,0,4],[23,4,5,29,14,15,49,4],[0],[25,6,28,6,0,6],[23,4,5],[23,4,5,6,0,8],[24,5,25,10,40,5],[31,12,31,12,23,12],[0,3,26,3],[25,6,7,31,6,0,7,0,6,0,7,26,6,0,7,29,6,0,7,57,6,0,7,0,6,0,7,34,7,0,6,0,6,0,7],[27,8],[0],[0],[0],[0],[25,6,27,6,26,6,29,6,30,6,29,6],[25,6,23,9],[0],[],[],[],[],[],[24,5],[23,4,0,6,23,4,24,4,0,4,26,4,23,4,25,4,0,4,24,4,23,4,25,4,0,4,0,4,25,4,0,4,0,4],[0,3,4,23,7,3,23,3,28,3],[0],[0,3,0,3,25,3,25,3,25,3,0,3],[34,15],[23,4,5,6,34,5,0,1,0,4,0,4,25,4,0,1,0,5,0,1,25,5,24,5],[0],[],[],[0],[0],[],[0],[],[0],[23,4,5,6,7,8,9,0,11,23,5,0,1,1,28,4,4,27,7,0,7,25,7,0,7,31,11,26,9],[24,5,23,8,25,13,31,5,32,5],[24,5,6,7,25,5,25,5,27,5,24,7,0,5,0,7],[24,5,25,5,26,5,29,5],[0],[0],[0,3,24,7,3,24,3,28,7,0,7],[0,3,25,3,23,3],[28,9,10,0,12,0,14,0,16],[23,4,5,6,0,8,33,5],[0,3,4,26,3,24,3,26,3,26,3,0,3,23,3,23,3],[24,5,25,5,24,5,25,5,24,5],[0,3,4],[0,3,23,6],[23,4,5,6,27,4,0,4,27,4,0,4],[],[0],[0],[0],[0,3,4,3,24,3],[23,4,5,6,24,10,31,4,0,1,0,5,0,5,26,4,25,4],[24,5],[23,4,5,6,23,9,30,5,0,5,34,5],[23,4,0,6,0,8,9,29,4,0,1,0,8,0,4,0,8,27,4,0,4,28,4,0,4,25,8,23,4,0,8,23,9],[0,3,0,3,24,3,25,3,25,3],[],[0,3,0,3,24,3,25,3,25,3],[25,6],[23,4,5]].map (·.flatMap λx=>if x<21 then[x]else replicate (x-21) 0)
def cc:m8 where
 P:=Tryz.prog
 G:=λg=>match g with
  |2=>some om
  |1=>some p5
  |0=>some gl0
  |_=>none
 b_:=λf=>Sv.getD f []
def ac:TQ->Option H7
 |2=>some ⟨[],[]⟩
 |3=>some ⟨[nH,Dp],[lb]⟩
 |4=>some ⟨[nH],[ED]⟩
 |5=>some ⟨[ED,Dp,M],[M,M]⟩
 |6=>some ⟨[],[Dp]⟩
 |7=>some ⟨[ED],[ED,M]⟩
 |8=>some ⟨[],[lb]⟩
 |9=>some ⟨[nS],[H9]⟩
 |10=>some ⟨[ED,Dp,M],[lv,M]⟩
 |11=>some ⟨[ED],[ED,M]⟩
 |12=>some ⟨[Dx,M],[Dq,M]⟩
 |13=>some ⟨[Dx,Dq],[M,M]⟩
 |14=>some ⟨[Dx,M,C_],[HE,M]⟩
 |15=>some ⟨[lv,lv],[]⟩
 |16=>some ⟨[G4,G4],[M]⟩
 |17=>some ⟨[HE,HE],[M]⟩
 |18=>some ⟨[G4],[HE]⟩
 |19=>some ⟨[lv],[ED]⟩
 |20=>some ⟨[ED,Dp],[H9,M]⟩
 |21=>some ⟨[M,M],[H9]⟩
 |22=>some ⟨[H9],[lv]⟩
 |23=>some ⟨[H9,.agg [.i .u8,.i .i64,.i .u8,.b]],[H9]⟩
 |24=>some ⟨[ED,Dp],[lv,M]⟩
 |25=>some ⟨[lv],[lv]⟩
 |26=>some ⟨[lv],[lv]⟩
 |27=>some ⟨[ED],[M]⟩
 |28=>some ⟨[Dx],[M]⟩
 |29=>some ⟨[Dx,M],[lb]⟩
 |30=>some ⟨[Dx,M],[Dq]⟩
 |31=>some ⟨[Dq],[M]⟩
 |32=>some ⟨[Dx,M,C_],[M,M]⟩
 |33=>some ⟨[lv,M,M,M,lv],[]⟩
 |34=>some ⟨[QQ],[M]⟩
 |35=>some ⟨[Dx,M],[Dq]⟩
 |36=>some ⟨[H9],[lv]⟩
 |37=>some ⟨[H_],[Dp]⟩
 |38=>some ⟨[H_,Dq],[C_]⟩
 |39=>some ⟨[Dp,Dp],[Dp]⟩
 |40=>some ⟨[Dp,Dq],[Dq]⟩
 |41=>some ⟨[lv],[lv]⟩
 |42=>some ⟨[ED,Dp],[lv,M]⟩
 |43=>some ⟨[Dx,M,M],[C_]⟩
 |44=>some ⟨[lv],[lv]⟩
 |45=>some ⟨[ED,Dp],[lv,M]⟩
 |46=>some ⟨[lv,lv],[]⟩
 |47=>some ⟨[Dq,Dq],[M]⟩
 |48=>some ⟨[lv,lv],[lv,M]⟩
 |49=>some ⟨[lv,lv],[]⟩
 |50=>some ⟨[lv,lv],[]⟩
 |51=>some ⟨[M,lv,lv,lv],[lb]⟩
 |52=>some ⟨[lv],[H9]⟩
 |53=>some ⟨[lv,M,M,lv],[lb]⟩
 |54=>some ⟨[lv,M,lv],[]⟩
 |55=>some ⟨[lv,lv],[lb]⟩
 |56=>some ⟨[G4],[lb]⟩
 |57=>some ⟨[C_],[lb]⟩
 |58=>some ⟨[Dq,C_],[Dq,M]⟩
 |59=>some ⟨[lv,M,M,lv],[]⟩
 |60=>some ⟨[lv,M,M,lv],[]⟩
 |64=>some ⟨[lv,M,M,lv],[lb]⟩
 |65=>some ⟨[lv,M,M,M,lv],[M]⟩
 |67=>some ⟨[.leaf (.i .u32)],[M]⟩
 |68=>some ⟨[QQ],[M]⟩
 |69=>some ⟨[ED],[lv]⟩
 |70=>some ⟨[Dx,M,M],[M]⟩
 |71=>some ⟨[Dq,Dq],[H_]⟩
 |72=>some ⟨[Dq],[Dx]⟩
 |73=>some ⟨[Dp,Dx],[Dx]⟩
 |74=>some ⟨[M,M],[M]⟩
 |75=>some ⟨[Dx],[Dq]⟩
 |76=>some ⟨[Dq,Dq],[M]⟩
 |77=>some ⟨[Dq,Dq],[Dp]⟩
 |78=>some ⟨[ED,Dp],[lv,lv,M]⟩
 |79=>some ⟨[lv,M,M,M,lv],[]⟩
 |80=>some ⟨[lv],[M]⟩
 |81=>some ⟨[ED,Dp],[lv,M]⟩
 |82=>some ⟨[Dp,Dq],[Dq,M]⟩
 |83=>some ⟨[ED,M,C_],[C_,M]⟩
 |84=>some ⟨[lv,C_,M,M,lb],[]⟩
 |85=>some ⟨[Dp],[lb]⟩
 |86=>some ⟨[lv,HP,HP],[]⟩
 |87=>some ⟨[lv,M,M],[HP]⟩
 |88=>some ⟨[lv],[lv]⟩
 |89=>some ⟨[lv],[lv]⟩
 |90=>some ⟨[lv],[lv]⟩
 |91=>some ⟨[lv],[lv]⟩
 |92=>some ⟨[lv,HP,lv],[lb]⟩
 |93=>some ⟨[lv],[lb]⟩
 |94=>some ⟨[lv,lv],[M]⟩
 |100=>some ⟨[Dx,M,M],[M]⟩
 |101=>some ⟨[Dq,M],[Dq]⟩
 |102=>some ⟨[Dq],[.agg [.i .i64,.i .i64,.i .i64,.i .i64,.i .i64,.i .i64]]⟩
 |103=>some ⟨[M,M],[M]⟩
 |104=>some ⟨[Dp],[M]⟩
 |105=>some ⟨[ED],[lv,M]⟩
 |106=>some ⟨[Dp,Dp],[Dp,M]⟩
 |107=>some ⟨[lv,M,M,lv],[]⟩
 |110=>some ⟨[lv,M,M,lv],[M,M]⟩
 |111=>some ⟨[lv,M,M,lv],[]⟩
 |113=>some ⟨[lv,M,M,M,lv],[M]⟩
 |115=>some ⟨[M,M],[M]⟩
 |116=>some ⟨[Dp,Dq],[Dq]⟩
 |117=>some ⟨[ED,M,C_],[HE,M,lb,M]⟩
 |118=>some ⟨[lv,HP],[HP]⟩
 |119=>some ⟨[lv,HP],[M]⟩
 |120=>some ⟨[lv,M,M,lv,lv],[M,M]⟩
 |121=>some ⟨[M],[lb]⟩
 |122=>some ⟨[ED],[lv]⟩
 |123=>some ⟨[Dx],[M]⟩
 |124=>some ⟨[M,C_,lv,lv,lv],[Dp]⟩
 |125=>some ⟨[Dx,HE],[H_,M]⟩
 |126=>some ⟨[H_],[Dp,M]⟩
 |127=>some ⟨[Ge,M,M],[M,M]⟩
 |128=>some ⟨[Dp],[Dp,M]⟩
 |129=>some ⟨[Ge],[C_]⟩
 |130=>some ⟨[Ge,Ge],[Ge]⟩
 |132=>some ⟨[lv,M,lv,lv],[M]⟩
 |133=>some ⟨[lv,M,M,M,lv,lv],[M]⟩
 |134=>some ⟨[M],[lb]⟩
 |135=>some ⟨[Dq],[Dx]⟩
 |136=>some ⟨[Dp,Dx],[Dx,M]⟩
 |137=>some ⟨[lv,HE],[M,lb]⟩
 |138=>some ⟨[Dx,HE],[Dq,M]⟩
 |139=>some ⟨[Dq,C_],[H_,M]⟩
 |140=>some ⟨[H_],[M]⟩
 |142=>some ⟨[Dx],[M]⟩
 |143=>some ⟨[lv,HE,lv],[M,lb]⟩
 |144=>some ⟨[G4,HE],[M]⟩
 |_=>none
def an3:List An:=[Z,I [[],[C_],[],[],[M],[],[],[M]],I [[],[M],[],[M]],.c (some ⟨[],[(3,[.i .u8,.i .i64,.i .i64])]⟩),Z,I [[],[M]],I [[nH]],I [[ED]],I [[ED],[Dp]],I [[ED]],I [[ED]],.r [] (some ⟨[(4,lb)],[]⟩)]
def an4:List An:=[Z,I [[],[nS]],I [[],[C_],[],[],[C_]],I [[],[lv]],.c (some ⟨[],[(3,[.i .u8,.i .u8,.v])]⟩),I [[],[lv]],I [[nS]],Z,.b (some ⟨[],[]⟩),.l ⟨[(5,M)],[]⟩,I [[],[],[lv],[],[],[],[],[],[lv]],E,ts,I [[],[lv],[],[],[C_]],Z,.c (some ⟨[],[]⟩),I [[],[lv]],Z,I [[ED]]]
def an5:List An:=[Z,I [[ED],[Dp]],Z]
def an6:List An:=[Z,Z]
def an7:List An:=[Z,I [[ED]],Z,E,Z,I [[],[lv]],ts,.l ⟨[(26,M)],[]⟩,Z,E,ts,I [[],[],[G4]],I [[],[Dx],[],[M]],I [[],[],[M],[],[],[M]],I [[],[],[C_],[C_]],I [[],[Dx],[Dq]],I [[],[Dx],[],[],[],[C_],[C_]],I [[],[lv],[],[],[M],[],[C_],[],[C_]],Z,I [[],[lv]],I [[ED]]]
def an8:List An:=[Z,Z,Z,Z,ts,.l ⟨[(3,M)],[]⟩,Z,E,ts,I [[],[],[],[lv]],I [[],[],[],[],[M]],E,Z,Z,I [[],[],[lv]],.r [[],[],[],[],[lv],[],[],[],[],[],[lv],[],[],[lv],[],[],[],[],[],[lv],[],[],[lv],[],[M],[],[],[],[],[lv],[],[],[lv],[],[M]] (some ⟨[(0,lb)],[]⟩)]
def an9:List An:=[Z,I [[],[C_],[],[],[],[],[C_]],Z,.b (some ⟨[],[(3,[.i .i64,.i .i64,.v,.i .u8,.i .i64,.i .i64,.v])]⟩),.l ⟨[(4,M)],[(3,[.i .i64,.i .i64,.v,.i .u8,.i .i64,.i .i64,.v])]⟩,I [[],[],[lv]],E,ts,I [[H9]],Z,E,I [[H9],[],[],[lv],[],[],[],[C_],[],[],[],[],[],[H_],[],[lv],[],[],[],[C_],[],[],[lv],[],[],[],[C_]],Z,I [[H9]]]
def an10:List An:=[Z,I [[ED],[Dp]],Z,E,Z,I [[M],[],[],[M]],E,Z,Z,Z,.b (some ⟨[],[]⟩),.f 160 [0],I [[lv]]]
def an11:List An:=[Z,I [[ED]],Z,E,Z,I [[],[lv]],I [[],[],[lv]],Z,ts,.l ⟨[(23,M)],[]⟩,Z,E,ts,Z,I [[],[],[],[],[],[],[C_],[],[C_]],Z,I [[],[Dx]]]
def an12:List An:=[Z,I [[Dx]],Z,E,Z,I [[Dx]],E,Z,I [[Dx]]]
def an13:List An:=[Z,I [[Dx]],Z,E,Z,I [[Dq],[],[],[],[],[M],[],[],[],[],[M],[],[M],[],[],[],[],[M],[],[],[],[],[M],[],[M]],E,Z,I [[],[M],[],[M],[],[],[M],[],[],[],[C_]]]
def an14:List An:=[Z,I [[Dx]],Z,E,Z,Z]
def an15:List An:=[Z,Z]
def an16:List An:=[Z,I [[G4],[],[G4]]]
def an17:List An:=[Z,I [[],[M],[],[M]],E,I [[],[M],[],[M]],I [[],[C_],[],[],[C_]]]
def an18:List An:=[Z,I [[],[M],[],[C_]]]
def an19:List An:=[Z,Z,Z,ts,.l ⟨[(4,M)],[(3,[.i .i64,.i .i64,.v])]⟩,Z,E,ts,I [[],[lv],[],[],[],[],[],[],[C_]],Z,I [[ED]]]
def an20:List An:=[Z,I [[ED],[Dp]],Z,E,Z,Z,ts,.f 320 [],Z]
def an21:List An:=[Z,Z,Z,ts,.l ⟨[(6,M)],[(5,[.i .i64,.i .i64,.v,.i .u8,.i .i64,.i .i64,.v])]⟩,Z,E,ts,I [[],[lv],[],[],[Dx]],Z,I [[H9]]]
def an22:List An:=[Z,I [[H9]],Z,Z,ts,.l ⟨[(4,lv),(5,M)],[]⟩,Z,E,ts,I [[],[],[],[],[H_]],Z,.b (some ⟨[(7,M)],[]⟩),.l ⟨[(7,M)],[]⟩,I [[],[],[],[],[],[],[],[],[],[C_],[],[C_],[],[],[],[],[],[],[C_],[],[C_],[],[],[],[],[],[],[M],[],[M]],.c (some ⟨[],[]⟩),ts,Z,I [[],[],[],[],[],[],[],[],[H_],[H_]],.c (some ⟨[(4,lv)],[]⟩),I [[],[],[],[],[],[H_]],Z,Z]
def an23:List An:=[Z,I [[],[H_]],I [[],[],[Dx],[],[],[],[lv],[],[],[],[Dp]],Z,Z,ts,.l ⟨[(8,lv),(7,lv),(9,M)],[(6,[.i .i64,.i .i64,.v,.i .u8,.i .i64,.i .i64,.v])]⟩,I [[],[],[lv]],E,.b (some ⟨[(8,lv),(7,lv)],[(6,[.i .i64,.i .i64,.v,.i .u8,.i .i64,.i .i64,.v])]⟩),I [[],[lv],[],[],[Wu]],I [[],[H_],[],[Dq],[],[],[C_]],E,I [[],[],[Dq],[],[],[lv]],Z,I [[],[lv]],ts,.l ⟨[(11,lv),(12,M)],[(6,[.i .i64,.i .i64,.v,.i .u8,.i .i64,.i .i64,.v])]⟩,Z,E,ts,I [[],[],[lv],[],[],[M]],I [[],[lv],[],[],[M]],.c (some ⟨[],[(6,[.i .i64,.i .i64,.v,.i .u8,.i .i64,.i .i64,.v])]⟩),I [[],[Dp],[Dp]],Z,I [[],[Dp],[],[Dq]],Z,Z,ts,.l ⟨[(8,lv),(13,M)],[]⟩,Z,E,ts,Z,Z,.b (some ⟨[(14,lb)],[]⟩),.l ⟨[(14,lb),(15,M)],[]⟩,Z,E,.b (some ⟨[(14,lb)],[]⟩),I [[],[],[],[],[Dq],[],[],[],[],[Dq]],E,Z,I [[],[lb]],.c (some ⟨[],[]⟩),I [[],[],[],[],[],[],[lv],[],[],[],[],[lv]],I [[],[],[],[],[],[],[],[lv],[],[],[],[],[],[lv]],Z,Z,.c (some ⟨[(8,lv)],[]⟩),I [[],[],[],[],[Wu]],Z,Z,I [[],[ED],[],[Dp]],I [[H9]],Z,ts,.l ⟨[(19,M)],[(6,[.i .i64,.i .i64,.v,.i .u8,.i .i64,.i .i64,.v])]⟩,Z,E,.b (some ⟨[],[(6,[.i .i64,.i .i64,.v,.i .u8,.i .i64,.i .i64,.v])]⟩),I [[],[],[],[],[H_],[],[H_]],E,Z,I [[],[],[],[],[],[M],[],[],[C_],[],[],[lb]],.c (some ⟨[(20,C_)],[]⟩),Z,I [[],[],[lv],[],[],[],[],[M],[],[],[Dx],[],[],[],[],[M],[],[],[],[],[M]],Z,I [[],[],[lv]],I [[H9]]]
def an24:List An:=[Z,I [[ED],[Dp]],Z,E,Z,I [[],[],[M],[],[],[M]],E,Z,I [[ED],[Dp]],Z,Z,ts,.l ⟨[(55,M)],[]⟩,Z,E,ts,I [[],[Dq]],I [[],[Dq],[M,lb]],Z,.c (some ⟨[],[]⟩),I [[],[Dq]],I [[],[],[],[],[lv],[Dq]],Z,I [[],[],[],[lv]],I [[],[],[],[lv]],ts,.l ⟨[(90,M)],[]⟩,Z,E,ts,I [[],[],[Dq]],I [[],[Dq]],Z,I [[],[],[],[],[],[lv],[],[],[],[],[],[lv]],Z,ts,.l ⟨[(119,M)],[]⟩,Z,E,ts,I [[],[],[Dq]],I [[],[],[],[lv],[],[Dq],[M],[],[],[],[lv],[],[Dq],[M],[],[lv]],Z,I [[],[],[],[lv]],ts,.l ⟨[(150,M)],[]⟩,Z,E,ts,I [[],[lv]],Z,ts,.l ⟨[(156,M)],[]⟩,Z,E,ts,I [[],[],[M]],Z,ts,.l ⟨[(165,M)],[]⟩,Z,E,ts,I [[],[M]],I [[],[],[],[lv],[],[],[],[],[],[],[lv]],I [[],[],[],[],[lv],[],[],[],[lv]],Z,Z,Z,I [[],[],[],[],[lv]],Z,Z,ts,.l ⟨[(216,M)],[]⟩,Z,E,ts,I [[],[lv]],Z,Z,Z]
def an25:List An:=[Z,Z]
def an26:List An:=[Z,Z]
def an27:List An:=[Z,I [[],[Dx]],Z,E,Z,I [[],[lv]],E,Z,I [[],[lv]],ts,.l ⟨[(21,M)],[]⟩,Z,E,ts,I [[],[G4]],I [[],[Dx],[],[M],[],[C_]],I [[],[],[],[HE],[G4]],E,Z,Z,Z,ts,.l ⟨[(8,M)],[]⟩,I [[],[],[lv]],E,ts,I [[],[lv],[],[],[],[G4],[],[],[lv],[],[],[G4]],E,Z,Z,Z]
def an28:List An:=[Z,I [[],[M],[],[],[],[M],[],[],[],[],[M],[],[],[],[],[M],[],[],[],[],[M],[],[M]],E,Z,Z]
def an29:List An:=[Z,.r [[],[],[],[],[],[M],[],[],[M]] (some ⟨[(4,lb)],[]⟩)]
def an30:List An:=[Z,I [[],[],[],[M],[],[],[],[],[M]]]
def an31:List An:=[Z,I [[],[M],[],[],[],[M],[],[],[],[],[M],[],[],[],[],[M],[],[],[],[],[C_]],E,Z,Z]
def an32:List An:=[Z,I [[Dx]],Z,E,Z,I [[Dq]],Z,E,Z,I [[Dx],[Dq]]]
def an33:List An:=[Z,Z,ts,.l ⟨[(3,M),(1,M),(11,lb),(10,lb),(2,M)],[]⟩,.b (some ⟨[(3,M),(1,M),(11,lb),(10,lb),(2,M)],[]⟩),Z,Z,E,Z,.r [] (some ⟨[],[]⟩),E,Z,Z,E,Z,Z,Z,Z,E,Z,Z,Z,Z,E,Z,E,Z,E,Z,Z,Z,Z,Z,Z,Z,E,Z,Z,Z,Z,Z,Z]
def an34:List An:=[Z,E,Z,Z]
def an35:List An:=[Z,I [[],[],[],[M],[],[],[],[],[M]]]
def an36:List An:=[Z,I [[],[ED],[],[Dp]],I [[],[ED]],Z,Z,ts,.l ⟨[(6,lv),(7,M)],[]⟩,Z,E,ts,Z,ts,.l ⟨[(6,lv),(8,M)],[]⟩,Z,E,.b (some ⟨[(6,lv)],[]⟩),I [[],[],[Dx]],I [[],[],[],[],[],[],[],[],[],[],[C_]],E,I [[],[],[],[Dp],[],[],[Dx],[],[],[],[],[],[],[Dp],[],[],[Dx]],I [[],[],[],[Dq],[Dq]],Z,Z,Z]
def an37:List An:=[Z,I [[],[C_]],ts,Z,E,I [[],[M]],Z,E,I [[],[M]],Z,E,I [[],[M],[],[M]],I [[],[M],[],[],[M]]]
def an38:List An:=[Z,I [[Dq]],I [[],[M],[],[M],[],[M],[],[M],[],[],[M],[],[M],[],[],[],[C_],[],[M]],I [[],[],[M]],E,Z,Z]
def an39:List An:=[Z,I [[Dp],[Dp]],I [[Dp],[Dp]],I [[Dp],[Dp]],Z,ts,.l ⟨[(8,C_)],[]⟩,Z,E,ts,I [[],[],[M],[],[],[M]],I [[Dp],[],[],[Dx],[],[],[Dp],[],[],[Dx]],.c (some ⟨[],[]⟩),I [[Dp]],Z,Z]
def an40:List An:=[Z,I [[Dp],[Dq]]]
def an41:List An:=[Z,Z,Z,ts,.l ⟨[(4,M)],[]⟩,Z,E,ts,Z,.b (some ⟨[],[]⟩),.l ⟨[(5,M)],[]⟩,I [[],[],[],[],[],[],[],[],[Dq],[],[],[],[],[Dq]],E,ts,I [[],[],[],[],[],[],[],[],[Wu],[],[],[],[],[Wu]],Z,Z,Z]
def an42:List An:=[Z,I [[],[],[M],[],[],[],[M]],Z,Z,Z,E,Z,I [[],[],[Dp]],I [[ED]],Z,ts,.l ⟨[(10,lb)],[]⟩,Z,E,ts,Z,Z,ts,.l ⟨[(10,lb),(11,M)],[]⟩,Z,E,ts,Z,.b (some ⟨[(10,lb)],[]⟩),.l ⟨[(10,lb),(12,M)],[]⟩,I [[],[],[],[],[],[],[lb]],E,.b (some ⟨[(10,lb)],[]⟩),I [[],[Dx]],Z,E,I [[],[],[],[Dp]],I [[],[],[],[],[],[],[C_]],.c (some ⟨[],[(14,[.i .u8,.i .i64,.i .i64])]⟩),I [[],[Dx],[],[],[],[Dx],[],[],[],[],[],[],[Dp]],I [[],[],[],[lb],[],[],[],[],[Dp],[Dp]],.c (some ⟨[],[]⟩),Z,I [[],[],[],[lb]],.c (some ⟨[(10,lb)],[]⟩),I [[],[],[],[],[Dp]],Z,Z,Z,Z]
def an43:List An:=[Z,Z,ts,.l ⟨[(7,M)],[]⟩,Z,E,ts,I [[Dx]],E,Z,E,Z,Z,Z,Z]
def an44:List An:=[Z,Z,ts,.l ⟨[(3,M)],[]⟩,Z,E,ts,Z,.b (some ⟨[],[]⟩),.l ⟨[(4,M)],[]⟩,I [[],[],[],[],[],[],[],[],[M],[],[],[],[],[M],[],[],[],[],[],[],[],[M],[],[],[],[],[M],[],[],[],[],[],[],[],[C_],[],[],[],[],[C_]],.c (some ⟨[],[]⟩),ts,I [[],[],[],[],[],[],[],[],[G4],[],[],[],[],[G4]],Z,Z,Z]
def an45:List An:=[Z,I [[ED],[Dp]],Z]
def an46:List An:=[Z,Z]
def an47:List An:=[Z,I [[],[M],[],[M],[],[],[M],[],[M],[],[],[C_],[],[],[C_]]]
def an48:List An:=[Z,Z,Z,I [[],[],[],[ED],[],[],[],[Dp]],Z,ts,.l ⟨[(7,lv),(39,M)],[]⟩,Z,E,ts,Z,I [[],[],[],[],[Dx]],Z,ts,.l ⟨[(7,lv),(52,C_)],[]⟩,Z,E,.b (some ⟨[(7,lv)],[]⟩),Z,I [[Dq]],I [[],[],[],[Dq]],I [[],[],[],[Dp],[Dq]],Z,E,Z,I [[Dq],[Dq]],.c (some ⟨[(17,M)],[(16,[.i .i64,.i .i64,.i .u8]),(18,[.i .i64,.i .i64,.i .u8])]⟩),I [[Dq],[Dq]],I [[],[Dq],[Dq],[],[lv]],Z,.c (some ⟨[(20,lv),(7,lv)],[]⟩),Z,I [[],[Dq],[Dq]],Z,I [[],[],[],[],[Dx]],Z,E,I [[],[],[],[ED]],ts,Z,.c (some ⟨[],[]⟩),I [[],[],[],[],[lv]],Z,.c (some ⟨[],[]⟩),I [[],[],[],[],[lv]],I [[],[],[],[],[],[],[],[lv]],I [[],[],[],[],[],[],[],[Dp]],Z,Z,Z]
def an49:List An:=[I [[],[],[],[lv]],ts,.l ⟨[(23,M)],[]⟩,Z,E,ts,I [[],[],[Dx]],I [[],[],[],[lv]],ts,.l ⟨[(35,M)],[]⟩,Z,E,ts,I [[],[Dx]],I [[],[],[],[M],[],[M],[],[],[],[M],[],[M]],Z,I [[],[],[],[.agg [.v,.v]]],ts,.l ⟨[(58,M)],[]⟩,Z,E,ts,I [[],[lv]],Z,ts,.l ⟨[(64,M)],[]⟩,Z,E,ts,I [[],[Dx]],I [[],[],[],[],[M],[],[M],[],[],[],[],[M],[],[M]],Z,Z,Z,I [[],[],[],[.agg [.v,.v]]],ts,.l ⟨[(91,M)],[]⟩,Z,E,ts,I [[lv]],Z,ts,.l ⟨[(96,M)],[]⟩,Z,E,ts,I [[],[],[Dx]],Z,ts,.l ⟨[(105,M)],[]⟩,Z,E,ts,I [[],[Dx]],I [[],[],[],[],[lv],[],[],[M],[],[M],[],[],[],[M],[],[M],[],[],[],[M],[],[M],[],[],[],[M],[],[M]],Z,Z,Z]
def an50:List An:=[Z,Z,Z,I [[lv],[],[],[lb]],.c (some ⟨[],[]⟩),I [[lv],[lb]]]
def an51:List An:=[Z,I [[],[lv],[],[],[lv]],E,I [[lv],[lv],[],[lb]],I [[lv],[],[],[lv],[],[],[lv],[],[lv],[],[],[lv],[],[],[lv]],E,I [[lv],[],[],[lb]],I [[lv],[],[],[lv],[],[],[lv]],ts,.l ⟨[(50,M)],[]⟩,Z,E,.b (some ⟨[],[]⟩),I [[],[M]],I [[lv],[],[],[lv],[],[],[lb]],E,Z,.r [[lv],[],[],[],[],[],[lv],[],[lb]] (some ⟨[(9,lb)],[]⟩),I [[lv],[],[lv]],Z,E,Z,Z,Z]
def an52:List An:=[Z,I [[],[],[],[ED]],I [[],[lv]],I [[ED],[],[],[],[Dp],[],[],[],[lv]],I [[],[],[],[lv]],ts,.l ⟨[(33,M)],[]⟩,Z,E,ts,I [[],[],[Dq]],I [[],[lv],[],[Dq],[],[],[],[lv],[],[],[lv]],Z,I [[H9]]]
def an53:List An:=[Z,I [[],[],[],[lv]],I [[],[],[],[lv],[],[],[],[],[lv],[],[],[lv]],I [[],[],[],[lv],[],[],[lv]],ts,.l ⟨[(41,M)],[]⟩,Z,E,ts,I [[],[M]],I [[],[],[],[lv],[],[],[lb]],.c (some ⟨[],[]⟩),Z,Z,Z]
def an54:List An:=[I [[],[],[],[lv],[],[],[lv]],I [[],[],[],[lv],[],[],[],[lv],[],[],[lv],[],[],[M]],I [[],[],[],[lv],[],[],[],[],[lv],[],[],[lv]],Z,ts,.l ⟨[(50,M)],[]⟩,Z,E,ts,I [[],[M]],I [[],[],[],[lv]],Z]
def an55:List An:=[Z,Z]
def an56:List An:=[Z,I [[],[C_]]]
def an57:List An:=[Z,.r [] (some ⟨[(2,lb)],[]⟩)]
def an58:List An:=[Z,I [[Dq]],E,Z,I [[],[C_],[],[],[],[],[Dq]],I [[],[M],[],[M],[],[],[M],[],[M]],I [[Dq]],E,Z,I [[Dq]]]
def an59:List An:=[Z,ts,.l ⟨[(8,M)],[]⟩,Z,E,ts,Z,.b (some ⟨[],[]⟩),.l ⟨[(9,M)],[]⟩,I [[],[],[],[],[],[],[],[],[G4],[],[],[],[],[G4],[M]],E,ts,I [[],[],[],[],[],[],[],[],[],[G4],[],[],[],[G4]],Z,Z]
def an68:List An:=[Z,Z,.c (some ⟨[(0,QQ),(2,M)],[]⟩),Z,Z,Z,.c (some ⟨[(0,QQ),(2,M)],[]⟩),Z,Z,Z,.c (some ⟨[(0,QQ),(2,M)],[]⟩),Z,Z,Z]
def an69:List An:=[Z,I [[],[],[M],[],[],[],[M]],Z,ts,.l ⟨[(4,M)],[]⟩,I [[],[],[lv]],E,ts,I [[],[lv],[],[],[G4]],Z,ts,.l ⟨[(6,M)],[]⟩,Z,E,.b (some ⟨[],[]⟩),I [[],[Dx],[],[M]],I [[],[],[],[],[Dx],[],[M],[],[],[],[C_]],E,I [[],[],[M],[],[],[],[],[C_]],Z,ts,.l ⟨[(8,M)],[]⟩,Z,E,ts,I [[],[Dx],[],[],[],[],[M]],.c (some ⟨[],[]⟩),I [[],[],[],[],[],[],[C_]],Z,Z,Z,Z]
def an70:List An:=[Z,I [[Dx]],I [[],[M],[],[],[],[M],[],[],[],[],[M],[],[M],[],[],[],[],[M],[],[M]],E,Z,I [[],[M],[],[M],[],[],[M],[],[],[],[C_]]]
def an71:List An:=[Z,I [[Dq],[Dq]],I [[],[C_]],ts,Z,E,I [[],[M]],Z,E,I [[],[M]],Z,E,I [[],[M]],I [[],[M]]]
def an72:List An:=[Z,I [[Dq]],I [[],[],[M],[],[],[M],[],[],[],[M],[],[],[],[],[M],[],[],[M],[],[],[],[M]]]
def an73:List An:=[Z,I [[],[M],[],[M]],I [[],[C_]],.c (some ⟨[(5,M)],[]⟩),Z,Z,ts,.l ⟨[(5,M),(6,M),(7,M)],[]⟩,I [[],[],[C_]],E,ts,Z,Z,I [[],[],[M],[],[],[],[],[M]]]
def an74:List An:=[Z,Z,E,Z,Z]
def an75:List An:=[Z,I [[],[M],[],[],[M]],I [[],[M],[],[M],[],[],[],[M],[],[M]],ts,Z,.c (some ⟨[],[(3,[.i .i64,.i .i64,.i .u8])]⟩),Z,Z,.c (some ⟨[],[(3,[.i .i64,.i .i64,.i .u8])]⟩),Z,Z,.c (some ⟨[],[(3,[.i .i64,.i .i64,.i .u8])]⟩),Z,Z,I [[Dq]]]
def an76:List An:=[Z,I [[],[M],[],[M],[],[],[],[M],[],[M],[],[],[],[M],[],[M],[],[],[],[M],[],[M],[],[],[],[C_],[],[C_]],.c (some ⟨[],[]⟩),Z,Z]
def an77:List An:=[Z,I [[],[M],[],[M]],E,I [[],[M],[],[M]],I [[],[M],[],[M]],E,I [[],[M],[],[M]],I [[],[C_],[],[C_],[],[],[],[],[C_],[],[C_]],E,I [[],[M],[],[M],[],[],[],[M],[],[M]],I [[],[M],[],[M],[],[],[M],[],[M]]]
def an78:List An:=[Z,I [[ED]],Z,E,Z,I [[Dp]],E,Z,I [[ED]],Z,E,Z,Z,Z,ts,.l ⟨[(36,M)],[]⟩,Z,E,ts,I [[],[],[Dp]],I [[],[Dx]],I [[],[],[Dp],[Dp]],Z,E,Z,I [[],[],[],[],[],[Dp],[Dq]],Z,E,Z,Z,Z]
def an79:List An:=[Z,Z,ts,.l ⟨[(3,M),(1,M),(11,lb),(10,lb),(2,M)],[]⟩,.b (some ⟨[(3,M),(1,M),(11,lb),(10,lb),(2,M)],[]⟩),Z,Z,E,Z,.r [] (some ⟨[],[]⟩),E,Z,Z,E,Z,Z,Z,Z,E,Z,Z,Z,Z,E,Z,E,Z,E,Z,Z,Z,Z,Z,Z,Z,E,Z,Z,Z,Z,Z,Z]
def an80:List An:=[Z,Z,ts,.l ⟨[(8,M)],[]⟩,Z,E,ts,I [[],[Dx]],I [[],[M],[],[M]],Z,E,Z,Z,Z]
def an81:List An:=[Z,I [[ED],[Dp]],Z]
def an82:List An:=[Z,I [[Dp],[],[],[],[Dq]],E,Z,I [[Dp],[Dq]],I [[Dq]],E,Z,I [[Dq]]]
def an83:List An:=[Z,I [[ED]],Z,E,Z,I [[],[lv],[],[],[],[C_]]]
def an84:List An:=[Z,E,Z,Z,.c (some ⟨[],[(10,[.i .i64,.b])]⟩),I [[],[lb]],.r [[],[],[],[],[lb],[],[],[HP]] (some ⟨[],[]⟩)]
def an85:List An:=[Z,.r [[Dp],[],[],[],[],[C_]] (some ⟨[(2,lb)],[]⟩)]
def an86:List An:=[Z,I [[],[HP],[],[],[HP]],ts,I [[],[M],[],[M]],.c (some ⟨[],[]⟩),.r [[],[],[],[],[lb],[],[],[lb],[],[lb]] (some ⟨[],[]⟩),I [[],[HP],[],[],[],[],[HP]],.c (some ⟨[],[]⟩),.r [[],[],[],[],[lb],[],[],[HP],[],[],[HP]] (some ⟨[],[]⟩),I [[],[],[],[lv],[],[M],[],[M],[],[lb],[],[lb]],I [[],[HP]],.c (some ⟨[],[]⟩),I [[],[],[],[lv],[],[M],[],[M],[],[lb],[],[lb]],I [[],[],[],[lv],[],[M],[],[M],[],[lb],[],[lb]]]
def an87:List An:=[Z,Z,E,I [[],[],[],[lv],[],[],[],[M]],I [[],[],[],[lv],[],[],[],[M]]]
def an88:List An:=[Z,Z]
def an89:List An:=[Z,Z,E,Z,Z]
def an90:List An:=[Z,Z]
def an91:List An:=[Z,Z,E,Z,Z]
def an92:List An:=[Z,I [[],[HP]],Z,I [[],[lb]],.c (some ⟨[(7,M)],[]⟩),Z,I [[],[],[],[lv],[],[M],[],[M]],.c (some ⟨[],[]⟩),I [[],[],[],[lv],[],[M]],Z,.c (some ⟨[],[]⟩),I [[],[],[],[lv],[],[M]],I [[],[],[],[lv],[],[M],[],[M]]]
def an93:List An:=[Z,I [[],[],[],[lv]],ts,.l ⟨[(13,M)],[]⟩,Z,E,ts,I [[],[l5]],Z,I [[l5]],ts,.l ⟨[(5,M),(18,M)],[]⟩,Z,E,ts,I [[HP]],I [[],[],[HP]],Z,Z,E,Z,Z,Z]
def an94:List An:=[Z,Z,ts,.l ⟨[(8,M)],[]⟩,Z,E,ts,Z,I [[],[],[],[],[G4],[lb]],E,Z,Z,Z]
def YB:List An:=[Z,Z,E,Z,I [[Dx]],Z,E,Z,Z]
def YC:List An:=[Z,Z,E,I [[],[C_]],ts,Z,E,I [[],[M],[],[M]],Z,E,I [[],[M],[],[],[M]],Z,E,I [[],[M],[],[M]],I [[],[M],[],[],[M]],Z,E,I [[],[M],[],[M],[],[C_]],I [[],[M],[],[M],[],[C_]]]
def YD:List An:=[Z,I [[],[M],[],[],[M]],Z,I [[],[C_]],ts,Z,E,I [[Dx]],Z,E,I [[Dx]],Z,E,I [[Dx]],I [[Dx]]]
def YE:List An:=[Z,Z,E,Z,Z]
def YF:List An:=[Z,I [[],[C_],[],[],[],[],[M],[],[],[],[],[M],[],[],[],[],[M],[],[M]],E,Z,Z]
def YH:List An:=[Z,I [[ED]],I [[],[Dx]],I [[lv]],Z,Z,Z,ts,.l ⟨[(8,lv)],[]⟩,Z,E,ts,I [[],[],[M]],Z,Z,ts,.l ⟨[(8,lv),(35,C_)],[]⟩,Z,E,.b (some ⟨[(8,lv)],[]⟩),Z,I [[],[Dx]],Z,E,I [[],[],[],[Dp]],I [[],[],[],[lb]],.c (some ⟨[(8,lv)],[]⟩),I [[lv],[],[],[],[Dp]],Z,I [[lv],[],[],[Dp],[Dp]],E,Z,Z,I [[lv]]]
def YI:List An:=[Z,I [[Dp],[],[],[],[Dp]],E,Z,I [[],[C_],[],[Ge],[],[M],[],[M]],I [[],[C_],[],[Ge],[],[C_],[],[Ge],[],[],[],[],[M],[],[],[],[M]]]
def YJ:List An:=[Z,ts,.l ⟨[(8,M)],[]⟩,Z,E,ts,Z,.b (some ⟨[],[]⟩),.l ⟨[(9,M)],[]⟩,I [[],[],[],[],[],[],[],[],[Dq],[],[],[],[],[Dq],[M]],E,ts,I [[],[],[],[],[],[],[],[],[],[Dq],[],[],[],[Dq]],Z,Z]
def YK:List An:=[Z,Z,Z,Z,E,Z,E,Z,Z,Z,E,Z,Z,E,Z,Z,E,Z,Z]
def YL:List An:=[Z,I [[Dq],[],[],[C_],[],[],[Dx]],I [[Dp],[Dx]],Z,I [[Dp],[Dx]],I [[],[M],[],[M],[],[],[],[],[M],[],[M]],I [[.agg [.i .i64,.i .i64,.i .u8,.i .i64,.i .i64,.i .i64,.i .u8,.i .i64,.i .i64,.i .u8,.i .i64,.i .i64,.i .u8,.i .i64,.i .i64,.i .i64,.i .i64,.i .i64,.i .i64,.i .u8,.i .i64,.i .i64,.i .i64,.i .u8,.i .i64,.i .i64,.i .u8,.i .i64,.i .i64,.i .u8,.i .i64,.i .i64,.i .i64,.i .i64,.i .i64,.i .i64,.i .u8,.i .i64,.i .i64,.i .i64,.i .u8,.i .i64,.i .i64,.i .u8,.i .i64,.i .i64,.i .u8,.i .i64,.i .i64,.i .i64,.i .i64,.i .i64,.i .i64,.i .u8,.i .i64,.i .i64,.i .i64,.i .u8,.i .i64,.i .i64,.i .u8,.i .i64,.i .i64,.i .u8,.i .i64,.i .i64,.i .i64,.i .i64]]],ts,.l ⟨[(47,M)],[(7,[.i .i64,.i .i64,.i .u8])]⟩,Z,E,ts,I [[],[hR]],I [[],[Dx],[Dx]],.c (some ⟨[],[(7,[.i .i64,.i .i64,.i .u8])]⟩),Z,Z,I [[Dq]]]
def YM:List An:=[Z,I [[ED]],Z,E,Z,I [[],[Dx]],Z,E,Z,I [[],[lv],[HE]],I [[HE]]]
def YN:List An:=[Z,ts,.l ⟨[],[(3,[.i .i64,.b])]⟩,I [[],[],[],[lv],[],[M],[],[],[M],[],[M]],E,ts,I [[],[],[],[lv],[],[M],[],[HP]],I [[],[M],[],[lb],[],[lb]],I [[HP]]]
def YO:List An:=[Z,I [[],[HP]],I [[],[lb]],E,I [[],[],[],[lv],[],[M],[],[M]],I [[],[],[],[lv],[],[M],[],[M]]]
def YP:List An:=[Z,.r [] (some ⟨[(2,lb)],[]⟩)]
def YQ:List An:=[Z,I [[],[lv]],I [[],[lv]],ts,.l ⟨[(13,M)],[]⟩,Z,E,ts,I [[],[G4]],I [[],[],[M],[],[C_]],Z,Z]
def YR:List An:=[Z,I [[Dx]],E,Z,I [[],[M],[],[],[M]]]
def YS:List An:=[Z,I [[],[Dx]],I [[lv],[HE],[lb]],E,I [[lv],[],[],[Dp]],I [[],[Dx],[HE]],I [[H_]],I [[Dp],[lv],[],[],[Dp]],I [[Dp]]]
def YT:List An:=[Z,I [[Dx],[HE]],Z,E,Z,I [[Dq],[],[C_]]]
def YU:List An:=[Z,I [[H_]],E,Z,I [[],[C_]],ts,Z,E,I [[],[M]],Z,E,I [[],[M]],Z,E,I [[],[M],[],[M]],I [[],[M],[],[],[M]]]
def YV:List An:=[Z,I [[],[M],[],[],[],[M],[],[],[],[],[M],[],[],[],[M]]]
def YW:List An:=[Z,I [[Dp]],E,Z,I [[Dp]]]
def YX:List An:=[Z,I [[.agg [.i .i64,.i .i64,.i .i64,.i .i64,.i .i64,.i .i64,.i .i64,.i .i64,.i .i64,.i .i64,.i .i64,.i .i64,.i .i64,.i .i64,.i .i64,.i .i64,.i .i64,.i .i64,.i .i64,.i .i64,.i .i64,.i .i64,.i .i64,.i .i64,.i .i64,.i .i64,.i .i64,.i .i64,.i .i64,.i .i64,.i .i64,.i .i64]]],ts,.l ⟨[(6,M)],[]⟩,Z,E,ts,I [[],[Ge]],I [[Ge],[Ge]],E,Z,Z,Z]
def YY:List An:=[Z,I [[Ge],[],[M],[],[M]],I [[Ge],[],[M],[],[M]],Z]
def YZ:List An:=[Z,Z]
def Y0:List An:=[Z,I [[],[M],[],[],[],[M]]]
def Y1:List An:=[Z,I [[Dp],[],[],[],[Dx]],E,Z,I [[],[C_],[],[Ge],[],[M],[],[M]],I [[],[],[M],[],[],[],[],[M]],I [[Dx]],E,Z,I [[Dx]]]
def Y2:List An:=[Z,I [[],[HE]]]
def Y3:List An:=[Z,I [[Dx]],Z,E,Z,I [[Dx],[],[M],[],[C_]],I [[],[],[],[HE],[HE]],E,Z,I [[Dx],[],[M]]]
def Y4:List An:=[Z,I [[Dq]],E,Z,I [[],[C_],[],[hR]],I [[],[C_],[],[M],[],[M]],ts,Z,.c (some ⟨[],[(7,[.i .u8,.i .i64])]⟩),I [[],[M],[],[M]],Z,.c (some ⟨[],[(7,[.i .u8,.i .i64])]⟩),I [[],[M],[],[M]],I [[],[C_]],.c (some ⟨[],[(7,[.i .u8,.i .i64])]⟩),I [[],[M],[],[M]],I [[H_]],E,Z,I [[H_]]]
def Y5:List An:=[Z,I [[],[C_],[],[],[],[C_],[],[],[],[],[M],[],[],[],[],[M]],E,Z,Z]
def Y6:List An:=[Z,I [[],[M],[],[],[],[M],[],[],[],[],[M],[],[],[],[],[M]],E,Z,Z]
def Y7:List An:=[Z,Z,Z,ts,.l ⟨[(9,M),(10,M)],[]⟩,Z,E,ts,Z,I [[],[],[],[],[G4],[HE],[M]],.c (some ⟨[(9,M),(10,M)],[]⟩),Z,Z,.r [[],[],[],[],[],[],[],[],[],[G4],[HE],[M]] (some ⟨[(6,M),(7,lb)],[]⟩)]
def Y8:List An:=[Z,I [[G4],[],[HE]]]
def aa:Nat->Site
 |160=>site (Kb Tryz.prog 10) 0 40 [(5,lv),(10,lv)] [(29,H9)] [Z] [ts,I [[lv],[H9]],I [[lv],[],[M]],E]
 |320=>site (Kb Tryz.prog 20) 0 24 [(4,lv),(5,lv)] [(21,H9)] [Z] [ts,I [[H9]]]
 |_=>⟨0,[],[],.skip,.skip⟩
def xc(f:TQ):DQ:=⟨cc,Sv.getD f [],aa⟩
section
variable {R HT:Type} (A:Dv R HT)
def Dv.k0(l:TG)(k:Int->Int->Int->R):R:=A.po l λa l=>A.po l λb l=>A.po l λc l=>A.A1 l (k a b c)
def Dv.k1(l:TG)(k:Value->R):R:=A.DK l λa l=>A.A1 l (k a)
def Dv.k2(l:TG)(k:Int->Int->R):R:=A.po l λa l=>A.po l λb l=>A.A1 l (k a b)
def Dv.k3(l:TG)(k:Value->Int->R):R:=A.DK l λa l=>A.po l λb l=>A.A1 l (k a b)
def Dv.k4(l:TG)(k:Bool->R):R:=A.Fu l λa l=>A.A1 l (k a)
def Dv.k5(l:TG)(k:Int->Int->Value->Int->Int->Int->Value->R):R:=A.po l λa l=>A.po l λb l=>A.DK l λc l=>A.po l λd l=>A.po l λe l=>A.po l λf l=>A.DK l λg l=>A.A1 l (k a b c d e f g)
def Dv.k6(l:TG)(k:Int->R):R:=A.po l λa l=>A.A1 l (k a)
def Dv.k7(l:TG)(k:Int->Int->Int->Int->R):R:=A.po l λa l=>A.po l λb l=>A.po l λc l=>A.po l λd l=>A.A1 l (k a b c d)
def Dv.k8(l:Tn)(k:Int->Int->Int->R):R:=A.td .i64 l λa l=>A.td .u8 l λb l=>A.td .u8 l λc l=>A.tf l (k a b c)
def Dv.k9(l:Tn)(k:Int->R):R:=A.td .i64 l λa l=>A.tf l (k a)
def Dv.JR(l:TG)(k:Int->Int->Int->Int->Int->Int->R):R:=A.po l λa l=>A.po l λb l=>A.po l λc l=>A.po l λd l=>A.po l λe l=>A.po l λf l=>A.A1 l (k a b c d e f)
def Dv.Pf(l:TG)(k:Int->Bool->R):R:=A.po l λa l=>A.Fu l λb l=>A.A1 l (k a b)
def Dv.IQ(l:Tn)(k:Int->Int->Int->R):R:=A.td .i64 l λa l=>A.td .i64 l λb l=>A.td .u8 l λc l=>A.tf l (k a b c)
def Dv.JT(l:Tn)(k:Int->Int->Int->R):R:=A.td .u8 l λa l=>A.td .i64 l λb l=>A.td .i64 l λc l=>A.tf l (k a b c)
def Dv.Iq(l:Tn)(k:Int->Int->R):R:=A.td .i64 l λa l=>A.td .i64 l λb l=>A.tf l (k a b)
def Dv.k15(l:TG)(k:Value->Int->Int->Value->R):R:=A.DK l λa l=>A.po l λb l=>A.po l λc l=>A.DK l λd l=>A.A1 l (k a b c d)
def Dv.cd(o:BinOp)(x y:Int)(p q:R):R:=A.cmp o x y λt=>A.cond t p q
def Dv.ix(e:Nat)(x:Value)(n:Int)(w:Nat)(h:HT)(k:Tn->R):R:=A.jw (B_ e x n) λp=>A.ma (.lg cc w p) h k
def Dv.fx(e:Nat)(x:Value)(n:Int)(o w:Nat)(h:HT)(k:Tn->R):R:=A.jw (B_ e x n) λp=>A.jw (Eu o p) λq=>A.n4 q (A.ma (.lg cc w q) h k)
def Dv.c0(f:TQ)(ls:TG)(h:HT)(k:HT->Int->Int->Int->R):R:=A.call f ls h λl h=>A.k0 l (k h)
def Dv.c1(f:TQ)(ls:TG)(h:HT)(k:HT->Value->R):R:=A.call f ls h λl h=>A.k1 l (k h)
def Dv.c2(f:TQ)(ls:TG)(h:HT)(k:HT->Int->Int->R):R:=A.call f ls h λl h=>A.k2 l (k h)
def Dv.c4(f:TQ)(ls:TG)(h:HT)(k:HT->Bool->R):R:=A.call f ls h λl h=>A.k4 l (k h)
def Dv.c6(f:TQ)(ls:TG)(h:HT)(k:HT->Int->R):R:=A.call f ls h λl h=>A.k6 l (k h)
def Dv.c7(f:TQ)(ls:TG)(h:HT)(k:HT->Int->Int->Int->Int->R):R:=A.call f ls h λl h=>A.k7 l (k h)
def Dv.IP(f:TQ)(ls:TG)(h:HT)(k:HT->Int->Bool->R):R:=A.call f ls h λl h=>A.Pf l (k h)
def Dv.ln(x:Value)(k:Int->R):R:=A.jw (HR x) k
def Dv.pa(a b:Int)(k:Int->R):R:=A.x6 .add .i64 a b k
def Dv.ps(a b:Int)(k:Int->R):R:=A.x6 .sub .i64 a b k
def Dv.pm(a b:Int)(k:Int->R):R:=A.x6 .mul .i64 a b k
def Dv.pq(a b:Int)(k:Int->R):R:=A.x6 .quo .i64 a b k
def Dv.ci(a:Int)(k:Int->R):R:=A.conv .i64 a k
def Dv.fp(n:Nat)(p:Value)(k:Value->R):R:=A.jw (Ec p) λa=>A.n4 a (A.jw (Eu n a) λb=>A.n4 b (k b))
def Dv.lv(x:Value)(h:HT)(k:Value->R):R:=A.ma (.lg cc 1 x) h λl=>A.DF l λa l=>A.n4 a (A.tf l (k a))
def Dv.av(e b:Nat)(x y:Value)(h:HT)(k:Value->HT->R):R:=A.heap (.ap cc e b x y) h λl h=>A.DF l λa l=>A.n4 a (A.tf l (k a h))
def qeq:(∀l k,A.k0 l k=A.po l λc l=>A.po l λa1 l=>A.po l λa2 l=>A.A1 l (k c a1 a2))/\(∀l k,A.k1 l k=A.DK l λc l=>A.A1 l (k c))/\(∀l k,A.k2 l k=A.po l λc l=>A.po l λa1 l=>A.A1 l (k c a1))/\(∀l k,A.k3 l k=A.DK l λc l=>A.po l λa1 l=>A.A1 l (k c a1))/\(∀l k,A.k4 l k=A.Fu l λc l=>A.A1 l (k c))/\(∀l k,A.k5 l k=A.po l λc l=>A.po l λa1 l=>A.DK l λa2 l=>A.po l λd l=>A.po l λg l=>A.po l λi l=>A.DK l λj l=>A.A1 l (k c a1 a2 d g i j))/\(∀l k,A.k6 l k=A.po l λc l=>A.A1 l (k c))/\(∀l k,A.k7 l k=A.po l λc l=>A.po l λa1 l=>A.po l λa2 l=>A.po l λd l=>A.A1 l (k c a1 a2 d))/\(∀l k,A.k8 l k=A.td .i64 l λc l=>A.td .u8 l λa1 l=>A.td .u8 l λa2 l=>A.tf l (k c a1 a2))/\(∀l k,A.k9 l k=A.td .i64 l λc l=>A.tf l (k c))/\(∀l k,A.JR l k=A.po l λc l=>A.po l λa1 l=>A.po l λa2 l=>A.po l λd l=>A.po l λg l=>A.po l λi l=>A.A1 l (k c a1 a2 d g i))/\(∀l k,A.Pf l k=A.po l λc l=>A.Fu l λa1 l=>A.A1 l (k c a1))/\(∀l k,A.IQ l k=A.td .i64 l λc l=>A.td .i64 l λa1 l=>A.td .u8 l λa2 l=>A.tf l (k c a1 a2))/\(∀l k,A.JT l k=A.td .u8 l λc l=>A.td .i64 l λa1 l=>A.td .i64 l λa2 l=>A.tf l (k c a1 a2))/\(∀l k,A.Iq l k=A.td .i64 l λc l=>A.td .i64 l λa1 l=>A.tf l (k c a1))/\(∀l k,A.k15 l k=A.DK l λc l=>A.po l λa1 l=>A.po l λa2 l=>A.DK l λd l=>A.A1 l (k c a1 a2 d))/\(∀o x y p q,A.cd o x y p q=A.cmp o x y λt=>A.cond t p q)/\(∀e x n w h k,A.ix e x n w h k=A.jw (B_ e x n) λp=>A.ma (.lg cc w p) h k)/\(∀e x n o w h k,A.fx e x n o w h k=A.jw (B_ e x n) λp=>A.jw (Eu o p) λq=>A.n4 q (A.ma (.lg cc w q) h k))/\(∀f ls h k,A.c0 f ls h k=A.call f ls h λl h=>A.k0 l (k h))/\(∀f ls h k,A.c1 f ls h k=A.call f ls h λl h=>A.k1 l (k h))/\(∀f ls h k,A.c2 f ls h k=A.call f ls h λl h=>A.k2 l (k h))/\(∀f ls h k,A.c4 f ls h k=A.call f ls h λl h=>A.k4 l (k h))/\(∀f ls h k,A.c6 f ls h k=A.call f ls h λl h=>A.k6 l (k h))/\(∀f ls h k,A.c7 f ls h k=A.call f ls h λl h=>A.k7 l (k h))/\(∀f ls h k,A.IP f ls h k=A.call f ls h λl h=>A.Pf l (k h))/\(∀x k,A.ln x k=A.jw (HR x) k)/\(∀a b k,A.pa a b k=A.x6 .add .i64 a b k)/\(∀a b k,A.ps a b k=A.x6 .sub .i64 a b k)/\(∀a b k,A.pm a b k=A.x6 .mul .i64 a b k)/\(∀a b k,A.pq a b k=A.x6 .quo .i64 a b k)/\(∀a k,A.ci a k=A.conv .i64 a k)/\(∀n p k,A.fp n p k=A.jw (Ec p) λa=>A.n4 a (A.jw (Eu n a) λb=>A.n4 b (k b)))/\(∀x h k,A.lv x h k=A.ma (.lg cc 1 x) h λl=>A.DF l λa l=>A.n4 a (A.tf l (k a)))/\(∀e b x y h k,A.av e b x y h k=A.heap (.ap cc e b x y) h λl h=>A.DF l λa l=>A.n4 a (A.tf l (k a h))):=by
 refine⟨?_,?_,?_,?_,?_,?_,?_,?_,?_,?_,?_,?_,?_,?_,?_,?_,?_,?_,?_,?_,?_,?_,?_,?_,?_,?_,?_,?_,?_,?_,?_,?_,?_,?_,?_⟩<;>intros<;>rfl
variable(ls:TG)(h:HT)(K:TG->HT->R)
def f3:R:=A.po ls λa b=>A.po b λb c=>A.DK c λc d=>A.DK d λd e=>A.k0 e λe f g=>A.x6 .rem .u8 e 8 λe=>A.x6 .rem .i64 f 51 λf=>A.x6 .rem .i64 g 51 λg=>A.pa f g λi=>A.x6 .rem .i64 i 2 λi=>A.cmp .neq i 0 λi=>A.join (λe f=>A.k0 e λe g i=>A.call 4 [.i a,.i b,.v c,.v d] f λa b=>A.po a λa c=>A.po c λc d=>A.k1 d λd=>A.c0 6 [] b λb f j k=>A.c2 5 [.i a,.i c,.v d,.i f,.i j,.i k,.i 40] b λb f j=>A.c2 5 [.i a,.i c,.v d,.i e,.i g,.i i,.i 40] b λb e g=>A.call 7 [.i a,.i c,.v d] b λa b=>A.po a λa c=>A.po c λc d=>A.k3 d λd i=>A.c0 6 [] b λb k l m=>A.c2 5 [.i a,.i c,.v d,.i k,.i l,.i m,.i 40] b λa b c=>A.join (λa b=>A.k4 a λa=>K [.b a] b) λd=>A.cd .eql j 0 (A.cd .eql g 0 (A.cd .eql i 0 (A.cd .eql c 0 (A.cd .eql f e (A.cd .eql f b (A.c4 8 [] a λa b=>d [.b b] a) (d [.b false] a)) (d [.b false] a)) (d [.b false] a)) (d [.b false] a)) (d [.b false] a)) (d [.b false] a)) λa=>A.cond i (A.pq g 2 λb=>A.pm b 2 λb=>a [.i e,.i 0,.i b] h) (a [.i e,.i f,.i g] h)
def f4:R:=A.po ls λa b=>A.po b λb c=>A.DK c λc d=>A.k1 d λd=>A.x6 .rem .u8 a 3 λa=>A.x6 .rem .u8 b 3 λb=>A.ln c λe=>A.cmp .gtr e 4 λe=>A.join (λa b=>A.po a λa c=>A.po c λc e=>A.k1 e λe=>A.call 9 [.i a,.i c,.v e] b λa b=>A.k5 a λa c e _ _ _ _=>A.join (λb d=>A.A1 b (K [.i a,.i c,.v e] d)) λa=>A.loop (λb c f=>A.k6 c λc=>A.ln d λg=>A.cd .lss c g (A.ln e λg=>A.cd .lss c g (A.ix 1 d c 1 f λa=>A.td .u8 a λa d=>A.tf d (A.x6 .rem .u8 a 8 λa=>A.cd .gtr a 0 (A.cmp .lss a 4 λd=>A.join (λa d=>A.A1 a (A.pa c 1 λa=>b [.i a] d)) λb=>A.cond d (A.jw (B_ 3 e c) λc=>A.jw (Eu 2 c) λc=>A.n4 c (A.heap (.st c [.int .u8 a]) f λ_ a=>b [] a)) (b [] f)) (A.pa c 1 λa=>b [.i a] f))) (a [] f)) (a [] f)) [.i 0] b) λd=>A.cond e (A.jw (FN 3 c none (some 4) none) λc=>A.n4 c (d [.i a,.i b,.v c] h)) (d [.i a,.i b,.v c] h)
def f5:R:=A.po ls λa b=>A.po b λb c=>A.DK c λc d=>A.k7 d λd e f g=>A.call 10 [.i a,.i b,.v c,.i d,.i e,.i f,.i g] h λa b=>A.k3 a λa c=>A.ln a λa=>K [.i a,.i c] b
def f6:R:=A.A1 ls (K [.i 0,.i 0,.i 0] h)
def f7:R:=A.po ls λa b=>A.po b λb c=>A.k1 c λc=>A.call 11 [.i a,.i b,.v c] h λc d=>A.po c λc e=>A.po e λe f=>A.k3 f λf g=>A.cd .neq g 0 (A.jw (GA (.slice none 0 0)) λ_=>K [.i 0,.i 0,.v (.slice none 0 0),.i g] d) (A.ln f λg=>A.loop (λd i j=>A.k6 i λi=>A.cd .lss i g (A.ix 3 f i 3 j λc=>A.k8 c λc e g=>A.c7 12 [.i a,.i b,.i c] j λc j k l _=>A.ps a 1 λm=>A.ps m j λj=>A.jw (FV 4 l) λ_=>A.jw (ir [.i 0,.i 3,.i 2,.i 1] 0 [(l,1)] 1) λl=>A.k6 l λl=>A.c2 13 [.i a,.i b,.i j,.i k,.i l] c λc j _=>A.jw (FV 3 e) λ_=>A.jw (ir [.i 0,.i 2,.i 1] 0 [(e,1)] 1) λe=>A.k6 e λe=>A.c0 14 [.i a,.i b,.i j,.i e] c λa b c _=>A.jw (B_ 3 f i) λe=>A.heap (.st e [.int .i64 b,.int .u8 c,.int .u8 g]) a λ_ a=>A.pa i 1 λb=>d [.i b] a) (A.call 15 [.v f,.v (.func (.func 16) ⟨[]⟩ ⟨[]⟩)] j λa b=>A.A1 a (A.jw (GA f) λ_=>K [.i c,.i e,.v f,.i 0] b))) [.i 0] d)
def f8:R:=A.A1 ls (A.new (.cells [] 1 true) h λa b=>A.new (.cells [.int .u8 2] 1 true) b λb c=>A.new (.cells [.int .u8 3] 1 true) c λc d=>A.new (.cells [.int .u8 2,.int .u8 2] 1 true) d λd e=>A.new (.cells [.int .u8 2,.int .u8 1] 1 true) e λe f=>A.new (.cells [.int .u8 3,.int .u8 3] 1 true) f λf g=>A.new (.cells [.slice (some ⟨a,0,some 11⟩) 0 1,.slice (some ⟨b,0,some 11⟩) 1 2,.slice (some ⟨c,0,some 11⟩) 1 2,.slice (some ⟨d,0,some 11⟩) 2 3,.slice (some ⟨e,0,some 11⟩) 2 3,.slice (some ⟨f,0,some 11⟩) 2 3] 1 true) g λa b=>A.new (.cells [.int .i64 1,.int .i64 1,.int .i64 2,.int .i64 2,.int .i64 1,.int .i64 6] 1 true) b λb c=>A.loop (λc d e=>A.k6 d λd=>A.jw (HR (.slice (some ⟨a,0,some 11⟩) 6 7)) λf=>A.cd .lss d f (A.jw (B_ 1 (.slice (some ⟨a,0,some 11⟩) 6 7) d) λa=>A.lv a e λa=>A.call 19 [.v a] e λa e=>A.po a λa f=>A.po f λf g=>A.k1 g λg=>A.c0 6 [] e λe i j k=>A.c2 5 [.i a,.i f,.v g,.i i,.i j,.i k,.i 100] e λa e f=>A.jw (B_ 1 (.slice (some ⟨b,0,some 11⟩) 6 7) d) λb=>A.ma (.lg cc 1 b) a λb=>A.k9 b λb=>A.cd .neq e b (K [.b false] a) (A.cd .neq f 0 (K [.b false] a) (A.pa d 1 λb=>c [.i b] a))) (A.jw (B_ 1 (.slice (some ⟨a,0,some 11⟩) 6 7) 2) λa=>A.lv a e λa=>A.call 19 [.v a] e λa b=>A.po a λa c=>A.po c λc d=>A.k1 d λd=>A.c0 6 [] b λb e f g=>A.call 20 [.i a,.i c,.v d,.i e,.i f,.i g] b λa b=>A.po a λ_ a=>A.po a λ_ a=>A.DK a λ_ a=>A.po a λ_ a=>A.po a λ_ a=>A.po a λ_ a=>A.k3 a λa c=>A.join (λa b=>A.k4 a λa=>K [.b a] b) λd=>A.cd .eql c 0 (A.ln a λc=>A.cd .eql c 4 (A.jw (B_ 4 a 0) λc=>A.jw (Eu 3 c) λc=>A.n4 c (A.lv c b λc=>A.ln c λc=>A.cd .eql c 2 (A.jw (B_ 4 a 0) λc=>A.jw (Eu 3 c) λc=>A.n4 c (A.lv c b λc=>A.jw (B_ 1 c 0) λc=>A.ma (.lg cc 1 c) b λc=>A.k9 c λc=>A.cd .eql c 0 (A.jw (B_ 4 a 0) λa=>A.jw (Eu 3 a) λa=>A.n4 a (A.lv a b λa=>A.jw (B_ 1 a 1) λa=>A.ma (.lg cc 1 a) b λa=>A.k9 a λa=>A.cmp .eql a 4 λa=>d [.b a] b)) (d [.b false] b))) (d [.b false] b))) (d [.b false] b)) (d [.b false] b))) [.i 0] c)
def f9:R:=A.po ls λa b=>A.po b λb c=>A.k1 c λc=>A.x6 .rem .u8 a 4 λa=>A.ci a λa=>A.pa 1 a λa=>A.x6 .rem .u8 b 4 λb=>A.ci b λb=>A.pa 1 b λb=>A.call 21 [.i a,.i b] h λa b=>A.k5 a λa d e f g i j=>A.join (λa b=>A.k5 a λa c d e f g i=>K [.i a,.i c,.v d,.i e,.i f,.i g,.v i] b) λk=>A.loop (λa b d=>A.po b λb e=>A.k5 e λe f g i j l m=>A.ln c λn=>A.cd .lss b n (A.cd .lss b 5 (A.c1 22 [.i e,.i f,.v g,.i i,.i j,.i l,.v m] d λd n=>A.ln n λo=>A.cd .eql o 0 (k [.i e,.i f,.v g,.i i,.i j,.i l,.v m] d) (A.jw (B_ 3 c b) λk=>A.jw (QX 3 1 k 0) λk=>A.n4 k (A.ma (.lg cc 1 k) d λk=>A.td .u8 k λk o=>A.tf o (A.ci k λk=>A.ln n λo=>A.x6 .rem .i64 k o λk=>A.ix 2 n k 2 d λk=>A.td .u8 k λk n=>A.k9 n λn=>A.jw (B_ 3 c b) λo=>A.jw (QX 3 1 o 1) λo=>A.n4 o (A.ma (.lg cc 1 o) d λo=>A.td .u8 o λo p=>A.tf p (A.x6 .rem .u8 o 2 λo=>A.jw (B_ 3 c b) λc=>A.jw (QX 3 1 c 2) λc=>A.n4 c (A.ma (.lg cc 1 c) d λc=>A.td .u8 c λc p=>A.tf p (A.x6 .rem .u8 c 2 λc=>A.cmp .eql c 1 λc=>A.call 23 [.i e,.i f,.v g,.i i,.i j,.i l,.v m,.i k,.i n,.i o,.b c] d λc d=>A.k5 c λc e f g i j k=>A.pa b 1 λb=>a [.i b,.i c,.i e,.v f,.i g,.i i,.i j,.v k] d)))))))) (k [.i e,.i f,.v g,.i i,.i j,.i l,.v m] d)) (k [.i e,.i f,.v g,.i i,.i j,.i l,.v m] d)) [.i 0,.i a,.i d,.v e,.i f,.i g,.i i,.v j] b
def f10:R:=A.po ls λa b=>A.po b λb c=>A.DK c λc d=>A.k7 d λd e f g=>A.new (.cells [.int .i64 g] 1 true) h λg i=>A.call 24 [.i a,.i b,.v c,.i d,.i e,.i f] i λa b=>A.k3 a λa c=>A.cd .neq c 0 (K [.v (.slice none 0 0),.i c] b) (A.ma (.lg cc 1 (.pointer (some ⟨g,0,none⟩))) b λc=>A.k9 c λc=>A.cd .lss c 1 (K [.v (.slice none 0 0),.i 1] b) (A.ma (.lg cc 1 (.pointer (some ⟨g,0,none⟩))) b λc=>A.k9 c λc=>A.cd .gtr c 1000 (K [.v (.slice none 0 0),.i 1] b) (A.new (.cells [.slice none 0 0] 1 true) b λb c=>A.c1 25 [.v a] c λa c=>A.join (λa c=>A.A1 a (A.lv (.pointer (some ⟨b,0,none⟩)) c λa=>A.c1 26 [.v a] c λa b=>K [.v b,.i 0] a)) λd=>A.Ft 160 c [.pointer (some ⟨g,0,none⟩),.pointer (some ⟨b,0,none⟩)] a λa b=>A.Fg a (d [] b) (K [.v (.slice none 0 0),.i 0] b) ((0,d [] b) :: []))))
def f11:R:=A.po ls λa b=>A.po b λb c=>A.k1 c λc=>A.c6 27 [.i a,.i b,.v c] h λd e=>A.cd .neq e 0 (A.jw (GA (.slice none 0 0)) λ_=>K [.i 0,.i 0,.v (.slice none 0 0),.i e] d) (A.ln c λe=>A.jw (EU e e) λ_=>A.new (.cells (aL [.int .i64 0,.int .u8 0,.int .u8 0] (Int.toNat e)) 3 true) d λd f=>A.heap (.fn (Za cc 3 (.slice (some ⟨d,0,some 13⟩) (Int.toNat e) ((Int.toNat e)+1)) c)) f λc f=>A.k9 c λ_=>A.jw (HR (.slice (some ⟨d,0,some 13⟩) (Int.toNat e) ((Int.toNat e)+1))) λc=>A.loop (λf g i=>A.k6 g λg=>A.cd .lss g c (A.jw (B_ 3 (.slice (some ⟨d,0,some 13⟩) (Int.toNat e) ((Int.toNat e)+1)) g) λa=>A.jw (Eu 2 a) λa=>A.n4 a (A.ma (.lg cc 1 a) i λa=>A.td .u8 a λa b=>A.tf b (A.jw (FV 4 a) λ_=>A.jw (nm gl0 0 [(a,1)] 1) λa=>A.td .u8 a λa b=>A.tf b (A.jw (B_ 3 (.slice (some ⟨d,0,some 13⟩) (Int.toNat e) ((Int.toNat e)+1)) g) λb=>A.jw (Eu 2 b) λb=>A.n4 b (A.heap (.st b [.int .u8 a]) i λ_ a=>A.pa g 1 λb=>f [.i b] a))))) (A.jw (GA (.slice (some ⟨d,0,some 13⟩) (Int.toNat e) ((Int.toNat e)+1))) λ_=>K [.i a,.i b,.v (.slice (some ⟨d,0,some 13⟩) (Int.toNat e) ((Int.toNat e)+1)),.i 0] i)) [.i 0] f)
def f12:R:=A.k0 ls λa b c=>A.c6 28 [.i a,.i b] h λd e=>A.cd .neq e 0 (K [.i 0,.i 0,.i 0,.i e] d) (A.c4 29 [.i a,.i b,.i c] d λd e=>A.cond (!e) (K [.i 0,.i 0,.i 0,.i 7] d) (A.c0 30 [.i a,.i b,.i c] d λa b c d=>K [.i b,.i c,.i d,.i 0] a))
def f13:R:=A.po ls λa b=>A.k7 b λb c d e=>A.c6 28 [.i a,.i b] h λf g=>A.cd .neq g 0 (K [.i 0,.i g] f) (A.c6 31 [.i c,.i d,.i e] f λf g=>A.cd .neq g 0 (K [.i 0,.i 7] f) (A.cd .lss c 0 (K [.i 0,.i 7] f) (A.cd .geq c a (K [.i 0,.i 7] f) (A.cd .lss d 0 (K [.i 0,.i 7] f) (A.cd .geq d b (K [.i 0,.i 7] f) (A.pm d a λa=>A.pa a c λa=>A.pm 4 a λa=>A.ci e λb=>A.pa a b λa=>K [.i a,.i 0] f))))))
def f14:R:=A.k7 ls λa b c d=>A.c2 32 [.i a,.i b,.i c,.i d] h λa b e=>A.cd .neq e 0 (K [.i 0,.i 0,.i e] a) (A.cmp .lss b c λe=>A.HH e b c λb=>K [.i b,.i d,.i 0] a)
def f15:R:=A.DK ls λa b=>A.k1 b λb=>A.ln a λc=>A.conv .u64 c λd=>A.c6 34 [.i d] h λd e=>A.call 33 [.v a,.i 0,.i c,.i e,.v b] d λa b=>A.A1 a (K [] b)
def f16:R:=A.JR ls λa b c d e f=>A.c2 18 [.i a,.i b,.i c] h λa b c=>A.c2 18 [.i d,.i e,.i f] a λa d e=>A.c6 17 [.i b,.i c,.i d,.i e] a λa b=>K [.i b] a
def Zd:R:=A.k7 ls λa b c d=>A.cd .neq a c (A.ps a c λa=>K [.i a] h) (A.ci b λa=>A.ci d λb=>A.ps a b λa=>K [.i a] h)
def f18:R:=A.k0 ls λa b _=>K [.i a,.i b] h
def f19:R:=A.k1 ls λa=>A.ln a λb=>A.pa b 1 λb=>A.loop (λb c d=>A.po c λc e=>A.po e λe f=>A.po f λf g=>A.k1 g λg=>A.ln a λi=>A.cd .lss c i (A.pm 4 c λi=>A.pa i 1 λi=>A.ix 1 a c 1 d λa=>A.td .u8 a λa j=>A.tf j (A.new (.cells [.int .i64 i,.int .u8 0,.int .u8 a] 3 true) d λa d=>A.av 3 16 g (.slice (some ⟨a,0,some 13⟩) 1 2) d λa d=>A.pa c 1 λc=>b [.i c,.i e,.i f,.v a] d)) (K [.i e,.i f,.v g] d)) [.i 0,.i b,.i 1,.v (.slice none 0 0)] h
def f20:R:=A.po ls λa b=>A.po b λb c=>A.DK c λc d=>A.k0 d λd e f=>A.new (.cells [.int .i64 0,.int .i64 0,.slice none 0 0,.int .u8 0,.int .i64 0,.int .i64 0,.slice none 0 0] 7 true) h λg i=>A.new (.cells [.int .i64 0] 1 true) i λi j=>A.call 24 [.i a,.i b,.v c,.i d,.i e,.i f] j λa b=>A.k3 a λa c=>A.cd .neq c 0 (A.heap (.st (.pointer (some ⟨g,0,none⟩)) [.int .i64 0,.int .i64 0,.slice none 0 0,.int .u8 0,.int .i64 0,.int .i64 0,.slice none 0 0]) b λ_ a=>A.heap (.st (.pointer (some ⟨i,0,none⟩)) [.int .i64 c]) a λ_ a=>A.ma (.ld 7 (.pointer (some ⟨g,0,none⟩))) a λb=>A.td .i64 b λb c=>A.td .i64 c λc d=>A.DF d λd e=>A.n4 d (A.td .u8 e λe f=>A.td .i64 f λf g=>A.td .i64 g λg j=>A.DF j λj k=>A.n4 j (A.tf k (A.jw (GA d) λ_=>A.jw (GA j) λ_=>A.ma (.ld 1 (.pointer (some ⟨i,0,none⟩))) a λi=>A.k9 i λi=>K [.i b,.i c,.v d,.i e,.i f,.i g,.v j,.i i] a)))) (A.c1 25 [.v a] b λa b=>A.Ft 320 b [.pointer (some ⟨g,0,none⟩),.pointer (some ⟨i,0,none⟩)] a λa b=>A.Fg a (A.heap (.st (.pointer (some ⟨g,0,none⟩)) [.int .i64 0,.int .i64 0,.slice none 0 0,.int .u8 0,.int .i64 0,.int .i64 0,.slice none 0 0]) b λ_ a=>A.heap (.st (.pointer (some ⟨i,0,none⟩)) [.int .i64 15]) a λ_ a=>A.ma (.ld 7 (.pointer (some ⟨g,0,none⟩))) a λb=>A.td .i64 b λb c=>A.td .i64 c λc d=>A.DF d λd e=>A.n4 d (A.td .u8 e λe f=>A.td .i64 f λf g=>A.td .i64 g λg j=>A.DF j λj k=>A.n4 j (A.tf k (A.jw (GA d) λ_=>A.jw (GA j) λ_=>A.ma (.ld 1 (.pointer (some ⟨i,0,none⟩))) a λi=>A.k9 i λi=>K [.i b,.i c,.v d,.i e,.i f,.i g,.v j,.i i] a)))) (A.ma (.ld 7 (.pointer (some ⟨g,0,none⟩))) b λa=>A.td .i64 a λa c=>A.td .i64 c λc d=>A.DF d λd e=>A.n4 d (A.td .u8 e λe f=>A.td .i64 f λf g=>A.td .i64 g λg j=>A.DF j λj k=>A.n4 j (A.tf k (A.jw (GA d) λ_=>A.jw (GA j) λ_=>A.ma (.ld 1 (.pointer (some ⟨i,0,none⟩))) b λi=>A.k9 i λi=>K [.i a,.i c,.v d,.i e,.i f,.i g,.v j,.i i] b)))) [])
def f21:R:=A.k2 ls λa b=>A.loop (λc d e=>A.po d λd f=>A.k5 f λf g i j k l m=>A.pm 4 a λa=>A.pm a b λa=>A.cd .lss d a (A.c0 35 [.i f,.i g,.i d] e λa b e n=>A.new (.cells [.int .i64 d] 1 true) a λa o=>A.new (.cells [.int .i64 b,.int .i64 e,.int .u8 n,.slice (some ⟨a,0,some 11⟩) 1 2] 4 true) o λa b=>A.av 4 48 m (.slice (some ⟨a,0,some 14⟩) 1 2) b λa b=>A.pa d 1 λd=>c [.i d,.i f,.i g,.v i,.i j,.i k,.i l,.v a] b) (K [.i f,.i g,.v i,.i j,.i k,.i l,.v m] e)) [.i 0,.i a,.i b,.v (.slice none 0 0),.i 0,.i 0,.i 0,.v (.slice none 0 0)] h
def f22:R:=A.k5 ls λa b c d e f g=>A.c1 36 [.i a,.i b,.v c,.i d,.i e,.i f,.v g] h λa b=>A.loop (λa c d=>A.k3 c λc e=>A.ln b λf=>A.cd .lss e f (A.fx 4 b e 2 2 d λb=>A.td .u8 b λb f=>A.k9 f λf=>A.join (λd g=>A.k6 d λd=>A.ln c λi=>A.cd .eql d i (A.new (.cells [] 2 true) g λg i=>A.jw (FN 2 c none (some d) none) λj=>A.n4 j (A.av 2 16 (.slice (some ⟨g,0,some 12⟩) 0 1) j i λi k=>A.new (.cells [.int .u8 b,.int .i64 f] 2 true) k λb f=>A.av 2 16 i (.slice (some ⟨b,0,some 12⟩) 1 2) f λf k=>A.jw (FN 2 c (some d) none none) λd=>A.n4 d (A.av 2 16 f d k λd k=>A.jw (Sx.Ew [(.slice (some ⟨g,0,some 12⟩) 0 1,(1,c)),(.slice (some ⟨g,0,some 12⟩) 0 1,(0,.slice (some ⟨b,0,some 12⟩) 1 2)),(.slice (some ⟨b,0,some 12⟩) 1 2,(1,c)),(.slice (some ⟨g,0,some 12⟩) 0 1,(0,.slice (some ⟨b,0,some 12⟩) 1 2)),(i,(0,.slice (some ⟨b,0,some 12⟩) 1 2)),(.slice (some ⟨b,0,some 12⟩) 1 2,(0,.slice (some ⟨g,0,some 12⟩) 0 1)),(.slice (some ⟨b,0,some 12⟩) 1 2,(0,j)),(.slice (some ⟨g,0,some 12⟩) 0 1,(1,c)),(.slice (some ⟨g,0,some 12⟩) 0 1,(1,c)),(i,(1,c)),(.slice (some ⟨b,0,some 12⟩) 1 2,(1,c)),(i,(1,c)),(f,(1,c))]) λ_=>A.pa e 1 λb=>a [.v d,.i b] k))) (A.ix 2 c d 2 g λi=>A.td .u8 i λi j=>A.k9 j λj=>A.eqs [(.i i,.i b),(.i j,.i f)] λi=>A.join (λb c=>A.k1 b λb=>A.pa e 1 λd=>a [.v b,.i d] c) λa=>A.cond (!i) (A.new (.cells [] 2 true) g λe g=>A.jw (FN 2 c none (some d) none) λi=>A.n4 i (A.av 2 16 (.slice (some ⟨e,0,some 12⟩) 0 1) i g λg j=>A.new (.cells [.int .u8 b,.int .i64 f] 2 true) j λb f=>A.av 2 16 g (.slice (some ⟨b,0,some 12⟩) 1 2) f λf j=>A.jw (FN 2 c (some d) none none) λd=>A.n4 d (A.av 2 16 f d j λd j=>A.jw (Sx.Ew [(.slice (some ⟨e,0,some 12⟩) 0 1,(1,c)),(.slice (some ⟨e,0,some 12⟩) 0 1,(0,.slice (some ⟨b,0,some 12⟩) 1 2)),(.slice (some ⟨b,0,some 12⟩) 1 2,(1,c)),(.slice (some ⟨e,0,some 12⟩) 0 1,(0,.slice (some ⟨b,0,some 12⟩) 1 2)),(g,(0,.slice (some ⟨b,0,some 12⟩) 1 2)),(.slice (some ⟨b,0,some 12⟩) 1 2,(0,.slice (some ⟨e,0,some 12⟩) 0 1)),(.slice (some ⟨b,0,some 12⟩) 1 2,(0,i)),(.slice (some ⟨e,0,some 12⟩) 0 1,(1,c)),(.slice (some ⟨e,0,some 12⟩) 0 1,(1,c)),(g,(1,c)),(.slice (some ⟨b,0,some 12⟩) 1 2,(1,c)),(g,(1,c)),(f,(1,c))]) λ_=>a [.v d] j))) (a [.v c] g))) λa=>A.loop (λd e g=>A.k6 e λe=>A.ln c λi=>A.cd .lss e i (A.fx 2 c e 0 1 g λi=>A.td .u8 i λi j=>A.tf j (A.cd .lss i b (A.pa e 1 λa=>d [.i a] g) (A.fx 2 c e 0 1 g λi=>A.td .u8 i λi j=>A.tf j (A.cd .eql i b (A.fx 2 c e 1 1 g λb=>A.k9 b λb=>A.cmp .lss b f λb=>A.join (λa b=>A.A1 a (A.pa e 1 λa=>d [.i a] b)) λc=>A.cond b (c [] g) (a [.i e] g)) (a [.i e] g))))) (a [.i e] g)) [.i 0] d) (K [.v c] d)) [.v (.slice none 0 0),.i 0] a
def f23:R:=A.po ls λa b=>A.po b λb c=>A.DK c λc d=>A.po d λd e=>A.po e λe f=>A.po f λf g=>A.DK g λg i=>A.po i λi j=>A.po j λj k=>A.Pf k λk l=>A.c0 37 [.i i,.i j] h λm n o p=>A.new (.cells [] 3 true) m λm q=>A.av 3 16 (.slice (some ⟨m,0,some 13⟩) 0 1) c q λm q=>A.loop (λm q r=>A.DK q λq s=>A.DK s λs t=>A.po t λt u=>A.k5 u λu v w x y z B=>A.ln g λC=>A.cd .lss t C (A.join (λa b=>A.DK a λa c=>A.DK c λc d=>A.k5 d λd e f g i j k=>A.pa t 1 λl=>m [.v a,.v c,.i l,.i d,.i e,.v f,.i g,.i i,.i j,.v k] b) λa=>A.ix 4 g t 4 r λb=>A.td .i64 b λb c=>A.td .i64 c λc g=>A.td .u8 g λg l=>A.DF l λl m=>A.n4 l (A.tf m (A.c6 38 [.i i,.i j,.i b,.i c,.i g] r λi j=>A.cd .neq j k (A.new (.cells [] 1 true) i λd e=>A.av 1 8 (.slice (some ⟨d,0,some 11⟩) 0 1) l e λd e=>A.new (.cells [.int .i64 b,.int .i64 c,.int .u8 g,d] 4 true) e λb c=>A.av 4 48 q (.slice (some ⟨b,0,some 14⟩) 1 2) c λb c=>a [.v b,.v s,.i u,.i v,.v w,.i x,.i y,.i z,.v B] c) (A.ln l λj=>A.ps j 1 λj=>A.loop (λi j k=>A.DK j λj m=>A.po m λm r=>A.k5 r λr t u v w x y=>A.cd .geq m 0 (A.ix 1 l m 1 k λa=>A.k9 a λa=>A.new (.cells [.int .i64 a] 1 true) k λa b=>A.av 1 8 j (.slice (some ⟨a,0,some 11⟩) 1 2) b λa b=>A.ix 1 l m 1 b λc=>A.k9 c λc=>A.cmp .eql c 0 λc=>A.join (λb c=>A.k5 b λb d e f g j k=>A.ps m 1 λl=>i [.v a,.i l,.i b,.i d,.v e,.i f,.i g,.i j,.v k] c) λa=>A.cond c (A.c0 39 [.i d,.i e,.i f,.i n,.i o,.i p] b λb c d e=>a [.i r,.i t,.v u,.i c,.i d,.i e,.v y] b) (a [.i r,.i t,.v u,.i v,.i w,.i x,.v y] b)) (A.c0 40 [.i n,.i o,.i p,.i b,.i c,.i g] k λb c d e=>A.new (.cells [.int .i64 c,.int .i64 d,.int .u8 e,j] 4 true) b λb c=>A.av 4 48 s (.slice (some ⟨b,0,some 14⟩) 1 2) c λb c=>a [.v q,.v b,.i r,.i t,.v u,.i v,.i w,.i x,.v y] c)) [.v (.slice none 0 0),.i j,.i u,.i v,.v w,.i x,.i y,.i z,.v B] i)))) (A.loop (λk m n=>A.k3 m λm o=>A.ln s λp=>A.cd .lss o p (A.join (λa b=>A.k4 a λa=>A.join (λa b=>A.k1 a λa=>A.pa o 1 λc=>k [.v a,.i c] b) λc=>A.cond (!a) (A.ix 4 s o 4 b λa=>A.td .i64 a λa d=>A.td .i64 d λd e=>A.td .u8 e λe f=>A.DF f λf g=>A.n4 f (A.tf g (A.new (.cells [.int .i64 a,.int .i64 d,.int .u8 e,f] 4 true) b λa b=>A.av 4 48 m (.slice (some ⟨a,0,some 14⟩) 1 2) b λa b=>c [.v a] b))) (c [.v m] b)) λa=>A.loop (λb c d=>A.Fu c λc e=>A.k6 e λe=>A.ln m λf=>A.cd .lss e f (A.cond (!c) (A.join (λa c=>A.k4 a λa=>A.pa e 1 λd=>b [.b a,.i d] c) λa=>A.fx 4 m e 0 3 d λb=>A.IQ b λb f g=>A.fx 4 s o 0 3 d λi=>A.IQ i λi j k=>A.eqs [(.i b,.i i),(.i f,.i j),(.i g,.i k)] λb=>A.cond (!b) (a [.b c] d) (A.join (λb c=>A.A1 b (a [.b true] c)) λa=>A.cond l (A.fx 4 m e 3 1 d λb=>A.DF b λb c=>A.n4 b (A.tf c (A.fx 4 s o 3 1 d λc=>A.DF c λc f=>A.n4 c (A.tf f (A.av 1 8 b c d λb c=>A.jw (B_ 4 m e) λd=>A.jw (Eu 3 d) λd=>A.n4 d (A.heap (.st d [b]) c λ_ b=>a [] b)))))) (A.new (.cells [] 1 true) d λb c=>A.jw (B_ 4 s o) λd=>A.jw (Eu 3 d) λd=>A.n4 d (A.lv d c λf=>A.av 1 8 (.slice (some ⟨b,0,some 11⟩) 0 1) f c λc f=>A.jw (B_ 4 m e) λg=>A.jw (Eu 3 g) λg=>A.n4 g (A.lv g f λi=>A.av 1 8 c i f λf i=>A.jw (B_ 4 m e) λe=>A.jw (Eu 3 e) λe=>A.n4 e (A.heap (.st e [f]) i λ_ e=>A.jw (Sx.Ew [(.slice (some ⟨b,0,some 11⟩) 0 1,(0,d)),(.slice (some ⟨b,0,some 11⟩) 0 1,(0,g)),(.slice (some ⟨b,0,some 11⟩) 0 1,(0,g)),(c,(0,g))]) λ_=>a [] e)))))) (a [.b c] d)) (a [.b c] d)) [.b false,.i 0] n) (A.c1 41 [.v m] n λk m=>A.call 42 [.i a,.i b,.v c,.i d,.i e,.i f] k λk n=>A.k3 k λk _=>A.c1 36 [.i a,.i b,.v c,.i d,.i e,.i f,.v g] n λc d=>A.loop (λc e f=>A.po e λe g=>A.k5 g λg m n o p q r=>A.ln d λs=>A.cd .lss e s (A.join (λa b=>A.k5 a λa d f g i j k=>A.pa e 1 λe=>c [.i e,.i a,.i d,.v f,.i g,.i i,.i j,.v k] b) λc=>A.fx 4 d e 2 2 f λs=>A.td .u8 s λs t=>A.k9 t λt=>A.eqs [(.i s,.i i),(.i t,.i j)] λi=>A.cond (!i) (c [.i g,.i m,.v n,.i o,.i p,.i q,.v r] f) (A.fx 4 d e 0 1 f λi=>A.k9 i λi=>A.fx 3 k i 0 1 f λi=>A.td .u8 i λi j=>A.tf j (A.cmp .lss i 4 λi=>A.eqs [(.b i,.b l)] λi=>A.join (λf i=>A.k6 f λf=>A.fx 4 d e 0 1 i λj=>A.k9 j λj=>A.fx 4 d e 0 1 i λk=>A.k9 k λk=>A.fx 4 d e 1 1 i λd=>A.k9 d λd=>A.c6 43 [.i a,.i b,.i k,.i d] i λa b=>A.new (.cells [.int .i64 j,.int .u8 b,.int .u8 f] 3 true) a λa b=>A.av 3 16 n (.slice (some ⟨a,0,some 13⟩) 1 2) b λa b=>c [.i g,.i m,.v a,.i o,.i p,.i q,.v r] b) λa=>A.cond (!i) (a [.i 1] f) (a [.i 2] f)))) (A.c1 44 [.v n] f λa b=>K [.i g,.i m,.v b,.i o,.i p,.i q,.v r] a)) [.i 0,.i u,.i v,.v w,.i x,.i y,.i z,.v m] c)) [.v q,.i 0] r)) [.v (.slice none 0 0),.v (.slice none 0 0),.i 0,.i a,.i b,.v m,.i d,.i e,.i f,.v (.slice none 0 0)] q
def f24:R:=A.po ls λa b=>A.po b λb c=>A.DK c λc d=>A.k0 d λd e f=>A.call 45 [.i a,.i b,.v c,.i d,.i e,.i f] h λg i=>A.k3 g λg j=>A.cd .neq j 0 (K [.v (.pointer none),.i j] i) (A.pm a b λj=>A.cd .gtr j 9 (K [.v (.pointer none),.i 3] i) (A.ln g λj=>A.jw (EU j j) λ_=>A.new (.cells (aL [.bool false] (Int.toNat j)) 1 true) i λi k=>A.new (.map [] 0) k λk l=>A.new (.cells [.int .i64 a,.int .i64 b,c,.int .u8 d,.int .i64 e,.int .i64 f,.slice none 0 0,.slice none 0 0,.slice none 0 0,.slice (some ⟨i,0,some 11⟩) (Int.toNat j) ((Int.toNat j)+1),.map (some k),.slice none 0 0,.slice none 0 0,.slice none 0 0,.bool false] 15 true) l λa b=>A.jw (Sx.Ew [(.map (some k),(2,g)),(.slice (some ⟨i,0,some 11⟩) (Int.toNat j) ((Int.toNat j)+1),(0,.map (some k)))]) λ_=>A.new (.map [] 0) b λb c=>A.ln g λd=>A.loop (λc e f=>A.k6 e λe=>A.cd .lss e d (A.ix 3 g e 3 f λd=>A.IQ d λd g i=>A.ma (.fn (Gr cc 55 false (.int .i64 0) (.map (some b)) (.agg ⟨[.int .i64 d,.int .i64 g,.int .u8 i]⟩) true)) f λj=>A.td .i64 j λ_ j=>A.E7 j λj k=>A.tf k (A.join (λa b=>A.A1 a (A.pa e 1 λa=>c [.i a] b)) λc=>A.cond (!j) (A.heap (.fn (G5 cc 55 (.map (some b)) (.agg ⟨[.int .i64 d,.int .i64 g,.int .u8 i]⟩) (.int .i64 0))) f λ_ b=>A.fp 6 (.pointer (some ⟨a,0,none⟩)) λe=>A.lv e b λf=>A.new (.cells [.int .i64 d,.int .i64 g,.int .u8 i] 3 true) b λb d=>A.av 3 24 f (.slice (some ⟨b,0,some 13⟩) 1 2) d λd f=>A.fp 6 (.pointer (some ⟨a,0,none⟩)) λa=>A.heap (.st a [d]) f λ_ a=>A.jw (Sx.Ew [(.slice (some ⟨b,0,some 13⟩) 1 2,(0,e))]) λ_=>c [] a) (c [] f))) (A.fp 6 (.pointer (some ⟨a,0,none⟩)) λc=>A.lv c f λc=>A.call 46 [.v c,.v (.func (.func 47) ⟨[]⟩ ⟨[]⟩)] f λc d=>A.A1 c (A.fp 6 (.pointer (some ⟨a,0,none⟩)) λc=>A.lv c d λc=>A.ln c λe=>A.loop (λd f i=>A.k6 f λf=>A.cd .lss f e (A.ix 3 c f 3 i λa=>A.IQ a λa c e=>A.heap (.fn (G5 cc 55 (.map (some b)) (.agg ⟨[.int .i64 a,.int .i64 c,.int .u8 e]⟩) (.int .i64 f))) i λ_ a=>A.pa f 1 λb=>d [.i b] a) (A.fp 6 (.pointer (some ⟨a,0,none⟩)) λc=>A.lv c i λd=>A.ln d λe=>A.jw (EU e e) λ_=>A.new (.cells (aL [.slice none 0 0] (Int.toNat e)) 1 true) i λf i=>A.fp 6 (.pointer (some ⟨a,0,none⟩)) λj=>A.lv j i λk=>A.ln k λl=>A.jw (EU l l) λ_=>A.new (.cells (aL [.slice none 0 0] (Int.toNat l)) 1 true) i λi m=>A.fp 7 (.pointer (some ⟨a,0,none⟩)) λn=>A.heap (.st n [.slice (some ⟨f,0,some 11⟩) (Int.toNat e) ((Int.toNat e)+1)]) m λ_ m=>A.fp 8 (.pointer (some ⟨a,0,none⟩)) λo=>A.heap (.st o [.slice (some ⟨i,0,some 11⟩) (Int.toNat l) ((Int.toNat l)+1)]) m λ_ m=>A.jw (Sx.Ew [(.slice (some ⟨f,0,some 11⟩) (Int.toNat e) ((Int.toNat e)+1),(0,j)),(.slice (some ⟨f,0,some 11⟩) (Int.toNat e) ((Int.toNat e)+1),(2,k)),(.slice (some ⟨i,0,some 11⟩) (Int.toNat l) ((Int.toNat l)+1),(0,c)),(.slice (some ⟨i,0,some 11⟩) (Int.toNat l) ((Int.toNat l)+1),(2,d)),(.slice (some ⟨f,0,some 11⟩) (Int.toNat e) ((Int.toNat e)+1),(0,.slice (some ⟨i,0,some 11⟩) (Int.toNat l) ((Int.toNat l)+1))),(n,(2,k)),(.slice (some ⟨i,0,some 11⟩) (Int.toNat l) ((Int.toNat l)+1),(0,n)),(.slice (some ⟨i,0,some 11⟩) (Int.toNat l) ((Int.toNat l)+1),(0,n))]) λ_=>A.ln g λc=>A.loop (λd e f=>A.k6 e λe=>A.cd .lss e c (A.ix 3 g e 3 f λc=>A.IQ c λc g i=>A.fp 7 (.pointer (some ⟨a,0,none⟩)) λj=>A.lv j f λk=>A.ma (.fn (Gr cc 55 false (.int .i64 0) (.map (some b)) (.agg ⟨[.int .i64 c,.int .i64 g,.int .u8 i]⟩) false)) f λl=>A.k9 l λl=>A.fp 7 (.pointer (some ⟨a,0,none⟩)) λa=>A.lv a f λm=>A.ma (.fn (Gr cc 55 false (.int .i64 0) (.map (some b)) (.agg ⟨[.int .i64 c,.int .i64 g,.int .u8 i]⟩) false)) f λc=>A.k9 c λc=>A.jw (B_ 1 m c) λc=>A.lv c f λg=>A.new (.cells [.int .i64 e] 1 true) f λf i=>A.av 1 8 g (.slice (some ⟨f,0,some 11⟩) 1 2) i λi m=>A.jw (B_ 1 k l) λk=>A.heap (.st k [i]) m λ_ k=>A.jw (Sx.Ew [(.slice (some ⟨f,0,some 11⟩) 1 2,(0,j)),(.slice (some ⟨f,0,some 11⟩) 1 2,(0,.map (some b))),(.slice (some ⟨f,0,some 11⟩) 1 2,(0,a)),(.slice (some ⟨f,0,some 11⟩) 1 2,(0,.map (some b))),(.slice (some ⟨f,0,some 11⟩) 1 2,(0,c)),(g,(0,j)),(i,(0,j)),(g,(0,.map (some b))),(i,(0,.map (some b)))]) λ_=>A.pa e 1 λa=>d [.i a] k) (A.fp 7 (.pointer (some ⟨a,0,none⟩)) λb=>A.lv b f λb=>A.ln b λc=>A.loop (λd e f=>A.k6 e λe=>A.cd .lss e c (A.ix 1 b e 1 f λb=>A.DF b λb c=>A.n4 b (A.tf c (A.ln b λc=>A.loop (λf g i=>A.k6 g λg=>A.cd .lss g c (A.ix 1 b g 1 i λc=>A.k9 c λc=>A.jw (FN 1 b none (some g) none) λb=>A.n4 b (A.ln b λd=>A.loop (λe i j=>A.k6 i λi=>A.cd .lss i d (A.ix 1 b i 1 j λb=>A.k9 b λb=>A.fp 10 (.pointer (some ⟨a,0,none⟩)) λd=>A.lv d j λd=>A.fp 11 (.pointer (some ⟨a,0,none⟩)) λf=>A.lv f j λf=>A.ln f λf=>A.heap (.fn (G5 cc 132 d (.agg ⟨[.int .i64 b,.int .i64 c]⟩) (.int .i64 f))) j λ_ b=>A.fp 11 (.pointer (some ⟨a,0,none⟩)) λc=>A.lv c b λd=>A.fp 11 (.pointer (some ⟨a,0,none⟩)) λf=>A.lv f b λf=>A.ln f λf=>A.new (.cells [.int .i64 f,.bool false] 2 true) b λb f=>A.av 2 16 d (.slice (some ⟨b,0,some 12⟩) 1 2) f λd f=>A.fp 11 (.pointer (some ⟨a,0,none⟩)) λa=>A.heap (.st a [d]) f λ_ a=>A.jw (Sx.Ew [(.slice (some ⟨b,0,some 12⟩) 1 2,(0,c))]) λ_=>A.pa i 1 λb=>e [.i b] a) (A.pa g 1 λa=>f [.i a] j)) [.i 0] i)) (A.pa e 1 λa=>d [.i a] i)) [.i 0] f))) (A.fp 11 (.pointer (some ⟨a,0,none⟩)) λb=>A.lv b f λb=>A.ln b λb=>A.jw (EU b b) λ_=>A.new (.cells (aL [.int .i64 0] (Int.toNat b)) 1 true) f λc d=>A.fp 12 (.pointer (some ⟨a,0,none⟩)) λe=>A.heap (.st e [.slice (some ⟨c,0,some 11⟩) (Int.toNat b) ((Int.toNat b)+1)]) d λ_ b=>A.call 48 [.v (.pointer (some ⟨a,0,none⟩)),.v g] b λb c=>A.k3 b λb d=>A.ln b λe=>A.loop (λc f g=>A.k6 f λf=>A.cd .lss f e (A.ix 1 b f 1 g λb=>A.DF b λb d=>A.n4 b (A.tf d (A.call 49 [.v (.pointer (some ⟨a,0,none⟩)),.v b] g λa b=>A.A1 a (A.pa f 1 λa=>c [.i a] b)))) (K [.v (.pointer (some ⟨a,0,none⟩)),.i d] g)) [.i 0] c)) [.i 0] f)) [.i 0] m)) [.i 0] d))) [.i 0] c))
def f25:R:=A.k1 ls λa=>A.new (.cells [a] 1 true) h λa b=>A.n4 (.func (.func 50) ⟨[]⟩ ⟨[.pointer (some ⟨a,0,none⟩)]⟩) (K [.v (.func (.func 50) ⟨[]⟩ ⟨[.pointer (some ⟨a,0,none⟩)]⟩)] b)
def f26:R:=A.k1 ls λa=>A.ln a λb=>A.ln a λc=>A.jw (FN 7 a none (some b) (some c)) λa=>A.n4 a (K [.v a] h)
def f27:R:=A.po ls λa b=>A.po b λb c=>A.k1 c λc=>A.c6 28 [.i a,.i b] h λd e=>A.cd .neq e 0 (K [.i e] d) (A.c4 55 [.v c,.v (.func (.func 56) ⟨[]⟩ ⟨[]⟩)] d λd e=>A.cond e (K [.i 1] d) (A.ln c λe=>A.loop (λd f g=>A.k6 f λf=>A.cd .lss f e (A.ix 3 c f 3 g λc=>A.k8 c λc e i=>A.c0 14 [.i a,.i b,.i c,.i e] g λa b g j=>A.cd .neq j 0 (K [.i 7] a) (A.c2 18 [.i c,.i e,.i i] a λa c e=>A.eqs [(.i b,.i c),(.i g,.i e)] λb=>A.cond (!b) (K [.i 7] a) (A.pa f 1 λb=>d [.i b] a))) (A.loop (λa b d=>A.k6 b λb=>A.ln c λe=>A.cd .lss b e (A.ps b 1 λe=>A.ix 3 c e 3 d λe=>A.k8 e λe f g=>A.c2 18 [.i e,.i f,.i g] d λd e f=>A.ix 3 c b 3 d λc=>A.k8 c λc g i=>A.c2 18 [.i c,.i g,.i i] d λc d g=>A.c6 17 [.i e,.i f,.i d,.i g] c λc d=>A.cd .geq d 0 (K [.i 6] c) (A.pa b 1 λb=>a [.i b] c)) (K [.i 0] d)) [.i 1] g)) [.i 0] d))
def f28:R:=A.k2 ls λa b=>A.cd .lss a 1 (K [.i 1] h) (A.cd .lss b 1 (K [.i 1] h) (A.cd .gtr a 256 (K [.i 1] h) (A.cd .gtr b 256 (K [.i 1] h) (A.pm a b λa=>A.cd .gtr a 256 (K [.i 1] h) (K [.i 0] h)))))
def f29:R:=A.k0 ls λa b c=>A.join (λa b=>A.k4 a λa=>K [.b a] b) λd=>A.cd .geq c 0 (A.pm 4 a λa=>A.pm a b λa=>A.cmp .lss c a λa=>d [.b a] h) (d [.b false] h)
def f30:R:=A.k0 ls λa _ b=>A.pq b 4 λc=>A.x6 .rem .i64 c a λc=>A.pq b 4 λd=>A.pq d a λa=>A.x6 .rem .i64 b 4 λb=>A.conv .u8 b λb=>K [.i c,.i a,.i b] h
def f31:R:=A.k0 ls λa b c=>A.cd .lss a (-4096) (K [.i 1] h) (A.cd .gtr a 4096 (K [.i 1] h) (A.cd .lss b (-4096) (K [.i 1] h) (A.cd .gtr b 4096 (K [.i 1] h) (A.cd .gtr c 3 (K [.i 1] h) (K [.i 0] h)))))
def f32:R:=A.k7 ls λa b c d=>A.c7 12 [.i a,.i b,.i c] h λc e f g i=>A.cd .neq i 0 (K [.i 0,.i i] c) (A.c7 58 [.i e,.i f,.i g,.i d] c λc d e f g=>A.cd .neq g 0 (K [.i 0,.i 1] c) (A.c2 13 [.i a,.i b,.i d,.i e,.i f] c λa b c=>K [.i b,.i c] a))
def f33:R:=A.DK ls λa b=>A.po b λb c=>A.po c λc d=>A.po d λd e=>A.k1 e λe=>A.loop (λb c d=>A.po c λc f=>A.po f λf g=>A.Fu g λ_ g=>A.Fu g λ_ g=>A.k6 g λg=>A.join (λa c=>A.po a λa d=>A.po d λd e=>A.Fu e λe f=>A.Fu f λf g=>A.k6 g λg=>b [.i a,.i d,.b e,.b f,.i g] c) λ_=>A.ps g f λb=>A.cd .leq b 12 (A.call 59 [.v a,.i f,.i g,.v e] d λa b=>A.A1 a (K [] b)) (A.join (λa _=>A.A1 a (A.fail)) λa=>A.cmp .eql c 0 λ_=>a [] d)) [.i d,.i b,.b true,.b true,.i c] h
def f34:R:=A.k6 ls λa=>A.c6 68 [.i a] h λa b=>K [.i b] a
def f35:R:=A.k0 ls λa _ b=>A.pq b 4 λc=>A.x6 .rem .i64 c a λc=>A.pq b 4 λd=>A.pq d a λa=>A.x6 .rem .i64 b 4 λb=>A.conv .u8 b λb=>K [.i c,.i a,.i b] h
def f36:R:=A.k5 ls λa b c d e f _=>A.call 42 [.i a,.i b,.v c,.i d,.i e,.i f] h λd e=>A.k3 d λd _=>A.c1 69 [.i a,.i b,.v c] e λc e=>A.loop (λc f g=>A.k3 f λf i=>A.ln d λj=>A.cd .lss i j (A.loop (λf g j=>A.k3 g λg k=>A.cd .lss k 3 (A.join (λa b=>A.k1 a λa=>A.pa k 1 λc=>f [.v a,.i c] b) λc=>A.c6 70 [.i a,.i b,.i i,.i k] j λf j=>A.cd .lss j i (c [.v g] f) (A.pm 3 i λl=>A.pa l k λk=>A.ix 1 e k 1 f λe=>A.td .u8 e λe k=>A.tf k (A.cd .neq e 0 (c [.v g] f) (A.ix 3 d i 3 f λe=>A.JT e λe k l=>A.c0 35 [.i a,.i b,.i i] f λf m n o=>A.c0 40 [.i e,.i k,.i l,.i m,.i n,.i o] f λe f k l=>A.ix 3 d j 3 e λd=>A.JT d λd m n=>A.c0 35 [.i a,.i b,.i j] e λa b e o=>A.c0 40 [.i d,.i m,.i n,.i b,.i e,.i o] a λa b d e=>A.c2 71 [.i f,.i k,.i l,.i b,.i d,.i e] a λa b d=>A.new (.cells [.int .i64 i,.int .i64 j,.int .u8 b,.int .i64 d] 4 true) a λa b=>A.av 4 32 g (.slice (some ⟨a,0,some 14⟩) 1 2) b λa b=>c [.v a] b)))) (A.pa i 1 λa=>c [.v g,.i a] j)) [.v f,.i 0] g) (K [.v f] g)) [.v (.slice none 0 0),.i 0] c
def f37:R:=A.k2 ls λa b=>A.cd .eql a 1 (A.pm 2 b λa=>K [.i 4,.i a,.i 0] h) (A.cd .eql a 2 (A.pm 2 b λa=>K [.i 6,.i 0,.i a] h) (A.cd .eql a 3 (K [.i 5,.i b,.i b] h) (A.ps 0 b λa=>K [.i 7,.i a,.i b] h)))
def f38:R:=A.po ls λa b=>A.k7 b λb c d e=>A.c2 72 [.i c,.i d,.i e] h λc d e=>A.pa d e λf=>A.ps e d λg=>A.new (.cells [.int .i64 0,.int .i64 d,.int .i64 e,.int .i64 f,.int .i64 g] 1 true) c λc d=>A.jw (B_ 1 (.slice (some ⟨c,0,some 11⟩) 5 6) a) λa=>A.ma (.lg cc 1 a) d λa=>A.k9 a λa=>A.pm 6 b λb=>A.cd .lss a b (K [.i 0] d) (K [.i 1] d)
def f39:R:=A.JR ls λa b c d e f=>A.c2 73 [.i a,.i b,.i c,.i 0,.i 0] h λg i j=>A.c2 73 [.i d,.i e,.i f,.i i,.i j] g λg i j=>A.c2 73 [.i a,.i b,.i c,.i 6,.i 0] g λg k l=>A.c2 73 [.i d,.i e,.i f,.i k,.i l] g λg k l=>A.c2 73 [.i a,.i b,.i c,.i 0,.i 6] g λa b c=>A.c2 73 [.i d,.i e,.i f,.i b,.i c] a λa b c=>A.loop (λa d e=>A.k6 d λd=>A.cd .lss d 8 (A.c6 74 [.i i,.i 6] e λe f=>A.c6 74 [.i j,.i 6] e λe g=>A.c2 73 [.i d,.i f,.i g,.i 6,.i 0] e λe i j=>A.eqs [(.i i,.i k),(.i j,.i l)] λi=>A.cond i (A.c2 73 [.i d,.i f,.i g,.i 0,.i 6] e λe i j=>A.eqs [(.i i,.i b),(.i j,.i c)] λb=>A.join (λb c=>A.A1 b (A.x6 .add .u8 d 1 λb=>a [.i b] c)) λa=>A.cond b (K [.i d,.i f,.i g] e) (a [] e)) (A.x6 .add .u8 d 1 λb=>a [.i b] e)) (K [.i 0,.i 0,.i 0] e)) [.i 0] a
def f40:R:=A.JR ls λa b c d e f=>A.c2 72 [.i d,.i e,.i f] h λd e f=>A.c2 73 [.i a,.i b,.i c,.i e,.i f] d λa b c=>A.c0 75 [.i b,.i c] a λa b c d=>K [.i b,.i c,.i d] a
def f41:R:=A.k1 ls λa=>A.new (.cells [] 4 true) h λb c=>A.av 4 48 (.slice (some ⟨b,0,some 14⟩) 0 1) a c λa b=>A.loop (λb c d=>A.k6 c λc=>A.ln a λe=>A.cd .lss c e (A.join (λa d=>A.A1 a (A.pa c 1 λa=>b [.i a] d)) λb=>A.loop (λc d e=>A.k6 d λd=>A.cd .gtr d 0 (A.ps d 1 λf=>A.fx 4 a f 0 3 e λf=>A.IQ f λf g i=>A.fx 4 a d 0 3 e λj=>A.IQ j λj k l=>A.c6 76 [.i f,.i g,.i i,.i j,.i k,.i l] e λe f=>A.cd .eql f 1 (A.ps d 1 λb=>A.ix 4 a d 4 e λf=>A.td .i64 f λf g=>A.td .i64 g λg i=>A.td .u8 i λi j=>A.DF j λj k=>A.n4 j (A.tf k (A.ps d 1 λk=>A.ix 4 a k 4 e λk=>A.td .i64 k λk l=>A.td .i64 l λl m=>A.td .u8 m λm n=>A.DF n λn o=>A.n4 n (A.tf o (A.jw (B_ 4 a b) λb=>A.heap (.st b [.int .i64 f,.int .i64 g,.int .u8 i,j]) e λ_ b=>A.jw (B_ 4 a d) λa=>A.heap (.st a [.int .i64 k,.int .i64 l,.int .u8 m,n]) b λ_ a=>A.ps d 1 λb=>c [.i b] a))))) (b [] e)) (b [] e)) [.i c] d) (K [.v a] d)) [.i 1] b
def f42:R:=A.po ls λa b=>A.po b λb c=>A.DK c λc d=>A.k0 d λd e f=>A.pm 4 a λg=>A.pm g b λg=>A.jw (EU g g) λ_=>A.new (.cells (aL [.int .u8 0,.int .i64 0,.int .i64 0] (Int.toNat g)) 3 true) h λi j=>A.jw (EU g g) λ_=>A.new (.cells (aL [.bool false] (Int.toNat g)) 1 true) j λj k=>A.cd .lss g 1 (K [.v (.slice none 0 0),.i 0] k) (A.jw (B_ 3 (.slice (some ⟨i,0,some 13⟩) (Int.toNat g) ((Int.toNat g)+1)) 0) λl=>A.heap (.st l [.int .u8 d,.int .i64 e,.int .i64 f]) k λ_ d=>A.jw (B_ 1 (.slice (some ⟨j,0,some 11⟩) (Int.toNat g) ((Int.toNat g)+1)) 0) λe=>A.heap (.st e [.bool true]) d λ_ d=>A.c1 69 [.i a,.i b,.v c] d λc d=>A.loop (λc e f=>A.k4 e λe=>A.cond e (A.loop (λe f k=>A.Fu f λf l=>A.k6 l λl=>A.cd .lss l g (A.join (λa b=>A.k4 a λa=>A.pa l 1 λc=>e [.b a,.i c] b) λc=>A.loop (λe f k=>A.Fu f λf m=>A.k6 m λm=>A.cd .lss m 3 (A.jw (B_ 1 (.slice (some ⟨j,0,some 11⟩) (Int.toNat g) ((Int.toNat g)+1)) l) λn=>A.ma (.lg cc 1 n) k λn=>A.E7 n λn o=>A.tf o (A.cond n (A.join (λa b=>A.k4 a λa=>A.pa m 1 λc=>e [.b a,.i c] b) λc=>A.c6 70 [.i a,.i b,.i l,.i m] k λe k=>A.cd .lss k 0 (c [.b f] e) (A.jw (B_ 3 (.slice (some ⟨i,0,some 13⟩) (Int.toNat g) ((Int.toNat g)+1)) l) λn=>A.ma (.lg cc 3 n) e λn=>A.JT n λn o p=>A.pm 3 l λq=>A.pa q m λm=>A.ix 1 d m 1 e λd=>A.td .u8 d λd m=>A.tf m (A.cmp .neq d 0 λd=>A.join (λa b=>A.k0 a λa d e=>A.jw (B_ 1 (.slice (some ⟨j,0,some 11⟩) (Int.toNat g) ((Int.toNat g)+1)) k) λl=>A.ma (.lg cc 1 l) b λl=>A.E7 l λl m=>A.tf m (A.cond l (A.jw (B_ 3 (.slice (some ⟨i,0,some 13⟩) (Int.toNat g) ((Int.toNat g)+1)) k) λl=>A.ma (.lg cc 3 l) b λl=>A.JT l λl m n=>A.eqs [(.i l,.i a),(.i m,.i d),(.i n,.i e)] λl=>A.join (λb l=>A.A1 b (A.jw (B_ 1 (.slice (some ⟨j,0,some 11⟩) (Int.toNat g) ((Int.toNat g)+1)) k) λb=>A.ma (.lg cc 1 b) l λb=>A.E7 b λb m=>A.tf m (A.join (λa b=>A.k4 a λa=>c [.b a] b) λc=>A.cond (!b) (A.jw (B_ 3 (.slice (some ⟨i,0,some 13⟩) (Int.toNat g) ((Int.toNat g)+1)) k) λb=>A.heap (.st b [.int .u8 a,.int .i64 d,.int .i64 e]) l λ_ a=>A.jw (B_ 1 (.slice (some ⟨j,0,some 11⟩) (Int.toNat g) ((Int.toNat g)+1)) k) λb=>A.heap (.st b [.bool true]) a λ_ a=>c [.b true] a) (c [.b f] l)))) λa=>A.cond (!l) (K [.v (.slice none 0 0),.i 0] b) (a [] b)) (A.jw (B_ 1 (.slice (some ⟨j,0,some 11⟩) (Int.toNat g) ((Int.toNat g)+1)) k) λl=>A.ma (.lg cc 1 l) b λl=>A.E7 l λl m=>A.tf m (A.join (λa b=>A.k4 a λa=>c [.b a] b) λc=>A.cond (!l) (A.jw (B_ 3 (.slice (some ⟨i,0,some 13⟩) (Int.toNat g) ((Int.toNat g)+1)) k) λf=>A.heap (.st f [.int .u8 a,.int .i64 d,.int .i64 e]) b λ_ a=>A.jw (B_ 1 (.slice (some ⟨j,0,some 11⟩) (Int.toNat g) ((Int.toNat g)+1)) k) λb=>A.heap (.st b [.bool true]) a λ_ a=>c [.b true] a) (c [.b f] b))))) λc=>A.cond d (A.c0 35 [.i a,.i b,.i l] e λd e f j=>A.c0 35 [.i a,.i b,.i k] d λa b d k=>A.c0 77 [.i e,.i f,.i j,.i b,.i d,.i k] a λa b d e=>A.jw (B_ 3 (.slice (some ⟨i,0,some 13⟩) (Int.toNat g) ((Int.toNat g)+1)) l) λf=>A.ma (.lg cc 3 f) a λf=>A.JT f λf g i=>A.c0 39 [.i b,.i d,.i e,.i f,.i g,.i i] a λa b d e=>c [.i b,.i d,.i e] a) (c [.i n,.i o,.i p] e)))) (c [.b f] k))) (c [.b f] k)) [.b f,.i 0] k) (c [.b f] k)) [.b false,.i 0] f) (K [.v (.slice (some ⟨i,0,some 13⟩) (Int.toNat g) ((Int.toNat g)+1)),.i 1] f)) [.b true] c)
def f43:R:=A.k7 ls λa b c d=>A.loop (λe f g=>A.k6 f λf=>A.cd .lss f 3 (A.c6 70 [.i a,.i b,.i c,.i f] g λa b=>A.cd .neq b d (A.pa f 1 λb=>e [.i b] a) (A.x6 .rem .i64 c 4 λb=>A.x6 .rem .i64 d 4 λe=>A.pa b e λb=>A.cd .eql b 1 (K [.i 1] a) (A.x6 .rem .i64 c 4 λb=>A.x6 .rem .i64 d 4 λc=>A.pa b c λb=>A.cd .eql b 5 (K [.i 1] a) (K [.i 2] a)))) (K [.i 0] g)) [.i 1] h
def f44:R:=A.k1 ls λa=>A.loop (λb c d=>A.k6 c λc=>A.ln a λe=>A.cd .lss c e (A.join (λa d=>A.A1 a (A.pa c 1 λa=>b [.i a] d)) λb=>A.loop (λc d e=>A.k6 d λd=>A.cd .gtr d 0 (A.ps d 1 λf=>A.fx 3 a f 0 1 e λf=>A.k9 f λf=>A.fx 3 a d 0 1 e λg=>A.k9 g λg=>A.cd .gtr f g (A.ps d 1 λb=>A.ix 3 a d 3 e λf=>A.k8 f λf g i=>A.ps d 1 λj=>A.ix 3 a j 3 e λj=>A.k8 j λj k l=>A.jw (B_ 3 a b) λb=>A.heap (.st b [.int .i64 f,.int .u8 g,.int .u8 i]) e λ_ b=>A.jw (B_ 3 a d) λa=>A.heap (.st a [.int .i64 j,.int .u8 k,.int .u8 l]) b λ_ a=>A.ps d 1 λb=>c [.i b] a) (A.ps d 1 λf=>A.fx 3 a f 0 1 e λf=>A.k9 f λf=>A.fx 3 a d 0 1 e λg=>A.k9 g λg=>A.cd .eql f g (A.ps d 1 λf=>A.fx 3 a f 1 1 e λf=>A.td .u8 f λf g=>A.tf g (A.fx 3 a d 1 1 e λg=>A.td .u8 g λg i=>A.tf i (A.cmp .gtr f g λf=>A.join (λb e=>A.A1 b (A.ps d 1 λb=>A.ix 3 a d 3 e λf=>A.k8 f λf g i=>A.ps d 1 λj=>A.ix 3 a j 3 e λj=>A.k8 j λj k l=>A.jw (B_ 3 a b) λb=>A.heap (.st b [.int .i64 f,.int .u8 g,.int .u8 i]) e λ_ b=>A.jw (B_ 3 a d) λa=>A.heap (.st a [.int .i64 j,.int .u8 k,.int .u8 l]) b λ_ a=>A.ps d 1 λb=>c [.i b] a)) λa=>A.cond f (a [] e) (b [] e)))) (b [] e))) (b [] e)) [.i c] d) (K [.v a] d)) [.i 1] h
def f45:R:=A.po ls λa b=>A.po b λb c=>A.DK c λc d=>A.k0 d λd e f=>A.call 78 [.i a,.i b,.v c,.i d,.i e,.i f] h λa b=>A.DK a λ_ a=>A.k3 a λa c=>K [.v a,.i c] b
def f46:R:=A.DK ls λa b=>A.k1 b λb=>A.ln a λc=>A.conv .u64 c λd=>A.c6 34 [.i d] h λd e=>A.call 79 [.v a,.i 0,.i c,.i e,.v b] d λa b=>A.A1 a (K [] b)
def f47:R:=A.JR ls λa b c d e f=>A.ci c λc=>A.ci f λf=>A.new (.cells [.int .i64 b,.int .i64 e,.int .i64 a,.int .i64 d,.int .i64 c,.int .i64 f] 2 true) h λa b=>A.c6 80 [.v (.slice (some ⟨a,0,some 12⟩) 3 4)] b λa b=>K [.i b] a
def f48:R:=A.DK ls λa b=>A.k1 b λb=>A.new (.map [] 0) h λc d=>A.fp 0 a λe=>A.ma (.lg cc 3 e) d λe=>A.td .i64 e λe f=>A.td .i64 f λf g=>A.DF g λg i=>A.n4 g (A.tf i (A.fp 3 a λi=>A.ma (.lg cc 3 i) d λi=>A.JT i λi j k=>A.call 81 [.i e,.i f,.v g,.i i,.i j,.i k] d λd e=>A.k3 d λd _=>A.ln b λf=>A.loop (λe g i=>A.k3 g λg j=>A.cd .lss j f (A.fp 0 a λf=>A.jw (Eu 0 f) λf=>A.n4 f (A.ma (.lg cc 2 f) i λf=>A.Iq f λf k=>A.c7 12 [.i f,.i k,.i j] i λf i k l _=>A.loop (λf g m=>A.k3 g λg n=>A.cd .lss n 3 (A.join (λa b=>A.k1 a λa=>A.x6 .add .u8 n 1 λc=>f [.v a,.i c] b) λe=>A.c7 58 [.i i,.i k,.i l,.i n] m λf i k l _=>A.ix 3 b j 3 f λb=>A.IQ b λb m o=>A.ix 3 d j 3 f λp=>A.JT p λp q r=>A.c7 82 [.i p,.i q,.i r,.i i,.i k,.i l] f λf i k l p=>A.cd .neq p 0 (K [.v (.slice none 0 0),.i 3] f) (A.c6 47 [.i b,.i m,.i o,.i i,.i k,.i l] f λf p=>A.cmp .gtr p 0 λp=>A.join (λb f=>A.po b λb i=>A.JR i λi k l m o p=>A.ma (.fn (Gr cc 177 false (.pointer none) (.map (some c)) (.agg ⟨[.int .i64 i,.int .i64 k,.int .u8 l,.int .i64 m,.int .i64 o,.int .u8 p]⟩) false)) f λq=>A.DF q λq r=>A.n4 q (A.tf r (A.jw (lU 4 q (.pointer none)) λr=>A.join (λc f=>A.DK c λc g=>A.k1 g λg=>A.fp 0 a λi=>A.jw (Eu 0 i) λi=>A.n4 i (A.ma (.lg cc 2 i) f λi=>A.Iq i λi k=>A.c2 32 [.i i,.i k,.i j,.i n] f λf i k=>A.cd .neq k 0 (e [.v g] f) (A.cd .lss i j (e [.v g] f) (A.fp 0 a λk=>A.ma (.lg cc 3 k) f λk=>A.td .i64 k λk l=>A.td .i64 l λl m=>A.DF m λm o=>A.n4 m (A.tf o (A.c2 83 [.i k,.i l,.v m,.i j,.i n] f λf k _=>A.cd .eql k 0 (A.cmp .eql b 0 λl=>A.join (λa b=>A.A1 a (e [.v g] b)) λe=>A.cond l (A.fp 0 c λa=>A.lv a f λa=>A.new (.cells [.int .i64 j,.int .i64 i] 2 true) f λb d=>A.av 2 16 a (.slice (some ⟨b,0,some 12⟩) 1 2) d λa b=>A.fp 0 c λc=>A.heap (.st c [a]) b λ_ a=>e [] a) (A.cmp .eql k 0 λg=>A.join (λa b=>A.A1 a (e [] b)) λe=>A.cond g (A.fp 0 c λa=>A.lv a f λa=>A.new (.cells [.int .i64 i,.int .i64 j] 2 true) f λb d=>A.av 2 16 a (.slice (some ⟨b,0,some 12⟩) 1 2) d λa b=>A.fp 0 c λc=>A.heap (.st c [a]) b λ_ a=>e [] a) (A.fp 1 c λg=>A.jw (QX 2 1 g b) λg=>A.n4 g (A.lv g f λl=>A.new (.cells [.int .i64 j,.int .i64 i] 2 true) f λf m=>A.av 2 16 l (.slice (some ⟨f,0,some 12⟩) 1 2) m λl m=>A.fp 1 c λc=>A.jw (QX 2 1 c b) λb=>A.n4 b (A.heap (.st b [l]) m λ_ b=>A.jw (Sx.Ew [(.slice (some ⟨f,0,some 12⟩) 1 2,(0,g))]) λ_=>A.ix 3 d j 3 b λc=>A.JT c λc d f=>A.c4 85 [.i c,.i d,.i f] b λb c=>A.call 84 [.v a,.i k,.i j,.i i,.b (!c)] b λa b=>A.A1 a (e [] b)))))) (A.cmp .eql k 0 λl=>A.join (λa b=>A.A1 a (e [.v g] b)) λe=>A.cond l (A.fp 0 c λa=>A.lv a f λa=>A.new (.cells [.int .i64 i,.int .i64 j] 2 true) f λb d=>A.av 2 16 a (.slice (some ⟨b,0,some 12⟩) 1 2) d λa b=>A.fp 0 c λc=>A.heap (.st c [a]) b λ_ a=>e [] a) (A.fp 1 c λg=>A.jw (QX 2 1 g b) λg=>A.n4 g (A.lv g f λl=>A.new (.cells [.int .i64 j,.int .i64 i] 2 true) f λf m=>A.av 2 16 l (.slice (some ⟨f,0,some 12⟩) 1 2) m λl m=>A.fp 1 c λc=>A.jw (QX 2 1 c b) λb=>A.n4 b (A.heap (.st b [l]) m λ_ b=>A.jw (Sx.Ew [(.slice (some ⟨f,0,some 12⟩) 1 2,(0,g))]) λ_=>A.ix 3 d j 3 b λc=>A.JT c λc d f=>A.c4 85 [.i c,.i d,.i f] b λb c=>A.call 84 [.v a,.i k,.i j,.i i,.b (!c)] b λa b=>A.A1 a (e [] b))))))))))) λa=>A.cond r (A.new (.cells [.slice none 0 0,.slice none 0 0,.slice none 0 0] 3 true) f λb d=>A.heap (.fn (G5 cc 177 (.map (some c)) (.agg ⟨[.int .i64 i,.int .i64 k,.int .u8 l,.int .i64 m,.int .i64 o,.int .u8 p]⟩) (.pointer (some ⟨b,0,none⟩)))) d λ_ c=>A.new (.cells [.pointer (some ⟨b,0,none⟩)] 1 true) c λc d=>A.av 1 8 g (.slice (some ⟨c,0,some 11⟩) 1 2) d λc d=>a [.v (.pointer (some ⟨b,0,none⟩)),.v c] d) (a [.v q,.v g] f)))) λa=>A.cond p (a [.i 1,.i i,.i k,.i l,.i b,.i m,.i o] f) (a [.i 0,.i b,.i m,.i o,.i i,.i k,.i l] f))) (A.pa j 1 λa=>e [.v g,.i a] m)) [.v g,.i 0] f)) (K [.v g,.i 0] i)) [.v (.slice none 0 0),.i 0] e))
def f49:R:=A.DK ls λa b=>A.k1 b λb=>A.fp 0 b λc=>A.lv c h λc=>A.ln c λd=>A.loop (λe f g=>A.k6 f λf=>A.cd .lss f d (A.ix 2 c f 2 g λc=>A.Iq c λc d=>A.fp 0 b λi=>A.lv i g λi=>A.jw (FN 2 i none (some f) none) λi=>A.n4 i (A.ln i λj=>A.loop (λg k l=>A.k6 k λk=>A.cd .lss k j (A.ix 2 i k 2 l λb=>A.Iq b λb e=>A.IP 87 [.v a,.i c,.i b] l λb c f=>A.IP 87 [.v a,.i d,.i e] b λb d e=>A.call 86 [.v a,.i c,.b f,.i d,.b e] b λa b=>A.A1 a (A.pa k 1 λa=>g [.i a] b)) (A.fp 1 b λb=>A.ma (.lg cc 2 b) l λb=>A.DF b λb g=>A.n4 b (A.DF g λg i=>A.n4 g (A.tf i (A.loop (λi j k=>A.k6 j λj=>A.cd .lss j 2 (A.jw (FV 2 j) λ_=>A.jw (ir [.v b,.v g] 0 [(j,1)] 1) λb=>A.k1 b λb=>A.ln b λe=>A.loop (λf g k=>A.k6 g λg=>A.cd .lss g e (A.ix 2 b g 2 k λb=>A.Iq b λb e=>A.jw (FV 2 j) λ_=>A.jw (ir [.i c,.i d] 0 [(j,1)] 1) λi=>A.k6 i λi=>A.IP 87 [.v a,.i i,.i b] k λb i k=>A.jw (FV 2 j) λ_=>A.jw (ir [.i c,.i d] 0 [(j,1)] 1) λc=>A.k6 c λc=>A.IP 87 [.v a,.i c,.i e] b λb c d=>A.call 86 [.v a,.i i,.b k,.i c,.b d] b λa b=>A.A1 a (A.pa g 1 λa=>f [.i a] b)) (A.pa j 1 λa=>i [.i a] k)) [.i 0] k) (A.pa f 1 λa=>e [.i a] k)) [.i 0] l))))) [.i 0] g)) (A.fp 1 b λb=>A.ma (.lg cc 2 b) g λb=>A.DF b λb c=>A.n4 b (A.DF c λc d=>A.n4 c (A.tf d (A.loop (λd e f=>A.k6 e λe=>A.cd .lss e 2 (A.jw (FV 2 e) λ_=>A.jw (ir [.v b,.v c] 0 [(e,1)] 1) λb=>A.k1 b λb=>A.ln b λc=>A.loop (λf g i=>A.k6 g λg=>A.cd .lss g c (A.ix 2 b g 2 i λc=>A.Iq c λc d=>A.jw (FN 2 b none (some g) none) λb=>A.n4 b (A.ln b λe=>A.loop (λi j k=>A.k6 j λj=>A.cd .lss j e (A.ix 2 b j 2 k λb=>A.Iq b λb e=>A.fp 13 a λf=>A.lv f k λg=>A.IP 87 [.v a,.i c,.i b] k λk l m=>A.IP 87 [.v a,.i d,.i b] k λb k n=>A.IP 87 [.v a,.i c,.i e] b λb c o=>A.IP 87 [.v a,.i d,.i e] b λb d e=>A.new (.cells [.int .i64 l,.bool m,.int .i64 k,.bool n,.int .i64 c,.bool o,.int .i64 d,.bool e] 8 true) b λb c=>A.av 8 64 g (.slice (some ⟨b,0,some 18⟩) 1 2) c λb d=>A.fp 13 a λa=>A.heap (.st a [b]) d λ_ a=>A.lv f c λb=>A.jw (Sx.QC g b) λ_=>A.pa j 1 λb=>i [.i b] a) (A.pa g 1 λa=>f [.i a] k)) [.i 0] i)) (A.pa e 1 λa=>d [.i a] i)) [.i 0] f) (K [] f)) [.i 0] g))))) [.i 0] h
def f50:R:=A.DK ls λa b=>A.k1 b λb=>A.new (.cells [a] 1 true) h λa c=>A.new (.cells [.nilFunc] 1 true) c λc d=>A.n4 (.func (.func 51) ⟨[]⟩ ⟨[b,.pointer (some ⟨a,0,none⟩),.pointer (some ⟨c,0,none⟩)]⟩) (A.heap (.st (.pointer (some ⟨c,0,none⟩)) [.func (.func 51) ⟨[]⟩ ⟨[b,.pointer (some ⟨a,0,none⟩),.pointer (some ⟨c,0,none⟩)]⟩]) d λ_ a=>A.lv b a λb=>A.fp 14 b λb=>A.ma (.lg cc 1 b) a λb=>A.E7 b λb d=>A.tf d (A.join (λa b=>A.A1 a (K [] b)) λd=>A.cond (!b) (A.lv (.pointer (some ⟨c,0,none⟩)) a λb=>A.Dw b [.int .i64 0] [.leaf .b] a λa b=>A.k4 a λ_=>d [] b) (d [] a)))
def f51:R:=A.po ls λa b=>A.DK b λb c=>A.DK c λc d=>A.k1 d λd=>A.lv b h λe=>A.fp 6 e λe=>A.lv e h λe=>A.ln e λe=>A.cd .eql a e (A.lv c h λa=>A.lv b h λb=>A.call 52 [.v b] h λb d=>A.k5 b λb e f g i j k=>A.lv c d λc=>A.jw (Sx.Ki a c) λ_=>A.Dw a [.agg ⟨[.int .i64 b,.int .i64 e,f,.int .u8 g,.int .i64 i,.int .i64 j,k]⟩] [.leaf .b] d λa b=>A.k4 a λa=>K [.b a] b) (A.lv b h λc=>A.fp 8 c λc=>A.lv c h λc=>A.ix 1 c a 1 h λc=>A.DF c λc e=>A.n4 c (A.tf e (A.ln c λc=>A.lv b h λe=>A.fp 7 e λe=>A.lv e h λe=>A.ix 1 e a 1 h λe=>A.DF e λe f=>A.n4 e (A.tf f (A.ln e λe=>A.cd .eql c e (A.lv d h λb=>A.pa a 1 λa=>A.Dw b [.int .i64 a] [.leaf .b] h λa b=>A.k4 a λa=>K [.b a] b) (A.lv b h λc=>A.fp 7 c λc=>A.lv c h λc=>A.ix 1 c a 1 h λc=>A.DF c λc e=>A.n4 c (A.tf e (A.ln c λe=>A.loop (λf g i=>A.k6 g λg=>A.cd .lss g e (A.join (λa b=>A.A1 a (A.pa g 1 λa=>f [.i a] b)) λe=>A.ix 1 c g 1 i λc=>A.k9 c λc=>A.lv b i λf=>A.fp 9 f λf=>A.lv f i λf=>A.ix 1 f c 1 i λf=>A.E7 f λf g=>A.tf g (A.cond f (e [] i) (A.new (.cells [.slice none 0 0] 1 true) i λf g=>A.join (λc d=>A.k4 c λc=>A.lv b d λb=>A.lv (.pointer (some ⟨f,0,none⟩)) d λf=>A.call 54 [.v b,.i a,.v f] d λa b=>A.A1 a (A.cond (!c) (K [.b false] b) (e [] b))) λe=>A.lv b g λb=>A.c4 53 [.v b,.i a,.i c,.v (.pointer (some ⟨f,0,none⟩))] g λb c=>A.cond (!c) (e [.b true] b) (A.lv d b λc=>A.Dw c [.int .i64 a] [.leaf .b] b λa b=>A.k4 a λa=>e [.b a] b)))) (K [.b true] i)) [.i 0] h))))))))
def f52:R:=A.k1 ls λa=>A.fp 0 a λb=>A.ma (.lg cc 3 b) h λb=>A.td .i64 b λb c=>A.td .i64 c λc d=>A.DF d λd e=>A.n4 d (A.tf e (A.c1 89 [.v d] h λd e=>A.c1 88 [.v e] d λd e=>A.fp 3 a λf=>A.ma (.lg cc 3 f) d λg=>A.JT g λg i j=>A.fp 6 a λk=>A.lv k d λk=>A.ln k λk=>A.jw (EU k k) λ_=>A.new (.cells (aL [.int .i64 0,.int .i64 0,.int .u8 0,.slice none 0 0] (Int.toNat k)) 4 true) d λd l=>A.jw (Sx.Ew [(.slice (some ⟨d,0,some 14⟩) (Int.toNat k) ((Int.toNat k)+1),(0,f))]) λ_=>A.fp 6 a λf=>A.lv f l λf=>A.ln f λm=>A.loop (λl n o=>A.k6 n λn=>A.cd .lss n m (A.ix 3 f n 3 o λb=>A.IQ b λb c e=>A.fp 8 a λa=>A.lv a o λa=>A.ix 1 a n 1 o λa=>A.DF a λa f=>A.n4 a (A.tf f (A.c1 91 [.v a] o λa f=>A.c1 90 [.v f] a λa f=>A.jw (B_ 4 (.slice (some ⟨d,0,some 14⟩) (Int.toNat k) ((Int.toNat k)+1)) n) λd=>A.heap (.st d [.int .i64 b,.int .i64 c,.int .u8 e,f]) a λ_ a=>A.pa n 1 λb=>l [.i b] a))) (K [.i b,.i c,.v e,.i g,.i i,.i j,.v (.slice (some ⟨d,0,some 14⟩) (Int.toNat k) ((Int.toNat k)+1))] o)) [.i 0] l))
def f53:R:=A.k15 ls λa b c d=>A.fp 9 a λe=>A.lv e h λe=>A.jw (B_ 1 e c) λe=>A.heap (.st e [.bool true]) h λ_ e=>A.fp 8 a λf=>A.lv f e λg=>A.fp 8 a λi=>A.lv i e λj=>A.jw (B_ 1 j b) λj=>A.lv j e λk=>A.new (.cells [.int .i64 c] 1 true) e λe l=>A.av 1 8 k (.slice (some ⟨e,0,some 11⟩) 1 2) l λl m=>A.jw (B_ 1 g b) λg=>A.heap (.st g [l]) m λ_ g=>A.jw (Sx.Ew [(.slice (some ⟨e,0,some 11⟩) 1 2,(0,f)),(.slice (some ⟨e,0,some 11⟩) 1 2,(0,i)),(.slice (some ⟨e,0,some 11⟩) 1 2,(0,j)),(k,(0,f)),(l,(0,f))]) λ_=>A.fp 7 a λe=>A.lv e g λe=>A.ix 1 e b 1 g λb=>A.DF b λb e=>A.n4 b (A.tf e (A.ln b λe=>A.loop (λf g i=>A.k6 g λg=>A.cd .lss g e (A.ix 1 b g 1 i λb=>A.k9 b λb=>A.fp 9 a λe=>A.lv e i λe=>A.ix 1 e b 1 i λe=>A.E7 e λe j=>A.tf j (A.cond (!e) (A.IP 87 [.v a,.i c,.i b] i λb c e=>A.c4 92 [.v a,.i c,.b e,.v d] b λa b=>A.join (λa b=>A.A1 a (A.pa g 1 λa=>f [.i a] b)) λc=>A.cond (!b) (K [.b false] a) (c [] a)) (A.pa g 1 λa=>f [.i a] i))) (A.c4 93 [.v a] i λa b=>K [.b b] a)) [.i 0] g))
def f54:R:=A.DK ls λa b=>A.po b λb c=>A.k1 c λc=>A.fp 8 a λd=>A.lv d h λd=>A.ix 1 d b 1 h λd=>A.DF d λd e=>A.n4 d (A.tf e (A.ln d λd=>A.ps d 1 λd=>A.fp 9 a λe=>A.lv e h λe=>A.fp 8 a λf=>A.lv f h λf=>A.ix 1 f b 1 h λf=>A.DF f λf g=>A.n4 f (A.tf g (A.ix 1 f d 1 h λf=>A.k9 f λf=>A.jw (B_ 1 e f) λe=>A.heap (.st e [.bool false]) h λ_ e=>A.fp 8 a λf=>A.lv f e λf=>A.fp 8 a λg=>A.lv g e λg=>A.ix 1 g b 1 e λg=>A.DF g λg i=>A.n4 g (A.tf i (A.jw (FN 1 g none (some d) none) λd=>A.n4 d (A.jw (B_ 1 f b) λb=>A.heap (.st b [d]) e λ_ b=>A.ln c λd=>A.loop (λb e f=>A.k6 e λe=>A.cd .lss e d (A.ix 1 c e 1 f λc=>A.k9 c λc=>A.fp 12 a λa=>A.lv a f λa=>A.jw (B_ 1 a c) λa=>A.heap (.st a [.int .i64 0]) f λ_ a=>A.pa e 1 λc=>b [.i c] a) (K [] f)) [.i 0] b)))))))
def f55:R:=A.DK ls λa b=>A.k1 b λb=>A.c6 94 [.v a,.v b] h λa b=>A.cmp .geq b 0 λb=>K [.b b] a
def f56:R:=A.k0 ls λ_ _ a=>A.c4 57 [.i a] h λa b=>K [.b (!b)] a
def f57:R:=A.k6 ls λa=>A.join (λa b=>A.k4 a λa=>K [.b a] b) λb=>A.cd .geq a 1 (A.cmp .leq a 3 λa=>b [.b a] h) (b [.b false] h)
def f58:R:=A.k7 ls λa b c d=>A.c6 31 [.i a,.i b,.i c] h λe f=>A.cd .neq f 0 (K [.i 0,.i 0,.i 0,.i 1] e) (A.cd .gtr d 2 (K [.i 0,.i 0,.i 0,.i 1] e) (A.jw (FV 4 c) λ_=>A.jw (FV 3 d) λ_=>A.jw (nm p5 4 [(c,17),(d,3)] 3) λc=>A.IQ c λc d f=>A.pa c a λa=>A.pa d b λb=>A.c6 31 [.i a,.i b,.i f] e λc d=>A.cd .neq d 0 (K [.i 0,.i 0,.i 0,.i 3] c) (K [.i a,.i b,.i f,.i 0] c)))
def f59:R:=A.k15 ls λa b c d=>A.pa b 1 λe=>A.loop (λe f g=>A.k6 f λf=>A.cd .lss f c (A.join (λa b=>A.A1 a (A.pa f 1 λa=>e [.i a] b)) λc=>A.loop (λe f g=>A.k6 f λf=>A.cd .gtr f b (A.ix 3 a f 3 g λb=>A.k8 b λb i j=>A.ps f 1 λk=>A.ix 3 a k 3 g λk=>A.k8 k λk l m=>A.Dw d [.agg ⟨[.int .i64 b,.int .u8 i,.int .u8 j]⟩,.agg ⟨[.int .i64 k,.int .u8 l,.int .u8 m]⟩] [.leaf (.i .i64)] g λb d=>A.k6 b λb=>A.cd .lss b 0 (A.ps f 1 λb=>A.ps f 1 λc=>A.ix 3 a c 3 d λc=>A.k8 c λc g i=>A.ix 3 a f 3 d λj=>A.k8 j λj k l=>A.jw (B_ 3 a f) λm=>A.heap (.st m [.int .i64 c,.int .u8 g,.int .u8 i]) d λ_ c=>A.jw (B_ 3 a b) λa=>A.heap (.st a [.int .i64 j,.int .u8 k,.int .u8 l]) c λ_ a=>A.ps f 1 λb=>e [.i b] a) (c [] d)) (c [] g)) [.i f] g) (K [] g)) [.i e] h
def f68:R:=A.k6 ls λa=>A.cmp .geq a 4294967296 λb=>A.join (λa b=>A.k2 a λa c=>A.cmp .geq a 65536 λd=>A.join (λa b=>A.k2 a λa c=>A.cmp .geq a 256 λd=>A.join (λa b=>A.k2 a λa c=>A.conv .u8 a λa=>A.jw (JE (.mk ⟨[(0,1),(1,1),(2,2),(3,4),(4,8),(5,16),(6,32),(7,64),(8,128)].flatMap λx=>replicate x.2 (.ofNat x.1)⟩) a) λa=>A.ci a λa=>A.pa c a λa=>K [.i a] b) λe=>A.cond d (A.HB .shr .u64 a .u64 8 λa=>A.pa c 8 λc=>e [.i a,.i c] b) (e [.i a,.i c] b)) λe=>A.cond d (A.HB .shr .u64 a .u64 16 λa=>A.pa c 16 λc=>e [.i a,.i c] b) (e [.i a,.i c] b)) λc=>A.cond b (A.HB .shr .u64 a .u64 32 λa=>c [.i a,.i 32] h) (c [.i a,.i 0] h)
def f69:R:=A.po ls λa b=>A.po b λb c=>A.k1 c λc=>A.pm 12 a λd=>A.pm d b λd=>A.jw (EU d d) λ_=>A.new (.cells (aL [.int .u8 0] (Int.toNat d)) 1 true) h λe f=>A.loop (λf g i=>A.k6 g λg=>A.ln c λj=>A.cd .lss g j (A.ix 3 c g 3 i λc=>A.k8 c λc j k=>A.loop (λi l m=>A.k6 l λl=>A.cd .lss l 3 (A.join (λa b=>A.A1 a (A.pa l 1 λa=>i [.i a] b)) λf=>A.c6 70 [.i a,.i b,.i c,.i l] m λg i=>A.cd .lss i 0 (f [] g) (A.c6 100 [.i a,.i b,.i c,.i l] g λg m=>A.ci j λj=>A.cd .neq m j (f [] g) (A.pm 3 c λj=>A.pa j l λj=>A.jw (B_ 1 (.slice (some ⟨e,0,some 11⟩) (Int.toNat d) ((Int.toNat d)+1)) j) λj=>A.heap (.st j [.int .u8 k]) g λ_ g=>A.loop (λg j l=>A.k6 j λj=>A.cd .lss j 3 (A.c6 70 [.i a,.i b,.i i,.i j] l λa b=>A.cmp .eql b c λb=>A.join (λa b=>A.A1 a (A.pa j 1 λa=>g [.i a] b)) λc=>A.cond b (A.pm 3 i λb=>A.pa b j λb=>A.jw (B_ 1 (.slice (some ⟨e,0,some 11⟩) (Int.toNat d) ((Int.toNat d)+1)) b) λb=>A.heap (.st b [.int .u8 k]) a λ_ a=>c [] a) (c [] a)) (f [] l)) [.i 0] g))) (A.pa g 1 λa=>f [.i a] m)) [.i 0] i) (K [.v (.slice (some ⟨e,0,some 11⟩) (Int.toNat d) ((Int.toNat d)+1))] i)) [.i 0] f
def f70:R:=A.k7 ls λa b c d=>A.c0 35 [.i a,.i b,.i c] h λc e f g=>A.c0 101 [.i e,.i f,.i g,.i d] c λc d e f=>A.cd .lss d 0 (K [.i (-1)] c) (A.cd .lss e 0 (K [.i (-1)] c) (A.cd .geq d a (K [.i (-1)] c) (A.cd .geq e b (K [.i (-1)] c) (A.pm e a λa=>A.pa a d λa=>A.pm 4 a λa=>A.ci f λb=>A.pa a b λa=>K [.i a] c))))
def f71:R:=A.JR ls λa b c d e f=>A.c0 77 [.i a,.i b,.i c,.i d,.i e,.i f] h λa b c d=>A.cd .eql b 4 (A.pq c 2 λb=>K [.i 1,.i b] a) (A.cd .eql b 6 (A.pq d 2 λb=>K [.i 2,.i b] a) (A.cd .eql b 5 (K [.i 3,.i c] a) (K [.i 4,.i d] a)))
def f72:R:=A.k0 ls λa b c=>A.call 102 [.i a,.i b,.i c] h λa b=>A.JR a λa c d e f g=>A.pa a d λa=>A.pa a f λa=>A.pq a 3 λa=>A.pa c e λc=>A.pa c g λc=>A.pq c 3 λc=>K [.i a,.i c] b
def f73:R:=A.po ls λa b=>A.k7 b λb c d e=>A.cmp .geq a 4 λf=>A.join (λd f=>A.k6 d λd=>A.loop (λd e f=>A.k0 e λe g i=>A.x6 .rem .u8 a 4 λa=>A.ci a λa=>A.cd .lss i a (A.ps 0 g λa=>A.pa i 1 λb=>d [.i a,.i e,.i b] f) (A.pm 6 b λa=>A.pa e a λa=>A.pm 6 c λb=>A.pa g b λb=>K [.i a,.i b] f)) [.i d,.i e,.i 0] f) λa=>A.cond f (A.ps 0 d λb=>a [.i b] h) (a [.i d] h)
def f74:R:=A.k2 ls λa b=>A.cd .lss a 0 (A.ps 0 a λa=>A.pa a b λa=>A.ps a 1 λa=>A.pq a b λa=>A.ps 0 a λa=>K [.i a] h) (A.pq a b λa=>K [.i a] h)
def f75:R:=A.k2 ls λa b=>A.c6 74 [.i a,.i 6] h λc d=>A.c6 74 [.i b,.i 6] c λc e=>A.pm 6 d λf=>A.ps a f λa=>A.pm 6 e λf=>A.ps b f λb=>A.cd .lss b a (A.pa a b λf=>A.cmp .lss f 6 λf=>A.join (λa b=>A.k0 a λa c d=>K [.i a,.i c,.i d] b) λg=>A.cond f (g [.i d,.i e,.i 0] c) (A.cmp .lss b a λf=>A.join (λa b=>A.k0 a λa c d=>g [.i a,.i c,.i d] b) λg=>A.cond f (g [.i d,.i e,.i 1] c) (A.pa a b λa=>A.cmp .gtr a 6 λa=>A.join (λa b=>A.k0 a λa c d=>g [.i a,.i c,.i d] b) λb=>A.cond a (b [.i d,.i e,.i 2] c) (b [.i d,.i e,.i 3] c)))) (A.cmp .lss b a λf=>A.join (λa b=>A.k0 a λa c d=>K [.i a,.i c,.i d] b) λg=>A.cond f (g [.i d,.i e,.i 1] c) (A.pa a b λa=>A.cmp .gtr a 6 λa=>A.join (λa b=>A.k0 a λa c d=>g [.i a,.i c,.i d] b) λb=>A.cond a (b [.i d,.i e,.i 2] c) (b [.i d,.i e,.i 3] c)))
def f76:R:=A.JR ls λa b c d e f=>A.cd .gtr b e (K [.i 1] h) (A.cd .eql b e (A.cd .gtr a d (K [.i 1] h) (A.cd .eql a d (A.cmp .gtr c f λa=>A.join (λa b=>A.A1 a (K [.i 0] b)) λb=>A.cond a (K [.i 1] h) (b [] h)) (K [.i 0] h))) (K [.i 0] h))
def f77:R:=A.JR ls λa b c d e f=>A.cd .neq a d (A.c6 103 [.i a,.i d] h λa b=>A.pm 2 b λb=>K [.i 4,.i b,.i 0] a) (A.cd .neq b e (A.c6 103 [.i b,.i e] h λa b=>A.pm 2 b λb=>K [.i 6,.i 0,.i b] a) (A.x6 .add .u8 c f λd=>A.cd .eql d 1 (A.pa a b λc=>A.pa c 1 λc=>A.pa a b λa=>A.pa a 1 λa=>K [.i 5,.i c,.i a] h) (A.x6 .add .u8 c f λc=>A.cd .eql c 5 (A.pa a b λc=>A.pa c 1 λc=>A.pa a b λa=>A.pa a 1 λa=>K [.i 5,.i c,.i a] h) (A.ps a b λc=>A.ps b a λa=>K [.i 7,.i c,.i a] h))))
def f78:R:=A.po ls λa b=>A.po b λb c=>A.DK c λc d=>A.k0 d λd e f=>A.c6 27 [.i a,.i b,.v c] h λg i=>A.cd .neq i 0 (K [.v (.slice none 0 0),.v (.slice none 0 0),.i i] g) (A.c6 104 [.i d,.i e,.i f] g λg i=>A.cd .neq i 0 (K [.v (.slice none 0 0),.v (.slice none 0 0),.i 1] g) (A.call 105 [.i a,.i b,.v c] g λc g=>A.k3 c λc i=>A.cd .neq i 0 (K [.v (.slice none 0 0),.v (.slice none 0 0),.i i] g) (A.ln c λi=>A.jw (EU i i) λ_=>A.new (.cells (aL [.int .i64 0,.int .i64 0,.int .u8 0] (Int.toNat i)) 3 true) g λg j=>A.ln c λk=>A.loop (λj l m=>A.k6 l λl=>A.cd .lss l k (A.ix 3 c l 3 m λk=>A.JT k λk n o=>A.c7 12 [.i a,.i b,.i l] m λa b m p _=>A.c7 106 [.i k,.i n,.i o,.i d,.i e,.i f] a λa d e f k=>A.jw (B_ 3 c l) λn=>A.heap (.st n [.int .u8 d,.int .i64 e,.int .i64 f]) a λ_ a=>A.cd .neq k 0 (K [.v (.slice none 0 0),.v (.slice none 0 0),.i k] a) (A.ix 3 c l 3 a λc=>A.JT c λc d e=>A.c7 82 [.i c,.i d,.i e,.i b,.i m,.i p] a λa b c d e=>A.jw (B_ 3 (.slice (some ⟨g,0,some 13⟩) (Int.toNat i) ((Int.toNat i)+1)) l) λf=>A.heap (.st f [.int .i64 b,.int .i64 c,.int .u8 d]) a λ_ a=>A.cd .neq e 0 (K [.v (.slice none 0 0),.v (.slice none 0 0),.i e] a) (A.pa l 1 λb=>j [.i b] a))) (K [.v c,.v (.slice (some ⟨g,0,some 13⟩) (Int.toNat i) ((Int.toNat i)+1)),.i 0] m)) [.i 0] j)))
def f79:R:=A.DK ls λa b=>A.po b λb c=>A.po c λc d=>A.po d λd e=>A.k1 e λe=>A.loop (λb c d=>A.po c λc f=>A.po f λf g=>A.Fu g λ_ g=>A.Fu g λ_ g=>A.k6 g λg=>A.join (λa c=>A.po a λa d=>A.po d λd e=>A.Fu e λe f=>A.Fu f λf g=>A.k6 g λg=>b [.i a,.i d,.b e,.b f,.i g] c) λ_=>A.ps g f λb=>A.cd .leq b 12 (A.call 107 [.v a,.i f,.i g,.v e] d λa b=>A.A1 a (K [] b)) (A.join (λa _=>A.A1 a (A.fail)) λa=>A.cmp .eql c 0 λ_=>a [] d)) [.i d,.i b,.b true,.b true,.i c] h
def f80:R:=A.k1 ls λa=>A.ln a λb=>A.loop (λc d e=>A.k6 d λd=>A.cd .lss d b (A.ix 2 a d 2 e λa=>A.Iq a λa b=>A.c6 115 [.i a,.i b] e λa b=>A.cd .neq b 0 (K [.i b] a) (A.pa d 1 λb=>c [.i b] a)) (K [.i 0] e)) [.i 0] h
def f81:R:=A.po ls λa b=>A.po b λb c=>A.DK c λc d=>A.k0 d λd e f=>A.call 78 [.i a,.i b,.v c,.i d,.i e,.i f] h λa b=>A.DK a λa c=>A.k3 c λ_ c=>K [.v a,.i c] b
def f82:R:=A.JR ls λa b c d e f=>A.c6 104 [.i a,.i b,.i c] h λg i=>A.cd .neq i 0 (K [.i 0,.i 0,.i 0,.i 1] g) (A.c6 31 [.i d,.i e,.i f] g λg i=>A.cd .neq i 0 (K [.i 0,.i 0,.i 0,.i 1] g) (A.c0 116 [.i a,.i b,.i c,.i d,.i e,.i f] g λa b c d=>A.c6 31 [.i b,.i c,.i d] a λa e=>A.cd .neq e 0 (K [.i 0,.i 0,.i 0,.i 3] a) (K [.i b,.i c,.i d,.i 0] a)))
def f83:R:=A.po ls λa b=>A.po b λb c=>A.DK c λc d=>A.k2 d λd e=>A.call 117 [.i a,.i b,.v c,.i d,.i e] h λa b=>A.po a λ_ a=>A.po a λ_ a=>A.po a λa d=>A.Fu d λd e=>A.k6 e λe=>A.cd .neq e 0 (K [.i 0,.i e] b) (A.cond (!d) (K [.i 0,.i e] b) (A.fx 3 c a 2 1 b λa=>A.td .u8 a λa c=>A.tf c (K [.i a,.i 0] b)))
def f84:R:=A.DK ls λa b=>A.po b λb c=>A.po c λc d=>A.Pf d λd e=>A.cd .eql b 3 (K [] h) (A.IP 87 [.v a,.i c,.i d] h λc d f=>A.cmp .eql b 2 λb=>A.eqs [(.b b,.b e)] λb=>A.join (λb c=>A.Pf b λb d=>A.join (λa b=>A.A1 a (K [] b)) λe=>A.fp 14 a λf=>A.ma (.lg cc 1 f) c λf=>A.E7 f λf g=>A.tf g (A.cond f (A.fp 14 a λa=>A.heap (.st a [.bool true]) c λ_ a=>e [] a) (A.c4 92 [.v a,.i b,.b d,.v (.pointer none)] c λb c=>A.fp 14 a λa=>A.heap (.st a [.bool (!c)]) b λ_ a=>e [] a))) λa=>A.cond (!b) (a [.i d,.b (!f)] c) (a [.i d,.b f] c))
def f85:R:=A.k0 ls λa b c=>A.join (λa b=>A.k4 a λa=>K [.b a] b) λd=>A.c6 104 [.i a,.i b,.i c] h λb c=>A.cd .eql c 0 (A.cmp .geq a 4 λa=>d [.b a] b) (d [.b false] b)
def f86:R:=A.DK ls λa b=>A.po b λb c=>A.Fu c λc d=>A.Pf d λd e=>A.IP 118 [.v a,.i b,.b c] h λb c f=>A.IP 118 [.v a,.i d,.b e] b λb d e=>A.cmp .eql c d λg=>A.join (λa b=>A.A1 a (K [] b)) λi=>A.cond g (A.join (λa b=>A.A1 a (i [] b)) λc=>A.fp 14 a λd=>A.ma (.lg cc 1 d) b λd=>A.E7 d λd g=>A.tf g (A.cond d (A.fp 14 a λa=>A.heap (.st a [.bool true]) b λ_ a=>c [] a) (A.eqs [(.b f,.b e)] λd=>A.fp 14 a λa=>A.heap (.st a [.bool (!d)]) b λ_ a=>c [] a))) (A.c6 119 [.v a,.i c,.b f] b λb g=>A.cd .neq g 0 (A.c6 119 [.v a,.i d,.b e] b λb g=>A.cmp .neq g 0 λg=>A.join (λa b=>A.A1 a (i [] b)) λi=>A.cond g (A.join (λb g=>A.A1 b (A.fp 11 a λa=>A.lv a g λa=>A.eqs [(.b f,.b e)] λb=>A.jw (B_ 2 a c) λa=>A.heap (.st a [.int .i64 d,.bool (!b)]) g λ_ a=>i [] a)) λg=>A.fp 14 a λi=>A.ma (.lg cc 1 i) b λi=>A.E7 i λi j=>A.tf j (A.cond i (A.fp 14 a λa=>A.heap (.st a [.bool true]) b λ_ a=>g [] a) (A.c6 119 [.v a,.i c,.b f] b λb c=>A.c6 119 [.v a,.i d,.b e] b λb d=>A.cmp .neq c d λc=>A.fp 14 a λa=>A.heap (.st a [.bool c]) b λ_ a=>g [] a))) (A.c6 119 [.v a,.i c,.b f] b λb g=>A.cmp .neq g 0 λg=>A.join (λa b=>A.A1 a (i [] b)) λi=>A.cond g (A.fp 11 a λa=>A.lv a b λa=>A.eqs [(.b f,.b e)] λe=>A.jw (B_ 2 a d) λa=>A.heap (.st a [.int .i64 c,.bool (!e)]) b λ_ a=>i [] a) (A.fp 11 a λa=>A.lv a b λa=>A.eqs [(.b f,.b e)] λe=>A.jw (B_ 2 a c) λa=>A.heap (.st a [.int .i64 d,.bool (!e)]) b λ_ a=>i [] a))) (A.c6 119 [.v a,.i c,.b f] b λb g=>A.cmp .neq g 0 λg=>A.join (λa b=>A.A1 a (i [] b)) λi=>A.cond g (A.fp 11 a λa=>A.lv a b λa=>A.eqs [(.b f,.b e)] λe=>A.jw (B_ 2 a d) λa=>A.heap (.st a [.int .i64 c,.bool (!e)]) b λ_ a=>i [] a) (A.fp 11 a λa=>A.lv a b λa=>A.eqs [(.b f,.b e)] λe=>A.jw (B_ 2 a c) λa=>A.heap (.st a [.int .i64 d,.bool (!e)]) b λ_ a=>i [] a)))
def f87:R:=A.DK ls λa b=>A.k2 b λb c=>A.cd .lss b c (A.fp 10 a λa=>A.lv a h λa=>A.ma (.fn (Gr cc 132 false (.int .i64 0) a (.agg ⟨[.int .i64 b,.int .i64 c]⟩) false)) h λa=>A.k9 a λa=>K [.i a,.b false] h) (A.fp 10 a λa=>A.lv a h λa=>A.ma (.fn (Gr cc 132 false (.int .i64 0) a (.agg ⟨[.int .i64 c,.int .i64 b]⟩) false)) h λa=>A.k9 a λa=>K [.i a,.b true] h)
def f88:R:=A.k1 ls λa=>A.ln a λb=>A.ln a λc=>A.jw (FN 3 a none (some b) (some c)) λa=>A.n4 a (K [.v a] h)
def f89:R:=A.k1 ls λa=>A.jw (lU 1 a (.slice none 0 0)) λb=>A.cond b (K [.v (.slice none 0 0)] h) (A.new (.cells [] 3 true) h λb c=>A.av 3 16 (.slice (some ⟨b,0,some 13⟩) 0 1) a c λa b=>K [.v a] b)
def f90:R:=A.k1 ls λa=>A.ln a λb=>A.ln a λc=>A.jw (FN 1 a none (some b) (some c)) λa=>A.n4 a (K [.v a] h)
def f91:R:=A.k1 ls λa=>A.jw (lU 1 a (.slice none 0 0)) λb=>A.cond b (K [.v (.slice none 0 0)] h) (A.new (.cells [] 1 true) h λb c=>A.av 1 8 (.slice (some ⟨b,0,some 11⟩) 0 1) a c λa b=>K [.v a] b)
def f92:R:=A.DK ls λa b=>A.po b λb c=>A.Fu c λc d=>A.k1 d λd=>A.IP 118 [.v a,.i b,.b c] h λb c e=>A.join (λb e=>A.k6 b λb=>A.fp 12 a λf=>A.lv f e λf=>A.ix 1 f c 1 e λf=>A.k9 f λf=>A.cmp .eql f 0 λf=>A.join (λd e=>A.A1 d (A.fp 12 a λa=>A.lv a e λa=>A.ix 1 a c 1 e λa=>A.k9 a λa=>A.cmp .eql a b λa=>K [.b a] e)) λg=>A.cond f (A.fp 12 a λa=>A.lv a e λa=>A.jw (B_ 1 a c) λa=>A.heap (.st a [.int .i64 b]) e λ_ a=>A.jw (lU 4 d (.pointer none)) λb=>A.join (λa b=>A.A1 a (g [] b)) λe=>A.cond (!b) (A.jw (Ec d) λb=>A.n4 b (A.lv b a λf=>A.new (.cells [.int .i64 c] 1 true) a λa c=>A.av 1 8 f (.slice (some ⟨a,0,some 11⟩) 1 2) c λc f=>A.jw (Ec d) λd=>A.n4 d (A.heap (.st d [c]) f λ_ c=>A.jw (Sx.Ew [(.slice (some ⟨a,0,some 11⟩) 1 2,(0,b))]) λ_=>e [] c))) (e [] a)) (g [] e)) λa=>A.cond e (a [.i (-1)] b) (a [.i 1] b)
def f93:R:=A.k1 ls λa=>A.fp 13 a λb=>A.lv b h λb=>A.ln b λc=>A.loop (λd e f=>A.k6 e λe=>A.cd .lss e c (A.ix 8 b e 8 f λb=>A.td .i64 b λb c=>A.E7 c λc g=>A.td .i64 g λg i=>A.E7 i λi j=>A.td .i64 j λj k=>A.E7 k λk l=>A.td .i64 l λl m=>A.E7 m λm n=>A.tf n (A.loop (λf n o=>A.k2 n λn p=>A.cd .lss p 4 (A.jw (FV 4 p) λ_=>A.jw (ir [.i b,.b c,.i g,.b i,.i j,.b k,.i l,.b m] 0 [(p,2)] 2) λb=>A.Pf b λb c=>A.c6 119 [.v a,.i b,.b c] o λa b=>A.pm n b λb=>A.pa p 1 λc=>f [.i b,.i c] a) (A.cd .lss n 0 (K [.b false] o) (A.pa e 1 λa=>d [.i a] o))) [.i 1,.i 0] f)) (K [.b true] f)) [.i 0] h
def f94:R:=A.DK ls λa b=>A.k1 b λb=>A.ln a λc=>A.loop (λd e f=>A.k6 e λe=>A.cd .lss e c (A.ix 3 a e 3 f λa=>A.k8 a λa c g=>A.Dw b [.agg ⟨[.int .i64 a,.int .u8 c,.int .u8 g]⟩] [.leaf .b] f λa b=>A.k4 a λa=>A.cond a (K [.i e] b) (A.pa e 1 λa=>d [.i a] b)) (K [.i (-1)] f)) [.i 0] h
def f100:R:=A.k7 ls λa b c d=>A.cd .eql d 0 (K [.i 0] h) (A.c0 35 [.i a,.i b,.i c] h λa _ _ b=>A.cd .eql b 0 (A.cmp .eql d 1 λb=>A.eqs [(.b true,.b b)] λb=>A.cond b (K [.i 1] a) (K [.i 2] a)) (A.cmp .eql b 2 λb=>A.cmp .eql d 1 λc=>A.eqs [(.b b,.b c)] λb=>A.cond b (K [.i 1] a) (K [.i 2] a)))
def f101:R:=A.k7 ls λa b c d=>A.cd .eql d 0 (A.cd .eql c 0 (A.ps b 1 λb=>K [.i a,.i b,.i 2] h) (A.cd .eql c 1 (A.pa a 1 λa=>K [.i a,.i b,.i 3] h) (A.cd .eql c 2 (A.pa b 1 λb=>K [.i a,.i b,.i 0] h) (A.ps a 1 λa=>K [.i a,.i b,.i 1] h)))) (A.cd .eql d 1 (A.x6 .add .u8 c 1 λc=>A.x6 .rem .u8 c 4 λc=>K [.i a,.i b,.i c] h) (A.x6 .add .u8 c 3 λc=>A.x6 .rem .u8 c 4 λc=>K [.i a,.i b,.i c] h))
def Ux:R:=A.k0 ls λa b c=>A.pm 6 a λa=>A.pm 6 b λb=>A.pa a 3 λd=>A.pa b 3 λe=>A.cd .eql c 0 (A.pa a 6 λc=>K [.i d,.i e,.i a,.i b,.i c,.i b] h) (A.cd .eql c 1 (A.pa a 6 λc=>A.pa a 6 λa=>A.pa b 6 λf=>K [.i d,.i e,.i c,.i b,.i a,.i f] h) (A.cd .eql c 2 (A.pa a 6 λc=>A.pa b 6 λf=>A.pa b 6 λb=>K [.i d,.i e,.i c,.i f,.i a,.i b] h) (A.pa b 6 λc=>K [.i d,.i e,.i a,.i c,.i a,.i b] h)))
def Uy:R:=A.k2 ls λa b=>A.cd .gtr a b (K [.i a] h) (K [.i b] h)
def Uq:R:=A.k0 ls λa b c=>A.ci a λa=>A.cd .geq a 8 (K [.i 1] h) (A.c4 121 [.i b] h λa d=>A.cond d (K [.i 1] a) (A.c4 121 [.i c] a λa d=>A.cond d (K [.i 1] a) (A.pa b c λb=>A.x6 .rem .i64 b 2 λb=>A.cd .neq b 0 (K [.i 1] a) (K [.i 0] a))))
def Wh:R:=A.po ls λa b=>A.po b λb c=>A.k1 c λc=>A.new (.cells [.int .i64 a,.int .i64 b,c] 3 true) h λa b=>A.ma (.lg cc 3 (.pointer (some ⟨a,0,none⟩))) b λc=>A.td .i64 c λc d=>A.td .i64 d λd e=>A.DF e λe f=>A.n4 e (A.tf f (A.c1 122 [.i c,.i d,.v e] b λb c=>A.new (.cells [.map none] 1 true) b λb d=>A.heap (.st (.pointer (some ⟨b,0,none⟩)) [c]) d λ_ c=>A.jw (Eu 0 (.pointer (some ⟨a,0,none⟩))) λd=>A.n4 d (A.ma (.lg cc 2 d) c λd=>A.Iq d λd e=>A.c6 123 [.i d,.i e] c λc d=>A.jw (EU d d) λ_=>A.new (.cells (aL [.int .u8 0,.int .i64 0,.int .i64 0] (Int.toNat d)) 3 true) c λc e=>A.new (.cells [.slice none 0 0] 1 true) e λe f=>A.heap (.st (.pointer (some ⟨e,0,none⟩)) [.slice (some ⟨c,0,some 13⟩) (Int.toNat d) ((Int.toNat d)+1)]) f λ_ c=>A.lv (.pointer (some ⟨e,0,none⟩)) c λd=>A.ln d λd=>A.jw (EU d d) λ_=>A.new (.cells (aL [.bool false] (Int.toNat d)) 1 true) c λc f=>A.n4 (.func (.func 124) ⟨[]⟩ ⟨[.pointer (some ⟨a,0,none⟩),.pointer (some ⟨b,0,none⟩),.pointer (some ⟨e,0,none⟩)]⟩) (A.jw (B_ 1 (.slice (some ⟨c,0,some 11⟩) (Int.toNat d) ((Int.toNat d)+1)) 0) λg=>A.heap (.st g [.bool true]) f λ_ f=>A.new (.cells [.int .i64 0] 1 true) f λf g=>A.loop (λf g i=>A.k1 g λg=>A.ln g λj=>A.cd .gtr j 0 (A.jw (B_ 1 g 0) λj=>A.ma (.lg cc 1 j) i λj=>A.k9 j λj=>A.jw (FN 1 g (some 1) none none) λg=>A.n4 g (A.loop (λg i k=>A.k3 i λi l=>A.cd .lss l 3 (A.join (λa b=>A.k1 a λa=>A.x6 .add .u8 l 1 λc=>g [.v a,.i c] b) λf=>A.jw (Eu 0 (.pointer (some ⟨a,0,none⟩))) λg=>A.n4 g (A.ma (.lg cc 2 g) k λg=>A.Iq g λg m=>A.c2 32 [.i g,.i m,.i j,.i l] k λg k m=>A.cd .neq m 0 (f [.v i] g) (A.Dw (.func (.func 124) ⟨[]⟩ ⟨[.pointer (some ⟨a,0,none⟩),.pointer (some ⟨b,0,none⟩),.pointer (some ⟨e,0,none⟩)]⟩) [.int .i64 j,.int .u8 l] [.agg [.i .u8,.i .i64,.i .i64]] g λa b=>A.k0 a λa g j=>A.jw (B_ 1 (.slice (some ⟨c,0,some 11⟩) (Int.toNat d) ((Int.toNat d)+1)) k) λl=>A.ma (.lg cc 1 l) b λl=>A.E7 l λl m=>A.tf m (A.join (λb c=>A.k1 b λb=>A.lv (.pointer (some ⟨e,0,none⟩)) c λd=>A.ix 3 d k 3 c λd=>A.JT d λd e i=>A.eqs [(.i d,.i a),(.i e,.i g),(.i i,.i j)] λa=>A.cond (!a) (K [.v (.slice none 0 0),.i 11] c) (f [.v b] c)) λf=>A.cond (!l) (A.lv (.pointer (some ⟨e,0,none⟩)) b λe=>A.jw (B_ 3 e k) λe=>A.heap (.st e [.int .u8 a,.int .i64 g,.int .i64 j]) b λ_ a=>A.jw (B_ 1 (.slice (some ⟨c,0,some 11⟩) (Int.toNat d) ((Int.toNat d)+1)) k) λb=>A.heap (.st b [.bool true]) a λ_ a=>A.new (.cells [.int .i64 k] 1 true) a λa b=>A.av 1 8 i (.slice (some ⟨a,0,some 11⟩) 1 2) b λa b=>f [.v a] b) (f [.v i] b))))) (f [.v i] k)) [.v g,.i 0] i)) (A.lv (.pointer (some ⟨e,0,none⟩)) i λa=>K [.v a,.i 0] i)) [.v (.slice (some ⟨f,0,some 11⟩) 1 2)] g))))
def Ur:R:=A.JR ls λa b c d e f=>A.c6 104 [.i a,.i b,.i c] h λg i=>A.cd .neq i 0 (K [.i 0,.i 0,.i 0,.i 1] g) (A.c6 104 [.i d,.i e,.i f] g λg i=>A.cd .neq i 0 (K [.i 0,.i 0,.i 0,.i 1] g) (A.jw (FV 8 d) λ_=>A.jw (nm om 0 [(d,4)] 4) λi=>A.td .i64 i λi j=>A.td .i64 j λj k=>A.Iq k λk l=>A.c2 127 [.i i,.i j,.i k,.i l,.i b,.i c] g λb c g=>A.jw (FV 8 a) λ_=>A.jw (nm om 0 [(a,4)] 4) λa=>A.td .i64 a λa i=>A.td .i64 i λi j=>A.Iq j λj k=>A.jw (FV 8 d) λ_=>A.jw (nm om 0 [(d,4)] 4) λd=>A.td .i64 d λd l=>A.td .i64 l λl m=>A.Iq m λm n=>A.c7 130 [.i a,.i i,.i j,.i k,.i d,.i l,.i m,.i n] b λa b d i j=>A.c6 129 [.i b,.i d,.i i,.i j] a λa b=>A.pa c e λc=>A.pa g f λd=>A.c7 128 [.i b,.i c,.i d] a λa b c d e=>K [.i b,.i c,.i d,.i e] a))
def f107:R:=A.k15 ls λa b c d=>A.pa b 1 λe=>A.loop (λe f g=>A.k6 f λf=>A.cd .lss f c (A.join (λa b=>A.A1 a (A.pa f 1 λa=>e [.i a] b)) λc=>A.loop (λe f g=>A.k6 f λf=>A.cd .gtr f b (A.ix 3 a f 3 g λb=>A.IQ b λb i j=>A.ps f 1 λk=>A.ix 3 a k 3 g λk=>A.IQ k λk l m=>A.Dw d [.agg ⟨[.int .i64 b,.int .i64 i,.int .u8 j]⟩,.agg ⟨[.int .i64 k,.int .i64 l,.int .u8 m]⟩] [.leaf (.i .i64)] g λb d=>A.k6 b λb=>A.cd .lss b 0 (A.ps f 1 λb=>A.ps f 1 λc=>A.ix 3 a c 3 d λc=>A.IQ c λc g i=>A.ix 3 a f 3 d λj=>A.IQ j λj k l=>A.jw (B_ 3 a f) λm=>A.heap (.st m [.int .i64 c,.int .i64 g,.int .u8 i]) d λ_ c=>A.jw (B_ 3 a b) λa=>A.heap (.st a [.int .i64 j,.int .i64 k,.int .u8 l]) c λ_ a=>A.ps f 1 λb=>e [.i b] a) (c [] d)) (c [] g)) [.i f] g) (K [] g)) [.i e] h
def Uz:R:=A.k2 ls λa b=>A.c4 134 [.i a] h λc d=>A.c4 134 [.i b] c λc e=>A.cond d (A.cond e (K [.i 0] c) (K [.i (-1)] c)) (A.cond e (K [.i 1] c) (A.cd .lss a b (K [.i (-1)] c) (A.cd .gtr a b (K [.i 1] c) (K [.i 0] c))))
def UA:R:=A.JR ls λa b c d e f=>A.c2 135 [.i d,.i e,.i f] h λd e g=>A.jw (FV 4 f) λ_=>A.jw (nm p5 0 [(f,17)] 2) λf=>A.Iq f λf i=>A.c0 136 [.i a,.i b,.i c,.i e,.i g] d λb c d _=>A.c0 136 [.i a,.i 0,.i 0,.i f,.i i] b λa b e _=>A.x6 .and .i64 c 1 λf=>A.ps c f λc=>A.pq c 2 λc=>A.x6 .and .i64 d 1 λf=>A.ps d f λd=>A.pq d 2 λd=>A.loop (λa c d=>A.k7 c λc f g i=>A.cd .lss c 4 (A.jw (FV 4 c) λ_=>A.jw (ir [.i 0,.i (-1),.i 2,.i 0,.i 0,.i (-1),.i 2,.i 0,.i 0,.i 1,.i 0,.i 0,.i 3,.i 0,.i 0,.i 2,.i 0,.i 1,.i 0,.i 1,.i 1,.i 1,.i 0,.i 3,.i 0,.i 0,.i 0,.i 0,.i 0,.i 2,.i 2,.i 2,.i 2,.i 0,.i 0,.i 1,.i 2,.i 1,.i 0,.i 1,.i 0,.i 0,.i 0,.i 3,.i 0,.i 0,.i 1,.i 2,.i 2,.i 0,.i 2,.i (-1),.i 0,.i 1,.i 0,.i (-1),.i 0,.i 1,.i 0,.i 0,.i 2,.i 0,.i 0,.i 0,.i 0,.i 0,.i 0,.i 2] 0 [(c,17)] 17) λj=>A.po j λj k=>A.po k λk l=>A.po l λ_ l=>A.po l λ_ l=>A.po l λ_ l=>A.po l λ_ l=>A.po l λ_ l=>A.po l λ_ l=>A.po l λ_ l=>A.po l λ_ l=>A.po l λ_ l=>A.JR l λ_ _ _ _ _ _=>A.eqs [(.i j,.i b),(.i k,.i e)] λb=>A.join (λb d=>A.k0 b λb e f=>A.pa c 1 λc=>a [.i c,.i b,.i e,.i f] d) λa=>A.cond b (A.conv .u8 c λb=>a [.i f,.i g,.i b] d) (a [.i f,.i g,.i i] d)) (K [.i f,.i g,.i i] d)) [.i 0,.i c,.i d,.i 0] a
def Wi:R:=A.po ls λa b=>A.po b λb c=>A.DK c λc d=>A.k2 d λd e=>A.c6 27 [.i a,.i b,.v c] h λf g=>A.cd .neq g 0 (K [.i 0,.i 0,.i 0,.b false,.i g] f) (A.c0 14 [.i a,.i b,.i d,.i e] f λa b d e=>A.cd .neq e 0 (K [.i 0,.i 0,.i 0,.b false,.i e] a) (A.IP 137 [.v c,.i b,.i d] a λa c e=>K [.i b,.i d,.i c,.b e,.i 0] a))
def Wj:R:=A.DK ls λa b=>A.Pf b λb c=>A.loop (λb c d=>A.Pf c λc e=>A.fp 11 a λf=>A.lv f d λf=>A.fx 2 f c 0 1 d λf=>A.k9 f λf=>A.cd .neq f c (A.fp 11 a λa=>A.lv a d λa=>A.ix 2 a c 2 d λa=>A.td .i64 a λa c=>A.E7 c λc f=>A.tf f (A.eqs [(.b e,.b c)] λc=>b [.i a,.b (!c)] d)) (K [.i c,.b e] d)) [.i b,.b c] h
def Wk:R:=A.DK ls λa b=>A.Pf b λb c=>A.IP 118 [.v a,.i b,.b c] h λb c d=>A.cond d (A.fp 12 a λa=>A.lv a b λa=>A.ix 1 a c 1 b λa=>A.k9 a λa=>A.ps 0 a λa=>K [.i a] b) (A.fp 12 a λa=>A.lv a b λa=>A.ix 1 a c 1 b λa=>A.k9 a λa=>K [.i a] b)
def Us:R:=A.k6 ls λa=>A.join (λa b=>A.k4 a λa=>K [.b a] b) λb=>A.cd .lss a (-16384) (b [.b true] h) (A.cmp .gtr a 16384 λa=>b [.b a] h)
def Wl:R:=A.po ls λ_ a=>A.po a λ_ a=>A.k1 a λa=>A.ln a λ_=>A.new (.map [] 0) h λb c=>A.ln a λd=>A.loop (λc e f=>A.k6 e λe=>A.cd .lss e d (A.ix 3 a e 3 f λa=>A.k8 a λa d _=>A.heap (.fn (G5 cc 61 (.map (some b)) (.agg ⟨[.int .i64 a,.int .u8 d]⟩) (.bool true))) f λ_ a=>A.pa e 1 λb=>c [.i b] a) (K [.v (.map (some b))] f)) [.i 0] c
def f123:R:=A.k2 ls λa b=>A.c6 28 [.i a,.i b] h λc d=>A.cd .neq d 0 (K [.i 0] c) (A.pm 4 a λa=>A.pm a b λa=>K [.i a] c)
def Wm:R:=A.po ls λa b=>A.po b λb c=>A.DK c λc d=>A.DK d λd e=>A.k1 e λe=>A.jw (Eu 0 c) λf=>A.n4 f (A.ma (.lg cc 2 f) h λf=>A.Iq f λf g=>A.c0 14 [.i f,.i g,.i a,.i b] h λb f g _=>A.lv d b λd=>A.ma (.fn (Gr cc 61 false (.bool false) d (.agg ⟨[.int .i64 f,.int .u8 g]⟩) false)) b λd=>A.E7 d λd i=>A.tf i (A.cond (!d) (A.lv e b λc=>A.ix 3 c a 3 b λa=>A.JT a λa c d=>K [.i a,.i c,.i d] b) (A.jw (Eu 0 c) λc=>A.n4 c (A.ma (.lg cc 2 c) b λc=>A.Iq c λc d=>A.c0 125 [.i c,.i d,.i f,.i g] b λb c d _=>A.c7 126 [.i c,.i d] b λb c d f _=>A.lv e b λe=>A.ix 3 e a 3 b λa=>A.JT a λa e g=>A.c7 106 [.i c,.i d,.i f,.i a,.i e,.i g] b λa b c d _=>K [.i b,.i c,.i d] a))))
def f125:R:=A.k7 ls λa b c d=>A.c7 138 [.i a,.i b,.i c,.i d] h λa b c e f=>A.cd .neq f 0 (K [.i 0,.i 0,.i f] a) (A.c0 139 [.i b,.i c,.i e,.i d] a λa b c d=>K [.i b,.i c,.i d] a)
def UB:R:=A.k2 ls λa b=>A.c6 140 [.i a,.i b] h λc d=>A.cd .neq d 0 (K [.i 0,.i 0,.i 0,.i 1] c) (A.cd .eql a 1 (A.pm 2 b λa=>K [.i 4,.i a,.i 0,.i 0] c) (A.cd .eql a 2 (A.pm 2 b λa=>K [.i 6,.i 0,.i a,.i 0] c) (A.cd .eql a 3 (K [.i 5,.i b,.i b,.i 0] c) (A.ps 0 b λa=>K [.i 7,.i a,.i b,.i 0] c))))
def UC:R:=A.JR ls λa b c d e f=>A.pm a e λa=>A.pm b f λb=>A.pa a b λa=>A.pm c e λb=>A.pm d f λc=>A.pa b c λb=>K [.i a,.i b] h
def Ut:R:=A.k0 ls λa b c=>A.c6 104 [.i a,.i b,.i c] h λd e=>A.cd .neq e 0 (K [.i 0,.i 0,.i 0,.i 3] d) (K [.i a,.i b,.i c,.i 0] d)
def f129:R:=A.k7 ls λa b c d=>A.loop (λe f g=>A.k6 f λf=>A.cd .lss f 8 (A.jw (FV 8 f) λ_=>A.jw (ir [.i 1,.i 0,.i 0,.i 1,.i 0,.i (-1),.i 1,.i 0,.i (-1),.i 0,.i 0,.i (-1),.i 0,.i 1,.i (-1),.i 0,.i (-1),.i 0,.i 0,.i 1,.i 0,.i (-1),.i (-1),.i 0,.i 1,.i 0,.i 0,.i (-1),.i 0,.i 1,.i 1,.i 0] 0 [(f,4)] 4) λi=>A.k7 i λi j k l=>A.eqs [(.i i,.i a),(.i j,.i b),(.i k,.i c),(.i l,.i d)] λa=>A.cond a (A.conv .u8 f λa=>K [.i a] g) (A.pa f 1 λa=>e [.i a] g)) (K [.i 0] g)) [.i 0] h
def f130:R:=A.po ls λa b=>A.po b λb c=>A.JR c λc d e f g i=>A.c2 127 [.i e,.i f,.i g,.i i,.i a,.i c] h λa c j=>A.c2 127 [.i e,.i f,.i g,.i i,.i b,.i d] a λa b d=>K [.i c,.i b,.i j,.i d] a
def UD:R:=A.k6 ls λa=>A.cmp .neq a a λa=>K [.b a] h
def UE:R:=A.k0 ls λa b _=>A.pm 2 a λa=>A.pa a 1 λa=>A.pm 2 b λb=>A.pa b 1 λb=>K [.i a,.i b] h
def UF:R:=A.po ls λa b=>A.k7 b λb c d e=>A.c6 104 [.i a,.i b,.i c] h λf g=>A.cd .neq g 0 (K [.i 0,.i 0,.i 1] f) (A.c6 142 [.i d,.i e] f λf g=>A.cd .neq g 0 (K [.i 0,.i 0,.i 1] f) (A.jw (FV 8 a) λ_=>A.jw (nm om 0 [(a,4)] 4) λa=>A.td .i64 a λa g=>A.td .i64 g λg i=>A.Iq i λi j=>A.c2 127 [.i a,.i g,.i i,.i j,.i d,.i e] f λa d e=>A.pm 2 b λb=>A.pa d b λb=>A.pm 2 c λc=>A.pa e c λc=>A.c6 142 [.i b,.i c] a λa d=>A.cd .neq d 0 (K [.i 0,.i 0,.i 3] a) (K [.i b,.i c,.i 0] a)))
def Wn:R:=A.DK ls λa b=>A.k2 b λb c=>A.IP 143 [.v a,.i b,.i c,.v (.func (.func 144) ⟨[]⟩ ⟨[]⟩)] h λa b c=>K [.i b,.b c] a
def f138:R:=A.k7 ls λa b c d=>A.c6 28 [.i a,.i b] h λe f=>A.cd .neq f 0 (K [.i 0,.i 0,.i 0,.i f] e) (A.c0 14 [.i a,.i b,.i c,.i d] e λe f g i=>A.cd .neq i 0 (K [.i 0,.i 0,.i 0,.i 7] e) (A.eqs [(.i f,.i c),(.i g,.i d)] λd=>A.cond (!d) (K [.i 0,.i 0,.i 0,.i 7] e) (A.c0 30 [.i a,.i b,.i c] e λa b c d=>K [.i b,.i c,.i d,.i 0] a)))
def f139:R:=A.k7 ls λa b c d=>A.c6 31 [.i a,.i b,.i c] h λe f=>A.cd .neq f 0 (K [.i 0,.i 0,.i 1] e) (A.cd .gtr d 2 (K [.i 0,.i 0,.i 1] e) (A.jw (FV 4 c) λ_=>A.jw (nm p5 0 [(c,17)] 17) λc=>A.td .i64 c λ_ c=>A.td .i64 c λ_ c=>A.td .u8 c λc f=>A.td .i64 f λf g=>A.td .i64 g λ_ g=>A.td .i64 g λ_ g=>A.td .u8 g λ_ g=>A.td .i64 g λ_ g=>A.td .i64 g λ_ g=>A.td .u8 g λ_ g=>A.td .i64 g λ_ g=>A.td .i64 g λ_ g=>A.td .u8 g λ_ g=>A.td .i64 g λ_ g=>A.td .i64 g λ_ g=>A.Iq g λ_ _=>A.pa a f λg=>A.cmp .eql d 1 λi=>A.join (λa b=>A.k2 a λa c=>A.c6 140 [.i a,.i c] b λb d=>A.cd .neq d 0 (K [.i 0,.i 0,.i 3] b) (K [.i a,.i c,.i 0] b)) λj=>A.cond i (A.pa a b λa=>A.pa a 1 λa=>j [.i 3,.i a] e) (A.cmp .eql d 2 λd=>A.join (λa b=>A.k2 a λa c=>j [.i a,.i c] b) λi=>A.cond d (A.ps b a λa=>i [.i 4,.i a] e) (A.cmp .eql c 2 λa=>A.join (λa b=>A.k2 a λa c=>i [.i a,.i c] b) λd=>A.cond a (A.pa b f λa=>d [.i c,.i a] e) (d [.i c,.i g] e)))))
def UH:R:=A.k2 ls λa b=>A.cd .lss a 1 (K [.i 1] h) (A.cd .gtr a 4 (K [.i 1] h) (A.cd .lss b (-4096) (K [.i 1] h) (A.cd .gtr b 4096 (K [.i 1] h) (K [.i 0] h))))
def UI:R:=A.k2 ls λa b=>A.cd .lss a (-65536) (K [.i 1] h) (A.cd .gtr a 65536 (K [.i 1] h) (A.cd .lss b (-65536) (K [.i 1] h) (A.cd .gtr b 65536 (K [.i 1] h) (K [.i 0] h))))
def Wo:R:=A.k15 ls λa b c d=>A.ln a λe=>A.loop (λf g i=>A.k2 g λg j=>A.cd .lss g j (A.pa g j λe=>A.conv .u64 e λe=>A.HB .shr .u64 e .u64 1 λe=>A.ci e λe=>A.ix 3 a e 3 i λa=>A.k8 a λa k l=>A.Dw d [.agg ⟨[.int .i64 a,.int .u8 k,.int .u8 l]⟩,.agg ⟨[.int .i64 b,.int .u8 c]⟩] [.leaf (.i .i64)] i λa b=>A.k6 a λa=>A.cmp .lss a 0 λa=>A.join (λa b=>A.k2 a λa c=>f [.i a,.i c] b) λc=>A.cond a (A.pa e 1 λa=>c [.i a,.i j] b) (c [.i g,.i e] b)) (A.join (λa b=>A.Pf a λa c=>K [.i a,.b c] b) λf=>A.cd .lss g e (A.ix 3 a g 3 i λa=>A.k8 a λa e j=>A.Dw d [.agg ⟨[.int .i64 a,.int .u8 e,.int .u8 j]⟩,.agg ⟨[.int .i64 b,.int .u8 c]⟩] [.leaf (.i .i64)] i λa b=>A.k6 a λa=>A.cmp .eql a 0 λa=>f [.i g,.b a] b) (f [.i g,.b false] i))) [.i 0,.i e] h
def UJ:R:=A.po ls λa b=>A.k7 b λb c d e=>A.c2 18 [.i a,.i b,.i c] h λa b c=>A.c6 17 [.i b,.i c,.i d,.i e] a λa b=>K [.i b] a
end
inductive EH where
 |e
 |o (p:EH)
 |i (p:EH)
inductive Tr(j7:Type) where
 |leaf
 |node (v:j7) (l r:Tr j7)
def EH.num:EH->Nat
 | .e=>1
 | .o p=>2*p.num
 | .i p=>2*p.num+1
def Su:Nat->Nat->EH
 |0,_=>.e
 |f+1,n=>if Nat.ble n 1 then .e else if Nat.beq (n%2) 0 then .o (Su f (n / 2))else .i (Su f (n / 2))
def cG(n:Nat):EH:=Su (n+1) (n+1)
def EH.get{j7:Type}(d:j7)(p:EH):Tr j7->j7:=
 EH.rec (motive:=λ_=>Tr j7->j7)
  (λt=>Tr.casesOn t d λv _ _=>v)
  (λ_ a t=>Tr.casesOn t d λ_ l _=>a l)
  (λ_ a t=>Tr.casesOn t d λ_ _ r=>a r) p
def eqI:Int->Int->Bool
 | .ofNat a,.ofNat b=>Nat.beq a b
 | .negSucc a,.negSucc b=>Nat.beq a b
 |_,_=>false
def Kq:TK->Nat
 | .i8=>127
 | .i16=>32767
 | .i32=>2147483647
 | .i64=>9223372036854775807
 | .u8=>255
 | .u16=>65535
 | .u32=>4294967295
 | .u64=>18446744073709551615
def Uu(k:TK):Int->Bool
 | .ofNat n=>Nat.ble n (Kq k)
 | .negSucc n=>k.signed&&Nat.ble n (Kq k)
def Bj:∀(f n:Nat),n<=f->1<=n->(Su f n).num=n
 |0,n,h,h1=>a_
 |f+1,n,h,h1=>by
  unfold Su;by_cases d:n<=1
  .have:n=1:=a_;subst this;rfl
  .have c:Nat.ble n 1=false:=by
    rw[←Hz,IX];exact d
   rw[c];have b:=Bj f (n / 2) a_ a_;by_cases a:n%2=0
   .simp[a,EH.num,b];omega
   .simp[a,EH.num,b];omega
def sH(n:Nat):(cG n).num=n+1:=Bj _ _ (B8 _) a_
def nl{a b:Nat}(h:cG a=cG b):a=b:=by
 have:=congrArg EH.num h;rw[sH,sH]at this;omega
def EH.set{j7:Type}(d:j7):EH->Tr j7->j7->Tr j7
 | .e,.leaf,x=>.node x .leaf .leaf
 | .e,.node _ l r,x=>.node x l r
 | .o p,.leaf,x=>.node d (EH.set d p .leaf x) .leaf
 | .o p,.node v l r,x=>.node v (EH.set d p l x) r
 | .i p,.leaf,x=>.node d .leaf (EH.set d p .leaf x)
 | .i p,.node v l r,x=>.node v l (EH.set d p r x)
def EH.FA{j7:Type}(d:j7)(p:EH):p.get d .leaf=d:=by cases p<;>rfl
def EH.DH{j7:Type}(d:j7):∀(p:EH) (t:Tr j7) (x:j7),p.get d (p.set d t x)=x
 | .e,t,x=>by cases t<;>rfl
 | .o p,t,x=>by
  cases t with
  |leaf=>exact EH.DH d p .leaf x
  |node v l r=>exact EH.DH d p l x
 | .i p,t,x=>by
  cases t with
  |leaf=>exact EH.DH d p .leaf x
  |node v l r=>exact EH.DH d p r x
def EH.Ea{j7:Type}(d:j7):∀(p q:EH) (t:Tr j7) (x:j7),q≠p->q.get d (p.set d t x)=q.get d t
 | .e,q,t,x,h=>by cases q<;>cases t<;>first|rfl|exact absurd rfl h|exact EH.FA d _
 | .o p,q,t,x,h=>by
  cases q with
  |e=>cases t<;>rfl
  |o q=>
   have a:q≠p:=λe=>h (e▸rfl);cases t with
   |leaf=>exact(EH.Ea d p q .leaf x a).trans (EH.FA d q)
   |node v l r=>exact EH.Ea d p q l x a
  |i q=>
   cases t with
   |leaf=>exact EH.FA d q
   |node v l r=>rfl
 | .i p,q,t,x,h=>by
  cases q with
  |e=>cases t<;>rfl
  |i q=>
   have a:q≠p:=λe=>h (e▸rfl);cases t with
   |leaf=>exact(EH.Ea d p q .leaf x a).trans (EH.FA d q)
   |node v l r=>exact EH.Ea d p q r x a
  |o q=>
   cases t with
   |leaf=>exact EH.FA d q
   |node v l r=>rfl
def LA{a b:Int}:eqI a b=true↔a=b:=by
 cases a<;>cases b<;>simp[eqI]<;>omega
def QK{k:TK}{c:Int}(h:Uu k c=true):(k.signed=true->-(Kq k:Int) - 1<=c)/\(k.signed=false->0<=c)/\c<=Kq k:=by
 cases c with
 |ofNat n=>
  simp only[Uu,IX]at h;refine⟨λ_=>?_,λ_=>?_,?_⟩<;>simp<;>omega
 |negSucc n=>
  simp only[Uu,te,IX]at h;refine⟨λ_=>?_,λa=>?_,?_⟩
  .omega
  .rw[h.1]at a;cases a
  .omega
def wi{k:TK}{c:Int}(h:Uu k c=true):k.wrap c=c:=by
 obtain⟨a,b,d⟩:=QK h;cases k<;>simp only[IntKind.signed,Kq,forall_const,reduceCtorEq,false_implies]at a b d
 .exact Go.IntWalk.i8_in c a_
 .exact Go.IntWalk.i16_in c a_
 .exact Go.IntWalk.i32_in c a_
 .exact Go.IntWalk.i64_in c a_
 .exact Go.IntWalk.u8_in c a_
 .exact Go.IntWalk.u16_in c a_
 .exact Go.IntWalk.u32_in c a_
 .exact Go.IntWalk.u64_in c a_
section
abbrev _root_.TE:=List Int
variable [DB] {m7:TE}
def rO(a:BinOp)(x y:Int):Option Bool:=
 match a with
 | .eql=>some (x==y)
 | .neq=>some (x != y)
 | .lss=>some (decide (x<y))
 | .leq=>some (decide (x<=y))
 | .gtr=>some (decide (x > y))
 | .geq=>some (decide (x ≥ y))
 |_=>none
def tb(a:BinOp)(k:TK)(x y n:Int):Prop:=∀(P:TI) (t:TP) (w:TS),(binOp a t (.int k x) (.int k y)).run P w = .ok (.int k n) w
def P3{k:TK}(x:Int):((BitVec.ofInt k.bits x &&& BitVec.ofInt k.bits 1).toNat:Int)=x%2:=by
 have a:k.bits=k.bits - 1+1:=by cases k<;>rfl
 generalize k.bits - 1=n at a;rw[a];have b:(BitVec.ofInt (n+1) 1).toNat=1:=by
  simp
 rw[BitVec.toNat_and,b,Nat.and_one_is_mod,BitVec.toNat_ofInt];have d:(0:Int)<2 ^ (n+1):=Int.pow_pos a_;have e:(2:Int) ^ (n+1)=2*2 ^ n:=a_;have c:0<=x%(2 ^ (n+1):Int):=qdt _ a_;have:((x%((2 ^ (n+1):Nat):Int)).toNat%2:Nat)=((x%(2 ^ (n+1):Int))%2:Int):=by
  grind
 simp_all
def qU{k:TK}{x n:Int}(d:x%2=n):tb .and k x 1 n:=by
 intro P t w;have e:k.wrap n=n:=wi (by
  have a:0<=n:=a_;have b:n<=1:=a_;obtain⟨m,rfl⟩ : ∃m:Nat,n=m:=⟨n.toNat,a_⟩;show Nat.ble m (Kq k)=true;rw[IX];cases k<;>simp only[Kq]<;>omega)
 have c:=P3 (k:=k) x;simp only[binOp,ne_eq,not_true_eq_false,if_false,Op.intBits]
 simp_all
end
end Go.Am
end

import Derived.Test.YtohimaenikegoaaGreatDoorOY1
import Derived.Test.YtohimaenikegoaaGreatDoorProg
set_option linter.all false
noncomputable section
set_option maxRecDepth 100000
open List(range replicate)
namespace Go.Am
section
variable [Cf] {C:ke}
structure FT(S S':E9):Prop where
 call:∀f args H r H',S.call f args H r H'->S'.call f args H r H'
 yield:∀l args H r H',S.yield l args H r H'->S'.yield l args H r H'
 ex:∀fid c g9 e i5,S.ex fid c g9 e i5->S'.ex fid c g9 e i5
def wF{B B':Below}(d:∀f args H r H',B.call f args H r H'->B'.call f args H r H')(g:∀l args H r H',B.yield l args H r H'->B'.yield l args H r H')
  {e:DM} {dst:Tq} {g9 c:St} (h:mV B e dst g9 c):mV B' e dst g9 c:=by
 cases e<;>first
  |exact h
  |(obtain⟨r,H,a,b⟩:=h;first|exact⟨r,H,d _ _ _ _ _ a,b⟩|exact⟨r,H,g _ _ _ _ _ a,b⟩)
def cZ{B B':Below}(d:∀f args H r H',B.call f args H r H'->B'.call f args H r H')(g:∀l args H r H',B.yield l args H r H'->B'.yield l args H r H')
  {a_:TC} {ops:To} {i:Nat} {g9 a:St} (h:ao C B a_ ops i g9 a):ao C B' a_ ops i g9 a:=by
 unfold ao at *;split at h
 .exact h
 .split at h
  .exact h
  .exact h
  .rcases h with⟨e,b,c⟩|h
   .exact .inl ⟨e,b,wF d g c⟩
   .exact .inr h
def fO{B B':Below}(a:∀f args H r H',B.call f args H r H'->B'.call f args H r H')(b:∀l args H r H',B.yield l args H r H'->B'.yield l args H r H')
  {a_:TC} {ops:To}:∀ {l:TC} {g9 c:St},bp C B a_ ops l g9 c->bp C B' a_ ops l g9 c
 | [],_,_,h=>h
 |_ :: _,_,_,⟨i9,h1,d⟩=>⟨i9,cZ a b h1,fO a b d⟩
def nk{B B':Below}(a:∀f args H r H',B.call f args H r H'->B'.call f args H r H')(b:∀l args H r H',B.yield l args H r H'->B'.yield l args H r H')
  {a_:TC} {ops:To}:∀ {l:TC} {g9 c:St},fM C B a_ ops l g9 c->fM C B' a_ ops l g9 c
 | [],_,_,h=>h
 |_ :: _,_,_,⟨e,i9,h0,h1,d⟩=>⟨e,i9,h0,cZ a b h1,nk a b d⟩
def lJ{B B':Below}(a:∀f args H r H',B.call f args H r H'->B'.call f args H r H')(b:∀l args H r H',B.yield l args H r H'->B'.yield l args H r H')
  {a_:TC} {ops:To} {d:Nat->Ts}:∀ {l:TC} {g9 c:St},jt C B a_ ops d l g9 c->jt C B' a_ ops d l g9 c
 | [],_,_,h=>h
 |i :: _,_,_,⟨h0,i9,h1,e⟩=>⟨h0,i9,by
  unfold dY at h1 ⊢;split at h1
  .exact cZ a b h1
  .exact h1,lJ a b e⟩
def wt{B B':Below}(a:∀f args H r H',B.call f args H r H'->B'.call f args H r H')(b:∀l args H r H',B.yield l args H r H'->B'.yield l args H r H')
  {a_:TC} {ops:To} {g9 c:St} (h:eo C B a_ ops g9 c):eo C B' a_ ops g9 c:=
 h.imp (λh t=>fO a b (h t)) λ⟨j,n,d,e,g,i⟩=>⟨j,n,d,e,g,λt=>lJ a b (i t)⟩
def wJ{S v:E9}(h:FT S v){m:TC}{c:Code}{g9:St}{e:Exit}{y:St}(i:pe C S m c g9 e y):pe C v m c g9 e y:=by
 cases c with
 |skip=>exact i
 |label l=>exact i
 |ret=>exact i
 |exit id=>exact i
 |goto l=>exact i
 |refuse w=>exact i
 |seq a b=>
  obtain⟨n,u,j,d⟩:=i;exact⟨n,u,h.ex _ _ _ _ _ j,d.imp (λd=>⟨d.1,h.ex _ _ _ _ _ d.2⟩) id⟩
 |cond c a b=>
  obtain⟨t,j,d⟩:=i;exact⟨t,j,h.ex _ _ _ _ _ d⟩
 |block id b=>
  obtain⟨n,j,d⟩:=i;exact⟨n,h.ex _ _ _ _ _ j,d⟩
 |loop b=>
  obtain⟨n,u,j,d⟩:=i;exact⟨n,u,h.ex _ _ _ _ _ j,d.imp (λd=>⟨d.1,h.ex _ _ _ _ _ d.2⟩) id⟩
 |scope b=>exact h.ex _ _ _ _ _ i
 |region id B k=>
  obtain⟨j,d⟩:=i;refine⟨j,?_⟩;cases k with
  |true=>
   obtain⟨E,q,s⟩:=d;exact⟨E,q,wt h.call h.yield s⟩
  |false=>exact nk h.call h.yield d
 |rangeFunc f o assign x=>
  obtain⟨z,g,first,p,F,tm,r,H,D,j,d,q,s,A⟩:=i;exact⟨z,g,first,p,F,tm,r,H,D,j,d,q,h.call _ _ _ _ _ s,A⟩
def sw{S a:E9}(h:FT S a){f:TQ}{args:Tn}{H:Tu}{r:TR}{H':Tu}(m:nN C S f args H r H'):nN C a f args H r H':=by
 obtain⟨c,b,e,d,n,g,i,j,k,l⟩:=m;exact⟨c,b,e,d,n,g,i,j,h.ex _ _ _ _ _ k,l⟩
def qE{S a:E9}(h:FT S a){l:Nat}{args:Tn}{H:Tu}{r:TR}{H':Tu}(m:lM C S l args H r H'):lM C a l args H r H':=by
 obtain⟨o,n,q,e,p,s,j,b,c,d,f,g,i,k⟩:=m;exact⟨o,n,q,e,p,s,j,b,c,h.ex _ _ _ _ _ d,f,g,h.ex _ _ _ _ _ i,k⟩
class C8 where
 kn:TQ->Tn->Value->Prop
 kh:TQ->Tn->Tu->Value->Tu->Prop
variable [C8]
def noK:NS:=λf a H r b=>(C8.kn f a r/\b=H)∨C8.kh f a H r b
def sm(C:ke)(n:Nat):E9:=Nd C noK n
def Lx:∀n,FT (sm C n) (sm C (n+1))
 |0=>⟨λ_ _ _ _ _ h=>.inl h,λ_ _ _ _ _ h=>h.elim,λ_ _ _ _ _ h=>h.elim⟩
 |n+1=>by
  have a:=Lx n;exact⟨λ_ _ _ _ _ h=>h.imp id (sw a),λ_ _ _ _ _ h=>qE (C:=C) a h,λ_ _ _ _ _ h=>wJ a h⟩
def jD{n:Nat}:∀ {m:Nat},n<=m->FT (sm C n) (sm C m)
 |0,h=>by
  obtain rfl:n=0:=Nat.le_zero.1 h;exact⟨λ_ _ _ _ _ h=>h,λ_ _ _ _ _ h=>h,λ_ _ _ _ _ h=>h⟩
 |m+1,h=>by
  by_cases c:n=m+1
  .subst c;exact⟨λ_ _ _ _ _ h=>h,λ_ _ _ _ _ h=>h,λ_ _ _ _ _ h=>h⟩
  .have b:=jD (n:=n) (m:=m) (by omega);have a:=Lx (C:=C) m;exact⟨λ_ _ _ _ _ h=>a.call _ _ _ _ _ (b.call _ _ _ _ _ h),λ_ _ _ _ _ h=>a.yield _ _ _ _ _ (b.yield _ _ _ _ _ h),λ_ _ _ _ _ h=>a.ex _ _ _ _ _ (b.ex _ _ _ _ _ h)⟩
def jE(C:ke)(f:TQ)(args:Tn)(H:Tu)(r:Value)(H':Tu):Prop:=∃n,(sm C n).call f args H r H'
def io(C:ke)(l:Nat)(args:Tn)(H:Tu)(r:Value)(H':Tu):Prop:=∃n,(sm C n).yield l args H r H'
def Dl(C:ke)(a:TC)(c:Code)(g9:St)(e:Exit)(b:St):Prop:=∃n,(sm C n).ex a c g9 e b
def uB(C:ke):Below:={ call:=jE C,yield:=io C }
theorem RK(d:C.P.follows .mixedOrders=true)(a:∀f args r,C8.kn f args r->∀H,en C f args H r H)(c:∀f args H r H',C8.kh f args H r H'->en C f args H r H'){f:TQ}{args:Tn}{H:Tu}{r:TR}{H':Tu}(h:jE C f args H r H'):en C f args H r H':=by
 obtain⟨n,h⟩:=h;exact(Lk d (K:=noK) (λf args H r H' h=>by
  rcases h with⟨b,rfl⟩|h
  .exact a f args r b _
  simp_all) n).1.call _ _ _ _ _ h
def Mn{e:DM}{dst:Tq}{g9 a:St}(h:mV (uB C) e dst g9 a):∃n,mV (sm C n).toBelow e dst g9 a:=by
 cases e<;>first
  |exact⟨0,h⟩
  |(obtain⟨r,H,⟨n,b⟩,c⟩:=h;exact⟨n,r,H,b,c⟩)
def ju{a_:TC}{ops:To}{i:Nat}{g9 c:St}(h:ao C (uB C) a_ ops i g9 c):∃n,ao C (sm C n).toBelow a_ ops i g9 c:=by
 unfold ao at h;split at h
 next b=>exact⟨0,by unfold ao;rw[b];exact h⟩
 next o b=>
  split at h
  .exact h.elim
  next d=>exact⟨0,by unfold ao;simp_all⟩
  next d=>
   rcases h with⟨e,f,a⟩|h
   .obtain⟨n,a⟩:=Mn a;exact⟨n,by unfold ao;simp_all⟩
   .exact⟨0,by unfold ao;simp_all⟩
def iS{a_:TC}{ops:To}:∀ {l:TC} {g9 d:St},bp C (uB C) a_ ops l g9 d->∃n,bp C (sm C n).toBelow a_ ops l g9 d
 | [],_,_,h=>⟨0,h⟩
 |_ :: _,_,_,⟨i9,h1,a⟩=>by
  obtain⟨n,h1⟩:=ju h1;obtain⟨m,a⟩:=iS a;have c:=jD (C:=C) (t5 n m);have b:=jD (C:=C) (eC n m);exact⟨max n m,i9,cZ c.call c.yield h1,fO b.call b.yield a⟩
theorem gi.refl(g9:St):gi g9 g9:=⟨rfl,rfl,rfl,λi x y a b=>by simp_all⟩
def rB{B:Below}{a_:TC}{ops:To}:∀ {l:TC} {g9 a:St},bp C B a_ ops l g9 a->fM C B a_ ops l g9 a
 | [],_,_,h=>h
 |_ :: _,g9,_,⟨i9,h1,b⟩=>⟨g9,i9,.refl g9,h1,rB b⟩
section rules
variable {fid:TC} {g9 i9 i5:St} {e r9:Exit} {a b:Code}
def Dl.skip:Dl C fid .skip g9 .normal g9:=⟨1,rfl,rfl⟩
def Dl.label{l:Nat}:Dl C fid (.label l) g9 .normal g9:=⟨1,rfl,rfl⟩
def Dl.ret:Dl C fid .ret g9 .ret g9:=⟨1,rfl,rfl⟩
def Dl.exit{id:Nat}:Dl C fid (.exit id) g9 (.exit id) g9:=⟨1,rfl,rfl⟩
def Dl.seq(h1:Dl C fid a g9 .normal i9)(c:Dl C fid b i9 e i5):Dl C fid (.seq a b) g9 e i5:=by
 obtain⟨n,h1⟩:=h1;obtain⟨m,c⟩:=c;exact⟨max n m+1,.normal,i9,(jD (t5 n m)).ex _ _ _ _ _ h1,.inl ⟨rfl,(jD (eC n m)).ex _ _ _ _ _ c⟩⟩
def Dl.seqX(h1:Dl C fid a g9 e i5)(c:e≠.normal):Dl C fid (.seq a b) g9 e i5:=by
 obtain⟨n,h1⟩:=h1;exact⟨n+1,e,i5,h1,.inr ⟨c,rfl,rfl⟩⟩
def Dl.cond{c:TK}{t:Bool}(d:h9 g9.tmps c = .bool t)(h:Dl C fid (if t then a else b) g9 e i5):Dl C fid (.cond c a b) g9 e i5:=by
 obtain⟨n,h⟩:=h;exact⟨n+1,t,d,h⟩
def Dl.block{id:Nat}(h:Dl C fid b g9 e i5):Dl C fid (.block id b) g9 (jS id e) i5:=by
 obtain⟨n,h⟩:=h;exact⟨n+1,e,h,rfl⟩
def Dl.loop(h1:Dl C fid b (g9.clear (aQ fid b)) .normal i9)(c:Dl C fid (.loop b) i9 e i5):Dl C fid (.loop b) g9 e i5:=by
 obtain⟨n,h1⟩:=h1;obtain⟨m,c⟩:=c;exact⟨max n m+1,.normal,i9,(jD (t5 n m)).ex _ _ _ _ _ h1,.inl ⟨rfl,(jD (eC n m)).ex _ _ _ _ _ c⟩⟩
def Dl.loopX(h1:Dl C fid b (g9.clear (aQ fid b)) e i5)(c:e≠.normal):Dl C fid (.loop b) g9 e i5:=by
 obtain⟨n,h1⟩:=h1;exact⟨n+1,e,i5,h1,.inr ⟨c,rfl,rfl⟩⟩
def Dl.scope(h:Dl C fid b g9 e i5):Dl C fid (.scope b) g9 e i5:=by
 obtain⟨n,h⟩:=h;exact⟨n+1,h⟩
def Dl.region{id:Nat}{ops:To}(h:bp C (uB C) fid ops (range ops.size) g9 i5):Dl C fid (.region id ops false) g9 .normal i5:=by
 obtain⟨n,h⟩:=iS h;exact⟨n+1,rfl,rB h⟩
def Dl.draw{id:Nat}{ops:To}(c:∀n,bp C (sm C n).toBelow fid ops (range ops.size) g9 i5->eo C (sm C n).toBelow fid ops g9 i5)
  (h:bp C (uB C) fid ops (range ops.size) g9 i5):Dl C fid (.region id ops true) g9 .normal i5:=by
 obtain⟨n,h⟩:=iS h;exact⟨n+1,rfl,g9,.refl g9,c n h⟩
def Dl.drawS{g:St}{id:Nat}{ops:To}{o p:TC}{k:Nat}(c:∀n,bp C (sm C n).toBelow fid ops o g9 i9->ao C (sm C n).toBelow fid ops k i9 g->bp C (sm C n).toBelow fid ops p i9 i5->eo C (sm C n).toBelow fid ops g9 i5)
  (h1:bp C (uB C) fid ops o g9 i9) (d:ao C (uB C) fid ops k i9 g) (f:bp C (uB C) fid ops p i9 i5):Dl C fid (.region id ops true) g9 .normal i5:=by
 obtain⟨n,h1⟩:=iS h1;obtain⟨m,d⟩:=ju d;obtain⟨l,f⟩:=iS f;have h:=jD (C:=C) (show n<=max n (max m l)by omega);have i:=jD (C:=C) (show m<=max n (max m l)by omega);have j:=jD (C:=C) (show l<=max n (max m l)by omega);exact⟨max n (max m l)+1,rfl,g9,.refl g9,c _ (fO h.call h.yield h1) (cZ i.call i.yield d) (fO j.call j.yield f)⟩
def Dl.drawA{id:Nat}{ops:To}{n:Nat}(h:eo C (sm C n).toBelow fid ops g9 i5):Dl C fid (.region id ops true) g9 .normal i5:=
 ⟨n+1,rfl,g9,.refl g9,h⟩
def Dl.rangeFunc{f:TK}{params:Array Tmp}{assign body:Code}{g:TQ}{first cap:Tl}{x7:TQ}{tm:Tn}{r:TR}{H:Tu}{c:Fg}
  (h0:fid≠[]) (h1:yu g9.tmps tm) (h:h9 g9.tmps f = .func (.func g) first cap) (i:l_ (.func (.func g) first cap)=true)
  (d:jE C g (first.toList++[.func (.yield g9.heap.length) #[] #[]]++cap.toList)
    (g9.heap++[.loop { state:=.ready,pending:=none,fn:=x7,tmps:=tm,params:=params.toList,assign,body }]) r H)
  (j:eH H g9.heap.length=some c) (k:c.state≠.busy) (l:yP c.pending=some e) :
  Dl C fid (.rangeFunc f params assign body) g9 e { g9 with heap:=H.set g9.heap.length (.loop { c with state:=.exhausted }) }:=by
 obtain⟨n,d⟩:=d;exact⟨n+1,h0,g,first,cap,x7,tm,r,H,c,h1,h,i,d,j,k,l,rfl⟩
def jE.intro{f:TQ}{args:Tn}{H:Tu}{d:Func}{c:Code}{vs:Tn}
  (h1:C.P.funcs[f]?=some d) (h:d.body=some c) (i:((d.name == "runtime.NumGoroutine")||C.opq f)=false)
  (g:Dl C (C.a_ f) c (mW d args H) e g9) (j:e = .normal∨e = .ret) (k:dc C g9 d.results.toList=some vs) (l:l_ (gl vs)=true) :
  jE C f args H (gl vs) g9.heap:=by
 obtain⟨n,g⟩:=g;exact⟨n+1,.inr ⟨d,c,e,g9,vs,h1,h,i,g,j,k,rfl,l,rfl⟩⟩
def io.intro{l:Nat}{args:Tn}{H:Tu}{c f i:Fg}{d:St}{j:Tm}
  (h1:eH H l=some c) (k:args.length=c.params.length)
  (g:Dl C [] c.assign { tmps:=cQ c.params args c.tmps,loc:=[],heap:=H } .normal i9)
  (o:eH i9.heap l=some f) (p:f.state = .ready)
  (h:Dl C [] c.body { i9 with heap:=i9.heap.set l (.loop { f with state:=.busy }) } e d) (q:IY e=some j) (r:eH d.heap l=some i) :
  io C l args H (.bool j.isNone) (d.heap.set l (.loop { i with state:=if j.isNone then .ready else .done,pending:=j })):=by
 obtain⟨n,g⟩:=g;obtain⟨m,h⟩:=h;exact⟨max n m+1,c,i9,f,e,d,i,j,h1,k,(jD (t5 n m)).ex _ _ _ _ _ g,o,p,(jD (eC n m)).ex _ _ _ _ _ h,q,r,rfl,rfl⟩
end rules
end
inductive Lf where
 |i (n:Int)
 |b (t:Bool)
 |v (x:Value)
inductive LK where
 |i (k:TL)
 |b
 |v
abbrev _root_.TJ:=List LK
inductive SK where
 |leaf (k:LK)
 |agg (ks:TJ)
inductive SL where
 |i (k:TL) (n:Int)
 |b (t:Bool)
 |l (t:Bool)
 |v (x:Value)
inductive S0 where
 |leaf (l:SL)
 |agg (cs:List SL)
inductive SV where
 |st (x:S0)
 |Jz (xs:List S0)
 |Gu (s off:Nat)
 |Iq (s base:Nat) (ix:List (Int×Nat))
 |Io (g off:Nat)
 |Ki (g base:Nat) (ix:List (Int×Nat))
 |un
 |no
inductive LR where
 |Ih
 |nil
 |any (n:Nat)
 |row (cs:List SL)
structure Env where
 tm:List SV
 lc:List LR
def SL.val:SL->Value
 | .i k n=>.int k n
 | .b t=>.bool t
 | .l t=>.bool t
 | .v x=>x
def SL.lf:SL->Lf
 | .i _ n=>.i n
 | .b t=>.b t
 | .l t=>.b t
 | .v x=>.v x
def S0.val:S0->Value
 | .leaf l=>l.val
 | .agg cs=>.agg ⟨cs.map SL.val⟩
def S0.cells:S0->List SL
 | .leaf l=>[l]
 | .agg cs=>cs
def CX(a:Nat):List (Int×Nat)->Nat
 | []=>a
 |p :: l=>CX (a+p.1.toNat*p.2) l
def SV.val:SV->Value
 | .st x=>x.val
 | .Jz xs=>.tuple ⟨xs.map S0.val⟩
 | .Gu s off=>.pointer (some ⟨s,off,some 0⟩)
 | .Iq s a ix=>.pointer (some ⟨s,CX a ix,some 0⟩)
 | .Io g off=>.pointer (some ⟨g,off,some 1⟩)
 | .Ki g a ix=>.pointer (some ⟨g,CX a ix,some 1⟩)
 | .un=>undef
 | .no=>undef
def aJ(x:Value):Bool:=l_ x&&aV x&&aR x && !aD x
def GY(x:Value):Option Unit:=if bF x then some ()else none
def H9:Value->SL
 | .int k n=>.i k n
 | .bool t=>.l t
 |v=>.v v
def Hd:Value->Option S0
 | .agg cs=>match cs.toList.all scalar with
  |true=>some (.agg (cs.toList.map H9))
  |false=>none
 |v=>match scalar v with
  |true=>some (.leaf (H9 v))
  |false=>none
def kNo(k:TL):Nat:=@IntKind.rec (λ_=>Nat) 0 1 2 3 4 5 6 7 k
def cX(a b:TL):Bool:=Nat.beq (kNo a) (kNo b)
def SL.is:SL->LK->Bool
 | .i k _,.i a=>cX k a
 | .b _,.b=>true
 | .l _,.b=>true
 | .v _,.v=>true
 |_,_=>false
def aZ:List SL->TJ->Bool
 | [],[]=>true
 |c :: cs,k :: ks=>c.is k&&aZ cs ks
 |_,_=>false
def S0.is:S0->SK->Bool
 | .leaf l,.leaf k=>l.is k
 | .agg cs,.agg ks=>aZ cs ks
 |_,_=>false
def SL.lk:SL->LK
 | .i k _=>.i k
 | .b _=>.b
 | .l _=>.b
 | .v _=>.v
structure Live where
 tm:List (Nat×SK)
 rows:List (Nat×List LK)
abbrev _root_.TN:=List SK
inductive AC where
 |skip
 |ret
 |exit (id:Nat)
 |label (l:Nat)
 |seq (a b:AC)
 |scope (b:AC)
 |region (id:Nat) (ops:To) (draw:Bool) (hs:List (TN)) (j:Option Live)
 |cond (c:TK) (a b:AC) (j:Option Live)
 |block (id:Nat) (b:AC) (j:Option Live)
 |loop (b:AC) (l:Live)
 |rangeFunc (f:TK) (j7:Nat) (ids:TC)
structure Site where
 nt:Nat
 caps:List (Nat×SK)
 params:List (Nat×SK)
 assign:AC
 body:AC
def AC.erase(T:Nat->Tmp->Code):AC->Code
 | .skip=>.skip
 | .ret=>.ret
 | .exit id=>.exit id
 | .label l=>.label l
 | .seq a b=>.seq (a.erase T) (b.erase T)
 | .scope b=>.scope (b.erase T)
 | .region id ops d _ _=>.region id ops d
 | .cond c a b _=>.cond c (a.erase T) (b.erase T)
 | .block id b _=>.block id (b.erase T)
 | .loop b _=>.loop (b.erase T)
 | .rangeFunc f e _=>match f with
  | .tmp t=>T e t
  |_=> .refuse ""
def ry:Nat->Tmp->Code:=λ_ _=> .refuse ""
def gh(s:Site)(t:Tmp):Code:=.rangeFunc (.tmp t) (s.params.map (·.1)).toArray (s.assign.erase ry) (s.body.erase ry)
def Ht:Code->List Nat
 | .region _ ops _=>ops.toList.filterMap (·.dst)
 | .seq a b=>Ht a++Ht b
 | .cond _ a b=>Ht a++Ht b
 | .block _ b=>Ht b
 | .loop b=>Ht b
 | .scope b=>Ht b
 |_=>[]
def jY(a_:TC)(o:Oper):Ts:=
 match o.op with
 | .box .. | .alloc _=>match o.dst with
  |some d=>if a_.getD d 0=d+2 then some d else none
  |none=>none
 | .store _ a _=>match nB a_ a with
  |s+2=>some s
  |_=>none
 |_=>none
def Fp(a_:TC):Code->List Nat
 | .region _ ops _=>ops.toList.filterMap (jY a_)
 | .seq a b=>Fp a_ a++Fp a_ b
 | .cond _ a b=>Fp a_ a++Fp a_ b
 | .block _ b=>Fp a_ b
 | .loop b=>Fp a_ b
 | .scope b=>Fp a_ b
 | .rangeFunc _ _ a b=>Fp a_ a++Fp a_ b
 |_=>[]
section
variable {R:Type}
def fN(n:Nat)(k:Nat->R):R:=Nat.rec (motive:=λ_=>R) (k n) (λm _=>k m) (Nat.succ n)
def fI(n:Int)(k:Int->R):R:=Int.rec (motive:=λ_=>R) (λm=>fN m λm=>k (.ofNat m)) (λm=>fN m λm=>k (.negSucc m)) n
def ew(n:Nat)(k:Nat->R):fN n k=k n:=rfl
def jz(n:Int)(k:Int->R):fI n k=k n:=by cases n<;>rfl
end
def PF(a b:Int):Bool:=Int.rec (λm=>Int.rec (λn=>Nat.ble m n) (λ_=>false) b) (λm=>Int.rec (λ_=>true) (λn=>Nat.ble n m) b) a
def KA{a b:Int}:PF a b=true↔a<=b:=by
 cases a<;>cases b<;>simp only[PF,Hr,D5,false_iff,true_iff,o1]<;>omega
def Mj{i6:Type}(l:List i6):Nat->Nat->Option (List i6):=
 List.rec (motive:=λ_=>Nat->Nat->Option (List i6))
  (λb n=>Nat.rec (Nat.rec (some []) (λ_ _=>none) n) (λ_ _=>none) b)
  (λa _ c b n=>Nat.rec (Nat.rec (some []) (λm _=>Option.rec none (λl=>some (a :: l)) (c 0 m)) n) (λo _=>c o n) b) l
def oP{i6:Type}:∀(l:List i6) (off n:Nat),Mj l off n=if off+n<=l.length then some ((l.drop off).take n)else none
 | [],0,0=>rfl
 | [],0,n+1=>by rw[qs (by simp)];rfl
 | [],o+1,n=>by rw[qs (by simp)];rfl
 |a :: l,0,0=>by rw[n_ (by simp)];rfl
 |a :: l,0,n+1=>by
  show(Option.rec none (λl=>some (a :: l)) (Mj l 0 n):Option (List i6))=_;rw[oP l 0 n];by_cases h:0+n<=l.length
  .simp_all
  .rw[qs h,qs (by simp at h ⊢;omega)]
 |a :: l,o+1,n=>by
  show Mj l o n=_;rw[oP l o n]
  grind
def WG{i6:Type}(l:List i6):Nat->List i6->Option (List i6):=
 List.rec (motive:=λ_=>Nat->List i6->Option (List i6))
  (λd c=>Nat.rec (List.rec (some []) (λ_ _ _=>none) c) (λ_ _=>none) d)
  (λa t e d c=>Nat.rec (List.rec (some (a :: t)) (λb f _=>Option.rec none (λl=>some (b :: l)) (e 0 f)) c) (λo _=>Option.rec none (λl=>some (a :: l)) (e o c)) d) l
def ye{i6:Type}:∀(l:List i6) (off:Nat) (new:List i6),WG l off new=if off+new.length<=l.length then some (l.take off++new++l.drop (off+new.length))else none
 | [],0,[]=>rfl
 | [],0,b :: c=>by rw[qs (by simp)];rfl
 | [],o+1,new=>by rw[qs (by simp)];rfl
 |a :: l,0,[]=>by rw[n_ (by simp)];rfl
 |a :: l,0,b :: c=>by
  show(Option.rec none (λl=>some (b :: l)) (WG l 0 c):Option (List i6))=_;rw[ye l 0 c];by_cases h:0+c.length<=l.length
  .simp_all
  .rw[qs h,qs (by simp at h ⊢;omega)]
 |a :: l,o+1,new=>by
  show(Option.rec none (λl=>some (a :: l)) (WG l o new):Option (List i6))=_;rw[ye l o new];by_cases h:o+new.length<=l.length
  .rw[n_ h,n_ (by simp at h ⊢;omega)];grind
  .rw[qs h,qs (by simp at h ⊢;omega)]
abbrev cP:=Nat->Option ra
inductive Cq where
 |set (i:Nat) (o:ra)
 |push (o:ra)
def Cq.on(H:Tu):Cq->List ra
 | .set i o=>H.set i o
 | .push o=>H++[o]
def ig(H:Tu)(l:List Cq):Tu:=l.foldl Cq.on H
def iC(g:cP)(id:Nat):Option (Tn):=
 match g id with
 |some (.cells a _ _)=>some a
 |_=>none
def p6(n:Nat)(p:Value)(g:cP):Option (Tn):=
 match p with
 | .pointer (some a)=>match a.spot with
  |none=>(iC g a.block).bind λb=>cut b a.off n
  |some _=>none
 |_=>none
def ng(C:ke)(n:Nat)(p:Value)(g:cP):Option (Tn):=
 match p with
 | .pointer (some a)=>match a.spot with
  |none=>(iC g a.block).bind λb=>cut b a.off n
  |some k=>match Nat.beq k 1 with
   |true=>(C.G a.block).bind λb=>cut b a.off n
   |false=>none
 |_=>none
def Jw(p:Value)(new:Tn)(g:cP)(_:Nat):Option (List Cq×List Value):=
 match p with
 | .pointer (some a)=>match a.spot with
  |none=>match g a.block with
   |some (.cells c e true)=>(q9 c a.off new).map λb=>([.set a.block (.cells b e true)],[])
   |_=>none
  |some _=>none
 |_=>none
def NH(C:ke)(p_:Nat)(g:cP):Value->Option (List Value×Nat)
 | .slice none 0 0=>some ([],0)
 | .slice (some a) len _=>
  if a.spot=some 1 then((C.G a.block).bind λvs=>cut vs a.off (len*p_)).map λx=>(x,len)
  else if a.spot=le p_ then
   match g a.block with
   |some (.cells vs e _)=>if e=p_ then(cut vs a.off (len*p_)).map λx=>(x,len)else none
   |_=>none
  else none
 | .string s=>if p_=1 then some (s.data.toList.map λb=>.int .u8 b.toNat,s.size)else none
 |_=>none
def Ei(C:ke)(p_ bytes:Nat)(s x:Value)(g:cP)(n0:Nat):Option (List Cq×List Value):=
 match NH C p_ g x with
 |none=>none
 |some (c,n)=>
  match s with
  | .slice none 0 0=>
   if n=0 then some ([],[.slice none 0 0])
   else if ba n bytes then some ([.push (.cells c p_ true)],[.slice (some ⟨n0,0,le p_⟩) n 0])else none
  | .slice (some a) b i=>
   if a.spot≠le p_ then none else
   match g a.block with
   |some (.cells h e rw)=>
    if e≠p_ then none else
    match cut h a.off (b*p_)with
    |none=>none
    |some d=>
     match i with
     |0=>
      if n=0 then some ([],[.slice (some a) b 0])
      else if rw&&ba (b+n) bytes then
       some ([.set a.block .dead,.push (.cells (d++c) p_ true)],[.slice (some ⟨n0,0,le p_⟩) (b+n) 0])
      else none
     |cap+1=>
      if b+n<=cap then
       if rw then(q9 h (a.off+b*p_) c).map λf=>([.set a.block (.cells f e true)],[.slice (some a) (b+n) (cap+1)])
       else if n=0 then some ([],[.slice (some a) b (cap+1)])else none
      else if ba (b+n) bytes then
       some ([.push (.cells (d++c) p_ true)],[.slice (some ⟨n0,0,le p_⟩) (b+n) 0])
      else none
   |_=>none
  |_=>none
def cpG(C:ke)(p_:Nat)(d x:Value)(g:cP)(_:Nat):Option (List Cq×List Value):=none
def clG(p_:Nat)(z:Tn)(x:Value)(g:cP)(_:Nat):Option (List Cq×List Value):=none
def Et(p_:Nat)(x:Value)(d e f:Tt):Tk:=
 match x with
 | .slice (some a) b g=>
  if a.spot≠some 1/\a.spot≠le p_ then none else
  if 0<=d.getD 0/\d.getD 0<=e.getD b/\bT b g e f then
   fN (a.off+(d.getD 0).toNat*p_) λo=>fN ((e.getD b).toNat - (d.getD 0).toNat) λn=>fN (bL g (d.getD 0).toNat f) λc=>
   some (.slice (some { a with off:=o }) n c)
  else none
 | .slice none 0 0=>if d.getD 0=0/\e.getD 0=0/\f.getD 0=0/\(f.isNone∨e.isSome)then some (.slice none 0 0)else none
 |_=>none
def Rm(s:Ts):Ts:=match s with
 |none=>none
 |some k=>match Nat.beq k 1 with
  |true=>some 1
  |false=>none
def A2(p_:Nat)(x:Value)(i:Int):Tk:=
 match x with
 | .slice (some a) b _=>Int.rec (λj=>match Nat.blt j b with
  |true=>fN (Nat.add a.off (Nat.mul j p_)) λo=>some (.pointer (some ⟨a.block,o,Rm a.spot⟩))
  |false=>none) (λ_=>none) i
 |_=>none
def Rn(s:Ts):Rm s=if s=some 1 then some 1 else none:=by
 unfold Rm;cases s with
 |none=>rfl
 |some k=>
  cases e:Nat.beq k 1 with
  |true=>simp_all
  |false=>
   rw[qs (λh=>by cases h;cases e)];simp only[e]
def qY(p_:Nat)(x:Value)(i:Int):A2 p_ x i=match (motive:=Value->Tk) x with
 | .slice (some a) len _=>
  if 0<=i/\i<(len:Int)then some (.pointer (some ⟨a.block,a.off+i.toNat*p_,if a.spot=some 1 then some 1 else none⟩))else none
 |_=>none:=by
 unfold A2;split
 next a len _=>
  cases i with
  |ofNat j=>
   simp only[ew,Rn];cases e:Nat.blt j len with
   |true=>
    simp_all
   |false=>
    have:¬j<len:=λh=>by rw[←Gf,e]at h;cases h
    simp_all
  |negSucc j=>
   simp_all
 .rfl
def Ph(len p_:Nat)(x:Value)(i:Int):Tk:=
 match x with
 | .pointer (some a)=>if 0<=i/\i<(len:Int)then some (.pointer (some { a with off:=a.off+i.toNat*p_ }))else none
 |_=>none
def Dg(off:Nat)(x:Value):Tk:=
 match x with
 | .pointer (some a)=>some (.pointer (some { a with off:=a.off+off }))
 |_=>none
def CW(x:Value):Tk:=
 match x with
 | .pointer (some a)=>some (.pointer (some a))
 | .func (.func f) a b=>some (.func (.func f) a b)
 | .func (.yield f) a b=>some (.func (.yield f) a b)
 |_=>none
def Mp(a:List UInt8):List UInt8->Bool:=
 List.rec (motive:=λ_=>List UInt8->Bool) (λb=>List.rec true (λ_ _ _=>false) b)
  (λx _ c b=>List.rec false (λy t _=>Bool.rec false (c t) (Nat.beq x.toNat y.toNat)) b) a
def yM:∀(a b:List UInt8),Mp a b=true↔a=b
 | [],[]=>⟨λ_=>rfl,λ_=>rfl⟩
 | [],_ :: _=>⟨λh=>(by cases h),λh=>(by cases h)⟩
 |_ :: _,[]=>⟨λh=>(by cases h),λh=>(by cases h)⟩
 |x :: a,y :: b=>by
  show(Bool.rec false (Mp a b) (Nat.beq x.toNat y.toNat):Bool)=true↔_;cases e:Nat.beq x.toNat y.toNat with
  |true=>
   have:x=y:=UInt8.toNat_inj.1 (Dp e);show Mp a b=true↔_;rw[yM a b,this];simp
  |false=>
   constructor
   .intro h;cases h
   .intro h
    simp_all
def LC(x y:Value):Option Bool:=match x with
 | .string a=>match y with
  | .string b=>some (Mp a.data.toList b.data.toList)
  |_=>none
 |_=>none
def G3:Value->Option Int
 | .slice _ n _=>some n
 |_=>none
def Ia(s:ByteArray)(j:Int):Tt:=match j with
 | .ofNat n=>(s.data.toList[n]?).map λb=>Int.ofNat b.toNat
 |_=>none
def RA{s:ByteArray}{j b:Int}(h:Ia s j=some b):0<=j/\(s[j.toNat]?).map (λb=>Value.int .u8 b.toNat)=some (.int .u8 b):=by
 unfold Ia at h;split at h
 next n=>
  obtain⟨x,c,rfl⟩:=Dv.1 h;refine⟨Ga n,?_⟩;have:s[n]?=some x:=by
   rw[Array.getElem?_toList]at c;obtain⟨a,d⟩:=Is.1 c;have e:n<s.size:=a;rw[getElem?_pos s n e];exact congrArg some d
  simp_all
 .cases h
def Oq:Value->Option Int
 | .slice (some _) _ (n+1)=>some n
 | .slice none 0 0=>some 0
 |_=>none
def p0(m:Value)(g:cP):Option (Tn):=
 match m with
 | .map (some id)=>match g id with
  |some (.map a _)=>some [.int .i64 a.length]
  |_=>none
 |_=>none
def EU(len:Nat)(i:Int):Option Unit:=Int.rec (λj=>match Nat.blt j len with
 |true=>some ()
 |false=>none) (λ_=>none) i
def Pr(len:Nat)(i:Int):EU len i=if 0<=i/\i<(len:Int)then some ()else none:=by
 unfold EU;cases i with
 |ofNat j=>
  simp only;cases e:Nat.blt j len with
  |true=>simp_all
  |false=>
   have:¬j<len:=λh=>by rw[←Gf,e]at h;cases h
   simp_all
 |negSucc j=>simp_all
def DS(l c:Int):Option Unit:=if 0<=l/\l<=c/\c<=1048576 then some ()else none
abbrev _root_.TG:=List Lf
def jZ(cs:TG)(a:Nat)(ix:List (Int×Nat))(n:Nat):Option (TG):=Mj cs (CX a ix) n
def QB(cs:TG)(a:Nat)(ix:List (Int×Nat))(n:Nat):jZ cs a ix n=if CX a ix+n<=cs.length then some ((cs.drop (CX a ix)).take n)else none:=oP _ _ _
def lD(cs:TG)(a:Nat)(ix:List (Int×Nat))(new:TG):Option (TG):=WG cs (CX a ix) new
def Wh(cs:TG)(a:Nat)(ix:List (Int×Nat))(new:TG):lD cs a ix new=if CX a ix+new.length<=cs.length then some (cs.take (CX a ix)++new++cs.drop (CX a ix+new.length))else none:=ye _ _ _
def pT(vs:Tn)(a:Nat)(ix:List (Int×Nat))(n:Nat):Option (Tn):=Mj vs (CX a ix) n
def QC(vs:Tn)(a:Nat)(ix:List (Int×Nat))(n:Nat):pT vs a ix n=cut vs (CX a ix) n:=oP _ _ _
def p4(C:ke)(n:Nat)(p:Value):Option (Tn):=
 match p with
 | .pointer (some a)=>if a.spot=some 1 then(C.G a.block).bind λb=>cut b a.off n else none
 |_=>none
inductive Pk where
 |ld (n:Nat) (p:Value)
 |lg (C:ke) (n:Nat) (p:Value)
 |fn (f:cP->Option (Tn))
def Pk.run:Pk->cP->Option (Tn)
 | .ld n p=>p6 n p
 | .lg C n p=>ng C n p
 | .fn f=>f
inductive Hp where
 |st (p:Value) (new:Tn)
 |ap (C:ke) (p_ bytes:Nat) (s x:Value)
 |fn (f:cP->Nat->Option (List Cq×List Value))
def Hp.run:Hp->cP->Nat->Option (List Cq×List Value)
 | .st p new=>Jw p new
 | .ap C p_ bytes s x=>Ei C p_ bytes s x
 | .fn f=>f
structure A_(R HT:Type):Type 1 where
 fail:R
 cond:Bool->R->R->R
 w7:BinOp->TL->Int->Int->(Int->R)->R
 E5:BinOp->TL->Int->TL->Int->(Int->R)->R
 cmp:BinOp->Int->Int->(Bool->R)->R
 eqs:List (Lf×Lf)->(Bool->R)->R
 conv:TL->Int->(Int->R)->R
 FO:Bool->Int->Int->(Int->R)->R
 h_:{i6:Type}->Option i6->(i6->R)->R
 k_:Value->R->R
 oo:TG->(Int->TG->R)->R
 D7:TG->(Bool->TG->R)->R
 Ck:TG->(Value->TG->R)->R
 u4:TG->R->R
 rv:TL->Tn->(Int->Tn->R)->R
 DV:Tn->(Bool->Tn->R)->R
 BM:Tn->(Value->Tn->R)->R
 ts:Tn->R->R
 ka:Pk->HT->(Tn->R)->R
 heap:Hp->HT->(Tn->HT->R)->R
 new:ra->HT->(Nat->HT->R)->R
 call:TQ->TG->HT->(TG->HT->R)->R
 A7:Value->Tn->TN->HT->(TG->HT->R)->R
 join:(TG->HT->R)->((TG->HT->R)->R)->R
 loop:((TG->HT->R)->TG->HT->R)->TG->HT->R
 Ec:Nat->Value->Tn->HT->(Tm->HT->R)->R
 D4:Tm->R->R->List (Nat×R)->R
 Ir:Nat->HT->(HT->R)->R
 Gw:Nat->Tm->HT->(HT->R)->R
section
variable {R HT:Type} (A:A_ R HT)
def E3{i6:Type}(x:i6)(l:List i6):Nat->(List i6->R)->R:=
 List.rec (motive:=λ_=>Nat->(List i6->R)->R) (λ_ k=>k [])
  (λa c b i k=>match i with
   |0=>k (x :: c)
   |i+1=>b i λl=>k (a :: l)) l
def NI(ks:TJ):TG->(List SL->TG->R)->R:=
 List.rec (motive:=λ_=>TG->(List SL->TG->R)->R) (λa K=>K [] a)
  (λk _ d a K=>match k with
   | .i k=>A.oo a λn r=>d r λc r=>K (.i k n :: c) r
   | .b=>A.D7 a λt r=>d r λc r=>K (.b t :: c) r
   | .v=>A.Ck a λx r=>d r λc r=>K (.v x :: c) r) ks
def b7(c:SK)(ls:TG)(K:S0->TG->R):R:=
 match c with
 | .leaf k=>match k with
  | .i k=>A.oo ls λn r=>K (.leaf (.i k n)) r
  | .b=>A.D7 ls λt r=>K (.leaf (.b t)) r
  | .v=>A.Ck ls λx r=>K (.leaf (.v x)) r
 | .agg a=>NI A a ls λd r=>K (.agg d) r
def Ig(sks:TN):TG->(List S0->TG->R)->R:=
 List.rec (motive:=λ_=>TG->(List S0->TG->R)->R) (λa K=>K [] a)
  (λc _ b a K=>b7 A c a λx r=>b r λd r=>K (x :: d) r) sks
def ucL(ks:TJ):Tn->(List SL->Tn->R)->R:=
 List.rec (motive:=λ_=>Tn->(List SL->Tn->R)->R) (λa K=>K [] a)
  (λk _ d a K=>match k with
   | .i k=>A.rv k a λn r=>d r λc r=>K (.i k n :: c) r
   | .b=>A.DV a λt r=>d r λc r=>K (.b t :: c) r
   | .v=>A.BM a λx r=>A.k_ x (d r λc r=>K (.v x :: c) r)) ks
def JB(c:SK)(cs:Tn)(K:S0->Tn->R):R:=
 match c with
 | .leaf k=>match k with
  | .i k=>A.rv k cs λn r=>K (.leaf (.i k n)) r
  | .b=>A.DV cs λt r=>K (.leaf (.b t)) r
  | .v=>A.BM cs λx r=>A.k_ x (K (.leaf (.v x)) r)
 | .agg a=>ucL A a cs λd r=>K (.agg d) r
def gy(sks:TN):Tn->(List S0->Tn->R)->R:=
 List.rec (motive:=λ_=>Tn->(List S0->Tn->R)->R) (λa K=>K [] a)
  (λc _ b a K=>JB A c a λx r=>b r λd r=>K (x :: d) r) sks
def cN:List S0->List Lf
 | []=>[]
 |x :: l=>x.cells.map SL.lf++cN l
def ak(l:List S0):Tn:=l.map S0.val
def nP(l:List S0):Tn:=l.flatMap λx=>x.cells.map SL.val
def g'(tm:List SV):List (Nat×SK)->Option (TG)
 | []=>some []
 |(t,a) :: l=>match tm.getD t .no,g' tm l with
  | .st x,some ls=>match x.is a with
   |true=>some (x.cells.map SL.lf++ls)
   |false=>none
  |_,_=>none
def cy(a:List LR):List (Nat×List LK)->Option (TG)
 | []=>some []
 |(s,ks) :: l=>match a.getD s .Ih,cy a l with
  | .row cs,some ls=>match aZ cs ks with
   |true=>some (cs.map SL.lf++ls)
   |false=>none
  |_,_=>none
def pk(c:Env)(lv:Live):Option (TG):=
 match g' c.tm lv.tm,cy c.lc lv.rows with
 |some a,some b=>some (a++b)
 |_,_=>none
def SV.D3(ks:TC):SV->Bool
 | .Jz _=>true
 | .Gu s _=>ks.contains s
 | .Iq s _ _=>ks.contains s
 |_=>false
def Zl(b ks:TC)(l:List SV):Nat->(List SV->R)->R:=
 List.rec (motive:=λ_=>Nat->(List SV->R)->R) (λ_ K=>K [])
  (λx _ a i K=>a (i+1) λl=>match b.contains i||x.D3 ks with
   |true=>K (.no :: l)
   |false=>K (x :: l)) l
def sV(n:Nat)(K:Nat->R):R:=Nat.casesOn n (K 0) λm=>K (Nat.succ m)
def OA(d ks:TC)(c:LR)(l:List LR):Nat->(List LR->R)->R:=
 List.rec (motive:=λ_=>Nat->(List LR->R)->R) (λ_ K=>K [])
  (λx _ b i K=>b (i+1) λl=>match ks.contains i,d.contains i with
   |true,_=>K (c :: l)
   |false,true=>(match x with
    | .row a=>sV a.length λn=>K (.any n :: l)
    | .any n=>K (.any n :: l)
    |_=>K (.Ih :: l))
   |false,false=>K (x :: l)) l
def p'(lv:List (Nat×SK)):List S0->List SV->(List SV->R)->R:=
 List.rec (motive:=λ_=>List S0->List SV->(List SV->R)->R) (λ_ tm K=>K tm)
  (λp _ b a tm K=>match a with
   |x :: a=>E3 (.st x) tm p.1 λtm=>b a tm K
   | []=>A.fail) lv
def j2(lv:List (Nat×List LK)):TG->List LR->(List LR->TG->R)->R:=
 List.rec (motive:=λ_=>TG->List LR->(List LR->TG->R)->R) (λb a K=>K a b)
  (λp _ d b a K=>NI A p.2 b λc r=>E3 (.row c) a p.1 λa=>d r a K) lv
def dC(a_:TC)(c:Code)(d:LR)(lv:Live)(b:Env)(ls:TG)(K:Env->R):R:=
 Zl (Ht c) (aQ a_ c) b.tm 0 λtm=>OA (Fp a_ c) (aQ a_ c) d b.lc 0 λa=>
  Ig A (lv.tm.map (·.2)) ls λe r=>p' A lv.tm e tm λtm=>j2 A lv.rows r a λa r=>A.u4 r (K ⟨tm,a⟩)
abbrev KN(R HT:Type):=Env->HT->R
def vw(a_:TC)(c:Code)(j:Option Live)(b:Env)(e:KN R HT)(a:KN R HT->R):R:=
 match j with
 |none=>a e
 |some lv=>A.join (λd h=>dC A a_ c .Ih lv b d λb=>e b h) λf=>a λb h=>match pk b lv with
  |some d=>f d h
  |none=>A.fail
structure Cv where
 C:ke
 a_:List Nat
 T:Nat->Site
def jw(a:Env):TK->SV
 | .tmp t=>a.tm.getD t .no
 | .const v=>match Hd v with
  |some x=>.st x
  |none=>.no
 | .global g=>match Nat.blt g gB with
  |true=>.Io g 0
  |false=>.no
 | .func f=>.st (.leaf (.v (.func (.func f) #[] #[])))
def BN(a:Env)(x:TK):Option S0:=
 match jw a x with
 | .st x=>some x
 |_=>none
def CE(a:Env):List Operand->Option (List S0)
 | []=>some []
 |x :: l=>match BN a x,CE a l with
  |some x,some l=>some (x :: l)
  |_,_=>none
def IG:TK->Option Nat
 | .const (.int _ (.ofNat n))=>some n
 |_=>none
def kb(d:Tq)(x:SV)(a:Env)(h:HT)(K:KN R HT):R:=
 match d with
 |some d=>E3 x a.tm d λtm=>K ⟨tm,a.lc⟩ h
 |none=>K a h
def tR(b:Env)(s:Nat):Option (List SL):=
 match b.lc.getD s .Ih with
 | .row a=>some a
 |_=>none
def Hh:SK->List LK
 | .leaf k=>[k]
 | .agg ks=>ks
def DP(cs:List SL)(off n:Nat):Option (List SL):=if off+n<=cs.length then some ((cs.drop off).take n)else none
def jb(cs:List SL)(off:Nat)(new:List SL):Option (List SL):=if off+new.length<=cs.length then some (cs.take off++new++cs.drop (off+new.length))else none
def uw(cs:List SL)(ks:TJ):Nat->List (Int×Nat)->Bool
 |a,[]=>match DP cs a ks.length with
  |some ds=>aZ ds ks
  |none=>true
 |a,p :: l=>!Nat.beq p.2 0&&(range (cs.length+1)).all λj=>uw cs ks (a+j*p.2) l
def Gx(a:Bool)(cs:List SL):Option S0:=
 match a,cs with
 |true,cs=>some (.agg cs)
 |false,[c]=>some (.leaf c)
 |_,_=>none
def sO(pl:Nat->Option (Nat×Nat))(cs:List SL):List (Nat×S0)->Option (List SL)
 | []=>some cs
 |(i,x) :: l=>match pl i with
  |some (off,n)=>match Nat.beq x.cells.length n with
   |true=>match jb cs off x.cells with
    |some cs=>sO pl cs l
    |none=>none
   |false=>none
  |none=>none
def x6(P:TI)(t:TP):Option Bool:=
 match P.underlying t with
 |some (.struct _)|some (.array _ _)=>some true
 |some _=>some false
 |none=>none
def yp(P:TI)(t:TP):Option S0:=(eU P t).bind Hd
def kq:SK->Bool
 | .leaf _=>false
 | .agg _=>true
def OU:Bool->Bool->Bool
 |true,true=>true
 |false,false=>true
 |_,_=>false
def VL(X:Cv)(d:Tq)(t:TP)(x:S0)(a:Env)(h:HT)(K:KN R HT):R:=
 match d with
 |none=>A.fail
 |some d=>match Nat.beq (X.a_.getD d 0) (d+2)with
  |true=>match a.lc.getD d .Ih with
   | .nil=>E3 (.row x.cells) a.lc d λb=>E3 (.Gu d 0) a.tm d λtm=>K ⟨tm,b⟩ h
   |_=>A.fail
  |false=>A.new (.cells (x.cells.map SL.val) (mG X.C.P t) true) h λn h=>kb (some d) (.st (.leaf (.v (.pointer (some ⟨n,0,none⟩))))) a h K
def He(d:Tq)(b:SK)(cs:Tn)(a:Env)(h:HT)(K:KN R HT):R:=
 JB A b cs λx r=>A.ts r (kb d (.st x) a h K)
def H8(d:Tq)(b:SK)(ls:TG)(a:Env)(h:HT)(K:KN R HT):R:=
 b7 A b ls λx r=>A.u4 r (kb d (.st x) a h K)
def PO(X:Cv)(d:Tq)(i:SK)(j:Bool)(n:Nat)(a:TK)(e:Env)(h:HT)(K:KN R HT):R:=
 match nB X.a_ a,jw e a with
 |0,.st (.leaf (.v p))=>A.ka (.lg X.C n p) h λc=>He A d i c e h K
 |1,.Io g f=>match X.C.G g with
  |some m=>match cut m f n with
   |some c=>match c.all scalar,Gx j (c.map H9)with
    |true,some x=>kb d (.st x) e h K
    |_,_=>He A d i c e h K
   |none=>A.fail
  |none=>A.fail
 |1,.Ki g b k=>match X.C.G g with
  |some m=>A.h_ (pT m b k n) λc=>He A d i c e h K
  |none=>A.fail
 |1,.st (.leaf (.v p))=>A.h_ (p4 X.C n p) λc=>He A d i c e h K
 |s+2,.Gu l f=>match Nat.beq s l,(tR e s).bind (λc=>(DP c f n).bind (Gx j))with
  |true,some x=>kb d (.st x) e h K
  |_,_=>A.fail
 |s+2,.Iq l b k=>match Nat.beq s l,tR e s with
  |true,some c=>match uw c (Hh i) b k&&Nat.beq n (Hh i).length with
   |true=>A.h_ (jZ (c.map SL.lf) b k n) λo=>H8 A d i o e h K
   |false=>A.fail
  |_,_=>A.fail
 |_,_=>A.fail
def Ry(r:LR)(off:Nat)(new:List SL):Option (List SL):=
 match r with
 | .row a=>jb a off new
 | .any n=>match Nat.beq off 0&&Nat.beq n new.length with
  |true=>some new
  |false=>none
 |_=>none
def Jx(X:Cv)(d:Tq)(t:TP)(a:TK)(x:S0)(c:Env)(h:HT)(K:KN R HT):R:=
 match Nat.beq x.cells.length (X.C.P.cellsOf t)&&(X.C.P.info? t).isSome with
 |false=>A.fail
 |true=>match nB X.a_ a,jw c a with
  |0,.st (.leaf (.v p))=>A.heap (.st p (x.cells.map SL.val)) h λ_ h=>kb d .un c h K
  |s+2,.Gu i g=>match Nat.beq s i,Ry (c.lc.getD s .Ih) g x.cells with
   |true,some e=>E3 (.row e) c.lc s λf=>kb d .un ⟨c.tm,f⟩ h K
   |_,_=>A.fail
  |s+2,.Iq i b j=>match Nat.beq s i,tR c s with
   |true,some e=>match uw e (x.cells.map SL.lk) b j with
    |false=>A.fail
    |true=>A.h_ (lD (e.map SL.lf) b j (x.cells.map SL.lf)) λk=>NI A (e.map SL.lk) k λe r=>A.u4 r (E3 (.row e) c.lc s λf=>kb d .un ⟨c.tm,f⟩ h K)
   |_,_=>A.fail
  |_,_=>A.fail
def gb:BinOp->Bool
 | .eql | .neq | .lss | .leq | .gtr | .geq=>true
 |_=>false
def Kt:BinOp->Bool
 | .shl | .shr=>true
 |_=>false
def mY(F:TP->Option (TJ)):List Field->Nat->Option (TJ)
 | [],_=>some []
 |f :: a,off=>match decide (f.name = "_"),Nat.beq f.offset off,F f.type with
  |false,true,some ks=>(mY F a (off+ks.length)).map (ks ++ ·)
  |_,_,_=>none
def Cz(P:TI):Nat->TP->Option (TJ)
 |0,_=>none
 |d+1,t=>match P.underlying t with
  |some (.int k)=>some [.i k]
  |some .bool=>some [.b]
  |some (.struct a)=>match P.stoodInHeld t,mY (Cz P d) a.toList 0 with
   |false,some ks=>match Nat.beq ks.length (P.cellsOf t)with
    |true=>some ks
    |false=>none
   |_,_=>none
  |some (.array n e)=>match Cz P d e with
   |some ks=>match Nat.beq ks.length (P.cellsOf e)&&Nat.beq (replicate n ks).flatten.length (P.cellsOf t)with
    |true=>some (replicate n ks).flatten
    |false=>none
   |none=>none
  |_=>none
def UL:Int->Int->Bool
 | .ofNat a,.ofNat b=>Nat.beq a b
 | .negSucc a,.negSucc b=>Nat.beq a b
 |_,_=>false
def fF:TJ->Tn->Tn->Option Bool
 | [],[],[]=>some true
 | .i k :: ks,.int a x :: xs,.int b y :: ys=>match cX a k,cX b k,fF ks xs ys with
  |true,true,some r=>(match UL x y with
   |true=>some r
   |false=>some false)
  |_,_,_=>none
 | .b :: ks,.bool x :: xs,.bool y :: ys=>match fF ks xs ys with
  |some r=>(match OU x y with
   |true=>some r
   |false=>some false)
  |none=>none
 |_,_,_=>none
def v_:TJ->Tn->Tn->Option Bool
 | [],_,_=>some true
 | .i k :: ks,.int a x :: xs,.int b y :: ys=>match cX a k,cX b k with
  |true,true=>(match UL x y with
   |true=>v_ ks xs ys
   |false=>some false)
  |_,_=>none
 | .b :: ks,.bool x :: xs,.bool y :: ys=>match OU x y with
  |true=>v_ ks xs ys
  |false=>some false
 |_,_,_=>none
def jA(ks:TJ)(cs:Tn):Tj->Nat->Option (Ts)
 | [],_=>some none
 |e :: a,i=>match e.key with
  | .agg ds=>match v_ ks cs ds.toList with
   |some true=>some (some i)
   |some false=>jA ks cs a (i+1)
   |none=>none
  |_=>none
def s4{R:Type}(v:Value)(d:R)(K:TL->Int->R):R:=match v with
 | .int a m=>K a m
 |_=>d
def u1{R:Type}(v:Value)(d:R)(K:Bool->R):R:=match v with
 | .bool a=>K a
 |_=>d
def ZC(a b:Int):Bool:=@Int.rec (λ_=>Bool) (λm=>@Int.rec (λ_=>Bool) (λn=>Nat.beq m n) (λ_=>false) b) (λm=>@Int.rec (λ_=>Bool) (λ_=>false) (λn=>Nat.beq m n) b) a
def OL(ks:TJ):Tn->Tn->Option Bool:=
 @List.rec LK (λ_=>Tn->Tn->Option Bool)
  (λ_ _=>some true)
  (λk _ e c d=>@List.rec Value (λ_=>Option Bool) none (λx c _=>@List.rec Value (λ_=>Option Bool) none (λy d _=>
   @LK.rec (λ_=>Option Bool)
    (λk=>s4 x none λa m=>s4 y none λb n=>@Bool.rec (λ_=>Option Bool) none (@Bool.rec (λ_=>Option Bool) none (@Bool.rec (λ_=>Option Bool) (some false) (e c d) (ZC m n)) (cX b k)) (cX a k))
    (u1 x none λa=>u1 y none λb=>@Bool.rec (λ_=>Option Bool) (some false) (e c d) (OU a b))
    none k) d) c) ks
def UM(a b:Int):ZC a b=UL a b:=by cases a<;>cases b<;>rfl
def wD:∀(ks:TJ) (xs ys:Tn),OL ks xs ys=v_ ks xs ys
 | [],_,_=>by simp only[v_];rfl
 |k :: ks,[],ys=>by cases k<;>rfl
 |k :: ks,x :: xs,[]=>by cases k<;>cases x<;>rfl
 | .v :: ks,x :: xs,y :: ys=>by cases x<;>cases y<;>rfl
 | .b :: ks,x :: xs,y :: ys=>by
  cases x<;>first|(cases y<;>rfl)|skip
  cases y<;>first|rfl|skip
  rename_i a b
  show @Bool.rec (λ_=>Option Bool) (some false) (OL ks xs ys) (OU a b)=_;rw[wD ks xs ys];simp only[v_];cases OU a b<;>rfl
 | .i k :: ks,x :: xs,y :: ys=>by
  cases x<;>first|(cases y<;>rfl)|skip
  cases y<;>first|rfl|skip
  rename_i a m b n
  show @Bool.rec (λ_=>Option Bool) none (@Bool.rec (λ_=>Option Bool) none (@Bool.rec (λ_=>Option Bool) (some false) (OL ks xs ys) (ZC m n)) (cX b k)) (cX a k)=_;rw[wD ks xs ys,UM];simp only[v_];cases cX a k<;>cases cX b k<;>first|rfl|(cases UL m n<;>rfl)
def Kd(ks:TJ)(cs:Tn)(c:Tj):Nat->Option (Ts):=
 @List.rec MapEntry (λ_=>Nat->Option (Ts)) (λ_=>some none) (λe _ d i=>match e.key with
  | .agg a=>@Option.rec Bool (λ_=>Option (Ts)) none (λb=>@Bool.rec (λ_=>Option (Ts)) (fN (Nat.succ i) d) (some (some i)) b) (OL ks cs a.toList)
  |_=>none) c
def nX(ks:TJ)(cs:Tn):∀(a:Tj) (i:Nat),Kd ks cs a i=jA ks cs a i
 | [],_=>rfl
 |e :: a,i=>by
  have h:Kd ks cs (e :: a) i=match e.key with
   | .agg ds=>@Option.rec Bool (λ_=>Option (Ts)) none (λb=>@Bool.rec (λ_=>Option (Ts)) (Kd ks cs a (i+1)) (some (some i)) b) (OL ks cs ds.toList)
   |_=>none:=rfl
  rw[h];simp only[jA,wD,nX ks cs a];split
  next ds _=>
   cases v_ ks cs ds.toList with
   |none=>rfl
   |some b=>cases b<;>rfl
  .rfl
def uW(P:TI)(kt:TP)(k:Value)(a:Tj):Option (Ts):=
 match k with
 | .agg b=>match x6 P kt,Cz P 10000 kt with
  |some true,some c=>match Kd c b.toList a 0 with
   |some r=>some r
   |none=>sQ P kt k a
  |_,_=>sQ P kt k a
 |_=>sQ P kt k a
def HQ(P:TI)(kt:TP)(k:Value):Bool:=
 match k with
 | .agg b=>match x6 P kt with
  |some true=>match Cz P 10000 kt with
   |some a=>match fF a b.toList b.toList with
    |some _=>true
    |none=>jC P kt k
   |none=>jC P kt k
  |_=>jC P kt k
 |_=>jC P kt k
def G5(g:cP)(id:Nat):Option (List MapEntry×Nat):=
 match g id with
 |some (.map a c)=>some (a,c)
 |_=>none
def gm(a:Bool)(v:Value):Option (Tn):=
 match v,a with
 | .agg b,true=>some b.toList
 | .agg _,false=>none
 |_,true=>none
 |v,false=>some [v]
def E7(C:ke)(kt:TP)(b:Bool)(z:Value)(m k:Value)(ok:Bool)(g:cP):Option (Tn):=
 if !HQ C.P kt k then none else
 match m with
 | .map none=>(gm b z).map λa=>a++if ok then [.bool false]else []
 | .map (some id)=>
  match G5 g id with
  |none=>none
  |some (c,_)=>
   match uW C.P kt k c with
   |none=>none
   |some none=>(gm b z).map λa=>a++if ok then [.bool false]else []
   |some (some i)=>((ed c i).bind (gm b)).map λa=>a++if ok then [.bool true]else []
 |_=>none
def FH(C:ke)(kt:TP)(m k v:Value)(g:cP)(_:Nat):Option (List Cq×List Value):=
 match m with
 | .map (some id)=>
  if !HQ C.P kt k then none else
  match G5 g id with
  |none=>none
  |some (a,c)=>
   match uW C.P kt k a with
   |none=>none
   |some none=>some ([.set id (.map (a++[{ key:=k,val:=v,born:=c }]) (c+1))],[])
   |some (some i)=>
    if (a[i]?).all (λe=>Instr.sameBits 10000 e.key k)then some ([.set id (.map (a.modify i λe=>{ e with key:=k,val:=v }) c)],[])else none
 |_=>none
def b1(C:ke)(kt:TP)(a:Bool)(z:Value)(m k:Value)(g:cP)(_:Nat):Option (List Cq×List Value):=none
def g4(m:Value)(b:Int)(v:Value)(g:cP)(_:Nat):Option (List Cq×List Value):=none
def deG(C:ke)(kt:TP)(m k:Value)(g:cP)(_:Nat):Option (List Cq×List Value):=none
def lh(n:Nat)(x y:Value):Option Bool:=match Nat.beq n (dw x),Nat.beq n (dw y)with
 |true,true=>mf x y
 |_,_=>none
def vK{P:TI}{t:TP}{a:TypeDesc}{x y:TR}{b:Bool}(e:P.underlying t=some a)(h:lh (mg a) x y=some b):mf x y=some b/\tD P t x y=true:=by
 unfold lh at h;split at h
 next c d=>
  refine⟨h,?_⟩;unfold tD
  simp_all
 .cases h
def se(ks:TJ):Bool:=ks.all λk=>match k with
 | .v=>false
 |_=>true
def Za(X:Cv)(d:Tq)(e:BinOp)(t:TP)(a b:S0)(c:Env)(h:HT)(K:KN R HT):R:=
 match a,b with
 | .leaf (.i k x),.leaf (.i m y)=>
  match Kt e,cX k m,gb e with
  |true,_,_=>A.E5 e k x m y λn=>kb d (.st (.leaf (.i k n))) c h K
  |false,true,true=>A.cmp e x y λt=>kb d (.st (.leaf (.b t))) c h K
  |false,true,false=>A.w7 e k x y λn=>kb d (.st (.leaf (.i k n))) c h K
  |_,_,_=>A.fail
 | .agg g,.agg j=>match Cz X.C.P 10000 t,X.C.P.eqGuardType X.C.P.depth t,x6 X.C.P t with
  |some l,false,some true=>match aZ g l&&aZ j l&&se l with
   |true=>match e with
    | .eql=>A.eqs ((g.map SL.lf).zip (j.map SL.lf)) λt=>kb d (.st (.leaf (.b t))) c h K
    | .neq=>A.eqs ((g.map SL.lf).zip (j.map SL.lf)) λt=>kb d (.st (.leaf (.b (!t)))) c h K
    |_=>A.fail
   |false=>A.fail
  |_,_,_=>A.fail
 | .leaf (.v x),.leaf (.v y)=>match X.C.P.underlying t with
  |some .string=>match e with
   | .eql=>A.h_ (LC x y) λf=>kb d (.st (.leaf (.b f))) c h K
   | .neq=>A.h_ (LC x y) λf=>kb d (.st (.leaf (.b (!f)))) c h K
   |_=>A.fail
  |some o=>match e with
   | .eql=>A.h_ (lh (mg o) x y) λf=>kb d (.st (.leaf (.b f))) c h K
   | .neq=>A.h_ (lh (mg o) x y) λf=>kb d (.st (.leaf (.b (!f)))) c h K
   |_=>A.fail
  |none=>A.fail
 | .leaf x,.leaf y=>match x.is .b&&y.is .b,X.C.P.underlying t with
  |true,some .bool=>match e with
   | .eql=>A.eqs [(x.lf,y.lf)] λt=>kb d (.st (.leaf (.b t))) c h K
   | .neq=>A.eqs [(x.lf,y.lf)] λt=>kb d (.st (.leaf (.b (!t)))) c h K
   |_=>A.fail
  |_,_=>A.fail
 |_,_=>A.fail
def EX(a:Env):Th->Option (Tt)
 |none=>some none
 |some x=>match jw a x with
  | .st (.leaf (.i _ n))=>some (some n)
  |_=>none
def nI(a:TN):SK:=match a with
 | [k]=>k
 |_=>.agg []
def Nh(d:Tq)(sks:TN)(b:TG)(a:Env)(h:HT)(K:KN R HT):R:=
 match sks with
 | [c]=>H8 A d c b a h K
 | []=>A.u4 b (kb d .un a h K)
 |sks=>Ig A sks b λe r=>A.u4 r (kb d (.Jz e) a h K)
structure GH where
 ps:List SK
 rs:List SK
def cE:List S0->TN->Bool
 | [],[]=>true
 |x :: l,k :: ks=>x.is k&&cE l ks
 |_,_=>false
def nM(X:Cv)(d:Tq)(o:SK)(b:Builtin)(xs:List S0)(l:Array TypeId)(f:Env)(h:HT)(K:KN R HT):R:=
 match b,xs,l[0]? with
 | .append,[.leaf (.v s),.leaf (.v x)],some t=>match X.C.P.underlying t with
  |some (.slice e)=>match X.C.P.info? e with
   |some c=>match Nat.beq c.size 0||(lN c).isNone||(l[1]?.any λu=>(X.C.P.underlying u) matches some (.int _)|none)||l[1]?.isNone with
    |true=>A.fail
    |false=>A.heap (.ap X.C c.size c.bytes s x) h λg h=>He A d (.leaf .v) g f h K
   |none=>A.fail
  |_=>A.fail
 | .len,[x],some t=>match X.C.P.underlying t,x with
  |some (.slice _),.leaf (.v x)=>A.h_ (G3 x) λn=>kb d (.st (.leaf (.i .i64 n))) f h K
  |some (.map _ _),.leaf (.v x)=>A.ka (.fn (p0 x)) h λg=>He A d (.leaf (.i .i64)) g f h K
  |some (.array n _),_=>kb d (.st (.leaf (.i .i64 n))) f h K
  |_,_=>A.fail
 | .cap,[x],some t=>match X.C.P.underlying t,x with
  |some (.slice _),.leaf (.v x)=>A.h_ (Oq x) λn=>kb d (.st (.leaf (.i .i64 n))) f h K
  |some (.array n _),_=>kb d (.st (.leaf (.i .i64 n))) f h K
  |_,_=>A.fail
 | .copy,[.leaf (.v s),.leaf (.v x)],some t=>match X.C.P.underlying t with
  |some (.slice e)=>match Nat.beq (X.C.P.cellsOf e) 0 with
   |true=>A.fail
   |false=>A.heap (.fn (cpG X.C (X.C.P.cellsOf e) s x)) h λg h=>He A d (.leaf (.i .i64)) g f h K
  |_=>A.fail
 | .delete,[.leaf (.v m),k],some t=>match X.C.P.underlying t with
  |some (.map p _)=>A.heap (.fn (deG X.C p m k.val)) h λ_ h=>kb d .un f h K
  |_=>A.fail
 | .clear,[.leaf (.v s)],some t=>match X.C.P.underlying t with
  |some (.slice e)=>match Nat.beq (X.C.P.cellsOf e) 0,yp X.C.P e with
   |false,some z=>A.heap (.fn (clG (X.C.P.cellsOf e) (z.cells.map SL.val) s)) h λ_ h=>kb d .un f h K
   |_,_=>A.fail
  |_=>A.fail
 | .min,[.leaf (.i k a),.leaf (.i j b)],_=>match cX k j with
  |true=>A.cmp .lss b a λt=>A.FO t b a λn=>kb d (.st (.leaf (.i k n))) f h K
  |false=>A.fail
 | .max,[.leaf (.i k a),.leaf (.i j b)],_=>match cX k j with
  |true=>A.cmp .lss a b λt=>A.FO t b a λn=>kb d (.st (.leaf (.i k n))) f h K
  |false=>A.fail
 |_,_,_=>A.fail
def lX(X:Cv)(d:Tq)(t:TP)(x i:TK)(k:Env)(h:HT)(K:KN R HT):R:=
 match X.C.P.underlying t with
 |some (.array c e)=>
  let a:=X.C.P.cellsOf e
  match Nat.beq a 0,jw k x,jw k i,IG i with
  |false,.Gu s f,_,some n=>match Nat.blt n c with
   |true=>kb d (.Gu s (f+n*a)) k h K
   |false=>A.fail
  |false,.Io g f,_,some n=>match Nat.blt n c with
   |true=>kb d (.Io g (f+n*a)) k h K
   |false=>A.fail
  |false,.Iq s b l,_,some n=>match Nat.blt n c with
   |true=>kb d (.Iq s (b+n*a) l) k h K
   |false=>A.fail
  |false,.Ki g b l,_,some n=>match Nat.blt n c with
   |true=>kb d (.Ki g (b+n*a) l) k h K
   |false=>A.fail
  |false,.Gu s f,.st (.leaf (.i _ j)),_=>A.h_ (EU c j) λ_=>kb d (.Iq s f [(j,a)]) k h K
  |false,.Io g f,.st (.leaf (.i _ j)),_=>A.h_ (EU c j) λ_=>kb d (.Ki g f [(j,a)]) k h K
  |false,.Iq s b l,.st (.leaf (.i _ j)),_=>A.h_ (EU c j) λ_=>kb d (.Iq s b (l++[(j,a)])) k h K
  |false,.Ki g b l,.st (.leaf (.i _ j)),_=>A.h_ (EU c j) λ_=>kb d (.Ki g b (l++[(j,a)])) k h K
  |false,.st (.leaf (.v p)),.st (.leaf (.i _ j)),_=>A.h_ (Ph c a p j) λq=>A.k_ q (kb d (.st (.leaf (.v q))) k h K)
  |_,_,_,_=>A.fail
 |some (.slice e)=>
  let a:=X.C.P.cellsOf e
  match Nat.beq a 0,jw k x,jw k i with
  |false,.st (.leaf (.v p)),.st (.leaf (.i _ j))=>A.h_ (A2 a p j) λq=>kb d (.st (.leaf (.v q))) k h K
  |_,_,_=>A.fail
 |_=>A.fail
def lV(X:Cv)(d:Tq)(t:TP)(x:TK)(f:Nat)(c:Env)(h:HT)(K:KN R HT):R:=
 match X.C.P.underlying t with
 |some (.struct j)=>match j[f]? with
  |some e=>match Nat.beq (X.C.P.cellsOf e.type) 0,jw c x with
   |false,.Gu s b=>kb d (.Gu s (b+e.offset)) c h K
   |false,.Io g b=>kb d (.Io g (b+e.offset)) c h K
   |false,.Iq s a i=>kb d (.Iq s (a+e.offset) i) c h K
   |false,.Ki g a i=>kb d (.Ki g (a+e.offset) i) c h K
   |false,.st (.leaf (.v p))=>A.h_ (Dg e.offset p) λq=>A.k_ q (kb d (.st (.leaf (.v q))) c h K)
   |_,_=>A.fail
  |none=>A.fail
 |_=>A.fail
abbrev _root_.Td:=FuncId->Option GH
def R'(X:Cv)(Sg:Td)(o:Oper)(B:TN)(d:Env)(h:HT)(K:KN R HT):R:=
 match o.op with
 | .move x=>match jw d x with
  | .no=>A.fail
  |y=>kb o.dst y d h K
 | .assign x=>match jw d x with
  | .no=>A.fail
  |y=>kb o.dst y d h K
 | .pick c a b=>match jw d c,jw d a,jw d b with
  | .st (.leaf (.l true)),.st y,_=>kb o.dst (.st y) d h K
  | .st (.leaf (.l false)),_,.st y=>kb o.dst (.st y) d h K
  | .st (.leaf (.b t)),.st y,.st z=>A.cond t (kb o.dst (.st y) d h K) (kb o.dst (.st z) d h K)
  |_,_,_=>A.fail
 | .alloc t=>match yp X.C.P t with
  |some x=>VL A X o.dst t x d h K
  |none=>A.fail
 | .box t x=>match jw d x with
  | .st x=>VL A X o.dst t x d h K
  |_=>A.fail
 | .build t J=>match yp X.C.P t,ox X.C.P t,CE d (J.toList.map (·.2))with
  |some z,some pl,some D=>match sO pl z.cells ((J.toList.map (·.1)).zip D)with
   |some w=>kb o.dst (.st (.agg w)) d h K
   |none=>A.fail
  |_,_,_=>A.fail
 | .buildSlice t n J=>match X.C.P.underlying t,CE d (J.toList.map (·.2))with
  |some (.slice e),some D=>match X.C.P.info? e with
   |some u=>match Nat.beq u.size 0||Nat.blt 16777216 (n*u.size),(lN u).bind Hd with
    |false,some z=>match sO (λi=>some (i*u.size,u.size)) (replicate n z.cells).flatten ((J.toList.map (·.1)).zip D)with
     |some w=>A.new (.cells (w.map SL.val) u.size true) h λm h=>kb o.dst (.st (.leaf (.v (.slice (some ⟨m,0,le u.size⟩) n (n+1))))) d h K
     |none=>A.fail
    |_,_=>A.fail
   |none=>A.fail
  |_,_=>A.fail
 | .load t a=>match x6 X.C.P t with
  |some G=>match OU G (kq (nI B))with
   |true=>PO A X o.dst (nI B) G (if G then X.C.P.cellsOf t else 1) a d h K
   |false=>A.fail
  |none=>A.fail
 | .store t a x=>match jw d x with
  | .st x=>Jx A X o.dst t a x d h K
  |_=>A.fail
 | .nilCheck x=>match jw d x with
  | .st (.leaf (.v p))=>A.h_ (CW p) λq=>A.k_ q (kb o.dst (.st (.leaf (.v q))) d h K)
  | .Gu s H=>kb o.dst (.Gu s H) d h K
  | .Io s H=>kb o.dst (.Io s H) d h K
  |_=>A.fail
 | .binOp U t x y _=>match BN d x,BN d y with
  |some a,some b=>Za A X o.dst U t a b d h K
  |_,_=>A.fail
 | .unOp U _ x=>match U,jw d x with
  | .not,.st (.leaf (.b t))=>kb o.dst (.st (.leaf (.b (!t)))) d h K
  | .not,.st (.leaf (.l t))=>kb o.dst (.st (.leaf (.l (!t)))) d h K
  | .neg,.st (.leaf (.i k n))=>A.w7 .sub k 0 n λn=>kb o.dst (.st (.leaf (.i k n))) d h K
  |_,_=>A.fail
 | .convert sT Y x=>match X.C.P.underlying sT,X.C.P.underlying Y,jw d x with
  |some (.int _),some (.int k),.st (.leaf (.i _ n))=>A.conv k n λn=>kb o.dst (.st (.leaf (.i k n))) d h K
  |_,_,_=>A.fail
 | .makeFunc Z first L=>match Z,CE d first.toList,CE d L.toList with
  | .func g,some a,some b=>A.k_ (.func (.func g) ⟨ak a⟩ ⟨ak b⟩) (kb o.dst (.st (.leaf (.v (.func (.func g) ⟨ak a⟩ ⟨ak b⟩)))) d h K)
  |_,_,_=>A.fail
 | .makeMap t r=>match py X.C t (r.map λ_=>.int .i64 0),EX d r with
  |true,some _=>A.new (.map [] 0) h λn h=>kb o.dst (.st (.leaf (.v (.map (some n))))) d h K
  |_,_=>A.fail
 | .makeSlice t l c=>match X.C.P.underlying t,jw d l,jw d c with
  |some (.slice e),.st (.leaf (.i _ l)),.st (.leaf (.i _ c))=>match X.C.P.info? e with
   |some u=>match Nat.beq u.size 0||Nat.blt 4096 u.bytes,(lN u).bind Hd with
    |false,some z=>A.h_ (DS l c) λ_=>
      A.new (.cells (aN (z.cells.map SL.val) c.toNat) u.size true) h λn h=>kb o.dst (.st (.leaf (.v (.slice (some ⟨n,0,le u.size⟩) l.toNat (c.toNat+1))))) d h K
    |_,_=>A.fail
   |none=>A.fail
  |_,_,_=>A.fail
 | .slice t x S O T=>match X.C.P.underlying t,jw d x,EX d S,EX d O,EX d T with
  |some (.slice e),.st (.leaf (.v x)),some S,some O,some T=>match Nat.beq (X.C.P.cellsOf e) 0 with
   |true=>A.fail
   |false=>A.h_ (Et (X.C.P.cellsOf e) x S O T) λq=>A.k_ q (kb o.dst (.st (.leaf (.v q))) d h K)
  |_,_,_,_,_=>A.fail
 | .fieldAddr t x f=>lV A X o.dst t x f d h K
 | .indexAddr t x i=>lX A X o.dst t x i d h K
 | .field t x f=>match X.C.P.underlying t,jw d x with
  |some (.struct fs),.st (.agg w)=>match fs[f]? with
   |some N=>match (x6 X.C.P N.type).bind (λI=>(DP w N.offset (if I then X.C.P.cellsOf N.type else 1)).bind (Gx I))with
    |some x=>kb o.dst (.st x) d h K
    |none=>A.fail
   |none=>A.fail
  |_,_=>A.fail
 | .index t x i=>match X.C.P.underlying t,jw d x,jw d i with
  |some (.array Q e),.st (.agg w),.st (.leaf (.i _ j))=>match x6 X.C.P e with
   |some I=>match OU I (kq (nI B))&&uw w (Hh (nI B)) 0 [(j,X.C.P.cellsOf e)]&&Nat.beq (if I then X.C.P.cellsOf e else 1) (Hh (nI B)).length with
    |false=>A.fail
    |true=>A.h_ (EU Q j) λ_=>A.h_ (jZ (w.map SL.lf) 0 [(j,X.C.P.cellsOf e)] (if I then X.C.P.cellsOf e else 1)) λls=>H8 A o.dst (nI B) ls d h K
   |none=>A.fail
  |some .string,.st (.leaf (.v (.string s))),.st (.leaf (.i _ j))=>A.h_ (Ia s j) λb=>kb o.dst (.st (.leaf (.i .u8 b))) d h K
  |_,_,_=>A.fail
 | .lookup t m k ok=>match X.C.P.underlying t,jw d m,BN d k with
  |some (.map E M),.st (.leaf (.v m)),some k=>match eU X.C.P M with
   |some z=>match B,ok with
    | [F],false=>A.ka (.fn (E7 X.C E (kq F) z m k.val false)) h λw=>JB A F w λx r=>A.ts r (kb o.dst (.st x) d h K)
    | [F,.leaf .b],true=>A.ka (.fn (E7 X.C E (kq F) z m k.val true)) h λw=>JB A F w λx r=>A.DV r λt r=>A.ts r (kb o.dst (.Jz [x,.leaf (.b t)]) d h K)
    |_,_=>A.fail
   |none=>A.fail
  |_,_,_=>A.fail
 | .mapUpdate t m k v=>match X.C.P.underlying t,jw d m,BN d k,BN d v with
  |some (.map E _),.st (.leaf (.v m)),some k,some v=>A.heap (.fn (FH X.C E m k.val v.val)) h λ_ h=>kb o.dst .un d h K
  |_,_,_,_=>A.fail
 | .insert t m k v=>match X.C.P.underlying t,jw d m,BN d k,BN d v with
  |some (.map E _),.st (.leaf (.v m)),some k,some v=>A.heap (.fn (FH X.C E m k.val v.val)) h λ_ h=>kb o.dst .un d h K
  |_,_,_,_=>A.fail
 | .mapEntry t m k=>match X.C.P.underlying t,jw d m,BN d k with
  |some (.map E M),.st (.leaf (.v m)),some k=>match eU X.C.P M with
   |some z=>match B with
    | [F,.leaf (.i .i64)]=>A.heap (.fn (b1 X.C E (kq F) z m k.val)) h λw h=>JB A F w λx r=>A.rv .i64 r λn r=>A.ts r (kb o.dst (.Jz [x,.leaf (.i .i64 n)]) d h K)
    |_=>A.fail
   |none=>A.fail
  |_,_,_=>A.fail
 | .entryStore _ m s v=>match jw d m,jw d s,BN d v with
  | .st (.leaf (.v m)),.st (.leaf (.i _ b)),some v=>A.heap (.fn (g4 m b v.val)) h λ_ h=>kb o.dst .un d h K
  |_,_,_=>A.fail
 | .extract t i=>match jw d t with
  | .Jz D=>match D[i]? with
   |some x=>kb o.dst (.st x) d h K
   |none=>A.fail
  |_=>A.fail
 | .call c=>match CE d c.args.toList with
  |some D=>match c.callee with
   | .builtin b=>nM A X o.dst (nI B) b D c.argTypes d h K
   | .value f=>match jw d f with
    | .st (.leaf (.v v))=>match f with
     | .func g=>match Sg g with
      |some W=>match cE D W.ps with
       |true=>A.call g (cN D) h λV h=>Nh A o.dst W.rs V d h K
       |false=>A.fail
      |none=>A.fail
     |_=>A.A7 v (ak D) B h λV h=>Nh A o.dst B V d h K
    |_=>A.fail
   |_=>A.fail
  |none=>A.fail
 |_=>A.fail
def hQ(X:Cv)(Sg:Td)(ops:To)(o:Oper)(e:TN)(a:Env)(h:HT)(K:KN R HT):R:=
 match o.guard with
 |none=>R' A X Sg o e a h K
 |some (j,c)=>match (ops[j]?).bind (·.dst)with
  |some d=>match a.tm.getD d .no with
   | .st (.leaf (.l b))=>match b==c with
    |true=>R' A X Sg o e a h K
    |false=>kb o.dst .un a h K
   | .un=>kb o.dst .un a h K
   | .st (.leaf (.b t))=>match c with
    |true=>A.cond t (E3 (.st (.leaf (.l true))) a.tm d λtm=>R' A X Sg o e ⟨tm,a.lc⟩ h K) (E3 (.st (.leaf (.l false))) a.tm d λtm=>kb o.dst .un ⟨tm,a.lc⟩ h K)
    |false=>A.cond t (E3 (.st (.leaf (.l true))) a.tm d λtm=>kb o.dst .un ⟨tm,a.lc⟩ h K) (E3 (.st (.leaf (.l false))) a.tm d λtm=>R' A X Sg o e ⟨tm,a.lc⟩ h K)
   |_=>A.fail
  |none=>A.fail
abbrev _root_.TA:=List Oper
def MZ(X:Cv)(Sg:Td)(ops:To)(l:TA):List (TN)->Env->HT->KN R HT->R:=
 List.rec (motive:=λ_=>List (TN)->Env->HT->KN R HT->R) (λ_ a h K=>K a h)
  (λo _ c b a h K=>hQ A X Sg ops o (b.headD []) a h λa h=>c b.tail a h K) l
end
namespace Sx
def kM(_ _:Oper):Bool:=false
def JO(a:TC)(o:Oper):Nat:=
 o.after.toList.foldl (λm e=>match Region.binds .any e with
  |true=>Nat.lor (Nat.lor m (Nat.shiftLeft 1 e.on)) (a.getD e.on 0)
  |false=>m) 0
def E':TA->TC->List Nat
 | [],a=>a
 |o :: l,a=>E' l (a++[JO a o])
def C9:Value->List Nat
 | .pointer (some a)=>match a.spot with
  |none=>[a.block]
  |some _=>[]
 | .slice (some a) _ _=>match a.spot with
  |some 1=>[]
  |_=>[a.block]
 | .map (some id)=>[id]
 |_=>[]
def U8:Value->List Nat
 | .pointer (some a)=>match a.spot with
  |none=>[a.block]
  |some _=>[]
 |_=>[]
def n8:Value->List Nat
 | .map (some id)=>[id]
 |_=>[]
def df(a_:TC)(o:Oper):List Operand×Nat:=
 match o.op with
 | .load _ a=>match nB a_ a with
  |0=>([a],0)
  |_=>([],0)
 | .store _ a _=>match nB a_ a with
  |0=>([a],0)
  |_=>([],0)
 | .slice _ x _ _ _=>([x],1)
 | .lookup _ m _ _=>([m],0)
 | .mapUpdate _ m _ _ | .insert _ m _ _ | .mapEntry _ m _ | .entryStore _ m _ _=>([m],0)
 | .call c=>match c.callee with
  | .builtin b=>match b with
   | .append | .copy=>(c.args.toList,0)
   | .delete | .clear=>(c.args.toList.take 1,0)
   | .len=>(c.args.toList,2)
   |_=>([],0)
  |_=>([],0)
 |_=>([],0)
def A6:Nat->Value->List Nat
 |0,v=>C9 v
 |1,v=>U8 v
 |_,v=>n8 v
def fh(a_:TC)(o:Oper):List Operand:=
 match o.op with
 | .store _ a _=>match nB a_ a with
  |0=>[a]
  |_=>[]
 | .mapUpdate _ m _ _ | .insert _ m _ _ | .mapEntry _ m _ | .entryStore _ m _ _=>[m]
 | .call c=>match c.callee with
  | .builtin b=>match b with
   | .append | .copy | .delete | .clear=>c.args.toList.take 1
   |_=>[]
  |_=>[]
 |_=>[]
def DR(a_:TC)(o:Oper):Nat:=
 match o.op with
 | .load _ a=>match nB a_ a with
  |0=>1
  |_=>0
 | .store _ a _=>match nB a_ a with
  |0=>2
  |_=>0
 | .alloc _ | .box _ _=>match dv a_ o with
  |true=>2
  |false=>0
 | .buildSlice _ _ _ | .makeMap _ _ | .makeSlice _ _ _ | .mapUpdate _ _ _ _ | .mapEntry _ _ _ | .entryStore _ _ _ _ | .insert _ _ _ _=>2
 | .lookup _ _ _ _ | .slice _ _ _ _ _=>1
 | .call c=>match c.callee with
  | .builtin b=>match b with
   | .append | .copy | .delete | .clear=>2
   | .len=>1
   |_=>0
  |_=>0
 |_=>0
def OC(a_:TC)(a b:Oper):Bool:=Nat.ble 3 (DR a_ a+DR a_ b) && !kM a b
def uM(a_:TC)(b:Oper)(m i:Nat):TA->Nat->List (Nat×Nat)
 | [],_=>[]
 |a :: l,k=>match Nat.testBit m k || !OC a_ a b with
  |true=>uM a_ b m i l (k+1)
  |false=>(k,i) :: uM a_ b m i l (k+1)
def yJ(a_:TC)(ms:TC):TA->TA->Nat->List (Nat×Nat)
 |_,[],_=>[]
 |pre,b :: l,i=>uM a_ b (ms.getD i 0) i pre 0++yJ a_ ms (pre++[b]) l (i+1)
def yK(a_:TC)(ops:To):List (Nat×Nat):=yJ a_ (E' ops.toList []) [] ops.toList 0
def G7(x:Nat):TC->Bool
 | []=>false
 |y :: l=>match Nat.beq x y with
  |true=>true
  |false=>G7 x l
def Ci:TC->TC->Bool
 | [],_=>true
 |x :: l,m=>match G7 x m with
  |true=>false
  |false=>Ci l m
def Di:List (Value×Nat×Value)->Option Unit
 | []=>some ()
 |p :: l=>match Ci (C9 p.1) (A6 p.2.1 p.2.2)with
  |true=>Di l
  |false=>none
def W2:SV->Option (Tn)
 | .st (.leaf (.v x))=>some [x]
 | .no=>none
 |_=>some []
def sH(c:Env):List Operand->Option (Tn)
 | []=>some []
 |x :: l=>match W2 (jw c x),sH c l with
  |some a,some b=>some (a++b)
  |_,_=>none
def RP(a_:TC)(o:Oper):List Operand:=fh a_ o++match DR a_ o,o.dst with
 |2,some d=>[.tmp d]
 |_,_=>[]
def HE(us:Tn)(k:Nat)(vs:Tn):List (Value×Nat×Value):=us.flatMap λu=>vs.map λv=>(u,k,v)
def Jo(a_:TC)(c:Env)(a b:Oper):Option (List (Value×Nat×Value)):=
 match sH c (RP a_ a),sH c (RP a_ b),sH c (df a_ a).1,sH c (df a_ b).1 with
 |some d,some e,some f,some g=>some (HE d (df a_ b).2 g++HE d 0 e++HE e (df a_ a).2 f)
 |_,_,_,_=>none
def tX(a_:TC)(ops:To)(c:Env):List (Nat×Nat)->Option (List (Value×Nat×Value))
 | []=>some []
 |p :: l=>match ops[p.1]?,ops[p.2]?,tX a_ ops c l with
  |some a,some b,some r=>(Jo a_ c a b).map λx=>x++r
  |_,_,_=>none
def sepK{R a:Type}(A:A_ R a)(a_:TC)(ops:To)(ps:List (Nat×Nat))(c:KN R a):KN R a:=
 match ps with
 | []=>c
 |ps=>λb h=>match tX a_ ops b ps with
  |some l=>A.h_ (Di l) λ_=>c b h
  |none=>A.fail
def Gh:List (Nat×Nat)->Option (Nat×Nat)
 | []=>none
 |p :: l=>match l with
  | []=>match Nat.ble 1000 p.1 with
   |true=>some (p.1 - 1000,p.2)
   |false=>none
  |_=>none
def IP(x y:Value):Option Unit:=match x with
 | .func (.yield l) a b=>match y with
  | .func (.yield m) c d=>match Nat.beq l m,a.toList,b.toList,c.toList,d.toList with
   |true,[],[],[],[]=>some ()
   |_,_,_,_,_=>none
  |_=>none
 |_=>none
def Uz:SV->Option Value
 | .st (.leaf (.v x))=>some x
 |_=>none
def reK{R a:Type}(A:A_ R a)(X:Cv)(Sg:Td)(ops:To)(k:Nat)(e:TN)(b:Env)(h:a)(f:KN R a):R:=
 match ops[k]? with
 |some o=>match o.dst with
  |some d=>hQ A X Sg ops o e b h λc _=>match Uz (b.tm.getD d .no),Uz (c.tm.getD d .no)with
   |some x,some y=>A.h_ (IP x y) λ_=>f b h
   |_,_=>A.fail
  |none=>A.fail
 |none=>A.fail
def Fe(l:List (Nat×Nat)):Option (List (Nat×Nat)):=match l with
 | []=>none
 |p :: l=>match Nat.ble 5000 p.1 with
  |true=>some l
  |false=>none
def p8:Int->Int->Bool
 | .ofNat a,.ofNat b=>Nat.beq a b
 | .negSucc a,.negSucc b=>Nat.beq a b
 |_,_=>false
def ZB:Ts->Ts->Bool
 |none,none=>true
 |some a,some b=>Nat.beq a b
 |_,_=>false
def IL:Option Addr->Option Addr->Bool
 |none,none=>true
 |some a,some b=>match Nat.beq a.block b.block,Nat.beq a.off b.off with
  |true,true=>ZB a.spot b.spot
  |_,_=>false
 |_,_=>false
def OY(x y:Value):Option Unit:=match x with
 | .pointer a=>match y with
  | .pointer b=>match IL a b with
   |true=>some ()
   |false=>none
  |_=>none
 | .slice a n c=>match y with
  | .slice b m d=>match IL a b,Nat.beq n m,Nat.beq c d with
   |true,true,true=>some ()
   |_,_,_=>none
  |_=>none
 | .map a=>match y with
  | .map b=>match ZB a b with
   |true=>some ()
   |false=>none
  |_=>none
 |_=>IP x y
def Zy(x y:Int):Option Unit:=match p8 x y with
 |true=>some ()
 |false=>none
def p7(x y:Bool):Option Unit:=match x,y with
 |true,true=>some ()
 |false,false=>some ()
 |_,_=>none
def Q9{R c:Type}(A:A_ R c)(x y:SL)(K:R):R:=match x with
 | .i k n=>match y with
  | .i d m=>match cX k d with
   |true=>A.h_ (Zy n m) λ_=>K
   |false=>A.fail
  |_=>A.fail
 | .b t=>match y with
  | .b u=>A.h_ (p7 t u) λ_=>K
  |_=>A.fail
 | .v a=>match y with
  | .v b=>A.h_ (OY a b) λ_=>K
  |_=>A.fail
 | .l _=>A.fail
def Li{R a:Type}(A:A_ R a):List SL->List SL->R->R
 | [],[],K=>K
 |x :: l,y :: m,K=>Q9 A x y (Li A l m K)
 |_,_,_=>A.fail
def samS{R c:Type}(A:A_ R c)(x y:SV)(K:R):R:=match x with
 | .st (.leaf a)=>match y with
  | .st (.leaf b)=>Q9 A a b K
  |_=>A.fail
 | .st (.agg a)=>match y with
  | .st (.agg b)=>Li A a b K
  |_=>A.fail
 |_=>A.fail
def opsM{R a:Type}(A:A_ R a)(X:Cv)(Sg:Td)(ops:To)(l:TA):List (TN)->Env->a->(Env->a->List a->R)->R:=
 List.rec (motive:=λ_=>List (TN)->Env->a->(Env->a->List a->R)->R) (λ_ b h K=>K b h [])
  (λo _ g d b h K=>hQ A X Sg ops o (d.headD []) b h λb h=>g d.tail b h λc e f=>K c e (h :: f)) l
def atM{i6:Type}(h0:i6)(a:List i6)(p:Nat×Nat):i6:=(h0 :: a).getD (match Nat.ble p.1 p.2 with
 |true=>p.2+1
 |false=>p.2) h0
def reM{R a:Type}(A:A_ R a)(X:Cv)(Sg:Td)(ops:To)(f:List (TN))(b:Env)(h0:a)(e:List a)(K:R):List (Nat×Nat)->R
 | []=>K
 |p :: l=>match ops[p.1]? with
  |some o=>match o.dst with
   |some d=>hQ A X Sg ops o (f.getD p.1 []) b (atM h0 e p) λc _=>samS A (b.tm.getD d .no) (c.tm.getD d .no) (reM A X Sg ops f b h0 e K l)
   |none=>A.fail
  |none=>A.fail
def regE{R d:Type}(A:A_ R d)(X:Cv)(Sg:Td)(ops:To)(b:List (TN))(f:List (Nat×Nat))(a:Env)(h:d)(e:KN R d):R:=
 match Fe f with
 |some l=>opsM A X Sg ops ops.toList b a h λc g i=>reM A X Sg ops b c h i (e c g) l
 |none=>match Gh f with
  |none=>MZ A X Sg ops ops.toList b a h (sepK A X.a_ ops f e)
  |some p=>MZ A X Sg ops (ops.toList.take (p.2+1)) b a h λa h=>reK A X Sg ops p.1 (b.getD p.1 []) a h λa h=>
   MZ A X Sg ops (ops.toList.drop (p.2+1)) (b.drop (p.2+1)) a h e
end Sx
abbrev Dr:=List Nat->To->Option (List (Nat×Nat))
section
variable {R HT:Type} (A:A_ R HT)
def uR(e:Exit)(id:Nat):Bool:=match e with
 | .exit i=>Nat.beq i id
 |_=>false
def oK(tm:List SV):List (Nat×SK)->Option (Tn)
 | []=>some []
 |(t,a) :: l=>match tm.getD t .no,oK tm l with
  | .st x,some vs=>match x.is a with
   |true=>some (x.val :: vs)
   |false=>none
  |_,_=>none
def drX(b:Dr)(a:Bool)(a_:TC)(ops:To):Option (List (Nat×Nat)):=match a with
 |true=>b a_ ops
 |false=>some []
def exec(X:Cv)(Sg:Td)(x:Dr)(c:AC):Env->HT->KN R HT->(Exit->KN R HT)->R:=
 AC.rec (motive:=λ_=>Env->HT->KN R HT->(Exit->KN R HT)->R)
  (λd h g _=>g d h)
  (λd h _ i=>i .ret d h)
  (λid d h _ i=>i (.exit id) d h)
  (λ_ d h g _=>g d h)
  (λ_ _ m n d h g i=>m d h (λd h=>n d h g i) i)
  (λ_ r d h g i=>r d h g i)
  (λid q o y j d h g _=>match drX x o X.a_ q with
   |none=>A.fail
   |some B=>vw A X.a_ (.region id q o) j d g λg=>Sx.regE A X Sg q y B d h g)
  (λc a b j m n d h g i=>match jw d c with
   | .st (.leaf (.l true))=>m d h g i
   | .st (.leaf (.l false))=>n d h g i
   | .st (.leaf (.b t))=>vw A X.a_ (.cond c (a.erase λk t=>gh (X.T k) t) (b.erase λk t=>gh (X.T k) t)) j d g λg=>A.cond t (m d h g i) (n d h g i)
   |_=>A.fail)
  (λid b j r d h g i=>vw A X.a_ (b.erase λk t=>gh (X.T k) t) j d g λg=>r d h g λe=>match uR e id with
   |true=>g
   |false=>i e)
  (λb lv r d h _ i=>match pk d lv with
   |none=>A.fail
   |some s=>match lv.rows.all λp=>!(aQ X.a_ (b.erase λk t=>gh (X.T k) t)).contains p.1 with
    |false=>A.fail
    |true=>A.loop (λu s h=>dC A X.a_ (b.erase λk t=>gh (X.T k) t) .nil lv d s λd=>r d h (λd h=>match pk d lv with
     |some s=>u s h
     |none=>A.fail) i) s h)
  (λf k w d h g i=>match f,jw d f,X.a_ with
   | .tmp _,.st (.leaf (.v v)),_ :: _=>match Nat.beq d.tm.length (X.T k).nt,oK d.tm (X.T k).caps with
    |true,some C=>A.Ec k v C h λz h=>A.D4 z (g d h) (i .ret d h) (w.map λid=>(id,i (.exit id) d h))
    |_,_=>A.fail
   |_,_,_=>A.fail) c
def IA(cs:List SL)(K:R):R:=
 List.rec K (λc _ a=>match c with
  | .v x=>A.h_ (GY x) λ_=>a
  |_=>a) cs
def ii(a:Bool)(x:S0)(K:R):R:=
 match a,x with
 |true,.agg b=>IA A b K
 |_,_=>K
def GF(X:Cv)(c:Bool)(j:Env)(h:HT)(l:List ResultVar):TN->TG->(TG->HT->R)->R:=
 List.rec (motive:=λ_=>TN->TG->(TG->HT->R)->R) (λb d K=>match b with
   | []=>K d h
   |_=>A.fail)
  (λm _ i b d K=>match b with
   | []=>A.fail
   |g :: b=>match m with
    | .tmp t=>match j.tm.getD t .no with
     | .st x=>match x.is g with
      |true=>ii A c x (i b (d++x.cells.map SL.lf) K)
      |false=>A.fail
     |_=>A.fail
    | .cell a t=>match x6 X.C.P t with
     |some e=>
      let n:=if e then X.C.P.cellsOf t else 1
      match j.tm.getD a .no with
      | .Gu s k=>match (tR j s).bind (λf=>(DP f k n).bind (Gx e))with
       |some x=>match x.is g with
        |true=>ii A c x (i b (d++x.cells.map SL.lf) K)
        |false=>A.fail
       |none=>A.fail
      | .st (.leaf (.v p))=>match e,g with
       |true,.agg _=>A.ka (.ld n p) h λf=>JB A g f λx r=>A.ts r (ii A c x (i b (d++x.cells.map SL.lf) K))
       |false,.leaf _=>A.ka (.ld n p) h λf=>JB A g f λx r=>A.ts r (ii A c x (i b (d++x.cells.map SL.lf) K))
       |_,_=>A.fail
      |_=>A.fail
     |none=>A.fail) l
structure Fn1 where
 sg:GH
 nt:Nat
 rvs:List ResultVar
 code:AC
def aw(X:Cv)(Sg:Td)(d:Dr)(a:Fn1)(ls:TG)(h:HT)(K:TG->HT->R):R:=
 Ig A a.sg.ps ls λc r=>A.u4 r (
  exec A X Sg d a.code ⟨c.map .st++replicate (a.nt - c.length) .no,replicate a.nt .nil⟩ h
   (λb h=>GF A X (Nat.blt 1 a.rvs.length) b h a.rvs a.sg.rs [] K)
   λe b h=>match e with
    | .ret=>GF A X (Nat.blt 1 a.rvs.length) b h a.rvs a.sg.rs [] K
    |_=>A.fail)
def fW(a:Nat):List (Nat×SK)->List S0->List SV->List SV
 |(t,_) :: l,x :: xs,tm=>fW a l xs (tm.set t (.st x))
 |_,_,tm=>tm
def Fx:AC->Bool
 | .seq a b=>Fx a&&Fx b
 | .scope b=>Fx b
 | .cond _ a b _=>Fx a&&Fx b
 | .block _ b _=>Fx b
 | .loop b _=>Fx b
 | .rangeFunc _ _ _=>false
 |_=>true
def tq(l:List (Nat×SK)):Bool:=l.all λp=>match p.2 with
 | .leaf _=>true
 | .agg _=>false
def uS(X:Cv)(Sg:Td)(a:Dr)(st:Site)(vs:Tn)(l:Nat)(ls:TG)(h:HT)(K:TG->HT->R):R:=
 match tq st.caps&&Fx st.assign&&Fx st.body with
 |false=>A.fail
 |true=>gy A (st.caps.map (·.2)) vs λd r=>A.ts r (Ig A (st.params.map (·.2)) ls λf r=>A.u4 r (
  exec A { X with a_:=[] } Sg a st.assign ⟨fW st.nt st.params f (fW st.nt st.caps d (replicate st.nt .no)),[]⟩ h
   (λc h=>A.Ir l h λh=>exec A { X with a_:=[] } Sg a st.body c h
    (λ_ h=>A.Gw l none h λh=>K [.b true] h)
    λe _ h=>match e with
     | .ret=>A.Gw l (some .ret) h λh=>K [.b false] h
     | .exit id=>A.Gw l (some (.exit id)) h λh=>K [.b false] h
     |_=>A.fail)
   λ_ _ _=>A.fail))
end
inductive An where
 |r (hs:List (TN)) (j:Option Live)
 |c (j:Option Live)
 |b (j:Option Live)
 |l (lv:Live)
 |f (j7:Nat) (ids:TC)
abbrev lv:SK:=.leaf .v
abbrev lb:SK:=.leaf .b
abbrev M:SK:=.leaf (.i .i64)
def qp:Code->List An->AC×List An
 | .skip,l=>(.skip,l)
 | .ret,l=>(.ret,l)
 | .exit id,l=>(.exit id,l)
 | .label n,l=>(.label n,l)
 | .seq a b,l=>
  let x:=qp a l
  let y:=qp b x.2
  (.seq x.1 y.1,y.2)
 | .scope b,l=>
  let x:=qp b l
  (.scope x.1,x.2)
 | .region id g d,.r h j :: l=>(.region id g d h j,l)
 | .cond c a b,.c j :: l=>
  let x:=qp a l
  let y:=qp b x.2
  (.cond c x.1 y.1 j,y.2)
 | .block id b,.b j :: l=>
  let x:=qp b l
  (.block id x.1 j,x.2)
 | .loop b,.l lv :: l=>
  let x:=qp b l
  (.loop x.1 lv,x.2)
 | .rangeFunc f _ _ _,.f i e :: l=>(.rangeFunc f i e,l)
 |_,l=>(.exit 1000000,l)
def IF(P:TI)(f:TQ):Code:=((P.funcs[f]?).bind (·.body)).getD .skip
def ja:Code->List (Array Tmp×Code×Code)
 | .seq a b=>ja a++ja b
 | .scope b=>ja b
 | .cond _ a b=>ja a++ja b
 | .block _ b=>ja b
 | .loop b=>ja b
 | .rangeFunc _ c a b=>[(c,a,b)]
 |_=>[]
def eg(c:Code)(i e:Nat)(caps d:List (Nat×SK))(a b:List An):Site:=
 match (ja c)[i]? with
 |some (_,x,y)=>⟨e,caps,d,(qp x a).1,(qp y b).1⟩
 |none=>⟨0,[],[],.skip,.skip⟩
def fn1(P:TI)(f:TQ)(sg:GH)(b:List An):Fn1:=
 match P.funcs[f]? with
 |some a=>⟨sg,a.ntmps,a.results.toList,(qp (IF P f) b).1⟩
 |none=>⟨sg,0,[],.skip⟩
abbrev A8:SK:=.agg [.i .i64,.i .i64,.i .u8]
abbrev BL:SK:=.agg [.i .u8,.i .i64,.i .i64]
abbrev B_:SK:=.leaf (.i .u8)
abbrev Cj:SK:=.agg [.i .i64,.i .i64]
abbrev Du:SK:=.agg [.i .i64,.i .i64,.v]
abbrev Fj:SK:=.agg [.i .i64,.i .i64,.v,.i .u8,.i .i64,.i .i64,.v]
abbrev Gj:SK:=.agg [.i .i64,.i .u8]
abbrev Gs:SK:=.agg [.i .i64,.b]
abbrev GJ:SK:=.agg [.i .u8,.i .i64]
abbrev IW:SK:=.agg [.i .i64,.i .u8,.i .u8]
abbrev ES:SK:=.agg [.i .i64,.i .i64,.i .i64,.i .i64]
abbrev Va:SK:=.agg [.i .i64,.i .i64,.i .u8,.v]
abbrev IV:SK:=.agg [.i .u8,.i .u8,.v,.v]
abbrev Pa:SK:=.leaf (.i .u64)
abbrev Vb:SK:=.agg [.i .u8,.i .u8,.v]
abbrev o0:SK:=.agg [.i .i64,.b,.i .i64,.b,.i .i64,.b,.i .i64,.b]
abbrev h7:SK:=.agg [.i .i64,.i .i64,.i .u8,.i .i64,.i .i64,.i .i64,.i .u8,.i .i64,.i .i64,.i .u8,.i .i64,.i .i64,.i .u8,.i .i64,.i .i64,.i .i64,.i .i64]
abbrev Z:An:=.r [] none
abbrev E:An:=.c none
abbrev s7:An:=.b none
abbrev I(x:List (TN)):An:=.r x none
open Go.Proofs
def ZO:Tn:=[1,0,0,1,0,-1,1,0,-1,0,0,-1,0,1,-1,0,-1,0,0,1,0,-1,-1,0,1,0,0,-1,0,1,1,0].map (.int .i64)
def hH:Tn:=[.int .i64 0,.int .i64 (-1),.int .u8 2,.int .i64 0,.int .i64 0,.int .i64 (-1),.int .u8 2,.int .i64 0,.int .i64 0,.int .u8 1,.int .i64 0,.int .i64 0,.int .u8 3,.int .i64 0,.int .i64 0,.int .i64 2,.int .i64 0,.int .i64 1,.int .i64 0,.int .u8 1,.int .i64 1,.int .i64 1,.int .i64 0,.int .u8 3,.int .i64 0,.int .i64 0,.int .u8 0,.int .i64 0,.int .i64 0,.int .u8 2,.int .i64 2,.int .i64 2,.int .i64 2,.int .i64 0,.int .i64 0,.int .i64 1,.int .u8 2,.int .i64 1,.int .i64 0,.int .i64 1,.int .u8 0,.int .i64 0,.int .i64 0,.int .u8 3,.int .i64 0,.int .i64 0,.int .u8 1,.int .i64 2,.int .i64 2,.int .i64 0,.int .i64 2,.int .i64 (-1),.int .i64 0,.int .u8 1,.int .i64 0,.int .i64 (-1),.int .i64 0,.int .u8 1,.int .i64 0,.int .i64 0,.int .u8 2,.int .i64 0,.int .i64 0,.int .u8 0,.int .i64 0,.int .i64 0,.int .i64 0,.int .i64 2]
def QM:List (TC):=[[],[],[0],[0,3,0,5,27,12,99,12],[0,3,0,5,27,12,26,5,29,5,44,5,23,5,29,12],[24,5,24,9,0,11,32,9,9,25,9],[23,4,5,0,7,25,12,24,5,23,5,23,5,24,5,0,5,25,5,5,24,5],[0,3,0,5,6,25,3,23,3,23,3,3,23,3,26,5,0,5,28,6,0,6,0,6,26,6,0,5,25,6,0,5,32,5,0,5],[0,3,4,5,6,23,3,0,5,23,5,23,5,5,5,24,5,23,5,25,3,26,6,27,3,32,6],[23,4,28,12,50,4],[27,8,68,8,26,8,29,8,30,8],[24,5,6],[2],[24,5,6],[23,4,5],[23,4,5,25,10,11,0,4,0,5,25,4,4,0,5,5,24,4,4,23,5,5,26,4,23,5,28,4,4,26,4,4,25,5,5,29,4,26,4,25,5,25,10,0,11,24,10,23,11,28,10,26,10,25,11],[0,3,24,7,8,23,3,26,3,23,3,28,3,0,7,0,7,35,3,26,3,27,3],[],[0,3,4,5,23,3,25,3,27,3,37,3,32,3,27,3],[],[23,4,5,0,4,0,5,24,4,0,5],[],[],[23,4,5,31,16,4,4,23,4,4,52,4,39,4,24,4],[23,4,5,6],[23,4,0,6,23,4,25,4],[0],[0],[23,4,5,33,5,32,5],[23,4,5,28,13,24,17,0,19,39,4,4,0,4,4],[0],[0],[0,3,0,3,24,3,25,3,25,3,25,3,0,3],[0],[0,3,0,3],[0],[24,5,23,8],[0,3,4,3,0,3],[23,4,5,0,4,0,5,23,4,0,5,23,4,23,5],[],[23,4,0,6],[23,4,5,33,5,25,5,0,4,25,5,25,5,0,4,24,5,0,4,23,5,24,5],[],[],[25,6,7,35,7,0,7,7,29,7],[0,3,25,8,45,8,29,8,29,8],[23,4,5,6,7,8,24,12,31,5,23,4,4,23,4,4,24,4,24,4,26,4,25,5,0,12,23,5,24,12,23,12,26,12,29,12,27,12,26,4,24,8,23,12,54,5,65,8,0,4,0,4,38,5,33,5,23,8,8,27,4,4,37,8,8,8,8,23,8,8],[],[0,3,24,7,24,3,3,23,3,3,25,3,26,3,29,3,0,7,27,3,0,7,24,7,26,7,25,7,27,3,25,7,28,7],[23,4,0,6,23,4,24,4,0,4,26,4,23,4,25,4,0,4,24,4,23,4,25,4,0,4,0,4,25,4,0,4,0,4],[],[],[],[],[],[],[],[],[23,4,5,0,4,0,5,23,4,0,5,23,4,23,5],[],[0],[24,5,24,9,26,9,24,9,25,9,0,5,25,9,0,5,24,9,0,5,23,9,24,9],[23,4,5,6,7,8,9,0,11,41,7,23,7],[23,4,5,6,4,0,5,23,4,0,5,25,4,0,5,23,4,0,5,25,4,0,5,25,4,0,5,25,4,0,4,24,4,0,4,25,4,0,4,23,4,0,4],[0,3,4,5,23,3,23,3,24,3,0,5,24,3,0,5,24,5,31,5,25,5,26,5],[23,4,5,6,24,5,0,5,0,4,26,4,31,4,25,4],[0,3,4,5,23,5,5,0,5,5,23,5,5,24,5,5,0,5,5,23,5,5],[23,4,5,0,4,0,5,24,4,0,5,24,4,0,5,24,4,0,5,24,4,0,5],[23,4,5],[0],[32,13,23,16,0,18,0,20],[26,7,0,9,24,13,24,17,0,19,44,7,0,9,24,7,0,9,42,7,0,13,25,7,0,13,55,17,0,19,24,17,0,19,24,17,0,19,24,17,0,19],[0],[0],[23,4,5,6,0,8,25,5,24,5,43,6],[0],[0],[0],[24,5,25,10,0,12],[23,4,27,4,23,4],[23,4,0,6,23,4,25,4],[0,3,0,3,24,3,25,3,25,3,25,3],[],[0],[0,3,29,12,13,0,3,0,3,25,3,33,3,3,42,3,3,29,3,3],[0,3,4,3,24,3,26,3,26,3,0,3,23,3,23,3],[23,4,5,0,7,24,7,0,7,0,7,0,7,23,7,0,7,24,4,25,4],[24,5],[0],[],[24,5],[],[0],[25,6,28,6,0,6],[0],[],[],[],[0],[0],[0,3,4,23,7,3,23,3,28,3],[23,4,5,29,14,15,49,4],[0],[23,4,5],[23,4,0,6,0,8,29,4,23,1,1,1,0,8,0,4,23,8,0,4,23,8,8],[23,4,5,6,0,8],[24,5,25,10,40,5],[31,12,31,12,23,12],[0,3,26,3],[25,6,7,31,6,0,7,0,6,0,7,26,6,0,7,29,6,0,7,57,6,0,7,0,6,0,7,34,7,0,6,0,6,0,7],[27,8],[0],[0],[0],[0],[25,6,27,6,26,6,29,6,30,6,29,6],[25,6,23,9],[],[],[0],[0],[],[0],[],[0],[],[0],[23,4,5,6,7,24,7,24,7,26,7,26,7,23,7],[0],[0,3,0,3,25,3,25,3,25,3,0,3],[34,15],[23,4,5,6,34,5,0,1,0,4,0,4,25,4,0,1,0,5,0,1,25,5,24,5],[0],[0],[0],[0],[0],[0],[0],[0],[23,4,5,6,7,8,9,0,11,23,5,0,1,1,28,4,4,27,7,0,7,25,7,0,7,31,11,26,9],[24,5,23,8,25,13,31,5,32,5],[24,5,6,7,25,5,25,5,27,5,24,7,0,5,0,7],[24,5,25,5,26,5,29,5],[],[],[],[],[],[0],[0,3,24,7,3,24,3,28,7,0,7],[0,3,25,3,23,3],[28,9,10,0,12,0,14,0,16],[23,4,5,6,0,8,33,5],[0,3,4,26,3,24,3,26,3,26,3,0,3,23,3,23,3],[24,5,25,5,24,5,25,5,24,5],[0,3,4],[0,3,23,6],[23,4,5,6,27,4,0,4,27,4,0,4],[],[0],[0],[0,3,4,3,24,3],[23,4,5,6,24,10,31,4,0,1,0,5,0,5,26,4,25,4],[24,5],[],[23,4,5,6,23,9,30,5,0,5,34,5],[23,4,0,6,0,8,9,29,4,0,1,0,8,0,4,0,8,27,4,0,4,28,4,0,4,25,8,23,4,0,8,23,9],[0,3,0,3,24,3,25,3,25,3],[],[0,3,0,3,24,3,25,3,25,3],[25,6],[23,4,5]].map (·.flatMap λx=>if x<21 then[x]else replicate (x-21) 0)
def cc:ke where
 P:=Tryz.prog
 G:=λg=>match g with
  |2=>some ZO
  |1=>some hH
  |_=>none
 a_:=λf=>QM.getD f []
def ac:TQ->Option GH
 |2=>some ⟨[],[]⟩
 |3=>some ⟨[IV],[lb]⟩
 |4=>some ⟨[IV],[lb]⟩
 |5=>some ⟨[IV,B_,M],[lb]⟩
 |6=>some ⟨[IV,BL],[lb]⟩
 |7=>some ⟨[Vb],[lb]⟩
 |8=>some ⟨[IV],[Du]⟩
 |9=>some ⟨[Du,M],[lv,M]⟩
 |10=>some ⟨[],[lb]⟩
 |11=>some ⟨[Du,BL,M],[lv,M]⟩
 |12=>some ⟨[],[BL]⟩
 |13=>some ⟨[Du,BL,M],[M,M]⟩
 |14=>some ⟨[Du,BL],[Fj,M]⟩
 |15=>some ⟨[Fj,Fj],[M]⟩
 |16=>some ⟨[Du],[M]⟩
 |18=>some ⟨[Vb],[Fj]⟩
 |20=>some ⟨[Du,Du],[lb]⟩
 |23=>some ⟨[Du,BL],[lv,M]⟩
 |24=>some ⟨[BL,A8],[A8]⟩
 |25=>some ⟨[Cj,M],[A8]⟩
 |26=>some ⟨[lv],[lv]⟩
 |27=>some ⟨[lv,M],[lv]⟩
 |28=>some ⟨[lv],[Du]⟩
 |29=>some ⟨[Du,BL],[lv,M]⟩
 |30=>some ⟨[lv],[lv]⟩
 |31=>some ⟨[lv],[lv]⟩
 |32=>some ⟨[Cj],[M]⟩
 |33=>some ⟨[lv,lv],[lb]⟩
 |34=>some ⟨[IW],[lb]⟩
 |35=>some ⟨[B_],[lb]⟩
 |36=>some ⟨[Cj,M,B_],[Gj,M]⟩
 |37=>some ⟨[IW],[Gj]⟩
 |38=>some ⟨[Gj,Gj],[M]⟩
 |40=>some ⟨[Cj,M],[A8,M]⟩
 |41=>some ⟨[Cj,A8],[M,M]⟩
 |44=>some ⟨[M,M],[Fj]⟩
 |45=>some ⟨[Fj],[lv]⟩
 |46=>some ⟨[Fj,.agg [.i .u8,.i .i64,.i .u8,.b]],[Fj]⟩
 |48=>some ⟨[Du],[lv]⟩
 |49=>some ⟨[A8,M],[A8]⟩
 |58=>some ⟨[A8,A8],[M]⟩
 |60=>some ⟨[lv,lv],[lb]⟩
 |61=>some ⟨[Cj,M,M],[M]⟩
 |62=>some ⟨[BL,BL],[BL]⟩
 |63=>some ⟨[A8,A8],[BL]⟩
 |64=>some ⟨[Cj],[A8]⟩
 |65=>some ⟨[BL,Cj],[Cj]⟩
 |66=>some ⟨[A8],[Cj]⟩
 |67=>some ⟨[A8,A8],[M]⟩
 |68=>some ⟨[Du,BL],[lv,M]⟩
 |69=>some ⟨[lv,lv],[]⟩
 |70=>some ⟨[lv,lv],[lv,M]⟩
 |71=>some ⟨[lv,lv],[]⟩
 |72=>some ⟨[lv,lv],[]⟩
 |73=>some ⟨[M,lv,lv,lv],[lb]⟩
 |74=>some ⟨[lv],[Fj]⟩
 |75=>some ⟨[lv,M,M,lv],[lb]⟩
 |76=>some ⟨[lv,M,lv],[]⟩
 |77=>some ⟨[lv,lv],[M]⟩
 |78=>some ⟨[Cj,M,B_],[M,M]⟩
 |79=>some ⟨[Cj,M],[lb]⟩
 |80=>some ⟨[Cj,M],[A8]⟩
 |81=>some ⟨[A8],[M]⟩
 |83=>some ⟨[Pa],[M]⟩
 |84=>some ⟨[Fj],[lv]⟩
 |85=>some ⟨[GJ],[BL]⟩
 |86=>some ⟨[GJ,A8],[B_]⟩
 |87=>some ⟨[Cj,M,M],[B_]⟩
 |88=>some ⟨[lv],[lv]⟩
 |90=>some ⟨[Cj,M,M],[M]⟩
 |92=>some ⟨[lv,M],[M]⟩
 |93=>some ⟨[lv],[M]⟩
 |94=>some ⟨[M,M],[M]⟩
 |98=>some ⟨[M,M],[M]⟩
 |99=>some ⟨[M,M],[M]⟩
 |100=>some ⟨[A8],[.agg [.i .i64,.i .i64,.i .i64,.i .i64,.i .i64,.i .i64]]⟩
 |101=>some ⟨[Du,BL],[lv,lv,M]⟩
 |102=>some ⟨[lv,M,M,M,lv],[]⟩
 |103=>some ⟨[Du,BL],[lv,M]⟩
 |104=>some ⟨[A8,B_],[A8,M]⟩
 |105=>some ⟨[BL,A8],[A8,M]⟩
 |106=>some ⟨[Du,M,B_],[B_,M]⟩
 |107=>some ⟨[lv,B_,M,M,lb],[]⟩
 |108=>some ⟨[BL],[lb]⟩
 |109=>some ⟨[lv,Gs,Gs],[]⟩
 |110=>some ⟨[lv,M,M],[Gs]⟩
 |111=>some ⟨[lv],[lv]⟩
 |112=>some ⟨[lv],[lv]⟩
 |113=>some ⟨[lv],[lv]⟩
 |114=>some ⟨[lv],[lv]⟩
 |115=>some ⟨[lv,Gs,lv],[lb]⟩
 |116=>some ⟨[lv],[lb]⟩
 |119=>some ⟨[lv,M,M,lv],[]⟩
 |120=>some ⟨[lv,M,M,lv],[M,M]⟩
 |122=>some ⟨[lv,M,M,lv],[lb]⟩
 |124=>some ⟨[lv,M,M,M,lv],[M,lb]⟩
 |126=>some ⟨[Pa],[M]⟩
 |127=>some ⟨[A8,A8],[GJ]⟩
 |128=>some ⟨[M],[lb]⟩
 |129=>some ⟨[BL],[M]⟩
 |130=>some ⟨[Du],[lv,M]⟩
 |131=>some ⟨[BL,BL],[BL,M]⟩
 |132=>some ⟨[lv,M,M,lv],[]⟩
 |133=>some ⟨[lv,M,M,lv],[]⟩
 |134=>some ⟨[lv,M,M,lv],[]⟩
 |135=>some ⟨[lv,M,M,lv],[M,M]⟩
 |136=>some ⟨[lv,M,M,lv],[]⟩
 |137=>some ⟨[lv,M,M,lv],[lb]⟩
 |138=>some ⟨[lv,M,M,M,lv],[M]⟩
 |139=>some ⟨[lv,M,M,M,lv],[M,lb]⟩
 |140=>some ⟨[BL,A8],[A8]⟩
 |141=>some ⟨[Du,M,B_],[Gj,M,lb,M]⟩
 |142=>some ⟨[lv,Gs],[Gs]⟩
 |143=>some ⟨[lv,Gs],[M]⟩
 |149=>some ⟨[M],[lb]⟩
 |150=>some ⟨[Du],[lv]⟩
 |151=>some ⟨[Cj],[M]⟩
 |152=>some ⟨[M,B_,lv,lv,lv],[BL]⟩
 |153=>some ⟨[Cj,Gj],[GJ,M]⟩
 |154=>some ⟨[GJ],[BL,M]⟩
 |155=>some ⟨[ES,M,M],[M,M]⟩
 |156=>some ⟨[BL],[BL,M]⟩
 |157=>some ⟨[ES],[B_]⟩
 |158=>some ⟨[ES,ES],[ES]⟩
 |160=>some ⟨[lv,M,lv,lv],[M]⟩
 |161=>some ⟨[lv,M,M,M,lv,lv],[M]⟩
 |162=>some ⟨[A8],[Cj]⟩
 |163=>some ⟨[BL,Cj],[Cj,M]⟩
 |164=>some ⟨[lv,Gj],[M,lb]⟩
 |166=>some ⟨[Cj,Gj],[A8,M]⟩
 |167=>some ⟨[A8,B_],[GJ,M]⟩
 |168=>some ⟨[GJ],[M]⟩
 |170=>some ⟨[Cj],[M]⟩
 |171=>some ⟨[lv,Gj,lv],[M,lb]⟩
 |172=>some ⟨[IW,Gj],[M]⟩
 |_=>none
def an3:List An:=[Z,I [[IV]],I [[Du]],Z,E,Z,I [[Du]],I [[Du]],I [[Du]],Z,E,Z,Z,s7,.l ⟨[(12,M)],[]⟩,Z,E,s7,I [[],[],[],[Fj],[],[],[],[Fj]],E,Z,Z,Z,E,.r [[],[],[],[],[lv]] (some ⟨[(2,lb)],[]⟩),.r [[],[],[],[Fj],[],[],[Fj]] (some ⟨[(2,lb)],[]⟩)]
def an4:List An:=[Z,I [[IV]],I [[],[lv]],Z,s7,.l ⟨[(5,M)],[]⟩,Z,E,s7,I [[],[lv]],Z,I [[Du]],Z,E,Z,Z,Z,.b (some ⟨[(8,M)],[]⟩),.l ⟨[(8,M),(9,M)],[]⟩,Z,E,s7,I [[],[Cj],[],[],[lv]],Z,s7,.l ⟨[(11,M)],[]⟩,Z,E,s7,I [[],[lv]],Z,I [[Du]],Z,E,Z,Z,Z,Z,E,.r [] (some ⟨[(2,lb)],[]⟩),.r [] (some ⟨[(2,lb)],[]⟩)]
def an8:List An:=[Z,I [[],[Vb]],I [[],[B_],[],[],[B_]],I [[],[lv]],.c (some ⟨[],[(3,[.i .u8,.i .u8,.v])]⟩),I [[],[lv]],I [[Vb]],Z,.b (some ⟨[],[]⟩),.l ⟨[(5,M)],[]⟩,I [[],[],[lv],[],[],[],[],[],[lv]],E,s7,I [[],[lv],[],[],[B_]],Z,.c (some ⟨[],[]⟩),I [[],[lv]],Z,I [[Du]]]
def an10:List An:=[Z,Z,Z,Z,s7,.l ⟨[(3,M)],[]⟩,Z,E,s7,I [[],[],[],[lv]],I [[],[],[],[],[M]],E,Z,Z,I [[],[],[lv]],.r [[],[],[],[],[lv],[],[],[],[],[],[lv],[],[],[lv],[],[],[],[],[],[lv],[],[],[lv],[],[M],[],[],[],[],[lv],[],[],[lv],[],[M]] (some ⟨[(0,lb)],[]⟩)]
def an11:List An:=[Z,I [[Du],[BL]],Z,E,Z,I [[M],[],[],[M]],E,Z,Z,Z,.b (some ⟨[],[]⟩),.f 176 [0],I [[lv]]]
def an12:List An:=[Z,Z]
def an13:List An:=[Z,I [[Du],[BL]],Z]
def an14:List An:=[Z,I [[Du],[BL]],Z,E,Z,Z,s7,.f 224 [],Z]
def an16:List An:=[Z,I [[],[Cj]],Z,E,Z,I [[],[lv]],E,Z,I [[],[lv]],s7,.l ⟨[(21,M)],[]⟩,Z,E,s7,I [[],[IW]],I [[],[Cj],[],[M],[],[B_]],I [[],[],[],[Gj],[IW]],E,Z,Z,Z,s7,.l ⟨[(8,M)],[]⟩,I [[],[],[lv]],E,s7,I [[],[lv],[],[],[],[IW],[],[],[lv],[],[],[IW]],E,Z,Z,Z]
def an18:List An:=[Z,I [[],[B_],[],[],[],[],[B_]],Z,.b (some ⟨[],[(3,[.i .i64,.i .i64,.v,.i .u8,.i .i64,.i .i64,.v])]⟩),.l ⟨[(4,M)],[(3,[.i .i64,.i .i64,.v,.i .u8,.i .i64,.i .i64,.v])]⟩,I [[],[],[lv]],E,s7,I [[Fj]],Z,E,I [[Fj],[],[],[lv],[],[],[],[B_],[],[],[],[],[],[GJ],[],[lv],[],[],[],[B_],[],[],[lv],[],[],[],[B_]],Z,I [[Fj]]]
def an23:List An:=[Z,I [[],[],[M],[],[],[],[M]],Z,Z,Z,E,Z,I [[],[],[BL]],I [[Du]],Z,s7,.l ⟨[(10,lb)],[]⟩,Z,E,s7,Z,Z,s7,.l ⟨[(10,lb),(11,M)],[]⟩,Z,E,s7,Z,.b (some ⟨[(10,lb)],[]⟩),.l ⟨[(10,lb),(12,M)],[]⟩,I [[],[],[],[],[],[],[lb]],E,.b (some ⟨[(10,lb)],[]⟩),I [[],[Cj]],Z,E,I [[],[],[],[BL]],I [[],[],[],[],[],[],[B_]],.c (some ⟨[],[(14,[.i .u8,.i .i64,.i .i64])]⟩),I [[],[Cj],[],[],[],[Cj],[],[],[],[],[],[],[BL]],I [[],[],[],[lb],[],[],[],[],[BL],[BL]],.c (some ⟨[],[]⟩),Z,I [[],[],[],[lb]],.c (some ⟨[(10,lb)],[]⟩),I [[],[],[],[],[BL]],Z,Z,Z,Z]
def an24:List An:=[Z,I [[BL],[A8]]]
def an25:List An:=[Z,I [[],[],[],[M],[],[],[],[],[M]]]
def an26:List An:=[Z,Z,Z,s7,.l ⟨[(4,M)],[]⟩,Z,E,s7,Z,.b (some ⟨[],[]⟩),.l ⟨[(5,M)],[]⟩,I [[],[],[],[],[],[],[],[],[A8],[],[],[],[],[A8]],E,s7,I [[],[],[],[],[],[],[],[],[Va],[],[],[],[],[Va]],Z,Z,Z]
def an28:List An:=[Z,Z,Z,s7,.l ⟨[(4,M)],[(3,[.i .i64,.i .i64,.v])]⟩,Z,E,s7,I [[],[lv],[],[],[],[],[],[],[B_]],Z,I [[Du]]]
def an29:List An:=[Z,I [[Du],[BL]],Z,E,Z,I [[],[],[M],[],[],[M]],E,Z,I [[Du],[BL]],Z,Z,s7,.l ⟨[(55,M)],[]⟩,Z,E,s7,I [[],[A8]],I [[],[A8],[M,lb]],Z,.c (some ⟨[],[]⟩),I [[],[A8]],I [[],[],[],[],[lv],[A8]],Z,I [[],[],[],[lv]],I [[],[],[],[lv]],s7,.l ⟨[(90,M)],[]⟩,Z,E,s7,I [[],[],[A8]],I [[],[A8]],Z,I [[],[],[],[],[],[lv],[],[],[],[],[],[lv]],Z,s7,.l ⟨[(119,M)],[]⟩,Z,E,s7,I [[],[],[A8]],I [[],[],[],[lv],[],[A8],[M],[],[],[],[lv],[],[A8],[M],[],[lv]],Z,I [[],[],[],[lv]],s7,.l ⟨[(150,M)],[]⟩,Z,E,s7,I [[],[lv]],Z,s7,.l ⟨[(156,M)],[]⟩,Z,E,s7,I [[],[],[M]],Z,s7,.l ⟨[(165,M)],[]⟩,Z,E,s7,I [[],[M]],I [[],[],[],[lv],[],[],[],[],[],[],[lv]],I [[],[],[],[],[lv],[],[],[],[lv]],Z,Z,Z,I [[],[],[],[],[lv]],Z,Z,s7,.l ⟨[(216,M)],[]⟩,Z,E,s7,I [[],[lv]],Z,Z,Z]
def an30:List An:=[Z,Z]
def an31:List An:=[Z,Z]
def an32:List An:=[Z,I [[],[M],[],[],[],[M],[],[],[],[],[M],[],[],[],[],[M],[],[],[],[],[M],[],[M]],E,Z,Z]
def an33:List An:=[Z,Z]
def an34:List An:=[Z,I [[],[B_]]]
def an35:List An:=[Z,.r [] (some ⟨[(2,lb)],[]⟩)]
def an36:List An:=[Z,I [[Cj]],Z,E,Z,Z]
def an37:List An:=[Z,I [[],[M],[],[B_]]]
def an38:List An:=[Z,I [[],[M],[],[M]],E,I [[],[M],[],[M]],I [[],[B_],[],[],[B_]]]
def an40:List An:=[Z,I [[Cj]],Z,E,Z,I [[Cj]],E,Z,I [[Cj]]]
def an41:List An:=[Z,I [[Cj]],Z,E,Z,I [[A8],[],[],[],[],[M],[],[],[],[],[M],[],[M],[],[],[],[],[M],[],[],[],[],[M],[],[M]],E,Z,I [[],[M],[],[M],[],[],[M],[],[],[],[B_]]]
def an44:List An:=[Z,Z,Z,s7,.l ⟨[(6,M)],[(5,[.i .i64,.i .i64,.v,.i .u8,.i .i64,.i .i64,.v])]⟩,Z,E,s7,I [[],[lv],[],[],[Cj]],Z,I [[Fj]]]
def an45:List An:=[Z,I [[Fj]],Z,Z,s7,.l ⟨[(4,lv),(5,M)],[]⟩,Z,E,s7,I [[],[],[],[],[GJ]],Z,.b (some ⟨[(7,M)],[]⟩),.l ⟨[(7,M)],[]⟩,I [[],[],[],[],[],[],[],[],[],[B_],[],[B_],[],[],[],[],[],[],[B_],[],[B_],[],[],[],[],[],[],[M],[],[M]],.c (some ⟨[],[]⟩),s7,Z,I [[],[],[],[],[],[],[],[],[GJ],[GJ]],.c (some ⟨[(4,lv)],[]⟩),I [[],[],[],[],[],[GJ]],Z,Z]
def an46:List An:=[Z,I [[],[GJ]],I [[],[],[Cj],[],[],[],[lv],[],[],[],[BL]],Z,Z,s7,.l ⟨[(8,lv),(7,lv),(9,M)],[(6,[.i .i64,.i .i64,.v,.i .u8,.i .i64,.i .i64,.v])]⟩,I [[],[],[lv]],E,.b (some ⟨[(8,lv),(7,lv)],[(6,[.i .i64,.i .i64,.v,.i .u8,.i .i64,.i .i64,.v])]⟩),I [[],[lv],[],[],[Va]],I [[],[GJ],[],[A8],[],[],[B_]],E,I [[],[],[A8],[],[],[lv]],Z,I [[],[lv]],s7,.l ⟨[(11,lv),(12,M)],[(6,[.i .i64,.i .i64,.v,.i .u8,.i .i64,.i .i64,.v])]⟩,Z,E,s7,I [[],[],[lv],[],[],[M]],I [[],[lv],[],[],[M]],.c (some ⟨[],[(6,[.i .i64,.i .i64,.v,.i .u8,.i .i64,.i .i64,.v])]⟩),I [[],[BL],[BL]],Z,I [[],[BL],[],[A8]],Z,Z,s7,.l ⟨[(8,lv),(13,M)],[]⟩,Z,E,s7,Z,Z,.b (some ⟨[(14,lb)],[]⟩),.l ⟨[(14,lb),(15,M)],[]⟩,Z,E,.b (some ⟨[(14,lb)],[]⟩),I [[],[],[],[],[A8],[],[],[],[],[A8]],E,Z,I [[],[lb]],.c (some ⟨[],[]⟩),I [[],[],[],[],[],[],[lv],[],[],[],[],[lv]],I [[],[],[],[],[],[],[],[lv],[],[],[],[],[],[lv]],Z,Z,.c (some ⟨[(8,lv)],[]⟩),I [[],[],[],[],[Va]],Z,Z,I [[],[Du],[],[BL]],I [[Fj]],Z,s7,.l ⟨[(19,M)],[(6,[.i .i64,.i .i64,.v,.i .u8,.i .i64,.i .i64,.v])]⟩,Z,E,.b (some ⟨[],[(6,[.i .i64,.i .i64,.v,.i .u8,.i .i64,.i .i64,.v])]⟩),I [[],[],[],[],[GJ],[],[GJ]],E,Z,I [[],[],[],[],[],[M],[],[],[B_],[],[],[lb]],.c (some ⟨[(20,B_)],[]⟩),Z,I [[],[],[lv],[],[],[],[],[M],[],[],[Cj],[],[],[],[],[M],[],[],[],[],[M]],Z,I [[],[],[lv]],I [[Fj]]]
def an48:List An:=[Z,I [[],[],[M],[],[],[],[M]],Z,s7,.l ⟨[(4,M)],[]⟩,I [[],[],[lv]],E,s7,I [[],[lv],[],[],[IW]],Z,s7,.l ⟨[(6,M)],[]⟩,Z,E,.b (some ⟨[],[]⟩),I [[],[Cj],[],[M]],I [[],[],[],[],[Cj],[],[M],[],[],[],[B_]],E,I [[],[],[M],[],[],[],[],[B_]],Z,s7,.l ⟨[(8,M)],[]⟩,Z,E,s7,I [[],[Cj],[],[],[],[],[M]],.c (some ⟨[],[]⟩),I [[],[],[],[],[],[],[B_]],Z,Z,Z,Z]
def an49:List An:=[Z,Z,E,I [[],[B_]],s7,Z,E,I [[],[M],[],[M]],Z,E,I [[],[M],[],[],[M]],Z,E,I [[],[M],[],[M]],I [[],[M],[],[],[M]],Z,E,I [[],[M],[],[M],[],[B_]],I [[],[M],[],[M],[],[B_]]]
def an58:List An:=[Z,I [[],[M],[],[M],[],[],[M],[],[M],[],[],[B_],[],[],[B_]]]
def an61:List An:=[Z,I [[Cj]],I [[],[M],[],[],[],[M],[],[],[],[],[M],[],[M],[],[],[],[],[M],[],[M]],E,Z,I [[],[M],[],[M],[],[],[M],[],[],[],[B_]]]
def an62:List An:=[Z,I [[BL],[BL]],I [[BL],[BL]],I [[BL],[BL]],Z,s7,.l ⟨[(8,B_)],[]⟩,Z,E,s7,I [[],[],[M],[],[],[M]],I [[BL],[],[],[Cj],[],[],[BL],[],[],[Cj]],.c (some ⟨[],[]⟩),I [[BL]],Z,Z]
def an63:List An:=[Z,I [[],[M],[],[M]],E,I [[],[M],[],[M]],I [[],[M],[],[M]],E,I [[],[M],[],[M]],I [[],[B_],[],[B_],[],[],[],[],[B_],[],[B_]],E,I [[],[M],[],[M],[],[],[],[M],[],[M]],I [[],[M],[],[M],[],[],[M],[],[M]]]
def an64:List An:=[Z,I [[],[M],[],[],[M]],I [[],[M],[],[M],[],[],[],[M],[],[M]],s7,Z,.c (some ⟨[],[(3,[.i .i64,.i .i64,.i .u8])]⟩),Z,Z,.c (some ⟨[],[(3,[.i .i64,.i .i64,.i .u8])]⟩),Z,Z,.c (some ⟨[],[(3,[.i .i64,.i .i64,.i .u8])]⟩),Z,Z,I [[A8]]]
def an65:List An:=[Z,I [[],[M],[],[M]],I [[],[B_]],.c (some ⟨[(5,M)],[]⟩),Z,Z,s7,.l ⟨[(5,M),(6,M),(7,M)],[]⟩,I [[],[],[B_]],E,s7,Z,Z,I [[],[],[M],[],[],[],[],[M]]]
def an66:List An:=[Z,I [[A8]],I [[],[],[M],[],[],[M],[],[],[],[M],[],[],[],[],[M],[],[],[M],[],[],[],[M]]]
def an67:List An:=[Z,I [[],[M],[],[M],[],[],[],[M],[],[M],[],[],[],[M],[],[M],[],[],[],[M],[],[M],[],[],[],[B_],[],[B_]],.c (some ⟨[],[]⟩),Z,Z]
def an68:List An:=[Z,I [[Du],[BL]],Z]
def an69:List An:=[Z,Z]
def an70:List An:=[Z,Z,Z,I [[],[],[],[Du],[],[],[],[BL]],Z,s7,.l ⟨[(7,lv),(39,M)],[]⟩,Z,E,s7,Z,I [[],[],[],[],[Cj]],Z,s7,.l ⟨[(7,lv),(52,B_)],[]⟩,Z,E,.b (some ⟨[(7,lv)],[]⟩),Z,I [[A8]],I [[],[],[],[A8]],I [[],[],[],[BL],[A8]],Z,E,Z,I [[A8],[A8]],.c (some ⟨[(17,M)],[(16,[.i .i64,.i .i64,.i .u8]),(18,[.i .i64,.i .i64,.i .u8])]⟩),I [[A8],[A8]],I [[],[A8],[A8],[],[lv]],Z,.c (some ⟨[(20,lv),(7,lv)],[]⟩),Z,I [[],[A8],[A8]],Z,I [[],[],[],[],[Cj]],Z,E,I [[],[],[],[Du]],s7,Z,.c (some ⟨[],[]⟩),I [[],[],[],[],[lv]],Z,.c (some ⟨[],[]⟩),I [[],[],[],[],[lv]],I [[],[],[],[],[],[],[],[lv]],I [[],[],[],[],[],[],[],[BL]],Z,Z,Z]
def an71:List An:=[I [[],[],[],[lv]],s7,.l ⟨[(23,M)],[]⟩,Z,E,s7,I [[],[],[Cj]],I [[],[],[],[lv]],s7,.l ⟨[(35,M)],[]⟩,Z,E,s7,I [[],[Cj]],I [[],[],[],[M],[],[M],[],[],[],[M],[],[M]],Z,I [[],[],[],[.agg [.v,.v]]],s7,.l ⟨[(58,M)],[]⟩,Z,E,s7,I [[],[lv]],Z,s7,.l ⟨[(64,M)],[]⟩,Z,E,s7,I [[],[Cj]],I [[],[],[],[],[M],[],[M],[],[],[],[],[M],[],[M]],Z,Z,Z,I [[],[],[],[.agg [.v,.v]]],s7,.l ⟨[(91,M)],[]⟩,Z,E,s7,I [[lv]],Z,s7,.l ⟨[(96,M)],[]⟩,Z,E,s7,I [[],[],[Cj]],Z,s7,.l ⟨[(105,M)],[]⟩,Z,E,s7,I [[],[Cj]],I [[],[],[],[],[lv],[],[],[M],[],[M],[],[],[],[M],[],[M],[],[],[],[M],[],[M],[],[],[],[M],[],[M]],Z,Z,Z]
def an72:List An:=[Z,Z,Z,I [[lv],[],[],[lb]],.c (some ⟨[],[]⟩),I [[lv],[lb]]]
def an73:List An:=[Z,I [[],[lv],[],[],[lv]],E,I [[lv],[lv],[],[lb]],I [[lv],[],[],[lv],[],[],[lv],[],[lv],[],[],[lv],[],[],[lv]],E,I [[lv],[],[],[lb]],I [[lv],[],[],[lv],[],[],[lv]],s7,.l ⟨[(50,M)],[]⟩,Z,E,.b (some ⟨[],[]⟩),I [[],[M]],I [[lv],[],[],[lv],[],[],[lb]],E,Z,.r [[lv],[],[],[],[],[],[lv],[],[lb]] (some ⟨[(9,lb)],[]⟩),I [[lv],[],[lv]],Z,E,Z,Z,Z]
def an74:List An:=[Z,I [[],[],[],[Du]],I [[],[lv]],I [[Du],[],[],[],[BL],[],[],[],[lv]],I [[],[],[],[lv]],s7,.l ⟨[(33,M)],[]⟩,Z,E,s7,I [[],[],[A8]],I [[],[lv],[],[A8],[],[],[],[lv],[],[],[lv]],Z,I [[Fj]]]
def an75:List An:=[Z,I [[],[],[],[lv]],I [[],[],[],[lv],[],[],[],[],[lv],[],[],[lv]],I [[],[],[],[lv],[],[],[lv]],s7,.l ⟨[(41,M)],[]⟩,Z,E,s7,I [[],[M]],I [[],[],[],[lv],[],[],[lb]],.c (some ⟨[],[]⟩),Z,Z,Z]
def an76:List An:=[I [[],[],[],[lv],[],[],[lv]],I [[],[],[],[lv],[],[],[],[lv],[],[],[lv],[],[],[M]],I [[],[],[],[lv],[],[],[],[],[lv],[],[],[lv]],Z,s7,.l ⟨[(50,M)],[]⟩,Z,E,s7,I [[],[M]],I [[],[],[],[lv]],Z]
def an77:List An:=[Z,Z,s7,.l ⟨[(8,M)],[]⟩,Z,E,s7,Z,I [[],[],[],[],[IW],[lb]],E,Z,Z,Z]
def an78:List An:=[Z,I [[Cj]],Z,E,Z,I [[A8]],Z,E,Z,I [[Cj],[A8]]]
def an79:List An:=[Z,.r [[],[],[],[],[],[M],[],[],[M]] (some ⟨[(4,lb)],[]⟩)]
def an80:List An:=[Z,I [[],[],[],[M],[],[],[],[],[M]]]
def an81:List An:=[Z,I [[],[M],[],[],[],[M],[],[],[],[],[M],[],[],[],[],[M],[],[],[],[],[B_]],E,Z,Z]
def an83:List An:=[Z,E,Z,Z]
def an84:List An:=[Z,I [[],[Du],[],[BL]],I [[],[Du]],Z,Z,s7,.l ⟨[(6,lv),(7,M)],[]⟩,Z,E,s7,Z,s7,.l ⟨[(6,lv),(8,M)],[]⟩,Z,E,.b (some ⟨[(6,lv)],[]⟩),I [[],[],[Cj]],I [[],[],[],[],[],[],[],[],[],[],[B_]],E,I [[],[],[],[BL],[],[],[Cj],[],[],[],[],[],[],[BL],[],[],[Cj]],I [[],[],[],[A8],[A8]],Z,Z,Z]
def an85:List An:=[Z,I [[],[B_]],s7,Z,E,I [[],[M]],Z,E,I [[],[M]],Z,E,I [[],[M],[],[M]],I [[],[M],[],[],[M]]]
def an86:List An:=[Z,I [[A8]],I [[],[M],[],[M],[],[M],[],[M],[],[],[M],[],[M],[],[],[],[B_],[],[M]],I [[],[],[M]],E,Z,Z]
def an87:List An:=[Z,Z,s7,.l ⟨[(7,M)],[]⟩,Z,E,s7,I [[Cj]],E,Z,E,Z,Z,Z,Z]
def an88:List An:=[Z,Z,s7,.l ⟨[(3,M)],[]⟩,Z,E,s7,Z,.b (some ⟨[],[]⟩),.l ⟨[(4,M)],[]⟩,I [[],[],[],[],[],[],[],[],[M],[],[],[],[],[M],[],[],[],[],[],[],[],[M],[],[],[],[],[M],[],[],[],[],[],[],[],[B_],[],[],[],[],[B_]],.c (some ⟨[],[]⟩),s7,I [[],[],[],[],[],[],[],[],[IW],[],[],[],[],[IW]],Z,Z,Z]
def an90:List An:=[Z,Z,E,Z,I [[Cj]],Z,E,Z,Z]
def an93:List An:=[Z,Z,s7,.l ⟨[(8,M)],[]⟩,Z,E,s7,I [[],[Cj]],I [[],[M],[],[M]],Z,E,Z,Z,Z]
def an94:List An:=[Z,Z,Z,Z,E,Z,E,Z,Z,Z,E,Z,Z,E,Z,Z,E,Z,Z]
def an98:List An:=[Z,Z,E,Z,Z]
def an99:List An:=[Z,Z,E,Z,Z]
def W9:List An:=[Z,I [[],[M],[],[],[M]],Z,I [[],[B_]],s7,Z,E,I [[Cj]],Z,E,I [[Cj]],Z,E,I [[Cj]],I [[Cj]]]
def W_:List An:=[Z,I [[Du]],Z,E,Z,I [[BL]],E,Z,I [[Du]],Z,E,Z,Z,Z,s7,.l ⟨[(36,M)],[]⟩,Z,E,s7,I [[],[],[BL]],I [[],[Cj]],I [[],[],[BL],[BL]],Z,E,Z,I [[],[],[],[],[],[BL],[A8]],Z,E,Z,Z,Z]
def Xa:List An:=[Z,Z,s7,.l ⟨[(3,M),(1,M),(11,lb),(10,lb),(2,M)],[]⟩,.b (some ⟨[(3,M),(1,M),(11,lb),(10,lb),(2,M)],[]⟩),Z,Z,E,Z,Z,E,Z,Z,.c (some ⟨[(3,M)],[]⟩),Z,Z,Z,Z,.c (some ⟨[(13,M),(14,M)],[]⟩),Z,Z,Z,Z,.c (some ⟨[],[]⟩),Z,E,I [[],[],[],[],[],[],[],[],[A8],[],[],[],[A8],[M]],.c (some ⟨[(1,M)],[]⟩),Z,Z,Z,Z,Z,Z,Z,.c (some ⟨[(10,lb),(1,M),(2,M)],[]⟩),Z,Z,Z,Z,Z,Z]
def Xb:List An:=[Z,I [[Du],[BL]],Z]
def Xc:List An:=[Z,I [[A8]],E,Z,I [[],[B_],[],[],[],[],[A8]],I [[],[M],[],[M],[],[],[M],[],[M]],I [[A8]],E,Z,I [[A8]]]
def Xd:List An:=[Z,I [[BL],[],[],[],[A8]],E,Z,I [[BL],[A8]],I [[A8]],E,Z,I [[A8]]]
def Xe:List An:=[Z,I [[Du]],Z,E,Z,I [[],[lv],[],[],[],[B_]]]
def Xf:List An:=[Z,E,Z,Z,.c (some ⟨[],[(10,[.i .i64,.b])]⟩),I [[],[lb]],.r [[],[],[],[],[lb],[],[],[Gs]] (some ⟨[],[]⟩)]
def Xg:List An:=[Z,.r [[BL],[],[],[],[],[B_]] (some ⟨[(2,lb)],[]⟩)]
def Xh:List An:=[Z,I [[],[Gs],[],[],[Gs]],s7,I [[],[M],[],[M]],.c (some ⟨[],[]⟩),.r [[],[],[],[],[lb],[],[],[lb],[],[lb]] (some ⟨[],[]⟩),I [[],[Gs],[],[],[],[],[Gs]],.c (some ⟨[],[]⟩),.r [[],[],[],[],[lb],[],[],[Gs],[],[],[Gs]] (some ⟨[],[]⟩),I [[],[],[],[lv],[],[M],[],[M],[],[lb],[],[lb]],I [[],[Gs]],.c (some ⟨[],[]⟩),I [[],[],[],[lv],[],[M],[],[M],[],[lb],[],[lb]],I [[],[],[],[lv],[],[M],[],[M],[],[lb],[],[lb]]]
def Xi:List An:=[Z,Z,E,I [[],[],[],[lv],[],[],[],[M]],I [[],[],[],[lv],[],[],[],[M]]]
def Xj:List An:=[Z,Z]
def Xk:List An:=[Z,Z,E,Z,Z]
def Xl:List An:=[Z,Z]
def Xm:List An:=[Z,Z,E,Z,Z]
def Xn:List An:=[Z,I [[],[Gs]],Z,I [[],[lb]],.c (some ⟨[(7,M)],[]⟩),Z,I [[],[],[],[lv],[],[M],[],[M]],.c (some ⟨[],[]⟩),I [[],[],[],[lv],[],[M]],Z,.c (some ⟨[],[]⟩),I [[],[],[],[lv],[],[M]],I [[],[],[],[lv],[],[M],[],[M]]]
def Xo:List An:=[Z,I [[],[],[],[lv]],s7,.l ⟨[(13,M)],[]⟩,Z,E,s7,I [[],[o0]],Z,I [[o0]],s7,.l ⟨[(5,M),(18,M)],[]⟩,Z,E,s7,I [[Gs]],I [[],[],[Gs]],Z,Z,E,Z,Z,Z]
def Xp:List An:=[Z,Z,.c (some ⟨[(0,Pa),(2,M)],[]⟩),Z,Z,Z,.c (some ⟨[(0,Pa),(2,M)],[]⟩),Z,Z,Z,.c (some ⟨[(0,Pa),(2,M)],[]⟩),Z,Z,Z]
def Xq:List An:=[Z,I [[A8],[A8]],I [[],[B_]],s7,Z,E,I [[],[M]],Z,E,I [[],[M]],Z,E,I [[],[M]],I [[],[M]]]
def Xr:List An:=[Z,Z]
def Xs:List An:=[Z,I [[],[B_],[],[],[],[],[M],[],[],[],[],[M],[],[],[],[],[M],[],[M]],E,Z,Z]
def Xt:List An:=[Z,I [[Du]],I [[],[Cj]],I [[lv]],Z,Z,Z,s7,.l ⟨[(8,lv)],[]⟩,Z,E,s7,I [[],[],[M]],Z,Z,s7,.l ⟨[(8,lv),(35,B_)],[]⟩,Z,E,.b (some ⟨[(8,lv)],[]⟩),Z,I [[],[Cj]],Z,E,I [[],[],[],[BL]],I [[],[],[],[lb]],.c (some ⟨[(8,lv)],[]⟩),I [[lv],[],[],[],[BL]],Z,I [[lv],[],[],[BL],[BL]],E,Z,Z,I [[lv]]]
def Xu:List An:=[Z,I [[BL],[],[],[],[BL]],E,Z,I [[],[B_],[],[ES],[],[M],[],[M]],I [[],[B_],[],[ES],[],[B_],[],[ES],[],[],[],[],[M],[],[],[],[M]]]
def Xv:List An:=[Z,s7,.l ⟨[(8,M)],[]⟩,Z,E,s7,Z,.b (some ⟨[],[]⟩),.l ⟨[(9,M)],[]⟩,I [[],[],[],[],[],[],[],[],[A8],[],[],[],[],[A8],[M]],E,s7,I [[],[],[],[],[],[],[],[],[],[A8],[],[],[],[A8]],Z,Z]
def Xw:List An:=[Z,I [[A8],[],[],[B_],[],[],[Cj]],I [[BL],[Cj]],Z,I [[BL],[Cj]],I [[],[M],[],[M],[],[],[],[],[M],[],[M]],I [[.agg [.i .i64,.i .i64,.i .u8,.i .i64,.i .i64,.i .i64,.i .u8,.i .i64,.i .i64,.i .u8,.i .i64,.i .i64,.i .u8,.i .i64,.i .i64,.i .i64,.i .i64,.i .i64,.i .i64,.i .u8,.i .i64,.i .i64,.i .i64,.i .u8,.i .i64,.i .i64,.i .u8,.i .i64,.i .i64,.i .u8,.i .i64,.i .i64,.i .i64,.i .i64,.i .i64,.i .i64,.i .u8,.i .i64,.i .i64,.i .i64,.i .u8,.i .i64,.i .i64,.i .u8,.i .i64,.i .i64,.i .u8,.i .i64,.i .i64,.i .i64,.i .i64,.i .i64,.i .i64,.i .u8,.i .i64,.i .i64,.i .i64,.i .u8,.i .i64,.i .i64,.i .u8,.i .i64,.i .i64,.i .u8,.i .i64,.i .i64,.i .i64,.i .i64]]],s7,.l ⟨[(47,M)],[(7,[.i .i64,.i .i64,.i .u8])]⟩,Z,E,s7,I [[],[h7]],I [[],[Cj],[Cj]],.c (some ⟨[],[(7,[.i .i64,.i .i64,.i .u8])]⟩),Z,Z,I [[A8]]]
def Xx:List An:=[Z,I [[Du]],Z,E,Z,I [[],[Cj]],Z,E,Z,I [[],[lv],[Gj]],I [[Gj]]]
def Xy:List An:=[Z,s7,.l ⟨[],[(3,[.i .i64,.b])]⟩,I [[],[],[],[lv],[],[M],[],[],[M],[],[M]],E,s7,I [[],[],[],[lv],[],[M],[],[Gs]],I [[],[M],[],[lb],[],[lb]],I [[Gs]]]
def Xz:List An:=[Z,I [[],[Gs]],I [[],[lb]],E,I [[],[],[],[lv],[],[M],[],[M]],I [[],[],[],[lv],[],[M],[],[M]]]
def XA:List An:=[Z,.r [] (some ⟨[(2,lb)],[]⟩)]
def XB:List An:=[Z,I [[],[lv]],I [[],[lv]],s7,.l ⟨[(13,M)],[]⟩,Z,E,s7,I [[],[IW]],I [[],[],[M],[],[B_]],Z,Z]
def XD:List An:=[Z,I [[Cj]],E,Z,I [[],[M],[],[],[M]]]
def XE:List An:=[Z,I [[],[Cj]],I [[lv],[Gj],[lb]],E,I [[lv],[],[],[BL]],I [[],[Cj],[Gj]],I [[GJ]],I [[BL],[lv],[],[],[BL]],I [[BL]]]
def XF:List An:=[Z,I [[Cj],[Gj]],Z,E,Z,I [[A8],[],[B_]]]
def XH:List An:=[Z,I [[GJ]],E,Z,I [[],[B_]],s7,Z,E,I [[],[M]],Z,E,I [[],[M]],Z,E,I [[],[M],[],[M]],I [[],[M],[],[],[M]]]
def XI:List An:=[Z,I [[],[M],[],[],[],[M],[],[],[],[],[M],[],[],[],[M]]]
def XJ:List An:=[Z,I [[BL]],E,Z,I [[BL]]]
def XK:List An:=[Z,I [[.agg [.i .i64,.i .i64,.i .i64,.i .i64,.i .i64,.i .i64,.i .i64,.i .i64,.i .i64,.i .i64,.i .i64,.i .i64,.i .i64,.i .i64,.i .i64,.i .i64,.i .i64,.i .i64,.i .i64,.i .i64,.i .i64,.i .i64,.i .i64,.i .i64,.i .i64,.i .i64,.i .i64,.i .i64,.i .i64,.i .i64,.i .i64,.i .i64]]],s7,.l ⟨[(6,M)],[]⟩,Z,E,s7,I [[],[ES]],I [[ES],[ES]],E,Z,Z,Z]
def XL:List An:=[Z,I [[ES],[],[M],[],[M]],I [[ES],[],[M],[],[M]],Z]
def XM:List An:=[Z,I [[],[M],[],[],[],[M]]]
def XN:List An:=[Z,I [[BL],[],[],[],[Cj]],E,Z,I [[],[B_],[],[ES],[],[M],[],[M]],I [[],[],[M],[],[],[],[],[M]],I [[Cj]],E,Z,I [[Cj]]]
def XO:List An:=[Z,I [[],[Gj]]]
def XP:List An:=[Z,I [[Cj]],Z,E,Z,I [[Cj],[],[M],[],[B_]],I [[],[],[],[Gj],[Gj]],E,Z,I [[Cj],[],[M]]]
def XQ:List An:=[Z,I [[A8]],E,Z,I [[],[B_],[],[h7]],I [[],[B_],[],[M],[],[M]],s7,Z,.c (some ⟨[],[(7,[.i .u8,.i .i64])]⟩),I [[],[M],[],[M]],Z,.c (some ⟨[],[(7,[.i .u8,.i .i64])]⟩),I [[],[M],[],[M]],I [[],[B_]],.c (some ⟨[],[(7,[.i .u8,.i .i64])]⟩),I [[],[M],[],[M]],I [[GJ]],E,Z,I [[GJ]]]
def XR:List An:=[Z,I [[],[B_],[],[],[],[B_],[],[],[],[],[M],[],[],[],[],[M]],E,Z,Z]
def XS:List An:=[Z,I [[],[M],[],[],[],[M],[],[],[],[],[M],[],[],[],[],[M]],E,Z,Z]
def XT:List An:=[Z,Z,Z,s7,.l ⟨[(9,M),(10,M)],[]⟩,Z,E,s7,Z,I [[],[],[],[],[IW],[Gj],[M]],.c (some ⟨[(9,M),(10,M)],[]⟩),Z,Z,.r [[],[],[],[],[],[],[],[],[],[IW],[Gj],[M]] (some ⟨[(6,M),(7,lb)],[]⟩)]
def XU:List An:=[Z,I [[IW],[],[Gj]]]
def aa:Nat->Site
 |176=>eg (IF Tryz.prog 11) 0 40 [(5,lv),(10,lv)] [(29,Fj)] [Z] [s7,I [[lv],[Fj]],I [[lv],[],[M]],E]
 |224=>eg (IF Tryz.prog 14) 0 24 [(4,lv),(5,lv)] [(21,Fj)] [Z] [s7,I [[Fj]]]
 |_=>⟨0,[],[],.skip,.skip⟩
def xc(f:TQ):Cv:=⟨cc,QM.getD f [],aa⟩
section
variable {R HT:Type} (A:A_ R HT)
def A_.k0(l:TG)(k:Value->R):R:=A.Ck l λa l=>A.u4 l (k a)
def A_.k1(l:TG)(k:Int->Int->Value->R):R:=A.oo l λa l=>A.oo l λb l=>A.Ck l λc l=>A.u4 l (k a b c)
def A_.k2(l:TG)(k:Value->Int->R):R:=A.Ck l λa l=>A.oo l λb l=>A.u4 l (k a b)
def A_.k3(l:TG)(k:Bool->R):R:=A.D7 l λa l=>A.u4 l (k a)
def A_.k4(l:TG)(k:Int->Int->Int->R):R:=A.oo l λa l=>A.oo l λb l=>A.oo l λc l=>A.u4 l (k a b c)
def A_.k5(l:TG)(k:Int->Int->R):R:=A.oo l λa l=>A.oo l λb l=>A.u4 l (k a b)
def A_.k6(l:TG)(k:Int->R):R:=A.oo l λa l=>A.u4 l (k a)
def A_.k7(l:TG)(k:Int->Int->Value->Int->Int->Int->Value->R):R:=A.oo l λa l=>A.oo l λb l=>A.Ck l λc l=>A.oo l λd l=>A.oo l λe l=>A.oo l λf l=>A.Ck l λg l=>A.u4 l (k a b c d e f g)
def A_.k8(l:Tn)(k:Int->R):R:=A.rv .u8 l λa l=>A.ts l (k a)
def A_.k9(l:Tn)(k:Int->Int->Int->R):R:=A.rv .u8 l λa l=>A.rv .i64 l λb l=>A.rv .i64 l λc l=>A.ts l (k a b c)
def A_.FD(l:Tn)(k:Int->Int->Int->R):R:=A.rv .i64 l λa l=>A.rv .i64 l λb l=>A.rv .u8 l λc l=>A.ts l (k a b c)
def A_.Dx(l:Tn)(k:Int->R):R:=A.rv .i64 l λa l=>A.ts l (k a)
def A_.FE(l:TG)(k:Int->Int->Int->Int->R):R:=A.oo l λa l=>A.oo l λb l=>A.oo l λc l=>A.oo l λd l=>A.u4 l (k a b c d)
def A_.MH(l:Tn)(k:Int->Int->Int->R):R:=A.rv .i64 l λa l=>A.rv .u8 l λb l=>A.rv .u8 l λc l=>A.ts l (k a b c)
def A_.k14(l:TG)(k:Value->Int->Int->Value->R):R:=A.Ck l λa l=>A.oo l λb l=>A.oo l λc l=>A.Ck l λd l=>A.u4 l (k a b c d)
def A_.IZ(l:TG)(k:Int->Int->Int->Int->Int->Int->R):R:=A.oo l λa l=>A.oo l λb l=>A.oo l λc l=>A.oo l λd l=>A.oo l λe l=>A.oo l λf l=>A.u4 l (k a b c d e f)
def A_.NC(l:TG)(k:Int->Bool->R):R:=A.oo l λa l=>A.D7 l λb l=>A.u4 l (k a b)
def A_.G2(l:Tn)(k:Int->Int->R):R:=A.rv .i64 l λa l=>A.rv .i64 l λb l=>A.ts l (k a b)
def A_.cd(o:BinOp)(x y:Int)(p q:R):R:=A.cmp o x y λt=>A.cond t p q
def A_.ix(e:Nat)(x:Value)(n:Int)(w:Nat)(h:HT)(k:Tn->R):R:=A.h_ (A2 e x n) λp=>A.ka (.lg cc w p) h k
def A_.fx(e:Nat)(x:Value)(n:Int)(o w:Nat)(h:HT)(k:Tn->R):R:=A.h_ (A2 e x n) λp=>A.h_ (Dg o p) λq=>A.k_ q (A.ka (.lg cc w q) h k)
def A_.c0(f:TQ)(ls:TG)(h:HT)(k:HT->Value->R):R:=A.call f ls h λl h=>A.k0 l (k h)
def A_.c2(f:TQ)(ls:TG)(h:HT)(k:HT->Value->Int->R):R:=A.call f ls h λl h=>A.k2 l (k h)
def A_.c3(f:TQ)(ls:TG)(h:HT)(k:HT->Bool->R):R:=A.call f ls h λl h=>A.k3 l (k h)
def A_.c4(f:TQ)(ls:TG)(h:HT)(k:HT->Int->Int->Int->R):R:=A.call f ls h λl h=>A.k4 l (k h)
def A_.c5(f:TQ)(ls:TG)(h:HT)(k:HT->Int->Int->R):R:=A.call f ls h λl h=>A.k5 l (k h)
def A_.c6(f:TQ)(ls:TG)(h:HT)(k:HT->Int->R):R:=A.call f ls h λl h=>A.k6 l (k h)
def A_.JU(f:TQ)(ls:TG)(h:HT)(k:HT->Int->Int->Int->Int->R):R:=A.call f ls h λl h=>A.FE l (k h)
def A_.FX(f:TQ)(ls:TG)(h:HT)(k:HT->Int->Bool->R):R:=A.call f ls h λl h=>A.NC l (k h)
def A_.ln(x:Value)(k:Int->R):R:=A.h_ (G3 x) k
def A_.pa(a b:Int)(k:Int->R):R:=A.w7 .add .i64 a b k
def A_.ps(a b:Int)(k:Int->R):R:=A.w7 .sub .i64 a b k
def A_.pm(a b:Int)(k:Int->R):R:=A.w7 .mul .i64 a b k
def A_.pr(a b:Int)(k:Int->R):R:=A.w7 .rem .i64 a b k
def A_.pq(a b:Int)(k:Int->R):R:=A.w7 .quo .i64 a b k
def A_.ci(a:Int)(k:Int->R):R:=A.conv .i64 a k
def A_.fp(n:Nat)(p:Value)(k:Value->R):R:=A.h_ (CW p) λa=>A.k_ a (A.h_ (Dg n a) λb=>A.k_ b (k b))
def A_.lv(x:Value)(h:HT)(k:Value->R):R:=A.ka (.lg cc 1 x) h λl=>A.BM l λa l=>A.k_ a (A.ts l (k a))
def A_.av(e b:Nat)(x y:Value)(h:HT)(k:Value->HT->R):R:=A.heap (.ap cc e b x y) h λl h=>A.BM l λa l=>A.k_ a (A.ts l (k a h))
def qeq:(∀l k,A.k0 l k=A.Ck l λc l=>A.u4 l (k c))/\(∀l k,A.k1 l k=A.oo l λc l=>A.oo l λa1 l=>A.Ck l λa2 l=>A.u4 l (k c a1 a2))/\(∀l k,A.k2 l k=A.Ck l λc l=>A.oo l λa1 l=>A.u4 l (k c a1))/\(∀l k,A.k3 l k=A.D7 l λc l=>A.u4 l (k c))/\(∀l k,A.k4 l k=A.oo l λc l=>A.oo l λa1 l=>A.oo l λa2 l=>A.u4 l (k c a1 a2))/\(∀l k,A.k5 l k=A.oo l λc l=>A.oo l λa1 l=>A.u4 l (k c a1))/\(∀l k,A.k6 l k=A.oo l λc l=>A.u4 l (k c))/\(∀l k,A.k7 l k=A.oo l λc l=>A.oo l λa1 l=>A.Ck l λa2 l=>A.oo l λd l=>A.oo l λg l=>A.oo l λi l=>A.Ck l λj l=>A.u4 l (k c a1 a2 d g i j))/\(∀l k,A.k8 l k=A.rv .u8 l λc l=>A.ts l (k c))/\(∀l k,A.k9 l k=A.rv .u8 l λc l=>A.rv .i64 l λa1 l=>A.rv .i64 l λa2 l=>A.ts l (k c a1 a2))/\(∀l k,A.FD l k=A.rv .i64 l λc l=>A.rv .i64 l λa1 l=>A.rv .u8 l λa2 l=>A.ts l (k c a1 a2))/\(∀l k,A.Dx l k=A.rv .i64 l λc l=>A.ts l (k c))/\(∀l k,A.FE l k=A.oo l λc l=>A.oo l λa1 l=>A.oo l λa2 l=>A.oo l λd l=>A.u4 l (k c a1 a2 d))/\(∀l k,A.MH l k=A.rv .i64 l λc l=>A.rv .u8 l λa1 l=>A.rv .u8 l λa2 l=>A.ts l (k c a1 a2))/\(∀l k,A.k14 l k=A.Ck l λc l=>A.oo l λa1 l=>A.oo l λa2 l=>A.Ck l λd l=>A.u4 l (k c a1 a2 d))/\(∀l k,A.IZ l k=A.oo l λc l=>A.oo l λa1 l=>A.oo l λa2 l=>A.oo l λd l=>A.oo l λg l=>A.oo l λi l=>A.u4 l (k c a1 a2 d g i))/\(∀l k,A.NC l k=A.oo l λc l=>A.D7 l λa1 l=>A.u4 l (k c a1))/\(∀l k,A.G2 l k=A.rv .i64 l λc l=>A.rv .i64 l λa1 l=>A.ts l (k c a1))/\(∀o x y p q,A.cd o x y p q=A.cmp o x y λt=>A.cond t p q)/\(∀e x n w h k,A.ix e x n w h k=A.h_ (A2 e x n) λp=>A.ka (.lg cc w p) h k)/\(∀e x n o w h k,A.fx e x n o w h k=A.h_ (A2 e x n) λp=>A.h_ (Dg o p) λq=>A.k_ q (A.ka (.lg cc w q) h k))/\(∀f ls h k,A.c0 f ls h k=A.call f ls h λl h=>A.k0 l (k h))/\(∀f ls h k,A.c2 f ls h k=A.call f ls h λl h=>A.k2 l (k h))/\(∀f ls h k,A.c3 f ls h k=A.call f ls h λl h=>A.k3 l (k h))/\(∀f ls h k,A.c4 f ls h k=A.call f ls h λl h=>A.k4 l (k h))/\(∀f ls h k,A.c5 f ls h k=A.call f ls h λl h=>A.k5 l (k h))/\(∀f ls h k,A.c6 f ls h k=A.call f ls h λl h=>A.k6 l (k h))/\(∀f ls h k,A.JU f ls h k=A.call f ls h λl h=>A.FE l (k h))/\(∀f ls h k,A.FX f ls h k=A.call f ls h λl h=>A.NC l (k h))/\(∀x k,A.ln x k=A.h_ (G3 x) k)/\(∀a b k,A.pa a b k=A.w7 .add .i64 a b k)/\(∀a b k,A.ps a b k=A.w7 .sub .i64 a b k)/\(∀a b k,A.pm a b k=A.w7 .mul .i64 a b k)/\(∀a b k,A.pr a b k=A.w7 .rem .i64 a b k)/\(∀a b k,A.pq a b k=A.w7 .quo .i64 a b k)/\(∀a k,A.ci a k=A.conv .i64 a k)/\(∀n p k,A.fp n p k=A.h_ (CW p) λa=>A.k_ a (A.h_ (Dg n a) λb=>A.k_ b (k b)))/\(∀x h k,A.lv x h k=A.ka (.lg cc 1 x) h λl=>A.BM l λa l=>A.k_ a (A.ts l (k a)))/\(∀e b x y h k,A.av e b x y h k=A.heap (.ap cc e b x y) h λl h=>A.BM l λa l=>A.k_ a (A.ts l (k a h))):=by
 refine⟨?_,?_,?_,?_,?_,?_,?_,?_,?_,?_,?_,?_,?_,?_,?_,?_,?_,?_,?_,?_,?_,?_,?_,?_,?_,?_,?_,?_,?_,?_,?_,?_,?_,?_,?_,?_,?_,?_,?_⟩<;>intros<;>rfl
variable(ls:TG)(h:HT)(K:TG->HT->R)
def f3:R:=A.oo ls λa b=>A.oo b λb c=>A.Ck c λc d=>A.k0 d λd=>A.call 8 [.i a,.i b,.v c,.v d] h λa b=>A.k1 a λa c d=>A.c2 9 [.i a,.i c,.v d,.i 1000] b λb e f=>A.cd .eql f 0 (A.c3 10 [] b λa b=>K [.b b] a) (A.c4 12 [] b λb f g i=>A.c2 11 [.i a,.i c,.v d,.i f,.i g,.i i,.i 1000] b λb f g=>A.c4 12 [] b λb i j k=>A.c5 13 [.i a,.i c,.v d,.i i,.i j,.i k,.i 1000] b λb i j=>A.c4 12 [] b λb k l m=>A.call 14 [.i a,.i c,.v d,.i k,.i l,.i m] b λa b=>A.oo a λa c=>A.oo c λc d=>A.Ck d λd k=>A.oo k λk l=>A.oo l λl m=>A.oo m λm n=>A.k2 n λn o=>A.cd .neq g 0 (K [.b false] b) (A.cd .neq j 0 (K [.b false] b) (A.ln e λg=>A.cd .neq i g (K [.b false] b) (A.ln f λg=>A.ln e λi=>A.cd .neq g i (K [.b false] b) (A.h_ (Oq f) λg=>A.ln f λi=>A.cd .neq g i (K [.b false] b) (A.loop (λb g i=>A.k6 g λg=>A.ln f λj=>A.cd .lss g j (A.ix 7 f g 7 i λa=>A.rv .i64 a λa c=>A.rv .i64 c λc d=>A.BM d λd f=>A.k_ d (A.rv .u8 f λf j=>A.rv .i64 j λj k=>A.rv .i64 k λk l=>A.BM l λl m=>A.k_ l (A.ts m (A.ix 7 e g 7 i λe=>A.rv .i64 e λe m=>A.rv .i64 m λm n=>A.BM n λn o=>A.k_ n (A.rv .u8 o λo p=>A.rv .i64 p λp q=>A.rv .i64 q λq r=>A.BM r λr s=>A.k_ r (A.ts s (A.c6 15 [.i a,.i c,.v d,.i f,.i j,.i k,.v l,.i e,.i m,.v n,.i o,.i p,.i q,.v r] i λa c=>A.cd .neq c 0 (K [.b false] a) (A.pa g 1 λc=>b [.i c] a)))))))) (A.ln e λb=>A.cd .eql b 0 (A.join (λa b=>A.k3 a λa=>K [.b a] b) λa=>A.cd .eql o 15 (A.ln n λb=>A.cd .eql b 0 (A.c3 10 [] i λb c=>a [.b c] b) (a [.b false] i)) (a [.b false] i)) (A.join (λa b=>A.k3 a λa=>K [.b a] b) λb=>A.cd .eql o 0 (A.h_ (A2 7 e 0) λe=>A.ka (.lg cc 7 e) i λe=>A.rv .i64 e λe f=>A.rv .i64 f λf g=>A.BM g λg j=>A.k_ g (A.rv .u8 j λj o=>A.rv .i64 o λo p=>A.rv .i64 p λp q=>A.BM q λq r=>A.k_ q (A.ts r (A.c6 15 [.i a,.i c,.v d,.i k,.i l,.i m,.v n,.i e,.i f,.v g,.i j,.i o,.i p,.v q] i λa c=>A.cd .eql c 0 (A.c3 10 [] a λa c=>b [.b c] a) (b [.b false] a))))) (b [.b false] i)))) [.i 0] b))))))
def f4:R:=A.oo ls λa b=>A.oo b λb c=>A.Ck c λc d=>A.k0 d λd=>A.call 8 [.i a,.i b,.v c,.v d] h λa b=>A.k1 a λa c d=>A.ln d λe=>A.cmp .lss 5 e λf=>A.FO f 5 e λe=>A.loop (λb f g=>A.k6 f λf=>A.cd .lss f e (A.h_ (A2 3 d f) λa=>A.h_ (Dg 2 a) λa=>A.k_ a (A.heap (.st a [.int .u8 3]) g λ_ a=>A.pa f 1 λc=>b [.i c] a)) (A.c4 12 [] g λb f g i=>A.c5 13 [.i a,.i c,.v d,.i f,.i g,.i i,.i 300] b λb f g=>A.cd .neq g 0 (K [.b false] b) (A.join (λa b=>A.k6 a λa=>A.cd .eql f 300 (A.join (λa b=>A.k3 a λa=>K [.b a] b) λc=>A.cd .geq a 300 (A.c3 10 [] b λa b=>c [.b b] a) (c [.b false] b)) (A.join (λa b=>A.k3 a λa=>K [.b a] b) λc=>A.cd .eql a f (A.c3 10 [] b λa b=>c [.b b] a) (c [.b false] b))) λf=>A.loop (λb g i=>A.k5 g λg j=>A.conv .u64 e λk=>A.E5 .shl .i64 1 .u64 k λk=>A.cd .lss j k (A.cd .leq g 300 (A.new (.cells [] 3 true) i λf i=>A.av 3 16 (.slice (some ⟨f,0,some 13⟩) 0 1) d i λd f=>A.loop (λf i k=>A.k6 i λi=>A.cd .lss i e (A.conv .u64 i λa=>A.E5 .shr .i64 j .u64 a λa=>A.w7 .and .i64 a 1 λa=>A.conv .u8 a λa=>A.w7 .add .u8 1 a λa=>A.h_ (A2 3 d i) λb=>A.h_ (Dg 2 b) λb=>A.k_ b (A.heap (.st b [.int .u8 a]) k λ_ a=>A.pa i 1 λb=>f [.i b] a)) (A.c4 12 [] k λe f i k=>A.c5 13 [.i a,.i c,.v d,.i f,.i i,.i k,.i 300] e λa c d=>A.cd .neq d 0 (K [.b false] a) (A.pa g c λc=>A.pa j 1 λd=>b [.i c,.i d] a))) [.i 0] f) (f [.i g] i)) (f [.i g] i)) [.i 0,.i 0] b))) [.i 0] b
def f8:R:=A.oo ls λa b=>A.oo b λb c=>A.Ck c λc d=>A.k0 d λd=>A.w7 .rem .u8 a 3 λa=>A.w7 .rem .u8 b 3 λb=>A.ln c λe=>A.cmp .gtr e 4 λe=>A.join (λa b=>A.k1 a λa c e=>A.call 18 [.i a,.i c,.v e] b λa b=>A.k7 a λa c e _ _ _ _=>A.join (λb d=>A.u4 b (K [.i a,.i c,.v e] d)) λa=>A.loop (λb c f=>A.k6 c λc=>A.ln d λg=>A.cd .lss c g (A.ln e λg=>A.cd .lss c g (A.ix 1 d c 1 f λa=>A.k8 a λa=>A.w7 .rem .u8 a 8 λa=>A.cd .gtr a 0 (A.cmp .lss a 4 λd=>A.join (λa d=>A.u4 a (A.pa c 1 λa=>b [.i a] d)) λb=>A.cond d (A.h_ (A2 3 e c) λc=>A.h_ (Dg 2 c) λc=>A.k_ c (A.heap (.st c [.int .u8 a]) f λ_ a=>b [] a)) (b [] f)) (A.pa c 1 λa=>b [.i a] f)) (a [] f)) (a [] f)) [.i 0] b) λd=>A.cond e (A.h_ (Et 3 c none (some 4) none) λc=>A.k_ c (d [.i a,.i b,.v c] h)) (d [.i a,.i b,.v c] h)
def f10:R:=A.u4 ls (A.new (.cells [] 1 true) h λa b=>A.new (.cells [.int .u8 2] 1 true) b λb c=>A.new (.cells [.int .u8 3] 1 true) c λc d=>A.new (.cells [.int .u8 2,.int .u8 2] 1 true) d λd e=>A.new (.cells [.int .u8 2,.int .u8 1] 1 true) e λe f=>A.new (.cells [.int .u8 3,.int .u8 3] 1 true) f λf g=>A.new (.cells [.slice (some ⟨a,0,some 11⟩) 0 1,.slice (some ⟨b,0,some 11⟩) 1 2,.slice (some ⟨c,0,some 11⟩) 1 2,.slice (some ⟨d,0,some 11⟩) 2 3,.slice (some ⟨e,0,some 11⟩) 2 3,.slice (some ⟨f,0,some 11⟩) 2 3] 1 true) g λa b=>A.new (.cells [.int .i64 1,.int .i64 1,.int .i64 2,.int .i64 2,.int .i64 1,.int .i64 6] 1 true) b λb c=>A.loop (λc d e=>A.k6 d λd=>A.h_ (G3 (.slice (some ⟨a,0,some 11⟩) 6 7)) λf=>A.cd .lss d f (A.h_ (A2 1 (.slice (some ⟨a,0,some 11⟩) 6 7) d) λa=>A.lv a e λa=>A.call 28 [.v a] e λa e=>A.k1 a λa f g=>A.c4 12 [] e λe i j k=>A.c5 13 [.i a,.i f,.v g,.i i,.i j,.i k,.i 100] e λa e f=>A.h_ (A2 1 (.slice (some ⟨b,0,some 11⟩) 6 7) d) λb=>A.ka (.lg cc 1 b) a λb=>A.Dx b λb=>A.cd .neq e b (K [.b false] a) (A.cd .neq f 0 (K [.b false] a) (A.pa d 1 λb=>c [.i b] a))) (A.h_ (A2 1 (.slice (some ⟨a,0,some 11⟩) 6 7) 2) λa=>A.lv a e λa=>A.call 28 [.v a] e λa b=>A.k1 a λa c d=>A.c4 12 [] b λb e f g=>A.call 14 [.i a,.i c,.v d,.i e,.i f,.i g] b λa b=>A.oo a λ_ a=>A.oo a λ_ a=>A.Ck a λ_ a=>A.oo a λ_ a=>A.oo a λ_ a=>A.oo a λ_ a=>A.k2 a λa c=>A.join (λa b=>A.k3 a λa=>K [.b a] b) λd=>A.cd .eql c 0 (A.ln a λc=>A.cd .eql c 4 (A.h_ (A2 4 a 0) λc=>A.h_ (Dg 3 c) λc=>A.k_ c (A.lv c b λc=>A.ln c λc=>A.cd .eql c 2 (A.h_ (A2 4 a 0) λc=>A.h_ (Dg 3 c) λc=>A.k_ c (A.lv c b λc=>A.h_ (A2 1 c 0) λc=>A.ka (.lg cc 1 c) b λc=>A.Dx c λc=>A.cd .eql c 0 (A.h_ (A2 4 a 0) λa=>A.h_ (Dg 3 a) λa=>A.k_ a (A.lv a b λa=>A.h_ (A2 1 a 1) λa=>A.ka (.lg cc 1 a) b λa=>A.Dx a λa=>A.cmp .eql a 4 λa=>d [.b a] b)) (d [.b false] b))) (d [.b false] b))) (d [.b false] b)) (d [.b false] b))) [.i 0] c)
def f11:R:=A.oo ls λa b=>A.oo b λb c=>A.Ck c λc d=>A.FE d λd e f g=>A.new (.cells [.int .i64 g] 1 true) h λg i=>A.c2 29 [.i a,.i b,.v c,.i d,.i e,.i f] i λa b c=>A.cd .neq c 0 (K [.v (.slice none 0 0),.i c] a) (A.ka (.lg cc 1 (.pointer (some ⟨g,0,none⟩))) a λc=>A.Dx c λc=>A.cd .lss c 1 (K [.v (.slice none 0 0),.i 1] a) (A.ka (.lg cc 1 (.pointer (some ⟨g,0,none⟩))) a λc=>A.Dx c λc=>A.cd .gtr c 1000 (K [.v (.slice none 0 0),.i 1] a) (A.new (.cells [.slice none 0 0] 1 true) a λa c=>A.c0 30 [.v b] c λb c=>A.join (λb c=>A.u4 b (A.lv (.pointer (some ⟨a,0,none⟩)) c λa=>A.c0 31 [.v a] c λa b=>K [.v b,.i 0] a)) λd=>A.Ec 176 c [.pointer (some ⟨g,0,none⟩),.pointer (some ⟨a,0,none⟩)] b λa b=>A.D4 a (d [] b) (K [.v (.slice none 0 0),.i 0] b) ((0,d [] b) :: []))))
def f12:R:=A.u4 ls (K [.i 0,.i 0,.i 0] h)
def f13:R:=A.oo ls λa b=>A.oo b λb c=>A.Ck c λc d=>A.FE d λd e f g=>A.c2 11 [.i a,.i b,.v c,.i d,.i e,.i f,.i g] h λa b c=>A.ln b λb=>K [.i b,.i c] a
def f14:R:=A.oo ls λa b=>A.oo b λb c=>A.Ck c λc d=>A.k4 d λd e f=>A.new (.cells [.int .i64 0,.int .i64 0,.slice none 0 0,.int .u8 0,.int .i64 0,.int .i64 0,.slice none 0 0] 7 true) h λg i=>A.new (.cells [.int .i64 0] 1 true) i λi j=>A.c2 29 [.i a,.i b,.v c,.i d,.i e,.i f] j λa b c=>A.cd .neq c 0 (A.heap (.st (.pointer (some ⟨g,0,none⟩)) [.int .i64 0,.int .i64 0,.slice none 0 0,.int .u8 0,.int .i64 0,.int .i64 0,.slice none 0 0]) a λ_ a=>A.heap (.st (.pointer (some ⟨i,0,none⟩)) [.int .i64 c]) a λ_ a=>A.ka (.ld 7 (.pointer (some ⟨g,0,none⟩))) a λb=>A.rv .i64 b λb c=>A.rv .i64 c λc d=>A.BM d λd e=>A.k_ d (A.rv .u8 e λe f=>A.rv .i64 f λf g=>A.rv .i64 g λg j=>A.BM j λj k=>A.k_ j (A.ts k (A.h_ (GY d) λ_=>A.h_ (GY j) λ_=>A.ka (.ld 1 (.pointer (some ⟨i,0,none⟩))) a λi=>A.Dx i λi=>K [.i b,.i c,.v d,.i e,.i f,.i g,.v j,.i i] a)))) (A.c0 30 [.v b] a λa b=>A.Ec 224 b [.pointer (some ⟨g,0,none⟩),.pointer (some ⟨i,0,none⟩)] a λa b=>A.D4 a (A.heap (.st (.pointer (some ⟨g,0,none⟩)) [.int .i64 0,.int .i64 0,.slice none 0 0,.int .u8 0,.int .i64 0,.int .i64 0,.slice none 0 0]) b λ_ a=>A.heap (.st (.pointer (some ⟨i,0,none⟩)) [.int .i64 15]) a λ_ a=>A.ka (.ld 7 (.pointer (some ⟨g,0,none⟩))) a λb=>A.rv .i64 b λb c=>A.rv .i64 c λc d=>A.BM d λd e=>A.k_ d (A.rv .u8 e λe f=>A.rv .i64 f λf g=>A.rv .i64 g λg j=>A.BM j λj k=>A.k_ j (A.ts k (A.h_ (GY d) λ_=>A.h_ (GY j) λ_=>A.ka (.ld 1 (.pointer (some ⟨i,0,none⟩))) a λi=>A.Dx i λi=>K [.i b,.i c,.v d,.i e,.i f,.i g,.v j,.i i] a)))) (A.ka (.ld 7 (.pointer (some ⟨g,0,none⟩))) b λa=>A.rv .i64 a λa c=>A.rv .i64 c λc d=>A.BM d λd e=>A.k_ d (A.rv .u8 e λe f=>A.rv .i64 f λf g=>A.rv .i64 g λg j=>A.BM j λj k=>A.k_ j (A.ts k (A.h_ (GY d) λ_=>A.h_ (GY j) λ_=>A.ka (.ld 1 (.pointer (some ⟨i,0,none⟩))) b λi=>A.Dx i λi=>K [.i a,.i c,.v d,.i e,.i f,.i g,.v j,.i i] b)))) [])
def f16:R:=A.k1 ls λa b c=>A.c6 32 [.i a,.i b] h λd e=>A.cd .neq e 0 (K [.i e] d) (A.c3 33 [.v c,.v (.func (.func 34) ⟨[]⟩ ⟨[]⟩)] d λd e=>A.cond e (K [.i 1] d) (A.ln c λe=>A.loop (λd f g=>A.k6 f λf=>A.cd .lss f e (A.ix 3 c f 3 g λc=>A.MH c λc e i=>A.c4 36 [.i a,.i b,.i c,.i e] g λa b g j=>A.cd .neq j 0 (K [.i 7] a) (A.c5 37 [.i c,.i e,.i i] a λa c e=>A.eqs [(.i b,.i c),(.i g,.i e)] λb=>A.cond (!b) (K [.i 7] a) (A.pa f 1 λb=>d [.i b] a))) (A.loop (λa b d=>A.k6 b λb=>A.ln c λe=>A.cd .lss b e (A.ps b 1 λe=>A.ix 3 c e 3 d λe=>A.MH e λe f g=>A.c5 37 [.i e,.i f,.i g] d λd e f=>A.ix 3 c b 3 d λc=>A.MH c λc g i=>A.c5 37 [.i c,.i g,.i i] d λc d g=>A.c6 38 [.i e,.i f,.i d,.i g] c λc d=>A.cd .geq d 0 (K [.i 6] c) (A.pa b 1 λb=>a [.i b] c)) (K [.i 0] d)) [.i 1] g)) [.i 0] d))
def f18:R:=A.k1 ls λa b c=>A.w7 .rem .u8 a 4 λa=>A.ci a λa=>A.pa 1 a λa=>A.w7 .rem .u8 b 4 λb=>A.ci b λb=>A.pa 1 b λb=>A.call 44 [.i a,.i b] h λa b=>A.k7 a λa d e f g i j=>A.join (λa b=>A.k7 a λa c d e f g i=>K [.i a,.i c,.v d,.i e,.i f,.i g,.v i] b) λk=>A.loop (λa b d=>A.oo b λb e=>A.k7 e λe f g i j l m=>A.ln c λn=>A.cd .lss b n (A.cd .lss b 5 (A.c0 45 [.i e,.i f,.v g,.i i,.i j,.i l,.v m] d λd n=>A.ln n λo=>A.cd .eql o 0 (k [.i e,.i f,.v g,.i i,.i j,.i l,.v m] d) (A.h_ (A2 3 c b) λk=>A.h_ (Ph 3 1 k 0) λk=>A.k_ k (A.ka (.lg cc 1 k) d λk=>A.k8 k λk=>A.ci k λk=>A.ln n λo=>A.pr k o λk=>A.ix 2 n k 2 d λk=>A.rv .u8 k λk n=>A.Dx n λn=>A.h_ (A2 3 c b) λo=>A.h_ (Ph 3 1 o 1) λo=>A.k_ o (A.ka (.lg cc 1 o) d λo=>A.k8 o λo=>A.w7 .rem .u8 o 2 λo=>A.h_ (A2 3 c b) λc=>A.h_ (Ph 3 1 c 2) λc=>A.k_ c (A.ka (.lg cc 1 c) d λc=>A.k8 c λc=>A.w7 .rem .u8 c 2 λc=>A.cmp .eql c 1 λc=>A.call 46 [.i e,.i f,.v g,.i i,.i j,.i l,.v m,.i k,.i n,.i o,.b c] d λc d=>A.k7 c λc e f g i j k=>A.pa b 1 λb=>a [.i b,.i c,.i e,.v f,.i g,.i i,.i j,.v k] d))))) (k [.i e,.i f,.v g,.i i,.i j,.i l,.v m] d)) (k [.i e,.i f,.v g,.i i,.i j,.i l,.v m] d)) [.i 0,.i a,.i d,.v e,.i f,.i g,.i i,.v j] b
def f23:R:=A.oo ls λa b=>A.oo b λb c=>A.Ck c λc d=>A.k4 d λd e f=>A.pm 4 a λg=>A.pm g b λg=>A.h_ (DS g g) λ_=>A.new (.cells (aN [.int .u8 0,.int .i64 0,.int .i64 0] (Int.toNat g)) 3 true) h λi j=>A.h_ (DS g g) λ_=>A.new (.cells (aN [.bool false] (Int.toNat g)) 1 true) j λj k=>A.cd .lss g 1 (K [.v (.slice none 0 0),.i 0] k) (A.h_ (A2 3 (.slice (some ⟨i,0,some 13⟩) (Int.toNat g) ((Int.toNat g)+1)) 0) λl=>A.heap (.st l [.int .u8 d,.int .i64 e,.int .i64 f]) k λ_ d=>A.h_ (A2 1 (.slice (some ⟨j,0,some 11⟩) (Int.toNat g) ((Int.toNat g)+1)) 0) λe=>A.heap (.st e [.bool true]) d λ_ d=>A.c0 48 [.i a,.i b,.v c] d λc d=>A.loop (λc e f=>A.k3 e λe=>A.cond e (A.loop (λe f k=>A.D7 f λf l=>A.k6 l λl=>A.cd .lss l g (A.join (λa b=>A.k3 a λa=>A.pa l 1 λc=>e [.b a,.i c] b) λc=>A.loop (λe f k=>A.D7 f λf m=>A.k6 m λm=>A.cd .lss m 3 (A.h_ (A2 1 (.slice (some ⟨j,0,some 11⟩) (Int.toNat g) ((Int.toNat g)+1)) l) λn=>A.ka (.lg cc 1 n) k λn=>A.DV n λn o=>A.ts o (A.cond n (A.join (λa b=>A.k3 a λa=>A.pa m 1 λc=>e [.b a,.i c] b) λc=>A.c6 61 [.i a,.i b,.i l,.i m] k λe k=>A.cd .lss k 0 (c [.b f] e) (A.h_ (A2 3 (.slice (some ⟨i,0,some 13⟩) (Int.toNat g) ((Int.toNat g)+1)) l) λn=>A.ka (.lg cc 3 n) e λn=>A.k9 n λn o p=>A.pm 3 l λq=>A.pa q m λm=>A.ix 1 d m 1 e λd=>A.k8 d λd=>A.cmp .neq d 0 λd=>A.join (λa b=>A.k4 a λa d e=>A.h_ (A2 1 (.slice (some ⟨j,0,some 11⟩) (Int.toNat g) ((Int.toNat g)+1)) k) λl=>A.ka (.lg cc 1 l) b λl=>A.DV l λl m=>A.ts m (A.cond l (A.h_ (A2 3 (.slice (some ⟨i,0,some 13⟩) (Int.toNat g) ((Int.toNat g)+1)) k) λl=>A.ka (.lg cc 3 l) b λl=>A.k9 l λl m n=>A.eqs [(.i l,.i a),(.i m,.i d),(.i n,.i e)] λl=>A.join (λb l=>A.u4 b (A.h_ (A2 1 (.slice (some ⟨j,0,some 11⟩) (Int.toNat g) ((Int.toNat g)+1)) k) λb=>A.ka (.lg cc 1 b) l λb=>A.DV b λb m=>A.ts m (A.join (λa b=>A.k3 a λa=>c [.b a] b) λc=>A.cond (!b) (A.h_ (A2 3 (.slice (some ⟨i,0,some 13⟩) (Int.toNat g) ((Int.toNat g)+1)) k) λb=>A.heap (.st b [.int .u8 a,.int .i64 d,.int .i64 e]) l λ_ a=>A.h_ (A2 1 (.slice (some ⟨j,0,some 11⟩) (Int.toNat g) ((Int.toNat g)+1)) k) λb=>A.heap (.st b [.bool true]) a λ_ a=>c [.b true] a) (c [.b f] l)))) λa=>A.cond (!l) (K [.v (.slice none 0 0),.i 0] b) (a [] b)) (A.h_ (A2 1 (.slice (some ⟨j,0,some 11⟩) (Int.toNat g) ((Int.toNat g)+1)) k) λl=>A.ka (.lg cc 1 l) b λl=>A.DV l λl m=>A.ts m (A.join (λa b=>A.k3 a λa=>c [.b a] b) λc=>A.cond (!l) (A.h_ (A2 3 (.slice (some ⟨i,0,some 13⟩) (Int.toNat g) ((Int.toNat g)+1)) k) λf=>A.heap (.st f [.int .u8 a,.int .i64 d,.int .i64 e]) b λ_ a=>A.h_ (A2 1 (.slice (some ⟨j,0,some 11⟩) (Int.toNat g) ((Int.toNat g)+1)) k) λb=>A.heap (.st b [.bool true]) a λ_ a=>c [.b true] a) (c [.b f] b))))) λc=>A.cond d (A.c4 25 [.i a,.i b,.i l] e λd e f j=>A.c4 25 [.i a,.i b,.i k] d λa b d k=>A.c4 63 [.i e,.i f,.i j,.i b,.i d,.i k] a λa b d e=>A.h_ (A2 3 (.slice (some ⟨i,0,some 13⟩) (Int.toNat g) ((Int.toNat g)+1)) l) λf=>A.ka (.lg cc 3 f) a λf=>A.k9 f λf g i=>A.c4 62 [.i b,.i d,.i e,.i f,.i g,.i i] a λa b d e=>c [.i b,.i d,.i e] a) (c [.i n,.i o,.i p] e))) (c [.b f] k))) (c [.b f] k)) [.b f,.i 0] k) (c [.b f] k)) [.b false,.i 0] f) (K [.v (.slice (some ⟨i,0,some 13⟩) (Int.toNat g) ((Int.toNat g)+1)),.i 1] f)) [.b true] c)
def f24:R:=A.IZ ls λa b c d e f=>A.c5 66 [.i d,.i e,.i f] h λd e f=>A.c5 65 [.i a,.i b,.i c,.i e,.i f] d λa b c=>A.c4 64 [.i b,.i c] a λa b c d=>K [.i b,.i c,.i d] a
def f25:R:=A.k4 ls λa _ b=>A.pq b 4 λc=>A.pr c a λc=>A.pq b 4 λd=>A.pq d a λa=>A.pr b 4 λb=>A.conv .u8 b λb=>K [.i c,.i a,.i b] h
def f26:R:=A.k0 ls λa=>A.new (.cells [] 4 true) h λb c=>A.av 4 48 (.slice (some ⟨b,0,some 14⟩) 0 1) a c λa b=>A.loop (λb c d=>A.k6 c λc=>A.ln a λe=>A.cd .lss c e (A.join (λa d=>A.u4 a (A.pa c 1 λa=>b [.i a] d)) λb=>A.loop (λc d e=>A.k6 d λd=>A.cd .gtr d 0 (A.ps d 1 λf=>A.fx 4 a f 0 3 e λf=>A.FD f λf g i=>A.fx 4 a d 0 3 e λj=>A.FD j λj k l=>A.c6 67 [.i f,.i g,.i i,.i j,.i k,.i l] e λe f=>A.cd .eql f 1 (A.ps d 1 λb=>A.ix 4 a d 4 e λf=>A.rv .i64 f λf g=>A.rv .i64 g λg i=>A.rv .u8 i λi j=>A.BM j λj k=>A.k_ j (A.ts k (A.ps d 1 λk=>A.ix 4 a k 4 e λk=>A.rv .i64 k λk l=>A.rv .i64 l λl m=>A.rv .u8 m λm n=>A.BM n λn o=>A.k_ n (A.ts o (A.h_ (A2 4 a b) λb=>A.heap (.st b [.int .i64 f,.int .i64 g,.int .u8 i,j]) e λ_ b=>A.h_ (A2 4 a d) λa=>A.heap (.st a [.int .i64 k,.int .i64 l,.int .u8 m,n]) b λ_ a=>A.ps d 1 λb=>c [.i b] a))))) (b [] e)) (b [] e)) [.i c] d) (K [.v a] d)) [.i 1] b
def f28:R:=A.k0 ls λa=>A.ln a λb=>A.pa b 1 λb=>A.loop (λb c d=>A.oo c λc e=>A.k1 e λe f g=>A.ln a λi=>A.cd .lss c i (A.pm 4 c λi=>A.pa i 1 λi=>A.ix 1 a c 1 d λa=>A.k8 a λa=>A.new (.cells [.int .i64 i,.int .u8 0,.int .u8 a] 3 true) d λa d=>A.av 3 16 g (.slice (some ⟨a,0,some 13⟩) 1 2) d λa d=>A.pa c 1 λc=>b [.i c,.i e,.i f,.v a] d) (K [.i e,.i f,.v g] d)) [.i 0,.i b,.i 1,.v (.slice none 0 0)] h
def f29:R:=A.oo ls λa b=>A.oo b λb c=>A.Ck c λc d=>A.k4 d λd e f=>A.c2 68 [.i a,.i b,.v c,.i d,.i e,.i f] h λg i j=>A.cd .neq j 0 (K [.v (.pointer none),.i j] g) (A.pm a b λj=>A.cd .gtr j 9 (K [.v (.pointer none),.i 3] g) (A.ln i λj=>A.h_ (DS j j) λ_=>A.new (.cells (aN [.bool false] (Int.toNat j)) 1 true) g λg k=>A.new (.map [] 0) k λk l=>A.new (.cells [.int .i64 a,.int .i64 b,c,.int .u8 d,.int .i64 e,.int .i64 f,.slice none 0 0,.slice none 0 0,.slice none 0 0,.slice (some ⟨g,0,some 11⟩) (Int.toNat j) ((Int.toNat j)+1),.map (some k),.slice none 0 0,.slice none 0 0,.slice none 0 0,.bool false] 15 true) l λa b=>A.h_ (Sx.Di [(.map (some k),(2,i)),(.slice (some ⟨g,0,some 11⟩) (Int.toNat j) ((Int.toNat j)+1),(0,.map (some k)))]) λ_=>A.new (.map [] 0) b λb c=>A.ln i λd=>A.loop (λc e f=>A.k6 e λe=>A.cd .lss e d (A.ix 3 i e 3 f λd=>A.FD d λd g i=>A.ka (.fn (E7 cc 71 false (.int .i64 0) (.map (some b)) (.agg ⟨[.int .i64 d,.int .i64 g,.int .u8 i]⟩) true)) f λj=>A.rv .i64 j λ_ j=>A.DV j λj k=>A.ts k (A.join (λa b=>A.u4 a (A.pa e 1 λa=>c [.i a] b)) λc=>A.cond (!j) (A.heap (.fn (FH cc 71 (.map (some b)) (.agg ⟨[.int .i64 d,.int .i64 g,.int .u8 i]⟩) (.int .i64 0))) f λ_ b=>A.fp 6 (.pointer (some ⟨a,0,none⟩)) λe=>A.lv e b λf=>A.new (.cells [.int .i64 d,.int .i64 g,.int .u8 i] 3 true) b λb d=>A.av 3 24 f (.slice (some ⟨b,0,some 13⟩) 1 2) d λd f=>A.fp 6 (.pointer (some ⟨a,0,none⟩)) λa=>A.heap (.st a [d]) f λ_ a=>A.h_ (Sx.Di [(.slice (some ⟨b,0,some 13⟩) 1 2,(0,e))]) λ_=>c [] a) (c [] f))) (A.fp 6 (.pointer (some ⟨a,0,none⟩)) λc=>A.lv c f λc=>A.call 69 [.v c,.v (.func (.func 58) ⟨[]⟩ ⟨[]⟩)] f λc d=>A.u4 c (A.fp 6 (.pointer (some ⟨a,0,none⟩)) λc=>A.lv c d λc=>A.ln c λe=>A.loop (λd f g=>A.k6 f λf=>A.cd .lss f e (A.ix 3 c f 3 g λa=>A.FD a λa c e=>A.heap (.fn (FH cc 71 (.map (some b)) (.agg ⟨[.int .i64 a,.int .i64 c,.int .u8 e]⟩) (.int .i64 f))) g λ_ a=>A.pa f 1 λb=>d [.i b] a) (A.fp 6 (.pointer (some ⟨a,0,none⟩)) λc=>A.lv c g λd=>A.ln d λe=>A.h_ (DS e e) λ_=>A.new (.cells (aN [.slice none 0 0] (Int.toNat e)) 1 true) g λf g=>A.fp 6 (.pointer (some ⟨a,0,none⟩)) λj=>A.lv j g λk=>A.ln k λl=>A.h_ (DS l l) λ_=>A.new (.cells (aN [.slice none 0 0] (Int.toNat l)) 1 true) g λg m=>A.fp 7 (.pointer (some ⟨a,0,none⟩)) λn=>A.heap (.st n [.slice (some ⟨f,0,some 11⟩) (Int.toNat e) ((Int.toNat e)+1)]) m λ_ m=>A.fp 8 (.pointer (some ⟨a,0,none⟩)) λo=>A.heap (.st o [.slice (some ⟨g,0,some 11⟩) (Int.toNat l) ((Int.toNat l)+1)]) m λ_ m=>A.h_ (Sx.Di [(.slice (some ⟨f,0,some 11⟩) (Int.toNat e) ((Int.toNat e)+1),(0,j)),(.slice (some ⟨f,0,some 11⟩) (Int.toNat e) ((Int.toNat e)+1),(2,k)),(.slice (some ⟨g,0,some 11⟩) (Int.toNat l) ((Int.toNat l)+1),(0,c)),(.slice (some ⟨g,0,some 11⟩) (Int.toNat l) ((Int.toNat l)+1),(2,d)),(.slice (some ⟨f,0,some 11⟩) (Int.toNat e) ((Int.toNat e)+1),(0,.slice (some ⟨g,0,some 11⟩) (Int.toNat l) ((Int.toNat l)+1))),(n,(2,k)),(.slice (some ⟨g,0,some 11⟩) (Int.toNat l) ((Int.toNat l)+1),(0,n)),(.slice (some ⟨g,0,some 11⟩) (Int.toNat l) ((Int.toNat l)+1),(0,n))]) λ_=>A.ln i λc=>A.loop (λd e f=>A.k6 e λe=>A.cd .lss e c (A.ix 3 i e 3 f λc=>A.FD c λc g i=>A.fp 7 (.pointer (some ⟨a,0,none⟩)) λj=>A.lv j f λk=>A.ka (.fn (E7 cc 71 false (.int .i64 0) (.map (some b)) (.agg ⟨[.int .i64 c,.int .i64 g,.int .u8 i]⟩) false)) f λl=>A.Dx l λl=>A.fp 7 (.pointer (some ⟨a,0,none⟩)) λa=>A.lv a f λm=>A.ka (.fn (E7 cc 71 false (.int .i64 0) (.map (some b)) (.agg ⟨[.int .i64 c,.int .i64 g,.int .u8 i]⟩) false)) f λc=>A.Dx c λc=>A.h_ (A2 1 m c) λc=>A.lv c f λg=>A.new (.cells [.int .i64 e] 1 true) f λf i=>A.av 1 8 g (.slice (some ⟨f,0,some 11⟩) 1 2) i λi m=>A.h_ (A2 1 k l) λk=>A.heap (.st k [i]) m λ_ k=>A.h_ (Sx.Di [(.slice (some ⟨f,0,some 11⟩) 1 2,(0,j)),(.slice (some ⟨f,0,some 11⟩) 1 2,(0,.map (some b))),(.slice (some ⟨f,0,some 11⟩) 1 2,(0,a)),(.slice (some ⟨f,0,some 11⟩) 1 2,(0,.map (some b))),(.slice (some ⟨f,0,some 11⟩) 1 2,(0,c)),(g,(0,j)),(i,(0,j)),(g,(0,.map (some b))),(i,(0,.map (some b)))]) λ_=>A.pa e 1 λa=>d [.i a] k) (A.fp 7 (.pointer (some ⟨a,0,none⟩)) λb=>A.lv b f λb=>A.ln b λc=>A.loop (λd e f=>A.k6 e λe=>A.cd .lss e c (A.ix 1 b e 1 f λb=>A.BM b λb c=>A.k_ b (A.ts c (A.ln b λc=>A.loop (λf g i=>A.k6 g λg=>A.cd .lss g c (A.ix 1 b g 1 i λc=>A.Dx c λc=>A.h_ (Et 1 b none (some g) none) λb=>A.k_ b (A.ln b λd=>A.loop (λe i j=>A.k6 i λi=>A.cd .lss i d (A.ix 1 b i 1 j λb=>A.Dx b λb=>A.fp 10 (.pointer (some ⟨a,0,none⟩)) λd=>A.lv d j λd=>A.fp 11 (.pointer (some ⟨a,0,none⟩)) λf=>A.lv f j λf=>A.ln f λf=>A.heap (.fn (FH cc 153 d (.agg ⟨[.int .i64 b,.int .i64 c]⟩) (.int .i64 f))) j λ_ b=>A.fp 11 (.pointer (some ⟨a,0,none⟩)) λc=>A.lv c b λd=>A.fp 11 (.pointer (some ⟨a,0,none⟩)) λf=>A.lv f b λf=>A.ln f λf=>A.new (.cells [.int .i64 f,.bool false] 2 true) b λb f=>A.av 2 16 d (.slice (some ⟨b,0,some 12⟩) 1 2) f λd f=>A.fp 11 (.pointer (some ⟨a,0,none⟩)) λa=>A.heap (.st a [d]) f λ_ a=>A.h_ (Sx.Di [(.slice (some ⟨b,0,some 12⟩) 1 2,(0,c))]) λ_=>A.pa i 1 λb=>e [.i b] a) (A.pa g 1 λa=>f [.i a] j)) [.i 0] i)) (A.pa e 1 λa=>d [.i a] i)) [.i 0] f))) (A.fp 11 (.pointer (some ⟨a,0,none⟩)) λb=>A.lv b f λb=>A.ln b λb=>A.h_ (DS b b) λ_=>A.new (.cells (aN [.int .i64 0] (Int.toNat b)) 1 true) f λc d=>A.fp 12 (.pointer (some ⟨a,0,none⟩)) λe=>A.heap (.st e [.slice (some ⟨c,0,some 11⟩) (Int.toNat b) ((Int.toNat b)+1)]) d λ_ b=>A.c2 70 [.v (.pointer (some ⟨a,0,none⟩)),.v i] b λb c d=>A.ln c λe=>A.loop (λb f g=>A.k6 f λf=>A.cd .lss f e (A.ix 1 c f 1 g λc=>A.BM c λc d=>A.k_ c (A.ts d (A.call 71 [.v (.pointer (some ⟨a,0,none⟩)),.v c] g λa c=>A.u4 a (A.pa f 1 λa=>b [.i a] c)))) (K [.v (.pointer (some ⟨a,0,none⟩)),.i d] g)) [.i 0] b)) [.i 0] f)) [.i 0] m)) [.i 0] d))) [.i 0] c))
def f30:R:=A.k0 ls λa=>A.new (.cells [a] 1 true) h λa b=>A.k_ (.func (.func 72) ⟨[]⟩ ⟨[.pointer (some ⟨a,0,none⟩)]⟩) (K [.v (.func (.func 72) ⟨[]⟩ ⟨[.pointer (some ⟨a,0,none⟩)]⟩)] b)
def f31:R:=A.k0 ls λa=>A.ln a λb=>A.ln a λc=>A.h_ (Et 7 a none (some b) (some c)) λa=>A.k_ a (K [.v a] h)
def f32:R:=A.k5 ls λa b=>A.cd .lss a 1 (K [.i 1] h) (A.cd .lss b 1 (K [.i 1] h) (A.cd .gtr a 256 (K [.i 1] h) (A.cd .gtr b 256 (K [.i 1] h) (A.pm a b λa=>A.cd .gtr a 256 (K [.i 1] h) (K [.i 0] h)))))
def f33:R:=A.Ck ls λa b=>A.k0 b λb=>A.c6 77 [.v a,.v b] h λa b=>A.cmp .geq b 0 λb=>K [.b b] a
def f34:R:=A.k4 ls λ_ _ a=>A.c3 35 [.i a] h λa b=>K [.b (!b)] a
def f35:R:=A.k6 ls λa=>A.join (λa b=>A.k3 a λa=>K [.b a] b) λb=>A.cd .geq a 1 (A.cmp .leq a 3 λa=>b [.b a] h) (b [.b false] h)
def f36:R:=A.FE ls λa b c d=>A.c5 78 [.i a,.i b,.i c,.i d] h λa b e=>A.cd .neq e 0 (K [.i 0,.i 0,.i e] a) (A.cmp .lss b c λe=>A.FO e b c λb=>K [.i b,.i d,.i 0] a)
def f37:R:=A.k4 ls λa b _=>K [.i a,.i b] h
def X0:R:=A.FE ls λa b c d=>A.cd .neq a c (A.ps a c λa=>K [.i a] h) (A.ci b λa=>A.ci d λb=>A.ps a b λa=>K [.i a] h)
def f40:R:=A.k4 ls λa b c=>A.c6 32 [.i a,.i b] h λd e=>A.cd .neq e 0 (K [.i 0,.i 0,.i 0,.i e] d) (A.c3 79 [.i a,.i b,.i c] d λd e=>A.cond (!e) (K [.i 0,.i 0,.i 0,.i 7] d) (A.c4 80 [.i a,.i b,.i c] d λa b c d=>K [.i b,.i c,.i d,.i 0] a))
def f41:R:=A.oo ls λa b=>A.FE b λb c d e=>A.c6 32 [.i a,.i b] h λf g=>A.cd .neq g 0 (K [.i 0,.i g] f) (A.c6 81 [.i c,.i d,.i e] f λf g=>A.cd .neq g 0 (K [.i 0,.i 7] f) (A.cd .lss c 0 (K [.i 0,.i 7] f) (A.cd .geq c a (K [.i 0,.i 7] f) (A.cd .lss d 0 (K [.i 0,.i 7] f) (A.cd .geq d b (K [.i 0,.i 7] f) (A.pm d a λa=>A.pa a c λa=>A.pm 4 a λa=>A.ci e λb=>A.pa a b λa=>K [.i a,.i 0] f))))))
def f44:R:=A.k5 ls λa b=>A.loop (λc d e=>A.oo d λd f=>A.k7 f λf g i j k l m=>A.pm 4 a λa=>A.pm a b λa=>A.cd .lss d a (A.c4 25 [.i f,.i g,.i d] e λa b e n=>A.new (.cells [.int .i64 d] 1 true) a λa o=>A.new (.cells [.int .i64 b,.int .i64 e,.int .u8 n,.slice (some ⟨a,0,some 11⟩) 1 2] 4 true) o λa b=>A.av 4 48 m (.slice (some ⟨a,0,some 14⟩) 1 2) b λa b=>A.pa d 1 λd=>c [.i d,.i f,.i g,.v i,.i j,.i k,.i l,.v a] b) (K [.i f,.i g,.v i,.i j,.i k,.i l,.v m] e)) [.i 0,.i a,.i b,.v (.slice none 0 0),.i 0,.i 0,.i 0,.v (.slice none 0 0)] h
def f45:R:=A.k7 ls λa b c d e f g=>A.c0 84 [.i a,.i b,.v c,.i d,.i e,.i f,.v g] h λa b=>A.loop (λa c d=>A.k2 c λc e=>A.ln b λf=>A.cd .lss e f (A.fx 4 b e 2 2 d λb=>A.rv .u8 b λb f=>A.Dx f λf=>A.join (λd g=>A.k6 d λd=>A.ln c λi=>A.cd .eql d i (A.new (.cells [] 2 true) g λg i=>A.h_ (Et 2 c none (some d) none) λj=>A.k_ j (A.av 2 16 (.slice (some ⟨g,0,some 12⟩) 0 1) j i λi k=>A.new (.cells [.int .u8 b,.int .i64 f] 2 true) k λb f=>A.av 2 16 i (.slice (some ⟨b,0,some 12⟩) 1 2) f λf k=>A.h_ (Et 2 c (some d) none none) λd=>A.k_ d (A.av 2 16 f d k λd k=>A.h_ (Sx.Di [(.slice (some ⟨g,0,some 12⟩) 0 1,(1,c)),(.slice (some ⟨g,0,some 12⟩) 0 1,(0,.slice (some ⟨b,0,some 12⟩) 1 2)),(.slice (some ⟨b,0,some 12⟩) 1 2,(1,c)),(.slice (some ⟨g,0,some 12⟩) 0 1,(0,.slice (some ⟨b,0,some 12⟩) 1 2)),(i,(0,.slice (some ⟨b,0,some 12⟩) 1 2)),(.slice (some ⟨b,0,some 12⟩) 1 2,(0,.slice (some ⟨g,0,some 12⟩) 0 1)),(.slice (some ⟨b,0,some 12⟩) 1 2,(0,j)),(.slice (some ⟨g,0,some 12⟩) 0 1,(1,c)),(.slice (some ⟨g,0,some 12⟩) 0 1,(1,c)),(i,(1,c)),(.slice (some ⟨b,0,some 12⟩) 1 2,(1,c)),(i,(1,c)),(f,(1,c))]) λ_=>A.pa e 1 λb=>a [.v d,.i b] k))) (A.ix 2 c d 2 g λi=>A.rv .u8 i λi j=>A.Dx j λj=>A.eqs [(.i i,.i b),(.i j,.i f)] λi=>A.join (λb c=>A.k0 b λb=>A.pa e 1 λd=>a [.v b,.i d] c) λa=>A.cond (!i) (A.new (.cells [] 2 true) g λe g=>A.h_ (Et 2 c none (some d) none) λi=>A.k_ i (A.av 2 16 (.slice (some ⟨e,0,some 12⟩) 0 1) i g λg j=>A.new (.cells [.int .u8 b,.int .i64 f] 2 true) j λb f=>A.av 2 16 g (.slice (some ⟨b,0,some 12⟩) 1 2) f λf j=>A.h_ (Et 2 c (some d) none none) λd=>A.k_ d (A.av 2 16 f d j λd j=>A.h_ (Sx.Di [(.slice (some ⟨e,0,some 12⟩) 0 1,(1,c)),(.slice (some ⟨e,0,some 12⟩) 0 1,(0,.slice (some ⟨b,0,some 12⟩) 1 2)),(.slice (some ⟨b,0,some 12⟩) 1 2,(1,c)),(.slice (some ⟨e,0,some 12⟩) 0 1,(0,.slice (some ⟨b,0,some 12⟩) 1 2)),(g,(0,.slice (some ⟨b,0,some 12⟩) 1 2)),(.slice (some ⟨b,0,some 12⟩) 1 2,(0,.slice (some ⟨e,0,some 12⟩) 0 1)),(.slice (some ⟨b,0,some 12⟩) 1 2,(0,i)),(.slice (some ⟨e,0,some 12⟩) 0 1,(1,c)),(.slice (some ⟨e,0,some 12⟩) 0 1,(1,c)),(g,(1,c)),(.slice (some ⟨b,0,some 12⟩) 1 2,(1,c)),(g,(1,c)),(f,(1,c))]) λ_=>a [.v d] j))) (a [.v c] g))) λa=>A.loop (λd e g=>A.k6 e λe=>A.ln c λi=>A.cd .lss e i (A.fx 2 c e 0 1 g λi=>A.k8 i λi=>A.cd .lss i b (A.pa e 1 λa=>d [.i a] g) (A.fx 2 c e 0 1 g λi=>A.k8 i λi=>A.cd .eql i b (A.fx 2 c e 1 1 g λb=>A.Dx b λb=>A.cmp .lss b f λb=>A.join (λa b=>A.u4 a (A.pa e 1 λa=>d [.i a] b)) λc=>A.cond b (c [] g) (a [.i e] g)) (a [.i e] g))) (a [.i e] g)) [.i 0] d) (K [.v c] d)) [.v (.slice none 0 0),.i 0] a
def f46:R:=A.oo ls λa b=>A.oo b λb c=>A.Ck c λc d=>A.oo d λd e=>A.oo e λe f=>A.oo f λf g=>A.Ck g λg i=>A.oo i λi j=>A.oo j λj k=>A.NC k λk l=>A.c4 85 [.i i,.i j] h λm n o p=>A.new (.cells [] 3 true) m λm q=>A.av 3 16 (.slice (some ⟨m,0,some 13⟩) 0 1) c q λm q=>A.loop (λm q r=>A.Ck q λq s=>A.Ck s λs t=>A.oo t λt u=>A.k7 u λu v w x y z B=>A.ln g λC=>A.cd .lss t C (A.join (λa b=>A.Ck a λa c=>A.Ck c λc d=>A.k7 d λd e f g i j k=>A.pa t 1 λl=>m [.v a,.v c,.i l,.i d,.i e,.v f,.i g,.i i,.i j,.v k] b) λa=>A.ix 4 g t 4 r λb=>A.rv .i64 b λb c=>A.rv .i64 c λc g=>A.rv .u8 g λg l=>A.BM l λl m=>A.k_ l (A.ts m (A.c6 86 [.i i,.i j,.i b,.i c,.i g] r λi j=>A.cd .neq j k (A.new (.cells [] 1 true) i λd e=>A.av 1 8 (.slice (some ⟨d,0,some 11⟩) 0 1) l e λd e=>A.new (.cells [.int .i64 b,.int .i64 c,.int .u8 g,d] 4 true) e λb c=>A.av 4 48 q (.slice (some ⟨b,0,some 14⟩) 1 2) c λb c=>a [.v b,.v s,.i u,.i v,.v w,.i x,.i y,.i z,.v B] c) (A.ln l λj=>A.ps j 1 λj=>A.loop (λi j k=>A.Ck j λj m=>A.oo m λm r=>A.k7 r λr t u v w x y=>A.cd .geq m 0 (A.ix 1 l m 1 k λa=>A.Dx a λa=>A.new (.cells [.int .i64 a] 1 true) k λa b=>A.av 1 8 j (.slice (some ⟨a,0,some 11⟩) 1 2) b λa b=>A.ix 1 l m 1 b λc=>A.Dx c λc=>A.cmp .eql c 0 λc=>A.join (λb c=>A.k7 b λb d e f g j k=>A.ps m 1 λl=>i [.v a,.i l,.i b,.i d,.v e,.i f,.i g,.i j,.v k] c) λa=>A.cond c (A.c4 62 [.i d,.i e,.i f,.i n,.i o,.i p] b λb c d e=>a [.i r,.i t,.v u,.i c,.i d,.i e,.v y] b) (a [.i r,.i t,.v u,.i v,.i w,.i x,.v y] b)) (A.c4 24 [.i n,.i o,.i p,.i b,.i c,.i g] k λb c d e=>A.new (.cells [.int .i64 c,.int .i64 d,.int .u8 e,j] 4 true) b λb c=>A.av 4 48 s (.slice (some ⟨b,0,some 14⟩) 1 2) c λb c=>a [.v q,.v b,.i r,.i t,.v u,.i v,.i w,.i x,.v y] c)) [.v (.slice none 0 0),.i j,.i u,.i v,.v w,.i x,.i y,.i z,.v B] i)))) (A.loop (λk m n=>A.k2 m λm o=>A.ln s λp=>A.cd .lss o p (A.join (λa b=>A.k3 a λa=>A.join (λa b=>A.k0 a λa=>A.pa o 1 λc=>k [.v a,.i c] b) λc=>A.cond (!a) (A.ix 4 s o 4 b λa=>A.rv .i64 a λa d=>A.rv .i64 d λd e=>A.rv .u8 e λe f=>A.BM f λf g=>A.k_ f (A.ts g (A.new (.cells [.int .i64 a,.int .i64 d,.int .u8 e,f] 4 true) b λa b=>A.av 4 48 m (.slice (some ⟨a,0,some 14⟩) 1 2) b λa b=>c [.v a] b))) (c [.v m] b)) λa=>A.loop (λb c d=>A.D7 c λc e=>A.k6 e λe=>A.ln m λf=>A.cd .lss e f (A.cond (!c) (A.join (λa c=>A.k3 a λa=>A.pa e 1 λd=>b [.b a,.i d] c) λa=>A.fx 4 m e 0 3 d λb=>A.FD b λb f g=>A.fx 4 s o 0 3 d λi=>A.FD i λi j k=>A.eqs [(.i b,.i i),(.i f,.i j),(.i g,.i k)] λb=>A.cond (!b) (a [.b c] d) (A.join (λb c=>A.u4 b (a [.b true] c)) λa=>A.cond l (A.fx 4 m e 3 1 d λb=>A.BM b λb c=>A.k_ b (A.ts c (A.fx 4 s o 3 1 d λc=>A.BM c λc f=>A.k_ c (A.ts f (A.av 1 8 b c d λb c=>A.h_ (A2 4 m e) λd=>A.h_ (Dg 3 d) λd=>A.k_ d (A.heap (.st d [b]) c λ_ b=>a [] b)))))) (A.new (.cells [] 1 true) d λb c=>A.h_ (A2 4 s o) λd=>A.h_ (Dg 3 d) λd=>A.k_ d (A.lv d c λf=>A.av 1 8 (.slice (some ⟨b,0,some 11⟩) 0 1) f c λc f=>A.h_ (A2 4 m e) λg=>A.h_ (Dg 3 g) λg=>A.k_ g (A.lv g f λi=>A.av 1 8 c i f λf i=>A.h_ (A2 4 m e) λe=>A.h_ (Dg 3 e) λe=>A.k_ e (A.heap (.st e [f]) i λ_ e=>A.h_ (Sx.Di [(.slice (some ⟨b,0,some 11⟩) 0 1,(0,d)),(.slice (some ⟨b,0,some 11⟩) 0 1,(0,g)),(.slice (some ⟨b,0,some 11⟩) 0 1,(0,g)),(c,(0,g))]) λ_=>a [] e)))))) (a [.b c] d)) (a [.b c] d)) [.b false,.i 0] n) (A.c0 26 [.v m] n λk m=>A.c2 23 [.i a,.i b,.v c,.i d,.i e,.i f] k λk n _=>A.c0 84 [.i a,.i b,.v c,.i d,.i e,.i f,.v g] k λc d=>A.loop (λc e f=>A.oo e λe g=>A.k7 g λg k m o p q r=>A.ln d λs=>A.cd .lss e s (A.join (λa b=>A.k7 a λa d f g i j k=>A.pa e 1 λe=>c [.i e,.i a,.i d,.v f,.i g,.i i,.i j,.v k] b) λc=>A.fx 4 d e 2 2 f λs=>A.rv .u8 s λs t=>A.Dx t λt=>A.eqs [(.i s,.i i),(.i t,.i j)] λi=>A.cond (!i) (c [.i g,.i k,.v m,.i o,.i p,.i q,.v r] f) (A.fx 4 d e 0 1 f λi=>A.Dx i λi=>A.fx 3 n i 0 1 f λi=>A.k8 i λi=>A.cmp .lss i 4 λi=>A.eqs [(.b i,.b l)] λi=>A.join (λf i=>A.k6 f λf=>A.fx 4 d e 0 1 i λj=>A.Dx j λj=>A.fx 4 d e 0 1 i λl=>A.Dx l λl=>A.fx 4 d e 1 1 i λd=>A.Dx d λd=>A.c6 87 [.i a,.i b,.i l,.i d] i λa b=>A.new (.cells [.int .i64 j,.int .u8 b,.int .u8 f] 3 true) a λa b=>A.av 3 16 m (.slice (some ⟨a,0,some 13⟩) 1 2) b λa b=>c [.i g,.i k,.v a,.i o,.i p,.i q,.v r] b) λa=>A.cond (!i) (a [.i 1] f) (a [.i 2] f))) (A.c0 88 [.v m] f λa b=>K [.i g,.i k,.v b,.i o,.i p,.i q,.v r] a)) [.i 0,.i u,.i v,.v w,.i x,.i y,.i z,.v m] c)) [.v q,.i 0] r)) [.v (.slice none 0 0),.v (.slice none 0 0),.i 0,.i a,.i b,.v m,.i d,.i e,.i f,.v (.slice none 0 0)] q
def f48:R:=A.k1 ls λa b c=>A.pm 12 a λd=>A.pm d b λd=>A.h_ (DS d d) λ_=>A.new (.cells (aN [.int .u8 0] (Int.toNat d)) 1 true) h λe f=>A.loop (λf g i=>A.k6 g λg=>A.ln c λj=>A.cd .lss g j (A.ix 3 c g 3 i λc=>A.MH c λc j k=>A.loop (λi l m=>A.k6 l λl=>A.cd .lss l 3 (A.join (λa b=>A.u4 a (A.pa l 1 λa=>i [.i a] b)) λf=>A.c6 61 [.i a,.i b,.i c,.i l] m λg i=>A.cd .lss i 0 (f [] g) (A.c6 90 [.i a,.i b,.i c,.i l] g λg m=>A.ci j λj=>A.cd .neq m j (f [] g) (A.pm 3 c λj=>A.pa j l λj=>A.h_ (A2 1 (.slice (some ⟨e,0,some 11⟩) (Int.toNat d) ((Int.toNat d)+1)) j) λj=>A.heap (.st j [.int .u8 k]) g λ_ g=>A.loop (λg j l=>A.k6 j λj=>A.cd .lss j 3 (A.c6 61 [.i a,.i b,.i i,.i j] l λa b=>A.cmp .eql b c λb=>A.join (λa b=>A.u4 a (A.pa j 1 λa=>g [.i a] b)) λc=>A.cond b (A.pm 3 i λb=>A.pa b j λb=>A.h_ (A2 1 (.slice (some ⟨e,0,some 11⟩) (Int.toNat d) ((Int.toNat d)+1)) b) λb=>A.heap (.st b [.int .u8 k]) a λ_ a=>c [] a) (c [] a)) (f [] l)) [.i 0] g))) (A.pa g 1 λa=>f [.i a] m)) [.i 0] i) (K [.v (.slice (some ⟨e,0,some 11⟩) (Int.toNat d) ((Int.toNat d)+1))] i)) [.i 0] f
def f49:R:=A.FE ls λa b c d=>A.cd .eql d 0 (A.cd .eql c 0 (A.ps b 1 λb=>K [.i a,.i b,.i 2] h) (A.cd .eql c 1 (A.pa a 1 λa=>K [.i a,.i b,.i 3] h) (A.cd .eql c 2 (A.pa b 1 λb=>K [.i a,.i b,.i 0] h) (A.ps a 1 λa=>K [.i a,.i b,.i 1] h)))) (A.cd .eql d 1 (A.w7 .add .u8 c 1 λc=>A.w7 .rem .u8 c 4 λc=>K [.i a,.i b,.i c] h) (A.w7 .add .u8 c 3 λc=>A.w7 .rem .u8 c 4 λc=>K [.i a,.i b,.i c] h))
def f58:R:=A.IZ ls λa b c d e f=>A.ci c λc=>A.ci f λf=>A.new (.cells [.int .i64 b,.int .i64 e,.int .i64 a,.int .i64 d,.int .i64 c,.int .i64 f] 2 true) h λa b=>A.c6 93 [.v (.slice (some ⟨a,0,some 12⟩) 3 4)] b λa b=>K [.i b] a
def f61:R:=A.FE ls λa b c d=>A.c4 25 [.i a,.i b,.i c] h λc e f g=>A.c4 49 [.i e,.i f,.i g,.i d] c λc d e f=>A.cd .lss d 0 (K [.i (-1)] c) (A.cd .lss e 0 (K [.i (-1)] c) (A.cd .geq d a (K [.i (-1)] c) (A.cd .geq e b (K [.i (-1)] c) (A.pm e a λa=>A.pa a d λa=>A.pm 4 a λa=>A.ci f λb=>A.pa a b λa=>K [.i a] c))))
def f62:R:=A.IZ ls λa b c d e f=>A.c5 65 [.i a,.i b,.i c,.i 0,.i 0] h λg i j=>A.c5 65 [.i d,.i e,.i f,.i i,.i j] g λg i j=>A.c5 65 [.i a,.i b,.i c,.i 6,.i 0] g λg k l=>A.c5 65 [.i d,.i e,.i f,.i k,.i l] g λg k l=>A.c5 65 [.i a,.i b,.i c,.i 0,.i 6] g λa b c=>A.c5 65 [.i d,.i e,.i f,.i b,.i c] a λa b c=>A.loop (λa d e=>A.k6 d λd=>A.cd .lss d 8 (A.c6 98 [.i i,.i 6] e λe f=>A.c6 98 [.i j,.i 6] e λe g=>A.c5 65 [.i d,.i f,.i g,.i 6,.i 0] e λe i j=>A.eqs [(.i i,.i k),(.i j,.i l)] λi=>A.cond i (A.c5 65 [.i d,.i f,.i g,.i 0,.i 6] e λe i j=>A.eqs [(.i i,.i b),(.i j,.i c)] λb=>A.join (λb c=>A.u4 b (A.w7 .add .u8 d 1 λb=>a [.i b] c)) λa=>A.cond b (K [.i d,.i f,.i g] e) (a [] e)) (A.w7 .add .u8 d 1 λb=>a [.i b] e)) (K [.i 0,.i 0,.i 0] e)) [.i 0] a
def f63:R:=A.IZ ls λa b c d e f=>A.cd .neq a d (A.c6 99 [.i a,.i d] h λa b=>A.pm 2 b λb=>K [.i 4,.i b,.i 0] a) (A.cd .neq b e (A.c6 99 [.i b,.i e] h λa b=>A.pm 2 b λb=>K [.i 6,.i 0,.i b] a) (A.w7 .add .u8 c f λd=>A.cd .eql d 1 (A.pa a b λc=>A.pa c 1 λc=>A.pa a b λa=>A.pa a 1 λa=>K [.i 5,.i c,.i a] h) (A.w7 .add .u8 c f λc=>A.cd .eql c 5 (A.pa a b λc=>A.pa c 1 λc=>A.pa a b λa=>A.pa a 1 λa=>K [.i 5,.i c,.i a] h) (A.ps a b λc=>A.ps b a λa=>K [.i 7,.i c,.i a] h))))
def f64:R:=A.k5 ls λa b=>A.c6 98 [.i a,.i 6] h λc d=>A.c6 98 [.i b,.i 6] c λc e=>A.pm 6 d λf=>A.ps a f λa=>A.pm 6 e λf=>A.ps b f λb=>A.cd .lss b a (A.pa a b λf=>A.cmp .lss f 6 λf=>A.join (λa b=>A.k4 a λa c d=>K [.i a,.i c,.i d] b) λg=>A.cond f (g [.i d,.i e,.i 0] c) (A.cmp .lss b a λf=>A.join (λa b=>A.k4 a λa c d=>g [.i a,.i c,.i d] b) λg=>A.cond f (g [.i d,.i e,.i 1] c) (A.pa a b λa=>A.cmp .gtr a 6 λa=>A.join (λa b=>A.k4 a λa c d=>g [.i a,.i c,.i d] b) λb=>A.cond a (b [.i d,.i e,.i 2] c) (b [.i d,.i e,.i 3] c)))) (A.cmp .lss b a λf=>A.join (λa b=>A.k4 a λa c d=>K [.i a,.i c,.i d] b) λg=>A.cond f (g [.i d,.i e,.i 1] c) (A.pa a b λa=>A.cmp .gtr a 6 λa=>A.join (λa b=>A.k4 a λa c d=>g [.i a,.i c,.i d] b) λb=>A.cond a (b [.i d,.i e,.i 2] c) (b [.i d,.i e,.i 3] c)))
def f65:R:=A.oo ls λa b=>A.FE b λb c d e=>A.cmp .geq a 4 λf=>A.join (λd f=>A.k6 d λd=>A.loop (λd e f=>A.k4 e λe g i=>A.w7 .rem .u8 a 4 λa=>A.ci a λa=>A.cd .lss i a (A.ps 0 g λa=>A.pa i 1 λb=>d [.i a,.i e,.i b] f) (A.pm 6 b λa=>A.pa e a λa=>A.pm 6 c λb=>A.pa g b λb=>K [.i a,.i b] f)) [.i d,.i e,.i 0] f) λa=>A.cond f (A.ps 0 d λb=>a [.i b] h) (a [.i d] h)
def f66:R:=A.k4 ls λa b c=>A.call 100 [.i a,.i b,.i c] h λa b=>A.IZ a λa c d e f g=>A.pa a d λa=>A.pa a f λa=>A.pq a 3 λa=>A.pa c e λc=>A.pa c g λc=>A.pq c 3 λc=>K [.i a,.i c] b
def f67:R:=A.IZ ls λa b c d e f=>A.cd .gtr b e (K [.i 1] h) (A.cd .eql b e (A.cd .gtr a d (K [.i 1] h) (A.cd .eql a d (A.cmp .gtr c f λa=>A.join (λa b=>A.u4 a (K [.i 0] b)) λb=>A.cond a (K [.i 1] h) (b [] h)) (K [.i 0] h))) (K [.i 0] h))
def f68:R:=A.oo ls λa b=>A.oo b λb c=>A.Ck c λc d=>A.k4 d λd e f=>A.call 101 [.i a,.i b,.v c,.i d,.i e,.i f] h λa b=>A.Ck a λ_ a=>A.k2 a λa c=>K [.v a,.i c] b
def f69:R:=A.Ck ls λa b=>A.k0 b λb=>A.ln a λc=>A.conv .u64 c λd=>A.c6 83 [.i d] h λd e=>A.call 102 [.v a,.i 0,.i c,.i e,.v b] d λa b=>A.u4 a (K [] b)
def f70:R:=A.Ck ls λa b=>A.k0 b λb=>A.new (.map [] 0) h λc d=>A.fp 0 a λe=>A.ka (.lg cc 3 e) d λe=>A.rv .i64 e λe f=>A.rv .i64 f λf g=>A.BM g λg i=>A.k_ g (A.ts i (A.fp 3 a λi=>A.ka (.lg cc 3 i) d λi=>A.k9 i λi j k=>A.c2 103 [.i e,.i f,.v g,.i i,.i j,.i k] d λd e _=>A.ln b λf=>A.loop (λd g i=>A.k2 g λg j=>A.cd .lss j f (A.fp 0 a λf=>A.h_ (Dg 0 f) λf=>A.k_ f (A.ka (.lg cc 2 f) i λf=>A.G2 f λf k=>A.JU 40 [.i f,.i k,.i j] i λf i k l _=>A.loop (λf g m=>A.k2 g λg n=>A.cd .lss n 3 (A.join (λa b=>A.k0 a λa=>A.w7 .add .u8 n 1 λc=>f [.v a,.i c] b) λd=>A.JU 104 [.i i,.i k,.i l,.i n] m λf i k l _=>A.ix 3 b j 3 f λb=>A.FD b λb m o=>A.ix 3 e j 3 f λp=>A.k9 p λp q r=>A.JU 105 [.i p,.i q,.i r,.i i,.i k,.i l] f λf i k l p=>A.cd .neq p 0 (K [.v (.slice none 0 0),.i 3] f) (A.c6 58 [.i b,.i m,.i o,.i i,.i k,.i l] f λf p=>A.cmp .gtr p 0 λp=>A.join (λb f=>A.oo b λb i=>A.IZ i λi k l m o p=>A.ka (.fn (E7 cc 198 false (.pointer none) (.map (some c)) (.agg ⟨[.int .i64 i,.int .i64 k,.int .u8 l,.int .i64 m,.int .i64 o,.int .u8 p]⟩) false)) f λq=>A.BM q λq r=>A.k_ q (A.ts r (A.h_ (lh 4 q (.pointer none)) λr=>A.join (λc f=>A.Ck c λc g=>A.k0 g λg=>A.fp 0 a λi=>A.h_ (Dg 0 i) λi=>A.k_ i (A.ka (.lg cc 2 i) f λi=>A.G2 i λi k=>A.c5 78 [.i i,.i k,.i j,.i n] f λf i k=>A.cd .neq k 0 (d [.v g] f) (A.cd .lss i j (d [.v g] f) (A.fp 0 a λk=>A.ka (.lg cc 3 k) f λk=>A.rv .i64 k λk l=>A.rv .i64 l λl m=>A.BM m λm o=>A.k_ m (A.ts o (A.c5 106 [.i k,.i l,.v m,.i j,.i n] f λf k _=>A.cd .eql k 0 (A.cmp .eql b 0 λl=>A.join (λa b=>A.u4 a (d [.v g] b)) λd=>A.cond l (A.fp 0 c λa=>A.lv a f λa=>A.new (.cells [.int .i64 j,.int .i64 i] 2 true) f λb e=>A.av 2 16 a (.slice (some ⟨b,0,some 12⟩) 1 2) e λa b=>A.fp 0 c λc=>A.heap (.st c [a]) b λ_ a=>d [] a) (A.cmp .eql k 0 λg=>A.join (λa b=>A.u4 a (d [] b)) λd=>A.cond g (A.fp 0 c λa=>A.lv a f λa=>A.new (.cells [.int .i64 i,.int .i64 j] 2 true) f λb e=>A.av 2 16 a (.slice (some ⟨b,0,some 12⟩) 1 2) e λa b=>A.fp 0 c λc=>A.heap (.st c [a]) b λ_ a=>d [] a) (A.fp 1 c λg=>A.h_ (Ph 2 1 g b) λg=>A.k_ g (A.lv g f λl=>A.new (.cells [.int .i64 j,.int .i64 i] 2 true) f λf m=>A.av 2 16 l (.slice (some ⟨f,0,some 12⟩) 1 2) m λl m=>A.fp 1 c λc=>A.h_ (Ph 2 1 c b) λb=>A.k_ b (A.heap (.st b [l]) m λ_ b=>A.h_ (Sx.Di [(.slice (some ⟨f,0,some 12⟩) 1 2,(0,g))]) λ_=>A.ix 3 e j 3 b λc=>A.k9 c λc e f=>A.c3 108 [.i c,.i e,.i f] b λb c=>A.call 107 [.v a,.i k,.i j,.i i,.b (!c)] b λa b=>A.u4 a (d [] b)))))) (A.cmp .eql k 0 λl=>A.join (λa b=>A.u4 a (d [.v g] b)) λd=>A.cond l (A.fp 0 c λa=>A.lv a f λa=>A.new (.cells [.int .i64 i,.int .i64 j] 2 true) f λb e=>A.av 2 16 a (.slice (some ⟨b,0,some 12⟩) 1 2) e λa b=>A.fp 0 c λc=>A.heap (.st c [a]) b λ_ a=>d [] a) (A.fp 1 c λg=>A.h_ (Ph 2 1 g b) λg=>A.k_ g (A.lv g f λl=>A.new (.cells [.int .i64 j,.int .i64 i] 2 true) f λf m=>A.av 2 16 l (.slice (some ⟨f,0,some 12⟩) 1 2) m λl m=>A.fp 1 c λc=>A.h_ (Ph 2 1 c b) λb=>A.k_ b (A.heap (.st b [l]) m λ_ b=>A.h_ (Sx.Di [(.slice (some ⟨f,0,some 12⟩) 1 2,(0,g))]) λ_=>A.ix 3 e j 3 b λc=>A.k9 c λc e f=>A.c3 108 [.i c,.i e,.i f] b λb c=>A.call 107 [.v a,.i k,.i j,.i i,.b (!c)] b λa b=>A.u4 a (d [] b))))))))))) λa=>A.cond r (A.new (.cells [.slice none 0 0,.slice none 0 0,.slice none 0 0] 3 true) f λb d=>A.heap (.fn (FH cc 198 (.map (some c)) (.agg ⟨[.int .i64 i,.int .i64 k,.int .u8 l,.int .i64 m,.int .i64 o,.int .u8 p]⟩) (.pointer (some ⟨b,0,none⟩)))) d λ_ c=>A.new (.cells [.pointer (some ⟨b,0,none⟩)] 1 true) c λc d=>A.av 1 8 g (.slice (some ⟨c,0,some 11⟩) 1 2) d λc d=>a [.v (.pointer (some ⟨b,0,none⟩)),.v c] d) (a [.v q,.v g] f)))) λa=>A.cond p (a [.i 1,.i i,.i k,.i l,.i b,.i m,.i o] f) (a [.i 0,.i b,.i m,.i o,.i i,.i k,.i l] f))) (A.pa j 1 λa=>d [.v g,.i a] m)) [.v g,.i 0] f)) (K [.v g,.i 0] i)) [.v (.slice none 0 0),.i 0] d))
def f71:R:=A.Ck ls λa b=>A.k0 b λb=>A.fp 0 b λc=>A.lv c h λc=>A.ln c λd=>A.loop (λe f g=>A.k6 f λf=>A.cd .lss f d (A.ix 2 c f 2 g λc=>A.G2 c λc d=>A.fp 0 b λi=>A.lv i g λi=>A.h_ (Et 2 i none (some f) none) λi=>A.k_ i (A.ln i λj=>A.loop (λg k l=>A.k6 k λk=>A.cd .lss k j (A.ix 2 i k 2 l λb=>A.G2 b λb e=>A.FX 110 [.v a,.i c,.i b] l λb c f=>A.FX 110 [.v a,.i d,.i e] b λb d e=>A.call 109 [.v a,.i c,.b f,.i d,.b e] b λa b=>A.u4 a (A.pa k 1 λa=>g [.i a] b)) (A.fp 1 b λb=>A.ka (.lg cc 2 b) l λb=>A.BM b λb g=>A.k_ b (A.BM g λg i=>A.k_ g (A.ts i (A.loop (λi j k=>A.k6 j λj=>A.cd .lss j 2 (A.h_ (EU 2 j) λ_=>A.h_ (jZ [.v b,.v g] 0 [(j,1)] 1) λb=>A.k0 b λb=>A.ln b λe=>A.loop (λf g k=>A.k6 g λg=>A.cd .lss g e (A.ix 2 b g 2 k λb=>A.G2 b λb e=>A.h_ (EU 2 j) λ_=>A.h_ (jZ [.i c,.i d] 0 [(j,1)] 1) λi=>A.k6 i λi=>A.FX 110 [.v a,.i i,.i b] k λb i k=>A.h_ (EU 2 j) λ_=>A.h_ (jZ [.i c,.i d] 0 [(j,1)] 1) λc=>A.k6 c λc=>A.FX 110 [.v a,.i c,.i e] b λb c d=>A.call 109 [.v a,.i i,.b k,.i c,.b d] b λa b=>A.u4 a (A.pa g 1 λa=>f [.i a] b)) (A.pa j 1 λa=>i [.i a] k)) [.i 0] k) (A.pa f 1 λa=>e [.i a] k)) [.i 0] l))))) [.i 0] g)) (A.fp 1 b λb=>A.ka (.lg cc 2 b) g λb=>A.BM b λb c=>A.k_ b (A.BM c λc d=>A.k_ c (A.ts d (A.loop (λd e f=>A.k6 e λe=>A.cd .lss e 2 (A.h_ (EU 2 e) λ_=>A.h_ (jZ [.v b,.v c] 0 [(e,1)] 1) λb=>A.k0 b λb=>A.ln b λc=>A.loop (λf g i=>A.k6 g λg=>A.cd .lss g c (A.ix 2 b g 2 i λc=>A.G2 c λc d=>A.h_ (Et 2 b none (some g) none) λb=>A.k_ b (A.ln b λe=>A.loop (λi j k=>A.k6 j λj=>A.cd .lss j e (A.ix 2 b j 2 k λb=>A.G2 b λb e=>A.fp 13 a λf=>A.lv f k λg=>A.FX 110 [.v a,.i c,.i b] k λk l m=>A.FX 110 [.v a,.i d,.i b] k λb k n=>A.FX 110 [.v a,.i c,.i e] b λb c o=>A.FX 110 [.v a,.i d,.i e] b λb d e=>A.new (.cells [.int .i64 l,.bool m,.int .i64 k,.bool n,.int .i64 c,.bool o,.int .i64 d,.bool e] 8 true) b λb c=>A.av 8 64 g (.slice (some ⟨b,0,some 18⟩) 1 2) c λb d=>A.fp 13 a λa=>A.heap (.st a [b]) d λ_ a=>A.lv f c λb=>A.h_ (Sx.OY g b) λ_=>A.pa j 1 λb=>i [.i b] a) (A.pa g 1 λa=>f [.i a] k)) [.i 0] i)) (A.pa e 1 λa=>d [.i a] i)) [.i 0] f) (K [] f)) [.i 0] g))))) [.i 0] h
def f72:R:=A.Ck ls λa b=>A.k0 b λb=>A.new (.cells [a] 1 true) h λa c=>A.new (.cells [.nilFunc] 1 true) c λc d=>A.k_ (.func (.func 73) ⟨[]⟩ ⟨[b,.pointer (some ⟨a,0,none⟩),.pointer (some ⟨c,0,none⟩)]⟩) (A.heap (.st (.pointer (some ⟨c,0,none⟩)) [.func (.func 73) ⟨[]⟩ ⟨[b,.pointer (some ⟨a,0,none⟩),.pointer (some ⟨c,0,none⟩)]⟩]) d λ_ a=>A.lv b a λb=>A.fp 14 b λb=>A.ka (.lg cc 1 b) a λb=>A.DV b λb d=>A.ts d (A.join (λa b=>A.u4 a (K [] b)) λd=>A.cond (!b) (A.lv (.pointer (some ⟨c,0,none⟩)) a λb=>A.A7 b [.int .i64 0] [.leaf .b] a λa b=>A.k3 a λ_=>d [] b) (d [] a)))
def f73:R:=A.oo ls λa b=>A.Ck b λb c=>A.Ck c λc d=>A.k0 d λd=>A.lv b h λe=>A.fp 6 e λe=>A.lv e h λe=>A.ln e λe=>A.cd .eql a e (A.lv c h λa=>A.lv b h λb=>A.call 74 [.v b] h λb d=>A.k7 b λb e f g i j k=>A.lv c d λc=>A.h_ (Sx.IP a c) λ_=>A.A7 a [.agg ⟨[.int .i64 b,.int .i64 e,f,.int .u8 g,.int .i64 i,.int .i64 j,k]⟩] [.leaf .b] d λa b=>A.k3 a λa=>K [.b a] b) (A.lv b h λc=>A.fp 8 c λc=>A.lv c h λc=>A.ix 1 c a 1 h λc=>A.BM c λc e=>A.k_ c (A.ts e (A.ln c λc=>A.lv b h λe=>A.fp 7 e λe=>A.lv e h λe=>A.ix 1 e a 1 h λe=>A.BM e λe f=>A.k_ e (A.ts f (A.ln e λe=>A.cd .eql c e (A.lv d h λb=>A.pa a 1 λa=>A.A7 b [.int .i64 a] [.leaf .b] h λa b=>A.k3 a λa=>K [.b a] b) (A.lv b h λc=>A.fp 7 c λc=>A.lv c h λc=>A.ix 1 c a 1 h λc=>A.BM c λc e=>A.k_ c (A.ts e (A.ln c λe=>A.loop (λf g i=>A.k6 g λg=>A.cd .lss g e (A.join (λa b=>A.u4 a (A.pa g 1 λa=>f [.i a] b)) λe=>A.ix 1 c g 1 i λc=>A.Dx c λc=>A.lv b i λf=>A.fp 9 f λf=>A.lv f i λf=>A.ix 1 f c 1 i λf=>A.DV f λf g=>A.ts g (A.cond f (e [] i) (A.new (.cells [.slice none 0 0] 1 true) i λf g=>A.join (λc d=>A.k3 c λc=>A.lv b d λb=>A.lv (.pointer (some ⟨f,0,none⟩)) d λf=>A.call 76 [.v b,.i a,.v f] d λa b=>A.u4 a (A.cond (!c) (K [.b false] b) (e [] b))) λe=>A.lv b g λb=>A.c3 75 [.v b,.i a,.i c,.v (.pointer (some ⟨f,0,none⟩))] g λb c=>A.cond (!c) (e [.b true] b) (A.lv d b λc=>A.A7 c [.int .i64 a] [.leaf .b] b λa b=>A.k3 a λa=>e [.b a] b)))) (K [.b true] i)) [.i 0] h))))))))
def f74:R:=A.k0 ls λa=>A.fp 0 a λb=>A.ka (.lg cc 3 b) h λb=>A.rv .i64 b λb c=>A.rv .i64 c λc d=>A.BM d λd e=>A.k_ d (A.ts e (A.c0 112 [.v d] h λd e=>A.c0 111 [.v e] d λd e=>A.fp 3 a λf=>A.ka (.lg cc 3 f) d λg=>A.k9 g λg i j=>A.fp 6 a λk=>A.lv k d λk=>A.ln k λk=>A.h_ (DS k k) λ_=>A.new (.cells (aN [.int .i64 0,.int .i64 0,.int .u8 0,.slice none 0 0] (Int.toNat k)) 4 true) d λd l=>A.h_ (Sx.Di [(.slice (some ⟨d,0,some 14⟩) (Int.toNat k) ((Int.toNat k)+1),(0,f))]) λ_=>A.fp 6 a λf=>A.lv f l λf=>A.ln f λm=>A.loop (λl n o=>A.k6 n λn=>A.cd .lss n m (A.ix 3 f n 3 o λb=>A.FD b λb c e=>A.fp 8 a λa=>A.lv a o λa=>A.ix 1 a n 1 o λa=>A.BM a λa f=>A.k_ a (A.ts f (A.c0 114 [.v a] o λa f=>A.c0 113 [.v f] a λa f=>A.h_ (A2 4 (.slice (some ⟨d,0,some 14⟩) (Int.toNat k) ((Int.toNat k)+1)) n) λd=>A.heap (.st d [.int .i64 b,.int .i64 c,.int .u8 e,f]) a λ_ a=>A.pa n 1 λb=>l [.i b] a))) (K [.i b,.i c,.v e,.i g,.i i,.i j,.v (.slice (some ⟨d,0,some 14⟩) (Int.toNat k) ((Int.toNat k)+1))] o)) [.i 0] l))
def f75:R:=A.k14 ls λa b c d=>A.fp 9 a λe=>A.lv e h λe=>A.h_ (A2 1 e c) λe=>A.heap (.st e [.bool true]) h λ_ e=>A.fp 8 a λf=>A.lv f e λg=>A.fp 8 a λi=>A.lv i e λj=>A.h_ (A2 1 j b) λj=>A.lv j e λk=>A.new (.cells [.int .i64 c] 1 true) e λe l=>A.av 1 8 k (.slice (some ⟨e,0,some 11⟩) 1 2) l λl m=>A.h_ (A2 1 g b) λg=>A.heap (.st g [l]) m λ_ g=>A.h_ (Sx.Di [(.slice (some ⟨e,0,some 11⟩) 1 2,(0,f)),(.slice (some ⟨e,0,some 11⟩) 1 2,(0,i)),(.slice (some ⟨e,0,some 11⟩) 1 2,(0,j)),(k,(0,f)),(l,(0,f))]) λ_=>A.fp 7 a λe=>A.lv e g λe=>A.ix 1 e b 1 g λb=>A.BM b λb e=>A.k_ b (A.ts e (A.ln b λe=>A.loop (λf g i=>A.k6 g λg=>A.cd .lss g e (A.ix 1 b g 1 i λb=>A.Dx b λb=>A.fp 9 a λe=>A.lv e i λe=>A.ix 1 e b 1 i λe=>A.DV e λe j=>A.ts j (A.cond (!e) (A.FX 110 [.v a,.i c,.i b] i λb c e=>A.c3 115 [.v a,.i c,.b e,.v d] b λa b=>A.join (λa b=>A.u4 a (A.pa g 1 λa=>f [.i a] b)) λc=>A.cond (!b) (K [.b false] a) (c [] a)) (A.pa g 1 λa=>f [.i a] i))) (A.c3 116 [.v a] i λa b=>K [.b b] a)) [.i 0] g))
def f76:R:=A.Ck ls λa b=>A.oo b λb c=>A.k0 c λc=>A.fp 8 a λd=>A.lv d h λd=>A.ix 1 d b 1 h λd=>A.BM d λd e=>A.k_ d (A.ts e (A.ln d λd=>A.ps d 1 λd=>A.fp 9 a λe=>A.lv e h λe=>A.fp 8 a λf=>A.lv f h λf=>A.ix 1 f b 1 h λf=>A.BM f λf g=>A.k_ f (A.ts g (A.ix 1 f d 1 h λf=>A.Dx f λf=>A.h_ (A2 1 e f) λe=>A.heap (.st e [.bool false]) h λ_ e=>A.fp 8 a λf=>A.lv f e λf=>A.fp 8 a λg=>A.lv g e λg=>A.ix 1 g b 1 e λg=>A.BM g λg i=>A.k_ g (A.ts i (A.h_ (Et 1 g none (some d) none) λd=>A.k_ d (A.h_ (A2 1 f b) λb=>A.heap (.st b [d]) e λ_ b=>A.ln c λd=>A.loop (λb e f=>A.k6 e λe=>A.cd .lss e d (A.ix 1 c e 1 f λc=>A.Dx c λc=>A.fp 12 a λa=>A.lv a f λa=>A.h_ (A2 1 a c) λa=>A.heap (.st a [.int .i64 0]) f λ_ a=>A.pa e 1 λc=>b [.i c] a) (K [] f)) [.i 0] b)))))))
def f77:R:=A.Ck ls λa b=>A.k0 b λb=>A.ln a λc=>A.loop (λd e f=>A.k6 e λe=>A.cd .lss e c (A.ix 3 a e 3 f λa=>A.MH a λa c g=>A.A7 b [.agg ⟨[.int .i64 a,.int .u8 c,.int .u8 g]⟩] [.leaf .b] f λa b=>A.k3 a λa=>A.cond a (K [.i e] b) (A.pa e 1 λa=>d [.i a] b)) (K [.i (-1)] f)) [.i 0] h
def f78:R:=A.FE ls λa b c d=>A.JU 40 [.i a,.i b,.i c] h λc e f g i=>A.cd .neq i 0 (K [.i 0,.i i] c) (A.JU 104 [.i e,.i f,.i g,.i d] c λc d e f g=>A.cd .neq g 0 (K [.i 0,.i 1] c) (A.c5 41 [.i a,.i b,.i d,.i e,.i f] c λa b c=>K [.i b,.i c] a))
def f79:R:=A.k4 ls λa b c=>A.join (λa b=>A.k3 a λa=>K [.b a] b) λd=>A.cd .geq c 0 (A.pm 4 a λa=>A.pm a b λa=>A.cmp .lss c a λa=>d [.b a] h) (d [.b false] h)
def f80:R:=A.k4 ls λa _ b=>A.pq b 4 λc=>A.pr c a λc=>A.pq b 4 λd=>A.pq d a λa=>A.pr b 4 λb=>A.conv .u8 b λb=>K [.i c,.i a,.i b] h
def ZJ:R:=A.k4 ls λa b c=>A.cd .lss a (-4096) (K [.i 1] h) (A.cd .gtr a 4096 (K [.i 1] h) (A.cd .lss b (-4096) (K [.i 1] h) (A.cd .gtr b 4096 (K [.i 1] h) (A.cd .gtr c 3 (K [.i 1] h) (K [.i 0] h)))))
def f83:R:=A.k6 ls λa=>A.c6 126 [.i a] h λa b=>K [.i b] a
def f84:R:=A.k7 ls λa b c d e f _=>A.c2 23 [.i a,.i b,.v c,.i d,.i e,.i f] h λd e _=>A.c0 48 [.i a,.i b,.v c] d λc d=>A.loop (λc f g=>A.k2 f λf i=>A.ln e λj=>A.cd .lss i j (A.loop (λf g j=>A.k2 g λg k=>A.cd .lss k 3 (A.join (λa b=>A.k0 a λa=>A.pa k 1 λc=>f [.v a,.i c] b) λc=>A.c6 61 [.i a,.i b,.i i,.i k] j λf j=>A.cd .lss j i (c [.v g] f) (A.pm 3 i λl=>A.pa l k λk=>A.ix 1 d k 1 f λd=>A.k8 d λd=>A.cd .neq d 0 (c [.v g] f) (A.ix 3 e i 3 f λd=>A.k9 d λd k l=>A.c4 25 [.i a,.i b,.i i] f λf m n o=>A.c4 24 [.i d,.i k,.i l,.i m,.i n,.i o] f λd f k l=>A.ix 3 e j 3 d λe=>A.k9 e λe m n=>A.c4 25 [.i a,.i b,.i j] d λa b d o=>A.c4 24 [.i e,.i m,.i n,.i b,.i d,.i o] a λa b d e=>A.c5 127 [.i f,.i k,.i l,.i b,.i d,.i e] a λa b d=>A.new (.cells [.int .i64 i,.int .i64 j,.int .u8 b,.int .i64 d] 4 true) a λa b=>A.av 4 32 g (.slice (some ⟨a,0,some 14⟩) 1 2) b λa b=>c [.v a] b))) (A.pa i 1 λa=>c [.v g,.i a] j)) [.v f,.i 0] g) (K [.v f] g)) [.v (.slice none 0 0),.i 0] c
def f85:R:=A.k5 ls λa b=>A.cd .eql a 1 (A.pm 2 b λa=>K [.i 4,.i a,.i 0] h) (A.cd .eql a 2 (A.pm 2 b λa=>K [.i 6,.i 0,.i a] h) (A.cd .eql a 3 (K [.i 5,.i b,.i b] h) (A.ps 0 b λa=>K [.i 7,.i a,.i b] h)))
def f86:R:=A.oo ls λa b=>A.FE b λb c d e=>A.c5 66 [.i c,.i d,.i e] h λc d e=>A.pa d e λf=>A.ps e d λg=>A.new (.cells [.int .i64 0,.int .i64 d,.int .i64 e,.int .i64 f,.int .i64 g] 1 true) c λc d=>A.h_ (A2 1 (.slice (some ⟨c,0,some 11⟩) 5 6) a) λa=>A.ka (.lg cc 1 a) d λa=>A.Dx a λa=>A.pm 6 b λb=>A.cd .lss a b (K [.i 0] d) (K [.i 1] d)
def f87:R:=A.FE ls λa b c d=>A.loop (λe f g=>A.k6 f λf=>A.cd .lss f 3 (A.c6 61 [.i a,.i b,.i c,.i f] g λa b=>A.cd .neq b d (A.pa f 1 λb=>e [.i b] a) (A.pr c 4 λb=>A.pr d 4 λe=>A.pa b e λb=>A.cd .eql b 1 (K [.i 1] a) (A.pr c 4 λb=>A.pr d 4 λc=>A.pa b c λb=>A.cd .eql b 5 (K [.i 1] a) (K [.i 2] a)))) (K [.i 0] g)) [.i 1] h
def f88:R:=A.k0 ls λa=>A.loop (λb c d=>A.k6 c λc=>A.ln a λe=>A.cd .lss c e (A.join (λa d=>A.u4 a (A.pa c 1 λa=>b [.i a] d)) λb=>A.loop (λc d e=>A.k6 d λd=>A.cd .gtr d 0 (A.ps d 1 λf=>A.fx 3 a f 0 1 e λf=>A.Dx f λf=>A.fx 3 a d 0 1 e λg=>A.Dx g λg=>A.cd .gtr f g (A.ps d 1 λb=>A.ix 3 a d 3 e λf=>A.MH f λf g i=>A.ps d 1 λj=>A.ix 3 a j 3 e λj=>A.MH j λj k l=>A.h_ (A2 3 a b) λb=>A.heap (.st b [.int .i64 f,.int .u8 g,.int .u8 i]) e λ_ b=>A.h_ (A2 3 a d) λa=>A.heap (.st a [.int .i64 j,.int .u8 k,.int .u8 l]) b λ_ a=>A.ps d 1 λb=>c [.i b] a) (A.ps d 1 λf=>A.fx 3 a f 0 1 e λf=>A.Dx f λf=>A.fx 3 a d 0 1 e λg=>A.Dx g λg=>A.cd .eql f g (A.ps d 1 λf=>A.fx 3 a f 1 1 e λf=>A.k8 f λf=>A.fx 3 a d 1 1 e λg=>A.k8 g λg=>A.cmp .gtr f g λf=>A.join (λb e=>A.u4 b (A.ps d 1 λb=>A.ix 3 a d 3 e λf=>A.MH f λf g i=>A.ps d 1 λj=>A.ix 3 a j 3 e λj=>A.MH j λj k l=>A.h_ (A2 3 a b) λb=>A.heap (.st b [.int .i64 f,.int .u8 g,.int .u8 i]) e λ_ b=>A.h_ (A2 3 a d) λa=>A.heap (.st a [.int .i64 j,.int .u8 k,.int .u8 l]) b λ_ a=>A.ps d 1 λb=>c [.i b] a)) λa=>A.cond f (a [] e) (b [] e)) (b [] e))) (b [] e)) [.i c] d) (K [.v a] d)) [.i 1] h
def f90:R:=A.FE ls λa b c d=>A.cd .eql d 0 (K [.i 0] h) (A.c4 25 [.i a,.i b,.i c] h λa _ _ b=>A.cd .eql b 0 (A.cmp .eql d 1 λb=>A.eqs [(.b true,.b b)] λb=>A.cond b (K [.i 1] a) (K [.i 2] a)) (A.cmp .eql b 2 λb=>A.cmp .eql d 1 λc=>A.eqs [(.b b,.b c)] λb=>A.cond b (K [.i 1] a) (K [.i 2] a)))
def f93:R:=A.k0 ls λa=>A.ln a λb=>A.loop (λc d e=>A.k6 d λd=>A.cd .lss d b (A.ix 2 a d 2 e λa=>A.G2 a λa b=>A.c6 94 [.i a,.i b] e λa b=>A.cd .neq b 0 (K [.i b] a) (A.pa d 1 λb=>c [.i b] a)) (K [.i 0] e)) [.i 0] h
def f94:R:=A.k5 ls λa b=>A.c3 128 [.i a] h λc d=>A.c3 128 [.i b] c λc e=>A.cond d (A.cond e (K [.i 0] c) (K [.i (-1)] c)) (A.cond e (K [.i 1] c) (A.cd .lss a b (K [.i (-1)] c) (A.cd .gtr a b (K [.i 1] c) (K [.i 0] c))))
def f98:R:=A.k5 ls λa b=>A.cd .lss a 0 (A.ps 0 a λa=>A.pa a b λa=>A.ps a 1 λa=>A.pq a b λa=>A.ps 0 a λa=>K [.i a] h) (A.pq a b λa=>K [.i a] h)
def f99:R:=A.k5 ls λa b=>A.cd .gtr a b (K [.i a] h) (K [.i b] h)
def R1:R:=A.k4 ls λa b c=>A.pm 6 a λa=>A.pm 6 b λb=>A.pa a 3 λd=>A.pa b 3 λe=>A.cd .eql c 0 (A.pa a 6 λc=>K [.i d,.i e,.i a,.i b,.i c,.i b] h) (A.cd .eql c 1 (A.pa a 6 λc=>A.pa a 6 λa=>A.pa b 6 λf=>K [.i d,.i e,.i c,.i b,.i a,.i f] h) (A.cd .eql c 2 (A.pa a 6 λc=>A.pa b 6 λf=>A.pa b 6 λb=>K [.i d,.i e,.i c,.i f,.i a,.i b] h) (A.pa b 6 λc=>K [.i d,.i e,.i a,.i c,.i a,.i b] h)))
def UQ:R:=A.oo ls λa b=>A.oo b λb c=>A.Ck c λc d=>A.k4 d λd e f=>A.c6 16 [.i a,.i b,.v c] h λg i=>A.cd .neq i 0 (K [.v (.slice none 0 0),.v (.slice none 0 0),.i i] g) (A.c6 129 [.i d,.i e,.i f] g λg i=>A.cd .neq i 0 (K [.v (.slice none 0 0),.v (.slice none 0 0),.i 1] g) (A.c2 130 [.i a,.i b,.v c] g λc g i=>A.cd .neq i 0 (K [.v (.slice none 0 0),.v (.slice none 0 0),.i i] c) (A.ln g λi=>A.h_ (DS i i) λ_=>A.new (.cells (aN [.int .i64 0,.int .i64 0,.int .u8 0] (Int.toNat i)) 3 true) c λc j=>A.ln g λk=>A.loop (λj l m=>A.k6 l λl=>A.cd .lss l k (A.ix 3 g l 3 m λk=>A.k9 k λk n o=>A.JU 40 [.i a,.i b,.i l] m λa b m p _=>A.JU 131 [.i k,.i n,.i o,.i d,.i e,.i f] a λa d e f k=>A.h_ (A2 3 g l) λn=>A.heap (.st n [.int .u8 d,.int .i64 e,.int .i64 f]) a λ_ a=>A.cd .neq k 0 (K [.v (.slice none 0 0),.v (.slice none 0 0),.i k] a) (A.ix 3 g l 3 a λd=>A.k9 d λd e f=>A.JU 105 [.i d,.i e,.i f,.i b,.i m,.i p] a λa b d e f=>A.h_ (A2 3 (.slice (some ⟨c,0,some 13⟩) (Int.toNat i) ((Int.toNat i)+1)) l) λc=>A.heap (.st c [.int .i64 b,.int .i64 d,.int .u8 e]) a λ_ a=>A.cd .neq f 0 (K [.v (.slice none 0 0),.v (.slice none 0 0),.i f] a) (A.pa l 1 λb=>j [.i b] a))) (K [.v g,.v (.slice (some ⟨c,0,some 13⟩) (Int.toNat i) ((Int.toNat i)+1)),.i 0] m)) [.i 0] j)))
def f102:R:=A.Ck ls λa b=>A.oo b λb c=>A.k1 c λc d e=>A.loop (λb c d=>A.oo c λc f=>A.oo f λf g=>A.D7 g λg i=>A.D7 i λi j=>A.k6 j λj=>A.join (λa c=>A.oo a λa d=>A.oo d λd e=>A.D7 e λe f=>A.D7 f λf g=>A.k6 g λg=>b [.i a,.i d,.b e,.b f,.i g] c) λb=>A.ps j f λk=>A.cd .leq k 12 (A.call 132 [.v a,.i f,.i j,.v e] d λa b=>A.u4 a (K [] b)) (A.cd .eql c 0 (A.call 133 [.v a,.i f,.i j,.v e] d λa b=>A.u4 a (K [] b)) (A.join (λc d=>A.k6 c λc=>A.c5 135 [.v a,.i f,.i j,.v e] d λd l m=>A.cmp .eql m 2 λn=>A.join (λd l=>A.k5 d λd m=>A.cond i (A.cond g (A.cmp .eql m 1 λm=>A.join (λl m=>A.u4 l (A.cd .gtr f 0 (A.ps f 1 λl=>A.ix 3 a l 3 m λl=>A.FD l λl n o=>A.ix 3 a d 3 m λp=>A.FD p λp q r=>A.A7 e [.agg ⟨[.int .i64 l,.int .i64 n,.int .u8 o]⟩,.agg ⟨[.int .i64 p,.int .i64 q,.int .u8 r]⟩] [.leaf (.i .i64)] m λl m=>A.k6 l λl=>A.cmp .lss l 0 λl=>A.join (λf g=>A.k6 f λf=>A.FX 139 [.v a,.i f,.i j,.i d,.v e] g λd g i=>A.ps g f λl=>A.ps j g λm=>A.pq k 8 λk=>A.cmp .lss l m λn=>A.join (λa d=>A.D7 a λa e=>A.k5 e λe f=>b [.i c,.i e,.b i,.b a,.i f] d) λb=>A.cond n (A.cmp .geq l k λi=>A.call 102 [.v a,.i f,.i g,.i c,.v e] d λa c=>A.u4 a (A.pa g 1 λa=>b [.b i,.i a,.i j] c)) (A.cmp .geq m k λi=>A.pa g 1 λk=>A.call 102 [.v a,.i k,.i j,.i c,.v e] d λa c=>A.u4 a (b [.b i,.i f,.i g] c))) λk=>A.cond (!l) (A.c6 138 [.v a,.i f,.i j,.i d,.v e] m λa d=>b [.i c,.i d,.b g,.b i,.i j] a) (k [.i f] m)) (A.FX 139 [.v a,.i f,.i j,.i d,.v e] m λd g i=>A.ps g f λl=>A.ps j g λm=>A.pq k 8 λk=>A.cmp .lss l m λn=>A.join (λa d=>A.D7 a λa e=>A.k5 e λe f=>b [.i c,.i e,.b i,.b a,.i f] d) λb=>A.cond n (A.cmp .geq l k λi=>A.call 102 [.v a,.i f,.i g,.i c,.v e] d λa c=>A.u4 a (A.pa g 1 λa=>b [.b i,.i a,.i j] c)) (A.cmp .geq m k λi=>A.pa g 1 λk=>A.call 102 [.v a,.i k,.i j,.i c,.v e] d λa c=>A.u4 a (b [.b i,.i f,.i g] c))))) λb=>A.cond m (A.c3 137 [.v a,.i f,.i j,.v e] l λa c=>A.cond c (K [] a) (b [] a)) (b [] l)) (A.cd .gtr f 0 (A.ps f 1 λm=>A.ix 3 a m 3 l λm=>A.FD m λm n o=>A.ix 3 a d 3 l λp=>A.FD p λp q r=>A.A7 e [.agg ⟨[.int .i64 m,.int .i64 n,.int .u8 o]⟩,.agg ⟨[.int .i64 p,.int .i64 q,.int .u8 r]⟩] [.leaf (.i .i64)] l λl m=>A.k6 l λl=>A.cmp .lss l 0 λl=>A.join (λf g=>A.k6 f λf=>A.FX 139 [.v a,.i f,.i j,.i d,.v e] g λd g i=>A.ps g f λl=>A.ps j g λm=>A.pq k 8 λk=>A.cmp .lss l m λn=>A.join (λa d=>A.D7 a λa e=>A.k5 e λe f=>b [.i c,.i e,.b i,.b a,.i f] d) λb=>A.cond n (A.cmp .geq l k λi=>A.call 102 [.v a,.i f,.i g,.i c,.v e] d λa c=>A.u4 a (A.pa g 1 λa=>b [.b i,.i a,.i j] c)) (A.cmp .geq m k λi=>A.pa g 1 λk=>A.call 102 [.v a,.i k,.i j,.i c,.v e] d λa c=>A.u4 a (b [.b i,.i f,.i g] c))) λk=>A.cond (!l) (A.c6 138 [.v a,.i f,.i j,.i d,.v e] m λa d=>b [.i c,.i d,.b g,.b i,.i j] a) (k [.i f] m)) (A.FX 139 [.v a,.i f,.i j,.i d,.v e] l λd g i=>A.ps g f λl=>A.ps j g λm=>A.pq k 8 λk=>A.cmp .lss l m λn=>A.join (λa d=>A.D7 a λa e=>A.k5 e λe f=>b [.i c,.i e,.b i,.b a,.i f] d) λb=>A.cond n (A.cmp .geq l k λi=>A.call 102 [.v a,.i f,.i g,.i c,.v e] d λa c=>A.u4 a (A.pa g 1 λa=>b [.b i,.i a,.i j] c)) (A.cmp .geq m k λi=>A.pa g 1 λk=>A.call 102 [.v a,.i k,.i j,.i c,.v e] d λa c=>A.u4 a (b [.b i,.i f,.i g] c))))) (A.cd .gtr f 0 (A.ps f 1 λm=>A.ix 3 a m 3 l λm=>A.FD m λm n o=>A.ix 3 a d 3 l λp=>A.FD p λp q r=>A.A7 e [.agg ⟨[.int .i64 m,.int .i64 n,.int .u8 o]⟩,.agg ⟨[.int .i64 p,.int .i64 q,.int .u8 r]⟩] [.leaf (.i .i64)] l λl m=>A.k6 l λl=>A.cmp .lss l 0 λl=>A.join (λf g=>A.k6 f λf=>A.FX 139 [.v a,.i f,.i j,.i d,.v e] g λd g i=>A.ps g f λl=>A.ps j g λm=>A.pq k 8 λk=>A.cmp .lss l m λn=>A.join (λa d=>A.D7 a λa e=>A.k5 e λe f=>b [.i c,.i e,.b i,.b a,.i f] d) λb=>A.cond n (A.cmp .geq l k λi=>A.call 102 [.v a,.i f,.i g,.i c,.v e] d λa c=>A.u4 a (A.pa g 1 λa=>b [.b i,.i a,.i j] c)) (A.cmp .geq m k λi=>A.pa g 1 λk=>A.call 102 [.v a,.i k,.i j,.i c,.v e] d λa c=>A.u4 a (b [.b i,.i f,.i g] c))) λk=>A.cond (!l) (A.c6 138 [.v a,.i f,.i j,.i d,.v e] m λa d=>b [.i c,.i d,.b g,.b i,.i j] a) (k [.i f] m)) (A.FX 139 [.v a,.i f,.i j,.i d,.v e] l λd g i=>A.ps g f λl=>A.ps j g λm=>A.pq k 8 λk=>A.cmp .lss l m λn=>A.join (λa d=>A.D7 a λa e=>A.k5 e λe f=>b [.i c,.i e,.b i,.b a,.i f] d) λb=>A.cond n (A.cmp .geq l k λi=>A.call 102 [.v a,.i f,.i g,.i c,.v e] d λa c=>A.u4 a (A.pa g 1 λa=>b [.b i,.i a,.i j] c)) (A.cmp .geq m k λi=>A.pa g 1 λk=>A.call 102 [.v a,.i k,.i j,.i c,.v e] d λa c=>A.u4 a (b [.b i,.i f,.i g] c))))) λb=>A.cond n (A.call 136 [.v a,.i f,.i j,.v e] d λa c=>A.u4 a (A.ps j 1 λa=>A.ps l f λd=>A.ps a d λa=>b [.i a,.i 1] c)) (b [.i l,.i m] d)) λb=>A.cond (!i) (A.call 134 [.v a,.i f,.i j,.v e] d λa d=>A.u4 a (A.ps c 1 λa=>b [.i a] d)) (b [.i c] d)))) [.i d,.i b,.b true,.b true,.i c] h
def UR:R:=A.oo ls λa b=>A.oo b λb c=>A.Ck c λc d=>A.k4 d λd e f=>A.call 101 [.i a,.i b,.v c,.i d,.i e,.i f] h λa b=>A.Ck a λa c=>A.k2 c λ_ c=>K [.v a,.i c] b
def R2:R:=A.FE ls λa b c d=>A.c6 81 [.i a,.i b,.i c] h λe f=>A.cd .neq f 0 (K [.i 0,.i 0,.i 0,.i 1] e) (A.cd .gtr d 2 (K [.i 0,.i 0,.i 0,.i 1] e) (A.h_ (EU 4 c) λ_=>A.h_ (EU 3 d) λ_=>A.h_ (pT hH 4 [(c,17),(d,3)] 3) λc=>A.FD c λc d f=>A.pa c a λa=>A.pa d b λb=>A.c6 81 [.i a,.i b,.i f] e λc d=>A.cd .neq d 0 (K [.i 0,.i 0,.i 0,.i 3] c) (K [.i a,.i b,.i f,.i 0] c)))
def R3:R:=A.IZ ls λa b c d e f=>A.c6 129 [.i a,.i b,.i c] h λg i=>A.cd .neq i 0 (K [.i 0,.i 0,.i 0,.i 1] g) (A.c6 81 [.i d,.i e,.i f] g λg i=>A.cd .neq i 0 (K [.i 0,.i 0,.i 0,.i 1] g) (A.c4 140 [.i a,.i b,.i c,.i d,.i e,.i f] g λa b c d=>A.c6 81 [.i b,.i c,.i d] a λa e=>A.cd .neq e 0 (K [.i 0,.i 0,.i 0,.i 3] a) (K [.i b,.i c,.i d,.i 0] a)))
def US:R:=A.oo ls λa b=>A.oo b λb c=>A.Ck c λc d=>A.k5 d λd e=>A.call 141 [.i a,.i b,.v c,.i d,.i e] h λa b=>A.oo a λ_ a=>A.oo a λ_ a=>A.oo a λa d=>A.D7 d λd e=>A.k6 e λe=>A.cd .neq e 0 (K [.i 0,.i e] b) (A.cond (!d) (K [.i 0,.i e] b) (A.fx 3 c a 2 1 b λa=>A.k8 a λa=>K [.i a,.i 0] b))
def UT:R:=A.Ck ls λa b=>A.oo b λb c=>A.oo c λc d=>A.NC d λd e=>A.cd .eql b 3 (K [] h) (A.FX 110 [.v a,.i c,.i d] h λc d f=>A.cmp .eql b 2 λb=>A.eqs [(.b b,.b e)] λb=>A.join (λb c=>A.NC b λb d=>A.join (λa b=>A.u4 a (K [] b)) λe=>A.fp 14 a λf=>A.ka (.lg cc 1 f) c λf=>A.DV f λf g=>A.ts g (A.cond f (A.fp 14 a λa=>A.heap (.st a [.bool true]) c λ_ a=>e [] a) (A.c3 115 [.v a,.i b,.b d,.v (.pointer none)] c λb c=>A.fp 14 a λa=>A.heap (.st a [.bool (!c)]) b λ_ a=>e [] a))) λa=>A.cond (!b) (a [.i d,.b (!f)] c) (a [.i d,.b f] c))
def R4:R:=A.k4 ls λa b c=>A.join (λa b=>A.k3 a λa=>K [.b a] b) λd=>A.c6 129 [.i a,.i b,.i c] h λb c=>A.cd .eql c 0 (A.cmp .geq a 4 λa=>d [.b a] b) (d [.b false] b)
def UU:R:=A.Ck ls λa b=>A.oo b λb c=>A.D7 c λc d=>A.NC d λd e=>A.FX 142 [.v a,.i b,.b c] h λb c f=>A.FX 142 [.v a,.i d,.b e] b λb d e=>A.cmp .eql c d λg=>A.join (λa b=>A.u4 a (K [] b)) λi=>A.cond g (A.join (λa b=>A.u4 a (i [] b)) λc=>A.fp 14 a λd=>A.ka (.lg cc 1 d) b λd=>A.DV d λd g=>A.ts g (A.cond d (A.fp 14 a λa=>A.heap (.st a [.bool true]) b λ_ a=>c [] a) (A.eqs [(.b f,.b e)] λd=>A.fp 14 a λa=>A.heap (.st a [.bool (!d)]) b λ_ a=>c [] a))) (A.c6 143 [.v a,.i c,.b f] b λb g=>A.cd .neq g 0 (A.c6 143 [.v a,.i d,.b e] b λb g=>A.cmp .neq g 0 λg=>A.join (λa b=>A.u4 a (i [] b)) λi=>A.cond g (A.join (λb g=>A.u4 b (A.fp 11 a λa=>A.lv a g λa=>A.eqs [(.b f,.b e)] λb=>A.h_ (A2 2 a c) λa=>A.heap (.st a [.int .i64 d,.bool (!b)]) g λ_ a=>i [] a)) λg=>A.fp 14 a λi=>A.ka (.lg cc 1 i) b λi=>A.DV i λi j=>A.ts j (A.cond i (A.fp 14 a λa=>A.heap (.st a [.bool true]) b λ_ a=>g [] a) (A.c6 143 [.v a,.i c,.b f] b λb c=>A.c6 143 [.v a,.i d,.b e] b λb d=>A.cmp .neq c d λc=>A.fp 14 a λa=>A.heap (.st a [.bool c]) b λ_ a=>g [] a))) (A.c6 143 [.v a,.i c,.b f] b λb g=>A.cmp .neq g 0 λg=>A.join (λa b=>A.u4 a (i [] b)) λi=>A.cond g (A.fp 11 a λa=>A.lv a b λa=>A.eqs [(.b f,.b e)] λe=>A.h_ (A2 2 a d) λa=>A.heap (.st a [.int .i64 c,.bool (!e)]) b λ_ a=>i [] a) (A.fp 11 a λa=>A.lv a b λa=>A.eqs [(.b f,.b e)] λe=>A.h_ (A2 2 a c) λa=>A.heap (.st a [.int .i64 d,.bool (!e)]) b λ_ a=>i [] a))) (A.c6 143 [.v a,.i c,.b f] b λb g=>A.cmp .neq g 0 λg=>A.join (λa b=>A.u4 a (i [] b)) λi=>A.cond g (A.fp 11 a λa=>A.lv a b λa=>A.eqs [(.b f,.b e)] λe=>A.h_ (A2 2 a d) λa=>A.heap (.st a [.int .i64 c,.bool (!e)]) b λ_ a=>i [] a) (A.fp 11 a λa=>A.lv a b λa=>A.eqs [(.b f,.b e)] λe=>A.h_ (A2 2 a c) λa=>A.heap (.st a [.int .i64 d,.bool (!e)]) b λ_ a=>i [] a)))
def UV:R:=A.Ck ls λa b=>A.k5 b λb c=>A.cd .lss b c (A.fp 10 a λa=>A.lv a h λa=>A.ka (.fn (E7 cc 153 false (.int .i64 0) a (.agg ⟨[.int .i64 b,.int .i64 c]⟩) false)) h λa=>A.Dx a λa=>K [.i a,.b false] h) (A.fp 10 a λa=>A.lv a h λa=>A.ka (.fn (E7 cc 153 false (.int .i64 0) a (.agg ⟨[.int .i64 c,.int .i64 b]⟩) false)) h λa=>A.Dx a λa=>K [.i a,.b true] h)
def R5:R:=A.k0 ls λa=>A.ln a λb=>A.ln a λc=>A.h_ (Et 3 a none (some b) (some c)) λa=>A.k_ a (K [.v a] h)
def R6:R:=A.k0 ls λa=>A.h_ (lh 1 a (.slice none 0 0)) λb=>A.cond b (K [.v (.slice none 0 0)] h) (A.new (.cells [] 3 true) h λb c=>A.av 3 16 (.slice (some ⟨b,0,some 13⟩) 0 1) a c λa b=>K [.v a] b)
def R7:R:=A.k0 ls λa=>A.ln a λb=>A.ln a λc=>A.h_ (Et 1 a none (some b) (some c)) λa=>A.k_ a (K [.v a] h)
def R8:R:=A.k0 ls λa=>A.h_ (lh 1 a (.slice none 0 0)) λb=>A.cond b (K [.v (.slice none 0 0)] h) (A.new (.cells [] 1 true) h λb c=>A.av 1 8 (.slice (some ⟨b,0,some 11⟩) 0 1) a c λa b=>K [.v a] b)
def R9:R:=A.Ck ls λa b=>A.oo b λb c=>A.D7 c λc d=>A.k0 d λd=>A.FX 142 [.v a,.i b,.b c] h λb c e=>A.join (λb e=>A.k6 b λb=>A.fp 12 a λf=>A.lv f e λf=>A.ix 1 f c 1 e λf=>A.Dx f λf=>A.cmp .eql f 0 λf=>A.join (λd e=>A.u4 d (A.fp 12 a λa=>A.lv a e λa=>A.ix 1 a c 1 e λa=>A.Dx a λa=>A.cmp .eql a b λa=>K [.b a] e)) λg=>A.cond f (A.fp 12 a λa=>A.lv a e λa=>A.h_ (A2 1 a c) λa=>A.heap (.st a [.int .i64 b]) e λ_ a=>A.h_ (lh 4 d (.pointer none)) λb=>A.join (λa b=>A.u4 a (g [] b)) λe=>A.cond (!b) (A.h_ (CW d) λb=>A.k_ b (A.lv b a λf=>A.new (.cells [.int .i64 c] 1 true) a λa c=>A.av 1 8 f (.slice (some ⟨a,0,some 11⟩) 1 2) c λc f=>A.h_ (CW d) λd=>A.k_ d (A.heap (.st d [c]) f λ_ c=>A.h_ (Sx.Di [(.slice (some ⟨a,0,some 11⟩) 1 2,(0,b))]) λ_=>e [] c))) (e [] a)) (g [] e)) λa=>A.cond e (a [.i (-1)] b) (a [.i 1] b)
def UW:R:=A.k0 ls λa=>A.fp 13 a λb=>A.lv b h λb=>A.ln b λc=>A.loop (λd e f=>A.k6 e λe=>A.cd .lss e c (A.ix 8 b e 8 f λb=>A.rv .i64 b λb c=>A.DV c λc g=>A.rv .i64 g λg i=>A.DV i λi j=>A.rv .i64 j λj k=>A.DV k λk l=>A.rv .i64 l λl m=>A.DV m λm n=>A.ts n (A.loop (λf n o=>A.k5 n λn p=>A.cd .lss p 4 (A.h_ (EU 4 p) λ_=>A.h_ (jZ [.i b,.b c,.i g,.b i,.i j,.b k,.i l,.b m] 0 [(p,2)] 2) λb=>A.NC b λb c=>A.c6 143 [.v a,.i b,.b c] o λa b=>A.pm n b λb=>A.pa p 1 λc=>f [.i b,.i c] a) (A.cd .lss n 0 (K [.b false] o) (A.pa e 1 λa=>d [.i a] o))) [.i 1,.i 0] f)) (K [.b true] f)) [.i 0] h
def f126:R:=A.k6 ls λa=>A.cmp .geq a 4294967296 λb=>A.join (λa b=>A.k5 a λa c=>A.cmp .geq a 65536 λd=>A.join (λa b=>A.k5 a λa c=>A.cmp .geq a 256 λd=>A.join (λa b=>A.k5 a λa c=>A.conv .u8 a λa=>A.h_ (Ia (.mk ⟨[.ofNat 0,.ofNat 1,.ofNat 2,.ofNat 2,.ofNat 3,.ofNat 3,.ofNat 3,.ofNat 3,.ofNat 4,.ofNat 4,.ofNat 4,.ofNat 4,.ofNat 4,.ofNat 4,.ofNat 4,.ofNat 4,.ofNat 5,.ofNat 5,.ofNat 5,.ofNat 5,.ofNat 5,.ofNat 5,.ofNat 5,.ofNat 5,.ofNat 5,.ofNat 5,.ofNat 5,.ofNat 5,.ofNat 5,.ofNat 5,.ofNat 5,.ofNat 5,.ofNat 6,.ofNat 6,.ofNat 6,.ofNat 6,.ofNat 6,.ofNat 6,.ofNat 6,.ofNat 6,.ofNat 6,.ofNat 6,.ofNat 6,.ofNat 6,.ofNat 6,.ofNat 6,.ofNat 6,.ofNat 6,.ofNat 6,.ofNat 6,.ofNat 6,.ofNat 6,.ofNat 6,.ofNat 6,.ofNat 6,.ofNat 6,.ofNat 6,.ofNat 6,.ofNat 6,.ofNat 6,.ofNat 6,.ofNat 6,.ofNat 6,.ofNat 6,.ofNat 7,.ofNat 7,.ofNat 7,.ofNat 7,.ofNat 7,.ofNat 7,.ofNat 7,.ofNat 7,.ofNat 7,.ofNat 7,.ofNat 7,.ofNat 7,.ofNat 7,.ofNat 7,.ofNat 7,.ofNat 7,.ofNat 7,.ofNat 7,.ofNat 7,.ofNat 7,.ofNat 7,.ofNat 7,.ofNat 7,.ofNat 7,.ofNat 7,.ofNat 7,.ofNat 7,.ofNat 7,.ofNat 7,.ofNat 7,.ofNat 7,.ofNat 7,.ofNat 7,.ofNat 7,.ofNat 7,.ofNat 7,.ofNat 7,.ofNat 7,.ofNat 7,.ofNat 7,.ofNat 7,.ofNat 7,.ofNat 7,.ofNat 7,.ofNat 7,.ofNat 7,.ofNat 7,.ofNat 7,.ofNat 7,.ofNat 7,.ofNat 7,.ofNat 7,.ofNat 7,.ofNat 7,.ofNat 7,.ofNat 7,.ofNat 7,.ofNat 7,.ofNat 7,.ofNat 7,.ofNat 7,.ofNat 7,.ofNat 7,.ofNat 7,.ofNat 8,.ofNat 8,.ofNat 8,.ofNat 8,.ofNat 8,.ofNat 8,.ofNat 8,.ofNat 8,.ofNat 8,.ofNat 8,.ofNat 8,.ofNat 8,.ofNat 8,.ofNat 8,.ofNat 8,.ofNat 8,.ofNat 8,.ofNat 8,.ofNat 8,.ofNat 8,.ofNat 8,.ofNat 8,.ofNat 8,.ofNat 8,.ofNat 8,.ofNat 8,.ofNat 8,.ofNat 8,.ofNat 8,.ofNat 8,.ofNat 8,.ofNat 8,.ofNat 8,.ofNat 8,.ofNat 8,.ofNat 8,.ofNat 8,.ofNat 8,.ofNat 8,.ofNat 8,.ofNat 8,.ofNat 8,.ofNat 8,.ofNat 8,.ofNat 8,.ofNat 8,.ofNat 8,.ofNat 8,.ofNat 8,.ofNat 8,.ofNat 8,.ofNat 8,.ofNat 8,.ofNat 8,.ofNat 8,.ofNat 8,.ofNat 8,.ofNat 8,.ofNat 8,.ofNat 8,.ofNat 8,.ofNat 8,.ofNat 8,.ofNat 8,.ofNat 8,.ofNat 8,.ofNat 8,.ofNat 8,.ofNat 8,.ofNat 8,.ofNat 8,.ofNat 8,.ofNat 8,.ofNat 8,.ofNat 8,.ofNat 8,.ofNat 8,.ofNat 8,.ofNat 8,.ofNat 8,.ofNat 8,.ofNat 8,.ofNat 8,.ofNat 8,.ofNat 8,.ofNat 8,.ofNat 8,.ofNat 8,.ofNat 8,.ofNat 8,.ofNat 8,.ofNat 8,.ofNat 8,.ofNat 8,.ofNat 8,.ofNat 8,.ofNat 8,.ofNat 8,.ofNat 8,.ofNat 8,.ofNat 8,.ofNat 8,.ofNat 8,.ofNat 8,.ofNat 8,.ofNat 8,.ofNat 8,.ofNat 8,.ofNat 8,.ofNat 8,.ofNat 8,.ofNat 8,.ofNat 8,.ofNat 8,.ofNat 8,.ofNat 8,.ofNat 8,.ofNat 8,.ofNat 8,.ofNat 8,.ofNat 8,.ofNat 8,.ofNat 8,.ofNat 8,.ofNat 8,.ofNat 8,.ofNat 8,.ofNat 8]⟩) a) λa=>A.ci a λa=>A.pa c a λa=>K [.i a] b) λe=>A.cond d (A.E5 .shr .u64 a .u64 8 λa=>A.pa c 8 λc=>e [.i a,.i c] b) (e [.i a,.i c] b)) λe=>A.cond d (A.E5 .shr .u64 a .u64 16 λa=>A.pa c 16 λc=>e [.i a,.i c] b) (e [.i a,.i c] b)) λc=>A.cond b (A.E5 .shr .u64 a .u64 32 λa=>c [.i a,.i 32] h) (c [.i a,.i 0] h)
def R_:R:=A.IZ ls λa b c d e f=>A.c4 63 [.i a,.i b,.i c,.i d,.i e,.i f] h λa b c d=>A.cd .eql b 4 (A.pq c 2 λb=>K [.i 1,.i b] a) (A.cd .eql b 6 (A.pq d 2 λb=>K [.i 2,.i b] a) (A.cd .eql b 5 (K [.i 3,.i c] a) (K [.i 4,.i d] a)))
def Sa:R:=A.k6 ls λa=>A.cmp .neq a a λa=>K [.b a] h
def GT:R:=A.k4 ls λa b c=>A.ci a λa=>A.cd .geq a 8 (K [.i 1] h) (A.c3 149 [.i b] h λa d=>A.cond d (K [.i 1] a) (A.c3 149 [.i c] a λa d=>A.cond d (K [.i 1] a) (A.pa b c λb=>A.pr b 2 λb=>A.cd .neq b 0 (K [.i 1] a) (K [.i 0] a))))
def UX:R:=A.k1 ls λa b c=>A.new (.cells [.int .i64 a,.int .i64 b,c] 3 true) h λa b=>A.ka (.lg cc 3 (.pointer (some ⟨a,0,none⟩))) b λc=>A.rv .i64 c λc d=>A.rv .i64 d λd e=>A.BM e λe f=>A.k_ e (A.ts f (A.c0 150 [.i c,.i d,.v e] b λb c=>A.new (.cells [.map none] 1 true) b λb d=>A.heap (.st (.pointer (some ⟨b,0,none⟩)) [c]) d λ_ c=>A.h_ (Dg 0 (.pointer (some ⟨a,0,none⟩))) λd=>A.k_ d (A.ka (.lg cc 2 d) c λd=>A.G2 d λd e=>A.c6 151 [.i d,.i e] c λc d=>A.h_ (DS d d) λ_=>A.new (.cells (aN [.int .u8 0,.int .i64 0,.int .i64 0] (Int.toNat d)) 3 true) c λc e=>A.new (.cells [.slice none 0 0] 1 true) e λe f=>A.heap (.st (.pointer (some ⟨e,0,none⟩)) [.slice (some ⟨c,0,some 13⟩) (Int.toNat d) ((Int.toNat d)+1)]) f λ_ c=>A.lv (.pointer (some ⟨e,0,none⟩)) c λd=>A.ln d λd=>A.h_ (DS d d) λ_=>A.new (.cells (aN [.bool false] (Int.toNat d)) 1 true) c λc f=>A.k_ (.func (.func 152) ⟨[]⟩ ⟨[.pointer (some ⟨a,0,none⟩),.pointer (some ⟨b,0,none⟩),.pointer (some ⟨e,0,none⟩)]⟩) (A.h_ (A2 1 (.slice (some ⟨c,0,some 11⟩) (Int.toNat d) ((Int.toNat d)+1)) 0) λg=>A.heap (.st g [.bool true]) f λ_ f=>A.new (.cells [.int .i64 0] 1 true) f λf g=>A.loop (λf g i=>A.k0 g λg=>A.ln g λj=>A.cd .gtr j 0 (A.h_ (A2 1 g 0) λj=>A.ka (.lg cc 1 j) i λj=>A.Dx j λj=>A.h_ (Et 1 g (some 1) none none) λg=>A.k_ g (A.loop (λg i k=>A.k2 i λi l=>A.cd .lss l 3 (A.join (λa b=>A.k0 a λa=>A.w7 .add .u8 l 1 λc=>g [.v a,.i c] b) λf=>A.h_ (Dg 0 (.pointer (some ⟨a,0,none⟩))) λg=>A.k_ g (A.ka (.lg cc 2 g) k λg=>A.G2 g λg m=>A.c5 78 [.i g,.i m,.i j,.i l] k λg k m=>A.cd .neq m 0 (f [.v i] g) (A.A7 (.func (.func 152) ⟨[]⟩ ⟨[.pointer (some ⟨a,0,none⟩),.pointer (some ⟨b,0,none⟩),.pointer (some ⟨e,0,none⟩)]⟩) [.int .i64 j,.int .u8 l] [.agg [.i .u8,.i .i64,.i .i64]] g λa b=>A.k4 a λa g j=>A.h_ (A2 1 (.slice (some ⟨c,0,some 11⟩) (Int.toNat d) ((Int.toNat d)+1)) k) λl=>A.ka (.lg cc 1 l) b λl=>A.DV l λl m=>A.ts m (A.join (λb c=>A.k0 b λb=>A.lv (.pointer (some ⟨e,0,none⟩)) c λd=>A.ix 3 d k 3 c λd=>A.k9 d λd e i=>A.eqs [(.i d,.i a),(.i e,.i g),(.i i,.i j)] λa=>A.cond (!a) (K [.v (.slice none 0 0),.i 11] c) (f [.v b] c)) λf=>A.cond (!l) (A.lv (.pointer (some ⟨e,0,none⟩)) b λe=>A.h_ (A2 3 e k) λe=>A.heap (.st e [.int .u8 a,.int .i64 g,.int .i64 j]) b λ_ a=>A.h_ (A2 1 (.slice (some ⟨c,0,some 11⟩) (Int.toNat d) ((Int.toNat d)+1)) k) λb=>A.heap (.st b [.bool true]) a λ_ a=>A.new (.cells [.int .i64 k] 1 true) a λa b=>A.av 1 8 i (.slice (some ⟨a,0,some 11⟩) 1 2) b λa b=>f [.v a] b) (f [.v i] b))))) (f [.v i] k)) [.v g,.i 0] i)) (A.lv (.pointer (some ⟨e,0,none⟩)) i λa=>K [.v a,.i 0] i)) [.v (.slice (some ⟨f,0,some 11⟩) 1 2)] g))))
def RU:R:=A.IZ ls λa b c d e f=>A.c6 129 [.i a,.i b,.i c] h λg i=>A.cd .neq i 0 (K [.i 0,.i 0,.i 0,.i 1] g) (A.c6 129 [.i d,.i e,.i f] g λg i=>A.cd .neq i 0 (K [.i 0,.i 0,.i 0,.i 1] g) (A.h_ (EU 8 d) λ_=>A.h_ (pT ZO 0 [(d,4)] 4) λi=>A.rv .i64 i λi j=>A.rv .i64 j λj k=>A.G2 k λk l=>A.c5 155 [.i i,.i j,.i k,.i l,.i b,.i c] g λb c g=>A.h_ (EU 8 a) λ_=>A.h_ (pT ZO 0 [(a,4)] 4) λa=>A.rv .i64 a λa i=>A.rv .i64 i λi j=>A.G2 j λj k=>A.h_ (EU 8 d) λ_=>A.h_ (pT ZO 0 [(d,4)] 4) λd=>A.rv .i64 d λd l=>A.rv .i64 l λl m=>A.G2 m λm n=>A.JU 158 [.i a,.i i,.i j,.i k,.i d,.i l,.i m,.i n] b λa b d i j=>A.c6 157 [.i b,.i d,.i i,.i j] a λa b=>A.pa c e λc=>A.pa g f λd=>A.JU 156 [.i b,.i c,.i d] a λa b c d e=>K [.i b,.i c,.i d,.i e] a))
def f132:R:=A.k14 ls λa b c d=>A.pa b 1 λe=>A.loop (λe f g=>A.k6 f λf=>A.cd .lss f c (A.join (λa b=>A.u4 a (A.pa f 1 λa=>e [.i a] b)) λc=>A.loop (λe f g=>A.k6 f λf=>A.cd .gtr f b (A.ix 3 a f 3 g λb=>A.FD b λb i j=>A.ps f 1 λk=>A.ix 3 a k 3 g λk=>A.FD k λk l m=>A.A7 d [.agg ⟨[.int .i64 b,.int .i64 i,.int .u8 j]⟩,.agg ⟨[.int .i64 k,.int .i64 l,.int .u8 m]⟩] [.leaf (.i .i64)] g λb d=>A.k6 b λb=>A.cd .lss b 0 (A.ps f 1 λb=>A.ps f 1 λc=>A.ix 3 a c 3 d λc=>A.FD c λc g i=>A.ix 3 a f 3 d λj=>A.FD j λj k l=>A.h_ (A2 3 a f) λm=>A.heap (.st m [.int .i64 c,.int .i64 g,.int .u8 i]) d λ_ c=>A.h_ (A2 3 a b) λa=>A.heap (.st a [.int .i64 j,.int .i64 k,.int .u8 l]) c λ_ a=>A.ps f 1 λb=>e [.i b] a) (c [] d)) (c [] g)) [.i f] g) (K [] g)) [.i e] h
def Sb:R:=A.IZ ls λa b c d e f=>A.c5 162 [.i d,.i e,.i f] h λd e g=>A.h_ (EU 4 f) λ_=>A.h_ (pT hH 0 [(f,17)] 2) λf=>A.G2 f λf i=>A.c4 163 [.i a,.i b,.i c,.i e,.i g] d λb c d _=>A.c4 163 [.i a,.i 0,.i 0,.i f,.i i] b λa b e _=>A.w7 .and .i64 c 1 λf=>A.ps c f λc=>A.pq c 2 λc=>A.w7 .and .i64 d 1 λf=>A.ps d f λd=>A.pq d 2 λd=>A.loop (λa c d=>A.FE c λc f g i=>A.cd .lss c 4 (A.h_ (EU 4 c) λ_=>A.h_ (jZ [.i 0,.i (-1),.i 2,.i 0,.i 0,.i (-1),.i 2,.i 0,.i 0,.i 1,.i 0,.i 0,.i 3,.i 0,.i 0,.i 2,.i 0,.i 1,.i 0,.i 1,.i 1,.i 1,.i 0,.i 3,.i 0,.i 0,.i 0,.i 0,.i 0,.i 2,.i 2,.i 2,.i 2,.i 0,.i 0,.i 1,.i 2,.i 1,.i 0,.i 1,.i 0,.i 0,.i 0,.i 3,.i 0,.i 0,.i 1,.i 2,.i 2,.i 0,.i 2,.i (-1),.i 0,.i 1,.i 0,.i (-1),.i 0,.i 1,.i 0,.i 0,.i 2,.i 0,.i 0,.i 0,.i 0,.i 0,.i 0,.i 2] 0 [(c,17)] 17) λj=>A.oo j λj k=>A.oo k λk l=>A.oo l λ_ l=>A.oo l λ_ l=>A.oo l λ_ l=>A.oo l λ_ l=>A.oo l λ_ l=>A.oo l λ_ l=>A.oo l λ_ l=>A.oo l λ_ l=>A.oo l λ_ l=>A.IZ l λ_ _ _ _ _ _=>A.eqs [(.i j,.i b),(.i k,.i e)] λb=>A.join (λb d=>A.k4 b λb e f=>A.pa c 1 λc=>a [.i c,.i b,.i e,.i f] d) λa=>A.cond b (A.conv .u8 c λb=>a [.i f,.i g,.i b] d) (a [.i f,.i g,.i i] d)) (K [.i f,.i g,.i i] d)) [.i 0,.i c,.i d,.i 0] a
def UY:R:=A.oo ls λa b=>A.oo b λb c=>A.Ck c λc d=>A.k5 d λd e=>A.c6 16 [.i a,.i b,.v c] h λf g=>A.cd .neq g 0 (K [.i 0,.i 0,.i 0,.b false,.i g] f) (A.c4 36 [.i a,.i b,.i d,.i e] f λa b d e=>A.cd .neq e 0 (K [.i 0,.i 0,.i 0,.b false,.i e] a) (A.FX 164 [.v c,.i b,.i d] a λa c e=>K [.i b,.i d,.i c,.b e,.i 0] a))
def UZ:R:=A.Ck ls λa b=>A.NC b λb c=>A.loop (λb c d=>A.NC c λc e=>A.fp 11 a λf=>A.lv f d λf=>A.fx 2 f c 0 1 d λf=>A.Dx f λf=>A.cd .neq f c (A.fp 11 a λa=>A.lv a d λa=>A.ix 2 a c 2 d λa=>A.rv .i64 a λa c=>A.DV c λc f=>A.ts f (A.eqs [(.b e,.b c)] λc=>b [.i a,.b (!c)] d)) (K [.i c,.b e] d)) [.i b,.b c] h
def U0:R:=A.Ck ls λa b=>A.NC b λb c=>A.FX 142 [.v a,.i b,.b c] h λb c d=>A.cond d (A.fp 12 a λa=>A.lv a b λa=>A.ix 1 a c 1 b λa=>A.Dx a λa=>A.ps 0 a λa=>K [.i a] b) (A.fp 12 a λa=>A.lv a b λa=>A.ix 1 a c 1 b λa=>A.Dx a λa=>K [.i a] b)
def RV:R:=A.k6 ls λa=>A.join (λa b=>A.k3 a λa=>K [.b a] b) λb=>A.cd .lss a (-16384) (b [.b true] h) (A.cmp .gtr a 16384 λa=>b [.b a] h)
def U1:R:=A.k1 ls λ_ _ a=>A.ln a λ_=>A.new (.map [] 0) h λb c=>A.ln a λd=>A.loop (λc e f=>A.k6 e λe=>A.cd .lss e d (A.ix 3 a e 3 f λa=>A.MH a λa d _=>A.heap (.fn (FH cc 94 (.map (some b)) (.agg ⟨[.int .i64 a,.int .u8 d]⟩) (.bool true))) f λ_ a=>A.pa e 1 λb=>c [.i b] a) (K [.v (.map (some b))] f)) [.i 0] c
def f151:R:=A.k5 ls λa b=>A.c6 32 [.i a,.i b] h λc d=>A.cd .neq d 0 (K [.i 0] c) (A.pm 4 a λa=>A.pm a b λa=>K [.i a] c)
def U2:R:=A.oo ls λa b=>A.oo b λb c=>A.Ck c λc d=>A.Ck d λd e=>A.k0 e λe=>A.h_ (Dg 0 c) λf=>A.k_ f (A.ka (.lg cc 2 f) h λf=>A.G2 f λf g=>A.c4 36 [.i f,.i g,.i a,.i b] h λb f g _=>A.lv d b λd=>A.ka (.fn (E7 cc 94 false (.bool false) d (.agg ⟨[.int .i64 f,.int .u8 g]⟩) false)) b λd=>A.DV d λd i=>A.ts i (A.cond (!d) (A.lv e b λc=>A.ix 3 c a 3 b λa=>A.k9 a λa c d=>K [.i a,.i c,.i d] b) (A.h_ (Dg 0 c) λc=>A.k_ c (A.ka (.lg cc 2 c) b λc=>A.G2 c λc d=>A.c4 153 [.i c,.i d,.i f,.i g] b λb c d _=>A.JU 154 [.i c,.i d] b λb c d f _=>A.lv e b λe=>A.ix 3 e a 3 b λa=>A.k9 a λa e g=>A.JU 131 [.i c,.i d,.i f,.i a,.i e,.i g] b λa b c d _=>K [.i b,.i c,.i d] a))))
def f153:R:=A.FE ls λa b c d=>A.JU 166 [.i a,.i b,.i c,.i d] h λa b c e f=>A.cd .neq f 0 (K [.i 0,.i 0,.i f] a) (A.c4 167 [.i b,.i c,.i e,.i d] a λa b c d=>K [.i b,.i c,.i d] a)
def Sc:R:=A.k5 ls λa b=>A.c6 168 [.i a,.i b] h λc d=>A.cd .neq d 0 (K [.i 0,.i 0,.i 0,.i 1] c) (A.cd .eql a 1 (A.pm 2 b λa=>K [.i 4,.i a,.i 0,.i 0] c) (A.cd .eql a 2 (A.pm 2 b λa=>K [.i 6,.i 0,.i a,.i 0] c) (A.cd .eql a 3 (K [.i 5,.i b,.i b,.i 0] c) (A.ps 0 b λa=>K [.i 7,.i a,.i b,.i 0] c))))
def Sd:R:=A.IZ ls λa b c d e f=>A.pm a e λa=>A.pm b f λb=>A.pa a b λa=>A.pm c e λb=>A.pm d f λc=>A.pa b c λb=>K [.i a,.i b] h
def RW:R:=A.k4 ls λa b c=>A.c6 129 [.i a,.i b,.i c] h λd e=>A.cd .neq e 0 (K [.i 0,.i 0,.i 0,.i 3] d) (K [.i a,.i b,.i c,.i 0] d)
def f157:R:=A.FE ls λa b c d=>A.loop (λe f g=>A.k6 f λf=>A.cd .lss f 8 (A.h_ (EU 8 f) λ_=>A.h_ (jZ [.i 1,.i 0,.i 0,.i 1,.i 0,.i (-1),.i 1,.i 0,.i (-1),.i 0,.i 0,.i (-1),.i 0,.i 1,.i (-1),.i 0,.i (-1),.i 0,.i 0,.i 1,.i 0,.i (-1),.i (-1),.i 0,.i 1,.i 0,.i 0,.i (-1),.i 0,.i 1,.i 1,.i 0] 0 [(f,4)] 4) λi=>A.FE i λi j k l=>A.eqs [(.i i,.i a),(.i j,.i b),(.i k,.i c),(.i l,.i d)] λa=>A.cond a (A.conv .u8 f λa=>K [.i a] g) (A.pa f 1 λa=>e [.i a] g)) (K [.i 0] g)) [.i 0] h
def f158:R:=A.oo ls λa b=>A.oo b λb c=>A.IZ c λc d e f g i=>A.c5 155 [.i e,.i f,.i g,.i i,.i a,.i c] h λa c j=>A.c5 155 [.i e,.i f,.i g,.i i,.i b,.i d] a λa b d=>K [.i c,.i b,.i j,.i d] a
def Se:R:=A.k4 ls λa b _=>A.pm 2 a λa=>A.pa a 1 λa=>A.pm 2 b λb=>A.pa b 1 λb=>K [.i a,.i b] h
def Sf:R:=A.oo ls λa b=>A.FE b λb c d e=>A.c6 129 [.i a,.i b,.i c] h λf g=>A.cd .neq g 0 (K [.i 0,.i 0,.i 1] f) (A.c6 170 [.i d,.i e] f λf g=>A.cd .neq g 0 (K [.i 0,.i 0,.i 1] f) (A.h_ (EU 8 a) λ_=>A.h_ (pT ZO 0 [(a,4)] 4) λa=>A.rv .i64 a λa g=>A.rv .i64 g λg i=>A.G2 i λi j=>A.c5 155 [.i a,.i g,.i i,.i j,.i d,.i e] f λa d e=>A.pm 2 b λb=>A.pa d b λb=>A.pm 2 c λc=>A.pa e c λc=>A.c6 170 [.i b,.i c] a λa d=>A.cd .neq d 0 (K [.i 0,.i 0,.i 3] a) (K [.i b,.i c,.i 0] a)))
def U3:R:=A.Ck ls λa b=>A.k5 b λb c=>A.FX 171 [.v a,.i b,.i c,.v (.func (.func 172) ⟨[]⟩ ⟨[]⟩)] h λa b c=>K [.i b,.b c] a
def f166:R:=A.FE ls λa b c d=>A.c6 32 [.i a,.i b] h λe f=>A.cd .neq f 0 (K [.i 0,.i 0,.i 0,.i f] e) (A.c4 36 [.i a,.i b,.i c,.i d] e λe f g i=>A.cd .neq i 0 (K [.i 0,.i 0,.i 0,.i 7] e) (A.eqs [(.i f,.i c),(.i g,.i d)] λd=>A.cond (!d) (K [.i 0,.i 0,.i 0,.i 7] e) (A.c4 80 [.i a,.i b,.i c] e λa b c d=>K [.i b,.i c,.i d,.i 0] a)))
def f167:R:=A.FE ls λa b c d=>A.c6 81 [.i a,.i b,.i c] h λe f=>A.cd .neq f 0 (K [.i 0,.i 0,.i 1] e) (A.cd .gtr d 2 (K [.i 0,.i 0,.i 1] e) (A.h_ (EU 4 c) λ_=>A.h_ (pT hH 0 [(c,17)] 17) λc=>A.rv .i64 c λ_ c=>A.rv .i64 c λ_ c=>A.rv .u8 c λc f=>A.rv .i64 f λf g=>A.rv .i64 g λ_ g=>A.rv .i64 g λ_ g=>A.rv .u8 g λ_ g=>A.rv .i64 g λ_ g=>A.rv .i64 g λ_ g=>A.rv .u8 g λ_ g=>A.rv .i64 g λ_ g=>A.rv .i64 g λ_ g=>A.rv .u8 g λ_ g=>A.rv .i64 g λ_ g=>A.rv .i64 g λ_ g=>A.G2 g λ_ _=>A.pa a f λg=>A.cmp .eql d 1 λi=>A.join (λa b=>A.k5 a λa c=>A.c6 168 [.i a,.i c] b λb d=>A.cd .neq d 0 (K [.i 0,.i 0,.i 3] b) (K [.i a,.i c,.i 0] b)) λj=>A.cond i (A.pa a b λa=>A.pa a 1 λa=>j [.i 3,.i a] e) (A.cmp .eql d 2 λd=>A.join (λa b=>A.k5 a λa c=>j [.i a,.i c] b) λi=>A.cond d (A.ps b a λa=>i [.i 4,.i a] e) (A.cmp .eql c 2 λa=>A.join (λa b=>A.k5 a λa c=>i [.i a,.i c] b) λd=>A.cond a (A.pa b f λa=>d [.i c,.i a] e) (d [.i c,.i g] e)))))
def Si:R:=A.k5 ls λa b=>A.cd .lss a 1 (K [.i 1] h) (A.cd .gtr a 4 (K [.i 1] h) (A.cd .lss b (-4096) (K [.i 1] h) (A.cd .gtr b 4096 (K [.i 1] h) (K [.i 0] h))))
def Sj:R:=A.k5 ls λa b=>A.cd .lss a (-65536) (K [.i 1] h) (A.cd .gtr a 65536 (K [.i 1] h) (A.cd .lss b (-65536) (K [.i 1] h) (A.cd .gtr b 65536 (K [.i 1] h) (K [.i 0] h))))
def U4:R:=A.k14 ls λa b c d=>A.ln a λe=>A.loop (λf g i=>A.k5 g λg j=>A.cd .lss g j (A.pa g j λe=>A.conv .u64 e λe=>A.E5 .shr .u64 e .u64 1 λe=>A.ci e λe=>A.ix 3 a e 3 i λa=>A.MH a λa k l=>A.A7 d [.agg ⟨[.int .i64 a,.int .u8 k,.int .u8 l]⟩,.agg ⟨[.int .i64 b,.int .u8 c]⟩] [.leaf (.i .i64)] i λa b=>A.k6 a λa=>A.cmp .lss a 0 λa=>A.join (λa b=>A.k5 a λa c=>f [.i a,.i c] b) λc=>A.cond a (A.pa e 1 λa=>c [.i a,.i j] b) (c [.i g,.i e] b)) (A.join (λa b=>A.NC a λa c=>K [.i a,.b c] b) λf=>A.cd .lss g e (A.ix 3 a g 3 i λa=>A.MH a λa e j=>A.A7 d [.agg ⟨[.int .i64 a,.int .u8 e,.int .u8 j]⟩,.agg ⟨[.int .i64 b,.int .u8 c]⟩] [.leaf (.i .i64)] i λa b=>A.k6 a λa=>A.cmp .eql a 0 λa=>f [.i g,.b a] b) (f [.i g,.b false] i))) [.i 0,.i e] h
def Sl:R:=A.oo ls λa b=>A.FE b λb c d e=>A.c5 37 [.i a,.i b,.i c] h λa b c=>A.c6 38 [.i b,.i c,.i d,.i e] a λa b=>K [.i b] a
end
inductive Dt where
 |e
 |o (p:Dt)
 |i (p:Dt)
inductive Tr(i6:Type) where
 |leaf
 |node (v:i6) (l r:Tr i6)
def Dt.num:Dt->Nat
 | .e=>1
 | .o p=>2*p.num
 | .i p=>2*p.num+1
def QL:Nat->Nat->Dt
 |0,_=>.e
 |f+1,n=>if Nat.ble n 1 then .e else if Nat.beq (n%2) 0 then .o (QL f (n / 2))else .i (QL f (n / 2))
def cC(n:Nat):Dt:=QL (n+1) (n+1)
def Dt.get{i6:Type}(d:i6)(p:Dt):Tr i6->i6:=
 Dt.rec (motive:=λ_=>Tr i6->i6)
  (λt=>Tr.casesOn t d λv _ _=>v)
  (λ_ a t=>Tr.casesOn t d λ_ l _=>a l)
  (λ_ a t=>Tr.casesOn t d λ_ _ r=>a r) p
def v2:Int->Int->Bool
 | .ofNat a,.ofNat b=>Nat.beq a b
 | .negSucc a,.negSucc b=>Nat.beq a b
 |_,_=>false
def I1:TL->Nat
 | .i8=>127
 | .i16=>32767
 | .i32=>2147483647
 | .i64=>9223372036854775807
 | .u8=>255
 | .u16=>65535
 | .u32=>4294967295
 | .u64=>18446744073709551615
def RX(k:TL):Int->Bool
 | .ofNat n=>Nat.ble n (I1 k)
 | .negSucc n=>k.signed&&Nat.ble n (I1 k)
end Go.Am
end

import Derived.Test.YtekebdoegplamaaGreatDoorOF1
import Derived.Test.YtekebdoegplamaaGreatDoorProg
set_option linter.all false
noncomputable section
set_option maxRecDepth 100000
open Option renaming some->O,none->Q
open Bool renaming true->J,false->U
open List renaming length->W,range->EW,replicate->FJ
open Go.Value renaming int->EO,slice->DW,pointer->EQ,agg->EU
open Go.IntKind renaming i64->DQ,u8->DU
open Go renaming Value->FO,Oper->FQ,Operand->GJ,BinOp->GO,TypeDesc->GQ,MapEntry->GU
open Go.Am.wa renaming cells->EJ
namespace Go.Am
section
variable [El] {C:p_}
structure Io(S S':HA):Prop where
 call:∀f args H r H',S.call f args H r H'->S'.call f args H r H'
 yield:∀l args H r H',S.yield l args H r H'->S'.yield l args H r H'
 ex:∀fid c g9 e j6,S.ex fid c g9 e j6->S'.ex fid c g9 e j6
def yq{B B':Below}(d:∀f args H r H',B.call f args H r H'->B'.call f args H r H')(g:∀l args H r H',B.yield l args H r H'->B'.yield l args H r H')
  {e:FY} {dst:Tq} {g9 c:St} (h:oz B e dst g9 c):oz B' e dst g9 c:=by
 cases e<;>first
  |exact h
  |(obtain⟨r,H,a,b⟩:=h;first|exact⟨r,H,d _ _ _ _ _ a,b⟩|exact⟨r,H,g _ _ _ _ _ a,b⟩)
def dg{B B':Below}(d:∀f args H r H',B.call f args H r H'->B'.call f args H r H')(g:∀l args H r H',B.yield l args H r H'->B'.yield l args H r H')
  {b_:TC} {ops:To} {i:Nat} {g9 a:St} (h:ar C B b_ ops i g9 a):ar C B' b_ ops i g9 a:=by
 unfold ar at *;split at h
 .exact h
 .split at h
  .exact h
  .exact h
  .rcases h with⟨e,b,c⟩|h
   .exact .inl ⟨e,b,yq d g c⟩
   .exact .inr h
def ge{B B':Below}(a:∀f args H r H',B.call f args H r H'->B'.call f args H r H')(b:∀l args H r H',B.yield l args H r H'->B'.yield l args H r H')
  {b_:TC} {ops:To}:∀ {l:TC} {g9 c:St},bw C B b_ ops l g9 c->bw C B' b_ ops l g9 c
 | [],_,_,h=>h
 |_::_,_,_,⟨j9,h1,d⟩=>⟨j9,dg a b h1,ge a b d⟩
def oJ{B B':Below}(a:∀f args H r H',B.call f args H r H'->B'.call f args H r H')(b:∀l args H r H',B.yield l args H r H'->B'.yield l args H r H')
  {b_:TC} {ops:To}:∀ {l:TC} {g9 c:St},gc C B b_ ops l g9 c->gc C B' b_ ops l g9 c
 | [],_,_,h=>h
 |_::_,_,_,⟨e,j9,h0,h1,d⟩=>⟨e,j9,h0,dg a b h1,oJ a b d⟩
def mN{B B':Below}(a:∀f args H r H',B.call f args H r H'->B'.call f args H r H')(b:∀l args H r H',B.yield l args H r H'->B'.yield l args H r H')
  {b_:TC} {ops:To} {d:Nat->Ts}:∀ {l:TC} {g9 c:St},jS C B b_ ops d l g9 c->jS C B' b_ ops d l g9 c
 | [],_,_,h=>h
 |i::_,_,_,⟨h0,j9,h1,e⟩=>⟨h0,j9,by
  unfold eN at h1 ⊢;split at h1
  .exact dg a b h1
  .exact h1,mN a b e⟩
def ye{B B':Below}(a:∀f args H r H',B.call f args H r H'->B'.call f args H r H')(b:∀l args H r H',B.yield l args H r H'->B'.yield l args H r H')
  {b_:TC} {ops:To} {g9 c:St} (h:eS C B b_ ops g9 c):eS C B' b_ ops g9 c:=
 h.imp (λh t=>ge a b (h t)) λ⟨j,n,d,e,g,i⟩=>⟨j,n,d,e,g,λt=>mN a b (i t)⟩
def yA{S v:HA}(h:Io S v){m:TC}{c:Code}{g9:St}{e:Exit}{y:St}(i:qD C S m c g9 e y):qD C v m c g9 e y:=by
 cases c with
 |skip=>exact i
 |label l=>exact i
 |ret=>exact i
 |exit id=>exact i
 |goto l=>exact i
 |refuse w=>exact i
 |seq a b=>obtain⟨n,u,j,d⟩:=i;exact⟨n,u,h.ex _ _ _ _ _ j,d.imp (λd=>⟨d.1,h.ex _ _ _ _ _ d.2⟩) id⟩
 |cond c a b=>obtain⟨t,j,d⟩:=i;exact⟨t,j,h.ex _ _ _ _ _ d⟩
 |block id b=>obtain⟨n,j,d⟩:=i;exact⟨n,h.ex _ _ _ _ _ j,d⟩
 |loop b=>obtain⟨n,u,j,d⟩:=i;exact⟨n,u,h.ex _ _ _ _ _ j,d.imp (λd=>⟨d.1,h.ex _ _ _ _ _ d.2⟩) id⟩
 |scope b=>exact h.ex _ _ _ _ _ i
 |region id D k=>
  obtain⟨j,d⟩:=i;refine⟨j,?_⟩;cases k with
  |true=>obtain⟨E,q,s⟩:=d;exact⟨E,q,ye h.call h.yield s⟩
  |false=>exact oJ h.call h.yield d
 |rangeFunc f o assign x=>obtain⟨A,g,first,p,z,tm,r,H,F,j,d,q,s,B⟩:=i;exact⟨A,g,first,p,z,tm,r,H,F,j,d,q,h.call _ _ _ _ _ s,B⟩
def tT{S a:HA}(h:Io S a){f:TT}{args:Tn}{H:Tu}{r:TV}{H':Tu}(m:pw C S f args H r H'):pw C a f args H r H':=by obtain⟨c,b,e,d,n,g,i,j,k,l⟩:=m;exact⟨c,b,e,d,n,g,i,j,h.ex _ _ _ _ _ k,l⟩
def sa{S a:HA}(h:Io S a){l:Nat}{args:Tn}{H:Tu}{r:TV}{H':Tu}(n:mR C S l args H r H'):mR C a l args H r H':=by obtain⟨p,o,s,e,q,b,j,c,d,f,g,i,k,m⟩:=n;exact⟨p,o,s,e,q,b,j,c,d,h.ex _ _ _ _ _ f,g,i,h.ex _ _ _ _ _ k,m⟩
class E_ where
 kn:TT->Tn->Value->Prop
 kh:TT->Tn->Tu->Value->Tu->Prop
variable [E_]
def noK:Xv:=λf a H r b=>(E_.kn f a r/\b=H)∨E_.kh f a H r b
def sm(C:p_)(n:Nat):HA:=VY C noK n
def R8:∀n,Io (sm C n) (sm C (n+1))
 |0=>⟨λ_ _ _ _ _ h=>.inl h,λ_ _ _ _ _ h=>h.elim,λ_ _ _ _ _ h=>h.elim⟩
 |n+1=>by have a:=R8 n;exact⟨λ_ _ _ _ _ h=>h.imp id (tT a),λ_ _ _ _ _ h=>sa (C:=C) a h,λ_ _ _ _ _ h=>yA a h⟩
def kq{n:Nat}:∀ {m:Nat},n<=m->Io (sm C n) (sm C m)
 |0,h=>by obtain rfl:n=0:=Nat.le_zero.1 h;exact⟨λ_ _ _ _ _ h=>h,λ_ _ _ _ _ h=>h,λ_ _ _ _ _ h=>h⟩
 |m+1,h=>by
  by_cases c:n=m+1
  .subst c;exact⟨λ_ _ _ _ _ h=>h,λ_ _ _ _ _ h=>h,λ_ _ _ _ _ h=>h⟩
  .have b:=kq (n:=n) (m:=m) a_;have a:=R8 (C:=C) m;exact⟨λ_ _ _ _ _ h=>a.call _ _ _ _ _ (b.call _ _ _ _ _ h),λ_ _ _ _ _ h=>a.yield _ _ _ _ _ (b.yield _ _ _ _ _ h),λ_ _ _ _ _ h=>a.ex _ _ _ _ _ (b.ex _ _ _ _ _ h)⟩
def kw(C:p_)(f:TT)(args:Tn)(H:Tu)(r:FO)(H':Tu):Prop:=∃n,(sm C n).call f args H r H'
def iO(C:p_)(l:Nat)(args:Tn)(H:Tu)(r:FO)(H':Tu):Prop:=∃n,(sm C n).yield l args H r H'
def Fo(C:p_)(a:TC)(c:Code)(g9:St)(e:Exit)(b:St):Prop:=∃n,(sm C n).ex a c g9 e b
def uB(C:p_):Below:={ call:=kw C,yield:=iO C }
theorem zz(d:C.P.follows .mixedOrders=J)(a:∀f args r,E_.kn f args r->∀H,eR C f args H r H)(c:∀f args H r H',E_.kh f args H r H'->eR C f args H r H'){f:TT}{args:Tn}{H:Tu}{r:TV}{H':Tu}(h:kw C f args H r H'):eR C f args H r H':=by
 obtain⟨n,h⟩:=h;exact(R0 d (K:=noK) (λf args H r H' h=>by
  rcases h with⟨b,rfl⟩|h
  .exact a f args r b _
  simp_all) n).1.call _ _ _ _ _ h
def T0{e:FY}{dst:Tq}{g9 a:St}(h:oz (uB C) e dst g9 a):∃n,oz (sm C n).toBelow e dst g9 a:=by
 cases e<;>first
  |exact⟨0,h⟩
  |(obtain⟨r,H,⟨n,b⟩,c⟩:=h;exact⟨n,r,H,b,c⟩)
def jT{b_:TC}{ops:To}{i:Nat}{g9 c:St}(h:ar C (uB C) b_ ops i g9 c):∃n,ar C (sm C n).toBelow b_ ops i g9 c:=by
 unfold ar at h;split at h
 next b=>exact⟨0,by unfold ar;rw[b];exact h⟩
 next o b=>
  split at h
  .exact h.elim
  next d=>exact⟨0,by unfold ar;simp_all⟩
  next d=>
   rcases h with⟨e,f,a⟩|h
   .obtain⟨n,a⟩:=T0 a;exact⟨n,by unfold ar;simp_all⟩
   .exact⟨0,by unfold ar;simp_all⟩
def jy{b_:TC}{ops:To}:∀ {l:TC} {g9 d:St},bw C (uB C) b_ ops l g9 d->∃n,bw C (sm C n).toBelow b_ ops l g9 d
 | [],_,_,h=>⟨0,h⟩
 |_::_,_,_,⟨j9,h1,a⟩=>by obtain⟨n,h1⟩:=jT h1;obtain⟨m,a⟩:=jy a;have c:=kq (C:=C) (qcf n m);have b:=kq (C:=C) (qcC n m);exact⟨max n m,j9,dg c.call c.yield h1,ge b.call b.yield a⟩
theorem gG.refl(g9:St):gG g9 g9:=⟨rfl,rfl,rfl,λi x y a b=>k_⟩
def ta{B:Below}{b_:TC}{ops:To}:∀ {l:TC} {g9 a:St},bw C B b_ ops l g9 a->gc C B b_ ops l g9 a
 | [],_,_,h=>h
 |_::_,g9,_,⟨j9,h1,b⟩=>⟨g9,j9,.refl g9,h1,ta b⟩
section rules
variable {fid:TC} {g9 j9 j6:St} {e t9:Exit} {a b:Code}
def Fo.skip:Fo C fid .skip g9 .normal g9:=⟨1,rfl,rfl⟩
def Fo.label{l:Nat}:Fo C fid (.label l) g9 .normal g9:=⟨1,rfl,rfl⟩
def Fo.ret:Fo C fid .ret g9 .ret g9:=⟨1,rfl,rfl⟩
def Fo.exit{id:Nat}:Fo C fid (.exit id) g9 (.exit id) g9:=⟨1,rfl,rfl⟩
def Fo.seq(h1:Fo C fid a g9 .normal j9)(c:Fo C fid b j9 e j6):Fo C fid (.seq a b) g9 e j6:=by obtain⟨n,h1⟩:=h1;obtain⟨m,c⟩:=c;exact⟨max n m+1,.normal,j9,(kq (qcf n m)).ex _ _ _ _ _ h1,.inl ⟨rfl,(kq (qcC n m)).ex _ _ _ _ _ c⟩⟩
def Fo.seqX(h1:Fo C fid a g9 e j6)(c:e≠.normal):Fo C fid (.seq a b) g9 e j6:=by obtain⟨n,h1⟩:=h1;exact⟨n+1,e,j6,h1,.inr ⟨c,rfl,rfl⟩⟩
def Fo.cond{c:TM}{t:Bool}(d:ka g9.tmps c = .bool t)(h:Fo C fid (if t then a else b) g9 e j6):Fo C fid (.cond c a b) g9 e j6:=by obtain⟨n,h⟩:=h;exact⟨n+1,t,d,h⟩
def Fo.block{id:Nat}(h:Fo C fid b g9 e j6):Fo C fid (.block id b) g9 (kU id e) j6:=by obtain⟨n,h⟩:=h;exact⟨n+1,e,h,rfl⟩
def Fo.loop(h1:Fo C fid b (g9.clear (aS fid b)) .normal j9)(c:Fo C fid (.loop b) j9 e j6):Fo C fid (.loop b) g9 e j6:=by obtain⟨n,h1⟩:=h1;obtain⟨m,c⟩:=c;exact⟨max n m+1,.normal,j9,(kq (qcf n m)).ex _ _ _ _ _ h1,.inl ⟨rfl,(kq (qcC n m)).ex _ _ _ _ _ c⟩⟩
def Fo.loopX(h1:Fo C fid b (g9.clear (aS fid b)) e j6)(c:e≠.normal):Fo C fid (.loop b) g9 e j6:=by obtain⟨n,h1⟩:=h1;exact⟨n+1,e,j6,h1,.inr ⟨c,rfl,rfl⟩⟩
def Fo.scope(h:Fo C fid b g9 e j6):Fo C fid (.scope b) g9 e j6:=by obtain⟨n,h⟩:=h;exact⟨n+1,h⟩
def Fo.region{id:Nat}{ops:To}(h:bw C (uB C) fid ops (EW ops.size) g9 j6):Fo C fid (.region id ops U) g9 .normal j6:=by obtain⟨n,h⟩:=jy h;exact⟨n+1,rfl,ta h⟩
def Fo.draw{id:Nat}{ops:To}(c:∀n,bw C (sm C n).toBelow fid ops (EW ops.size) g9 j6->eS C (sm C n).toBelow fid ops g9 j6)
  (h:bw C (uB C) fid ops (EW ops.size) g9 j6):Fo C fid (.region id ops J) g9 .normal j6:=by
 obtain⟨n,h⟩:=jy h;exact⟨n+1,rfl,g9,.refl g9,c n h⟩
def Fo.drawS{p:St}{id:Nat}{ops:To}{g h:TC}{k:Nat}(c:∀n,bw C (sm C n).toBelow fid ops g g9 j9->ar C (sm C n).toBelow fid ops k j9 p->bw C (sm C n).toBelow fid ops h j9 j6->eS C (sm C n).toBelow fid ops g9 j6)
  (h1:bw C (uB C) fid ops g g9 j9) (d:ar C (uB C) fid ops k j9 p) (f:bw C (uB C) fid ops h j9 j6):Fo C fid (.region id ops J) g9 .normal j6:=by
 obtain⟨n,h1⟩:=jy h1;obtain⟨m,d⟩:=jT d;obtain⟨l,f⟩:=jy f;have i:=kq (C:=C) (show n<=max n (max m l)by omega);have j:=kq (C:=C) (show m<=max n (max m l)by omega);have o:=kq (C:=C) (show l<=max n (max m l)by omega);exact⟨max n (max m l)+1,rfl,g9,.refl g9,c _ (ge i.call i.yield h1) (dg j.call j.yield d) (ge o.call o.yield f)⟩
def Fo.drawA{id:Nat}{ops:To}{n:Nat}(h:eS C (sm C n).toBelow fid ops g9 j6):Fo C fid (.region id ops J) g9 .normal j6:=
 ⟨n+1,rfl,g9,.refl g9,h⟩
def Fo.rangeFunc{f:TM}{params:Array Tmp}{assign body:Code}{g:TT}{first cap:Tl}{A8:TT}{tm:Tn}{r:TV}{H:Tu}{c:HI}
  (h0:fid≠[]) (h1:Af g9.tmps tm) (h:ka g9.tmps f = .func (.func g) first cap) (i:q8 (.func (.func g) first cap)=J)
  (d:kw C g (first.toList++[.func (.yield (W g9.heap)) #[] #[]]++cap.toList)
    (g9.heap++[.loop { state:=.ready,pending:=Q,fn:=A8,tmps:=tm,params:=params.toList,assign,body }]) r H)
  (j:fe H (W g9.heap)=O c) (k:c.state≠.busy) (l:Ay c.pending=O e) :
  Fo C fid (.rangeFunc f params assign body) g9 e { g9 with heap:=H.set (W g9.heap) (.loop { c with state:=.exhausted }) }:=by
 obtain⟨n,d⟩:=d;exact⟨n+1,h0,g,first,cap,A8,tm,r,H,c,h1,h,i,d,j,k,l,rfl⟩
def kw.intro{f:TT}{args:Tn}{H:Tu}{d:Func}{c:Code}{vs:Tn}
  (h1:C.P.funcs[f]?=O d) (h:d.body=O c) (i:((d.name == "runtime.NumGoroutine")||C.opq f)=U)
  (g:Fo C (C.b_ f) c (oA d args H) e g9) (j:e = .normal∨e = .ret) (k:dq C g9 d.results.toList=O vs) (l:q8 (gL vs)=J) :
  kw C f args H (gL vs) g9.heap:=by
 obtain⟨n,g⟩:=g;exact⟨n+1,.inr ⟨d,c,e,g9,vs,h1,h,i,g,j,k,rfl,l,rfl⟩⟩
def iO.intro{l:Nat}{args:Tn}{H:Tu}{c f g:HI}{d:St}{j:Tm}
  (h1:fe H l=O c) (k:W args=W c.params)
  (h:Fo C [] c.assign { tmps:=cW c.params args c.tmps,loc:=[],heap:=H } .normal j9)
  (o:fe j9.heap l=O f) (p:f.state = .ready)
  (i:Fo C [] c.body { j9 with heap:=j9.heap.set l (.loop { f with state:=.busy }) } e d) (q:M7 e=O j) (r:fe d.heap l=O g) :
  iO C l args H (.bool j.isNone) (d.heap.set l (.loop { g with state:=if j.isNone then .ready else .done,pending:=j })):=by
 obtain⟨n,h⟩:=h;obtain⟨m,i⟩:=i;exact⟨max n m+1,c,j9,f,e,d,g,j,h1,k,(kq (qcf n m)).ex _ _ _ _ _ h,o,p,(kq (qcC n m)).ex _ _ _ _ _ i,q,r,rfl,rfl⟩
end rules
end
inductive Lf where
 |i (n:Int)
 |b (t:Bool)
 |v (x:Value)
inductive LK where
 |i (k:TN)
 |b
 |v
abbrev _root_.TK:=List LK
inductive SK where
 |leaf (k:LK)
 |agg (ks:TK)
inductive SL where
 |i (k:TN) (n:Int)
 |b (t:Bool)
 |l (t:Bool)
 |v (x:Value)
inductive S0 where
 |leaf (l:SL)
 |agg (cs:List SL)
inductive SV where
 |st (x:S0)
 |NE (xs:List S0)
 |Kb (s off:Nat)
 |Mz (s base:Nat) (ix:List (Int×Nat))
 |My (g off:Nat)
 |Pz (g base:Nat) (ix:List (Int×Nat))
 |un
 |no
inductive LR where
 |Mm
 |nil
 |any (n:Nat)
 |row (cs:List SL)
structure Env where
 tm:List SV
 lc:List LR
def SL.val:SL->FO
 | .i k n=>.int k n
 | .b t=>.bool t
 | .l t=>.bool t
 | .v x=>x
def SL.lf:SL->Lf
 | .i _ n=>.i n
 | .b t=>.b t
 | .l t=>.b t
 | .v x=>.v x
def S0.val:S0->FO
 | .leaf l=>l.val
 | .agg cs=>EU ⟨cs.map SL.val⟩
def S0.cells:S0->List SL
 | .leaf l=>[l]
 | .agg cs=>cs
def E1(a:Nat):List (Int×Nat)->Nat
 | []=>a
 |p::l=>E1 (a+p.1.toNat*p.2) l
def SV.val:SV->FO
 | .st x=>x.val
 | .NE xs=>.tuple ⟨xs.map S0.val⟩
 | .Kb s off=>EQ (O ⟨s,off,O 0⟩)
 | .Mz s a ix=>EQ (O ⟨s,E1 a ix,O 0⟩)
 | .My g off=>EQ (O ⟨g,off,O 1⟩)
 | .Pz g a ix=>EQ (O ⟨g,E1 a ix,O 1⟩)
 | .un=>undef
 | .no=>undef
def aH(x:FO):Bool:=q8 x&&aW x&&aR x && !aL x
def H0(x:FO):Option Unit:=if bG x then O ()else Q
def Me:FO->SL
 | .int k n=>.i k n
 | .bool t=>.l t
 |v=>.v v
def K9:FO->Option S0
 | .agg cs=>match cs.toList.all scalar with
  |J=>O (.agg (cs.toList.map Me))
  |U=>Q
 |v=>match scalar v with
  |J=>O (.leaf (Me v))
  |U=>Q
def kNo(k:TN):Nat:=@IntKind.rec (λ_=>Nat) 0 1 2 3 4 5 6 7 k
def dc(a b:TN):Bool:=Nat.beq (kNo a) (kNo b)
def SL.is:SL->LK->Bool
 | .i k _,.i a=>dc k a
 | .b _,.b=>J
 | .l _,.b=>J
 | .v _,.v=>J
 |_,_=>U
def bf:List SL->TK->Bool
 | [],[]=>J
 |c::cs,k::ks=>c.is k&&bf cs ks
 |_,_=>U
def S0.is:S0->SK->Bool
 | .leaf l,.leaf k=>l.is k
 | .agg cs,.agg ks=>bf cs ks
 |_,_=>U
def SL.lk:SL->LK
 | .i k _=>.i k
 | .b _=>.b
 | .l _=>.b
 | .v _=>.v
structure Live where
 tm:List (Nat×SK)
 rows:List (Nat×List LK)
abbrev _root_.TP:=List SK
inductive AC where
 |skip
 |ret
 |exit (id:Nat)
 |label (l:Nat)
 |seq (a b:AC)
 |scope (b:AC)
 |region (id:Nat) (ops:To) (draw:Bool) (hs:List (TP)) (j:Option Live)
 |cond (c:TM) (a b:AC) (j:Option Live)
 |block (id:Nat) (b:AC) (j:Option Live)
 |loop (b:AC) (l:Live)
 |rangeFunc (f:TM) (m8:Nat) (ids:TC)
structure Site where
 nt:Nat
 caps:List (Nat×SK)
 params:List (Nat×SK)
 assign:AC
 body:AC
def AC.erase(T:Nat->Tmp->Code):AC->Code
 | .skip=>.skip
 | .ret=>.ret
 | .exit id=>.exit id
 | .label l=>.label l
 | .seq a b=>.seq (a.erase T) (b.erase T)
 | .scope b=>.scope (b.erase T)
 | .region id ops d _ _=>.region id ops d
 | .cond c a b _=>.cond c (a.erase T) (b.erase T)
 | .block id b _=>.block id (b.erase T)
 | .loop b _=>.loop (b.erase T)
 | .rangeFunc f e _=>match f with
  | .tmp t=>T e t
  |_=> .refuse ""
def sY:Nat->Tmp->Code:=λ_ _=> .refuse ""
def gF(s:Site)(t:Tmp):Code:=.rangeFunc (.tmp t) (s.params.map (·.1)).toArray (s.assign.erase sY) (s.body.erase sY)
def Lm:Code->List Nat
 | .region _ ops _=>ops.toList.filterMap (·.dst)
 | .seq a b=>Lm a++Lm b
 | .cond _ a b=>Lm a++Lm b
 | .block _ b=>Lm b
 | .loop b=>Lm b
 | .scope b=>Lm b
 |_=>[]
def lj(b_:TC)(o:FQ):Ts:=
 match o.op with
 | .box .. | .alloc _=>match o.dst with
  |O d=>if b_.getD d 0=d+2 then O d else Q
  |Q=>Q
 | .store _ a _=>match oV b_ a with
  |s+2=>O s
  |_=>Q
 |_=>Q
def HS(b_:TC):Code->List Nat
 | .region _ ops _=>ops.toList.filterMap (lj b_)
 | .seq a b=>HS b_ a++HS b_ b
 | .cond _ a b=>HS b_ a++HS b_ b
 | .block _ b=>HS b_ b
 | .loop b=>HS b_ b
 | .scope b=>HS b_ b
 | .rangeFunc _ _ a b=>HS b_ a++HS b_ b
 |_=>[]
section
variable {R:Type}
def fN(n:Nat)(k:Nat->R):R:=Nat.rec (motive:=λ_=>R) (k n) (λm _=>k m) (Nat.succ n)
def fI(n:Int)(k:Int->R):R:=Int.rec (motive:=λ_=>R) (λm=>fN m λm=>k (.ofNat m)) (λm=>fN m λm=>k (.negSucc m)) n
def eW(n:Nat)(k:Nat->R):fN n k=k n:=rfl
def lS(n:Int)(k:Int->R):fI n k=k n:=by cases n<;>rfl
end
def y3(a b:Int):Bool:=Int.rec (λm=>Int.rec (λn=>Nat.ble m n) (λ_=>U) b) (λm=>Int.rec (λ_=>J) (λn=>Nat.ble n m) b) a
def P2{a b:Int}:y3 a b=J↔a<=b:=by cases a<;>cases b<;>simp only[y3,Lj,FG,false_iff,true_iff,Int.ofNat_eq_natCast]<;>omega
def S_{j7:Type}(l:List j7):Nat->Nat->Option (List j7):=
 List.rec (motive:=λ_=>Nat->Nat->Option (List j7))
  (λb n=>Nat.rec (Nat.rec (O []) (λ_ _=>Q) n) (λ_ _=>Q) b)
  (λa _ c b n=>Nat.rec (Nat.rec (O []) (λm _=>Option.rec Q (λl=>O (a::l)) (c 0 m)) n) (λo _=>c o n) b) l
def qr{j7:Type}:∀(l:List j7) (off n:Nat),S_ l off n=if off+n<=W l then O ((l.drop off).take n)else Q
 | [],0,0=>rfl
 | [],0,n+1=>by rw[ts d_];rfl
 | [],o+1,n=>by rw[ts d_];rfl
 |a::l,0,0=>by rw[rv d_];rfl
 |a::l,0,n+1=>by
  show(Option.rec Q (λl=>O (a::l)) (S_ l 0 n):Option (List j7))=_;rw[qr l 0 n];by_cases h:0+n<=W l
  .simp_all
  .rw[ts h,ts (by simp at h ⊢;omega)]
 |a::l,o+1,n=>by
  show S_ l o n=_;rw[qr l o n]
  grind
def cp{j7:Type}(l:List j7):Nat->List j7->Option (List j7):=
 List.rec (motive:=λ_=>Nat->List j7->Option (List j7))
  (λd c=>Nat.rec (List.rec (O []) (λ_ _ _=>Q) c) (λ_ _=>Q) d)
  (λa t e d c=>Nat.rec (List.rec (O (a::t)) (λb f _=>Option.rec Q (λl=>O (b::l)) (e 0 f)) c) (λo _=>Option.rec Q (λl=>O (a::l)) (e o c)) d) l
def zM{j7:Type}:∀(l:List j7) (off:Nat) (new:List j7),cp l off new=if off+W new<=W l then O (l.take off++new++l.drop (off+W new))else Q
 | [],0,[]=>rfl
 | [],0,b::c=>by rw[ts d_];rfl
 | [],o+1,new=>by rw[ts d_];rfl
 |a::l,0,[]=>by rw[rv d_];rfl
 |a::l,0,b::c=>by
  show(Option.rec Q (λl=>O (b::l)) (cp l 0 c):Option (List j7))=_;rw[zM l 0 c];by_cases h:0+W c<=W l
  .simp_all
  .rw[ts h,ts (by simp at h ⊢;omega)]
 |a::l,o+1,new=>by
  show(Option.rec Q (λl=>O (a::l)) (cp l o new):Option (List j7))=_;rw[zM l o new];by_cases h:o+W new<=W l
  .rw[rv h,rv (by simp at h ⊢;omega)];grind
  .rw[ts h,ts (by simp at h ⊢;omega)]
abbrev cU:=Nat->Option wa
inductive Er where
 |set (i:Nat) (o:wa)
 |push (o:wa)
def Er.on(H:Tu):Er->List wa
 | .set i o=>H.set i o
 | .push o=>H++[o]
def iK(H:Tu)(l:List Er):Tu:=l.foldl Er.on H
def iZ(g:cU)(id:Nat):Option (Tn):=
 match g id with
 |O (.cells a _ _)=>O a
 |_=>Q
def ldP(n:Nat)(p:FO)(g:cU):Option (Tn):=
 match p with
 | EQ (O a)=>match a.spot with
  |Q=>(iZ g a.block).bind λb=>cut b a.off n
  |O _=>Q
 |_=>Q
def lgP(C:p_)(n:Nat)(p:FO)(g:cU):Option (Tn):=
 match p with
 | EQ (O a)=>match a.spot with
  |Q=>(iZ g a.block).bind λb=>cut b a.off n
  |O k=>match Nat.beq k 1 with
   |J=>(C.G a.block).bind λb=>cut b a.off n
   |U=>Q
 |_=>Q
def NC(p:FO)(new:Tn)(g:cU)(_:Nat):Option (List Er×List FO):=
 match p with
 | EQ (O a)=>match a.spot with
  |Q=>match g a.block with
   |O (.cells c e J)=>(v_ c a.off new).map λb=>([.set a.block (.cells b e J)],[])
   |_=>Q
  |O _=>Q
 |_=>Q
def Xm(C:p_)(vd:Nat)(g:cU):FO->Option (List FO×Nat)
 | DW Q 0 0=>O ([],0)
 | DW (O a) len _=>
  if a.spot=O 1 then((C.G a.block).bind λvs=>cut vs a.off (len*vd)).map λx=>(x,len)
  else if a.spot=le vd then
   match g a.block with
   |O (.cells vs e _)=>if e=vd then(cut vs a.off (len*vd)).map λx=>(x,len)else Q
   |_=>Q
  else Q
 | .string s=>if vd=1 then O (s.data.toList.map λb=>EO DU b.toNat,s.size)else Q
 |_=>Q
def Gx(C:p_)(vd bytes:Nat)(s x:FO)(g:cU)(n0:Nat):Option (List Er×List FO):=
 match Xm C vd g x with
 |Q=>Q
 |O (c,n)=>
  match s with
  | DW Q 0 0=>
   if n=0 then O ([],[DW Q 0 0])
   else if aY n bytes then O ([.push (.cells c vd J)],[DW (O ⟨n0,0,le vd⟩) n 0])else Q
  | DW (O a) b i=>
   if a.spot≠le vd then Q else
   match g a.block with
   |O (.cells h e rw)=>
    if e≠vd then Q else
    match cut h a.off (b*vd)with
    |Q=>Q
    |O d=>
     match i with
     |0=>
      if n=0 then O ([],[DW (O a) b 0])
      else if rw&&aY (b+n) bytes then
       O ([.set a.block .dead,.push (EJ (d++c) vd J)],[DW (O ⟨n0,0,le vd⟩) (b+n) 0])
      else Q
     |cap+1=>
      if b+n<=cap then
       if rw then(v_ h (a.off+b*vd) c).map λf=>([.set a.block (.cells f e J)],[DW (O a) (b+n) (cap+1)])
       else if n=0 then O ([],[DW (O a) b (cap+1)])else Q
      else if aY (b+n) bytes then
       O ([.push (EJ (d++c) vd J)],[DW (O ⟨n0,0,le vd⟩) (b+n) 0])
      else Q
   |_=>Q
  |_=>Q
def cpG(C:p_)(vd:Nat)(d x:FO)(g:cU)(_:Nat):Option (List Er×List FO):=Q
def clG(vd:Nat)(z:Tn)(x:FO)(g:cU)(_:Nat):Option (List Er×List FO):=Q
def GV(vd:Nat)(x:FO)(d e f:Tt):Tk:=
 match x with
 | DW (O a) b g=>
  if a.spot≠O 1/\a.spot≠le vd then Q else
  if 0<=d.getD 0/\d.getD 0<=e.getD b/\bW b g e f then
   fN (a.off+(d.getD 0).toNat*vd) λo=>fN ((e.getD b).toNat-(d.getD 0).toNat) λn=>fN (bM g (d.getD 0).toNat f) λc=>
   O (DW (O { a with off:=o }) n c)
  else Q
 | DW Q 0 0=>if d.getD 0=0/\e.getD 0=0/\f.getD 0=0/\(f.isNone∨e.isSome)then O (DW Q 0 0)else Q
 |_=>Q
def M2(s:Ts):Ts:=match s with
 |Q=>Q
 |O k=>match Nat.beq k 1 with
  |J=>O 1
  |U=>Q
def D8(vd:Nat)(x:FO)(i:Int):Tk:=
 match x with
 | DW (O a) b _=>Int.rec (λj=>match Nat.blt j b with
  |J=>fN (Nat.add a.off (Nat.mul j vd)) λo=>O (EQ (O ⟨a.block,o,M2 a.spot⟩))
  |U=>Q) (λ_=>Q) i
 |_=>Q
def u3(s:Ts):M2 s=if s=O 1 then O 1 else Q:=by
 unfold M2;cases s with
 |none=>rfl
 |some k=>
  cases e:Nat.beq k 1 with
  |true=>simp_all
  |false=>rw[ts (λh=>by cases h;cases e)];simp only[e]
def sI(vd:Nat)(x:FO)(i:Int):D8 vd x i=match (motive:=FO->Tk) x with
 | DW (O a) len _=>if 0<=i/\i<(len:Int)then O (EQ (O ⟨a.block,a.off+i.toNat*vd,if a.spot=O 1 then O 1 else Q⟩))else Q
 |_=>Q:=by
 unfold D8;split
 next a len _=>
  cases i with
  |ofNat j=>
   simp only[eW,u3];cases e:Nat.blt j len with
   |true=>simp_all
   |false=>
    have:¬j<len:=λh=>by rw[←IV,e]at h;cases h
    simp_all
  |negSucc j=>simp_all
 .rfl
def Y9(len vd:Nat)(x:FO)(i:Int):Tk:=
 match x with
 | EQ (O a)=>if 0<=i/\i<(len:Int)then O (EQ (O { a with off:=a.off+i.toNat*vd }))else Q
 |_=>Q
def Fq(off:Nat)(x:FO):Tk:=
 match x with
 | EQ (O a)=>O (EQ (O { a with off:=a.off+off }))
 |_=>Q
def EZ(x:FO):Tk:=
 match x with
 | EQ (O a)=>O (EQ (O a))
 | .func (.func f) a b=>O (.func (.func f) a b)
 | .func (.yield f) a b=>O (.func (.yield f) a b)
 |_=>Q
def T4(a:List UInt8):List UInt8->Bool:=
 List.rec (motive:=λ_=>List UInt8->Bool) (λb=>List.rec J (λ_ _ _=>U) b)
  (λx _ c b=>List.rec U (λy t _=>Bool.rec U (c t) (Nat.beq x.toNat y.toNat)) b) a
def Av:∀(a b:List UInt8),T4 a b=J↔a=b
 | [],[]=>⟨λ_=>rfl,λ_=>rfl⟩
 | [],_::_=>⟨λh=>(by cases h),λh=>(by cases h)⟩
 |_::_,[]=>⟨λh=>(by cases h),λh=>(by cases h)⟩
 |x::a,y::b=>by
  show(Bool.rec U (T4 a b) (Nat.beq x.toNat y.toNat):Bool)=J↔_;cases e:Nat.beq x.toNat y.toNat with
  |true=>have:x=y:=UInt8.toNat_inj.1 (Fs e);show T4 a b=J↔_;rw[Av a b,this];simp
  |false=>
   constructor
   .intro h;cases h
   .intro h
    simp_all
def Sc(x y:FO):Option Bool:=match x with
 | .string a=>match y with
  | .string b=>O (T4 a.data.toList b.data.toList)
  |_=>Q
 |_=>Q
def KP:FO->Option Int
 | .slice _ n _=>O n
 |_=>Q
def Mg(s:ByteArray)(j:Int):Tt:=match j with
 | .ofNat n=>(s.data.toList[n]?).map λb=>Int.ofNat b.toNat
 |_=>Q
def t6{s:ByteArray}{j b:Int}(h:Mg s j=O b):0<=j/\(s[j.toNat]?).map (λb=>Value.int DU b.toNat)=O (EO DU b):=by
 unfold Mg at h;split at h
 next n=>
  obtain⟨x,c,rfl⟩:=FD.1 h;refine⟨IK n,?_⟩;have:s[n]?=O x:=by rw[Array.getElem?_toList]at c;obtain⟨a,d⟩:=MD.1 c;have e:n<s.size:=a;rw[getElem?_pos s n e];exact congrArg O d
  simp_all
 .cases h
def fb:FO->Option Int
 | DW (O _) _ (n+1)=>O n
 | DW Q 0 0=>O 0
 |_=>Q
def lenM(m:FO)(g:cU):Option (Tn):=
 match m with
 | .map (O id)=>match g id with
  |O (.map a _)=>O [EO DQ (W a)]
  |_=>Q
 |_=>Q
def G4(len:Nat)(i:Int):Option Unit:=Int.rec (λj=>match Nat.blt j len with
 |J=>O ()
 |U=>Q) (λ_=>Q) i
def Zd(len:Nat)(i:Int):G4 len i=if 0<=i/\i<(len:Int)then O ()else Q:=by
 unfold G4;cases i with
 |ofNat j=>
  simp only;cases e:Nat.blt j len with
  |true=>simp_all
  |false=>
   have:¬j<len:=λh=>by rw[←IV,e]at h;cases h
   simp_all
 |negSucc j=>simp_all
def FV(l c:Int):Option Unit:=if 0<=l/\l<=c/\c<=1048576 then O ()else Q
abbrev _root_.TG:=List Lf
def jz(cs:TG)(a:Nat)(ix:List (Int×Nat))(n:Nat):Option (TG):=S_ cs (E1 a ix) n
def kx(cs:TG)(a:Nat)(ix:List (Int×Nat))(n:Nat):jz cs a ix n=if E1 a ix+n<=W cs then O ((cs.drop (E1 a ix)).take n)else Q:=qr _ _ _
def putL(cs:TG)(a:Nat)(ix:List (Int×Nat))(new:TG):Option (TG):=cp cs (E1 a ix) new
def m3(cs:TG)(a:Nat)(ix:List (Int×Nat))(new:TG):putL cs a ix new=if E1 a ix+W new<=W cs then O (cs.take (E1 a ix)++new++cs.drop (E1 a ix+W new))else Q:=zM _ _ _
def rp(vs:Tn)(a:Nat)(ix:List (Int×Nat))(n:Nat):Option (Tn):=S_ vs (E1 a ix) n
def T2(vs:Tn)(a:Nat)(ix:List (Int×Nat))(n:Nat):rp vs a ix n=cut vs (E1 a ix) n:=qr _ _ _
def ldGv(C:p_)(n:Nat)(p:FO):Option (Tn):=
 match p with
 | EQ (O a)=>if a.spot=O 1 then(C.G a.block).bind λb=>cut b a.off n else Q
 |_=>Q
inductive Pk where
 |ld (n:Nat) (p:Value)
 |lg (C:p_) (n:Nat) (p:Value)
 |fn (f:cU->Option (Tn))
def Pk.run:Pk->cU->Option (Tn)
 | .ld n p=>ldP n p
 | .lg C n p=>lgP C n p
 | .fn f=>f
inductive Hp where
 |st (p:Value) (new:Tn)
 |ap (C:p_) (vd bytes:Nat) (s x:Value)
 |fn (f:cU->Nat->Option (List Er×List Value))
def Hp.run:Hp->cU->Nat->Option (List Er×List FO)
 | .st p new=>NC p new
 | .ap C vd bytes s x=>Gx C vd bytes s x
 | .fn f=>f
structure Eh(R HT:Type):Type 1 where
 fail:R
 cond:Bool->R->R->R
 C5:BinOp->TN->Int->Int->(Int->R)->R
 IX:BinOp->TN->Int->TN->Int->(Int->R)->R
 cmp:BinOp->Int->Int->(Bool->R)->R
 eqs:List (Lf×Lf)->(Bool->R)->R
 conv:TN->Int->(Int->R)->R
 I4:Bool->Int->Int->(Int->R)->R
 km:{j7:Type}->Option j7->(j7->R)->R
 qa:Value->R->R
 qs:TG->(Int->TG->R)->R
 GM:TG->(Bool->TG->R)->R
 D3:TG->(Value->TG->R)->R
 C3:TG->R->R
 ua:TN->Tn->(Int->Tn->R)->R
 F5:Tn->(Bool->Tn->R)->R
 C7:Tn->(Value->Tn->R)->R
 wb:Tn->R->R
 oo:Pk->HT->(Tn->R)->R
 heap:Hp->HT->(Tn->HT->R)->R
 new:wa->HT->(Nat->HT->R)->R
 call:TT->TG->HT->(TG->HT->R)->R
 D':Value->Tn->TP->HT->(TG->HT->R)->R
 join:(TG->HT->R)->((TG->HT->R)->R)->R
 loop:((TG->HT->R)->TG->HT->R)->TG->HT->R
 Gr:Nat->Value->Tn->HT->(Tm->HT->R)->R
 F4:Tm->R->R->List (Nat×R)->R
 LX:Nat->HT->(HT->R)->R
 I1:Nat->Tm->HT->(HT->R)->R
section
variable {R HT:Type} (A:Eh R HT)
def Ht{j7:Type}(x:j7)(l:List j7):Nat->(List j7->R)->R:=
 List.rec (motive:=λ_=>Nat->(List j7->R)->R) (λ_ k=>k [])
  (λa c b i k=>match i with
   |0=>k (x::c)
   |i+1=>b i λl=>k (a::l)) l
def Xn(ks:TK):TG->(List SL->TG->R)->R:=
 List.rec (motive:=λ_=>TG->(List SL->TG->R)->R) (λa K=>K [] a)
  (λk _ d a K=>match k with
   | .i k=>A.qs a λn r=>d r λc r=>K (.i k n::c) r
   | .b=>A.GM a λt r=>d r λc r=>K (.b t::c) r
   | .v=>A.D3 a λx r=>d r λc r=>K (.v x::c) r) ks
def unS(c:SK)(ls:TG)(K:S0->TG->R):R:=
 match c with
 | .leaf k=>match k with
  | .i k=>A.qs ls λn r=>K (.leaf (.i k n)) r
  | .b=>A.GM ls λt r=>K (.leaf (.b t)) r
  | .v=>A.D3 ls λx r=>K (.leaf (.v x)) r
 | .agg a=>Xn A a ls λd r=>K (.agg d) r
def Ml(sks:TP):TG->(List S0->TG->R)->R:=
 List.rec (motive:=λ_=>TG->(List S0->TG->R)->R) (λa K=>K [] a)
  (λc _ b a K=>unS A c a λx r=>b r λd r=>K (x::d) r) sks
def ucL(ks:TK):Tn->(List SL->Tn->R)->R:=
 List.rec (motive:=λ_=>Tn->(List SL->Tn->R)->R) (λa K=>K [] a)
  (λk _ d a K=>match k with
   | .i k=>A.ua k a λn r=>d r λc r=>K (.i k n::c) r
   | .b=>A.F5 a λt r=>d r λc r=>K (.b t::c) r
   | .v=>A.C7 a λx r=>A.qa x (d r λc r=>K (.v x::c) r)) ks
def NH(c:SK)(cs:Tn)(K:S0->Tn->R):R:=
 match c with
 | .leaf k=>match k with
  | .i k=>A.ua k cs λn r=>K (.leaf (.i k n)) r
  | .b=>A.F5 cs λt r=>K (.leaf (.b t)) r
  | .v=>A.C7 cs λx r=>A.qa x (K (.leaf (.v x)) r)
 | .agg a=>ucL A a cs λd r=>K (.agg d) r
def ucSs(sks:TP):Tn->(List S0->Tn->R)->R:=
 List.rec (motive:=λ_=>Tn->(List S0->Tn->R)->R) (λa K=>K [] a)
  (λc _ b a K=>NH A c a λx r=>b r λd r=>K (x::d) r) sks
def cT:List S0->List Lf
 | []=>[]
 |x::l=>x.cells.map SL.lf++cT l
def ao(l:List S0):Tn:=l.map S0.val
def py(l:List S0):Tn:=l.flatMap λx=>x.cells.map SL.val
def pkT(tm:List SV):List (Nat×SK)->Option (TG)
 | []=>O []
 |(t,a)::l=>match tm.getD t .no,pkT tm l with
  | .st x,O ls=>match x.is a with
   |J=>O (x.cells.map SL.lf++ls)
   |U=>Q
  |_,_=>Q
def pkR(a:List LR):List (Nat×List LK)->Option (TG)
 | []=>O []
 |(s,ks)::l=>match a.getD s .Mm,pkR a l with
  | .row cs,O ls=>match bf cs ks with
   |J=>O (cs.map SL.lf++ls)
   |U=>Q
  |_,_=>Q
def pk(c:Env)(lv:Live):Option (TG):=
 match pkT c.tm lv.tm,pkR c.lc lv.rows with
 |O a,O b=>O (a++b)
 |_,_=>Q
def SV.Ge(ks:TC):SV->Bool
 | .NE _=>J
 | .Kb s _=>ks.contains s
 | .Mz s _ _=>ks.contains s
 |_=>U
def clrT(b ks:TC)(l:List SV):Nat->(List SV->R)->R:=
 List.rec (motive:=λ_=>Nat->(List SV->R)->R) (λ_ K=>K [])
  (λx _ a i K=>a (i+1) λl=>match b.contains i||x.Ge ks with
   |J=>K (.no::l)
   |U=>K (x::l)) l
def uz(n:Nat)(K:Nat->R):R:=Nat.casesOn n (K 0) λm=>K (Nat.succ m)
def Yh(d ks:TC)(c:LR)(l:List LR):Nat->(List LR->R)->R:=
 List.rec (motive:=λ_=>Nat->(List LR->R)->R) (λ_ K=>K [])
  (λx _ b i K=>b (i+1) λl=>match ks.contains i,d.contains i with
   |J,_=>K (c::l)
   |U,J=>(match x with
    | .row a=>uz (W a) λn=>K (.any n::l)
    | .any n=>K (.any n::l)
    |_=>K (.Mm::l))
   |U,U=>K (x::l)) l
def upT(lv:List (Nat×SK)):List S0->List SV->(List SV->R)->R:=
 List.rec (motive:=λ_=>List S0->List SV->(List SV->R)->R) (λ_ tm K=>K tm)
  (λp _ b a tm K=>match a with
   |x::a=>Ht (.st x) tm p.1 λtm=>b a tm K
   | []=>A.fail) lv
def upR(lv:List (Nat×List LK)):TG->List LR->(List LR->TG->R)->R:=
 List.rec (motive:=λ_=>TG->List LR->(List LR->TG->R)->R) (λb a K=>K a b)
  (λp _ d b a K=>Xn A p.2 b λc r=>Ht (.row c) a p.1 λa=>d r a K) lv
def reE(b_:TC)(c:Code)(d:LR)(lv:Live)(b:Env)(ls:TG)(K:Env->R):R:=
 clrT (Lm c) (aS b_ c) b.tm 0 λtm=>Yh (HS b_ c) (aS b_ c) d b.lc 0 λa=>
  Ml A (lv.tm.map (·.2)) ls λe r=>upT A lv.tm e tm λtm=>upR A lv.rows r a λa r=>A.C3 r (K ⟨tm,a⟩)
abbrev KN(R HT:Type):=Env->HT->R
def wS(b_:TC)(c:Code)(j:Option Live)(b:Env)(e:KN R HT)(a:KN R HT->R):R:=
 match j with
 |Q=>a e
 |O lv=>A.join (λd h=>reE A b_ c .Mm lv b d λb=>e b h) λf=>a λb h=>match pk b lv with
  |O d=>f d h
  |Q=>A.fail
structure Ex where
 C:p_
 b_:List Nat
 T:Nat->Site
def n_(a:Env):TM->SV
 | .tmp t=>a.tm.getD t .no
 | .const v=>match K9 v with
  |O x=>.st x
  |Q=>.no
 | .global g=>match Nat.blt g gB with
  |J=>.My g 0
  |U=>.no
 | .func f=>.st (.leaf (.v (.func (.func f) #[] #[])))
def Ea(a:Env)(x:TM):Option S0:=
 match n_ a x with
 | .st x=>O x
 |_=>Q
def EM(a:Env):List GJ->Option (List S0)
 | []=>O []
 |x::l=>match Ea a x,EM a l with
  |O x,O l=>O (x::l)
  |_,_=>Q
def MV:TM->Option Nat
 | .const (.int _ (.ofNat n))=>O n
 |_=>Q
def pu(d:Tq)(x:SV)(a:Env)(h:HT)(K:KN R HT):R:=
 match d with
 |O d=>Ht x a.tm d λtm=>K ⟨tm,a.lc⟩ h
 |Q=>K a h
def vu(b:Env)(s:Nat):Option (List SL):=
 match b.lc.getD s .Mm with
 | .row a=>O a
 |_=>Q
def La:SK->List LK
 | .leaf k=>[k]
 | .agg ks=>ks
def F0(cs:List SL)(off n:Nat):Option (List SL):=if off+n<=W cs then O ((cs.drop off).take n)else Q
def jE(cs:List SL)(off:Nat)(new:List SL):Option (List SL):=if off+W new<=W cs then O (cs.take off++new++cs.drop (off+W new))else Q
def vT(cs:List SL)(ks:TK):Nat->List (Int×Nat)->Bool
 |a,[]=>match F0 cs a (W ks) with
  |O ds=>bf ds ks
  |Q=>J
 |a,p::l=>!Nat.beq p.2 0&&(EW (W cs+1)).all λj=>vT cs ks (a+j*p.2) l
def Kd(a:Bool)(cs:List SL):Option S0:=
 match a,cs with
 |J,cs=>O (.agg cs)
 |U,[c]=>O (.leaf c)
 |_,_=>Q
def uo(pl:Nat->Option (Nat×Nat))(cs:List SL):List (Nat×S0)->Option (List SL)
 | []=>O cs
 |(i,x)::l=>match pl i with
  |O (off,n)=>match Nat.beq (W x.cells) n with
   |J=>match jE cs off x.cells with
    |O cs=>uo pl cs l
    |Q=>Q
   |U=>Q
  |Q=>Q
def DV(P:TI)(t:TS):Option Bool:=
 match P.underlying t with
 |O (.struct _)|O (.array _ _)=>O J
 |O _=>O U
 |Q=>Q
def zZ(P:TI)(t:TS):Option S0:=(fq P t).bind K9
def lz:SK->Bool
 | .leaf _=>U
 | .agg _=>J
def YE:Bool->Bool->Bool
 |J,J=>J
 |U,U=>J
 |_,_=>U
def eM(X:Ex)(d:Tq)(t:TS)(x:S0)(a:Env)(h:HT)(K:KN R HT):R:=
 match d with
 |Q=>A.fail
 |O d=>match Nat.beq (X.b_.getD d 0) (d+2)with
  |J=>match a.lc.getD d .Mm with
   | .nil=>Ht (.row x.cells) a.lc d λb=>Ht (.Kb d 0) a.tm d λtm=>K ⟨tm,b⟩ h
   |_=>A.fail
  |U=>A.new (EJ (x.cells.map SL.val) (nV X.C.P t) J) h λn h=>pu (O d) (.st (.leaf (.v (EQ (O ⟨n,0,Q⟩))))) a h K
def K_(d:Tq)(b:SK)(cs:Tn)(a:Env)(h:HT)(K:KN R HT):R:=
 NH A b cs λx r=>A.wb r (pu d (.st x) a h K)
def Md(d:Tq)(b:SK)(ls:TG)(a:Env)(h:HT)(K:KN R HT):R:=
 unS A b ls λx r=>A.C3 r (pu d (.st x) a h K)
def ZG(X:Ex)(d:Tq)(i:SK)(j:Bool)(n:Nat)(a:TM)(e:Env)(h:HT)(K:KN R HT):R:=
 match oV X.b_ a,n_ e a with
 |0,.st (.leaf (.v p))=>A.oo (.lg X.C n p) h λc=>K_ A d i c e h K
 |1,.My g f=>match X.C.G g with
  |O m=>match cut m f n with
   |O c=>match c.all scalar,Kd j (c.map Me)with
    |J,O x=>pu d (.st x) e h K
    |_,_=>K_ A d i c e h K
   |Q=>A.fail
  |Q=>A.fail
 |1,.Pz g b k=>match X.C.G g with
  |O m=>A.km (rp m b k n) λc=>K_ A d i c e h K
  |Q=>A.fail
 |1,.st (.leaf (.v p))=>A.km (ldGv X.C n p) λc=>K_ A d i c e h K
 |s+2,.Kb l f=>match Nat.beq s l,(vu e s).bind (λc=>(F0 c f n).bind (Kd j))with
  |J,O x=>pu d (.st x) e h K
  |_,_=>A.fail
 |s+2,.Mz l b k=>match Nat.beq s l,vu e s with
  |J,O c=>match vT c (La i) b k&&Nat.beq n (W (La i)) with
   |J=>A.km (jz (c.map SL.lf) b k n) λo=>Md A d i o e h K
   |U=>A.fail
  |_,_=>A.fail
 |_,_=>A.fail
def t4(r:LR)(off:Nat)(new:List SL):Option (List SL):=
 match r with
 | .row a=>jE a off new
 | .any n=>match Nat.beq off 0&&Nat.beq n (W new) with
  |J=>O new
  |U=>Q
 |_=>Q
def ND(X:Ex)(d:Tq)(t:TS)(a:TM)(x:S0)(c:Env)(h:HT)(K:KN R HT):R:=
 match Nat.beq (W x.cells) (X.C.P.cellsOf t)&&(X.C.P.info? t).isSome with
 |U=>A.fail
 |J=>match oV X.b_ a,n_ c a with
  |0,.st (.leaf (.v p))=>A.heap (.st p (x.cells.map SL.val)) h λ_ h=>pu d .un c h K
  |s+2,.Kb i g=>match Nat.beq s i,t4 (c.lc.getD s .Mm) g x.cells with
   |J,O e=>Ht (.row e) c.lc s λf=>pu d .un ⟨c.tm,f⟩ h K
   |_,_=>A.fail
  |s+2,.Mz i b j=>match Nat.beq s i,vu c s with
   |J,O e=>match vT e (x.cells.map SL.lk) b j with
    |U=>A.fail
    |J=>A.km (putL (e.map SL.lf) b j (x.cells.map SL.lf)) λk=>Xn A (e.map SL.lk) k λe r=>A.C3 r (Ht (.row e) c.lc s λf=>pu d .un ⟨c.tm,f⟩ h K)
   |_,_=>A.fail
  |_,_=>A.fail
def isCmp:GO->Bool
 | .eql | .neq | .lss | .leq | .gtr | .geq=>J
 |_=>U
def PM:GO->Bool
 | .shl | .shr=>J
 |_=>U
def oC(F:TS->Option (TK)):List Field->Nat->Option (TK)
 | [],_=>O []
 |f::a,off=>match decide (f.name = "_"),Nat.beq f.offset off,F f.type with
  |U,J,O ks=>(oC F a (off+W ks)).map (ks ++ ·)
  |_,_,_=>Q
def EE(P:TI):Nat->TS->Option (TK)
 |0,_=>Q
 |d+1,t=>match P.underlying t with
  |O (.int k)=>O [.i k]
  |O .bool=>O [.b]
  |O (.struct a)=>match P.stoodInHeld t,oC (EE P d) a.toList 0 with
   |U,O ks=>match Nat.beq (W ks) (P.cellsOf t)with
    |J=>O ks
    |U=>Q
   |_,_=>Q
  |O (.array n e)=>match EE P d e with
   |O ks=>match Nat.beq (W ks) (P.cellsOf e)&&Nat.beq (W (FJ n ks).flatten) (P.cellsOf t)with
    |J=>O (FJ n ks).flatten
    |U=>Q
   |Q=>Q
  |_=>Q
def kg:Int->Int->Bool
 | .ofNat a,.ofNat b=>Nat.beq a b
 | .negSucc a,.negSucc b=>Nat.beq a b
 |_,_=>U
def fU:TK->Tn->Tn->Option Bool
 | [],[],[]=>O J
 | .i k::ks,.int a x::xs,.int b y::ys=>match dc a k,dc b k,fU ks xs ys with
  |J,J,O r=>(match kg x y with
   |J=>O r
   |U=>O U)
  |_,_,_=>Q
 | .b::ks,.bool x::xs,.bool y::ys=>match fU ks xs ys with
  |O r=>(match YE x y with
   |J=>O r
   |U=>O U)
  |Q=>Q
 |_,_,_=>Q
def C2:TK->Tn->Tn->Option Bool
 | [],_,_=>O J
 | .i k::ks,.int a x::xs,.int b y::ys=>match dc a k,dc b k with
  |J,J=>(match kg x y with
   |J=>C2 ks xs ys
   |U=>O U)
  |_,_=>Q
 | .b::ks,.bool x::xs,.bool y::ys=>match YE x y with
  |J=>C2 ks xs ys
  |U=>O U
 |_,_,_=>Q
def jZ(ks:TK)(cs:Tn):Tj->Nat->Option (Ts)
 | [],_=>O Q
 |e::a,i=>match e.key with
  | .agg ds=>match C2 ks cs ds.toList with
   |O J=>O (O i)
   |O U=>jZ ks cs a (i+1)
   |Q=>Q
  |_=>Q
def valI{R:Type}(v:FO)(d:R)(K:TN->Int->R):R:=match v with
 | .int a m=>K a m
 |_=>d
def valB{R:Type}(v:FO)(d:R)(K:Bool->R):R:=match v with
 | .bool a=>K a
 |_=>d
def eqZR(a b:Int):Bool:=@Int.rec (λ_=>Bool) (λm=>@Int.rec (λ_=>Bool) (λn=>Nat.beq m n) (λ_=>U) b) (λm=>@Int.rec (λ_=>Bool) (λ_=>U) (λn=>Nat.beq m n) b) a
def Yv(ks:TK):Tn->Tn->Option Bool:=
 @List.rec LK (λ_=>Tn->Tn->Option Bool)
  (λ_ _=>O J)
  (λk _ e c d=>@List.rec FO (λ_=>Option Bool) Q (λx c _=>@List.rec FO (λ_=>Option Bool) Q (λy d _=>
   @LK.rec (λ_=>Option Bool)
    (λk=>valI x Q λa m=>valI y Q λb n=>@Bool.rec (λ_=>Option Bool) Q (@Bool.rec (λ_=>Option Bool) Q (@Bool.rec (λ_=>Option Bool) (O U) (e c d) (eqZR m n)) (dc b k)) (dc a k))
    (valB x Q λa=>valB y Q λb=>@Bool.rec (λ_=>Option Bool) (O U) (e c d) (YE a b))
    Q k) d) c) ks
def ea(a b:Int):eqZR a b=kg a b:=by cases a<;>cases b<;>rfl
def yo:∀(ks:TK) (xs ys:Tn),Yv ks xs ys=C2 ks xs ys
 | [],_,_=>by simp only[C2];rfl
 |k::ks,[],ys=>by cases k<;>rfl
 |k::ks,x::xs,[]=>by cases k<;>cases x<;>rfl
 | .v::ks,x::xs,y::ys=>by cases x<;>cases y<;>rfl
 | .b::ks,x::xs,y::ys=>by
  cases x<;>first|(cases y<;>rfl)|skip
  cases y<;>first|rfl|skip
  rename_i a b
  show @Bool.rec (λ_=>Option Bool) (O U) (Yv ks xs ys) (YE a b)=_;rw[yo ks xs ys];simp only[C2];cases YE a b<;>rfl
 | .i k::ks,x::xs,y::ys=>by
  cases x<;>first|(cases y<;>rfl)|skip
  cases y<;>first|rfl|skip
  rename_i a m b n
  show @Bool.rec (λ_=>Option Bool) Q (@Bool.rec (λ_=>Option Bool) Q (@Bool.rec (λ_=>Option Bool) (O U) (Yv ks xs ys) (eqZR m n)) (dc b k)) (dc a k)=_;rw[yo ks xs ys,ea];simp only[C2];cases dc a k<;>cases dc b k<;>first|rfl|(cases kg m n<;>rfl)
def Pr(ks:TK)(cs:Tn)(c:Tj):Nat->Option (Ts):=
 @List.rec GU (λ_=>Nat->Option (Ts)) (λ_=>O Q) (λe _ d i=>match e.key with
  | .agg a=>@Option.rec Bool (λ_=>Option (Ts)) Q (λb=>@Bool.rec (λ_=>Option (Ts)) (fN (Nat.succ i) d) (O (O i)) b) (Yv ks cs a.toList)
  |_=>Q) c
def pG(ks:TK)(cs:Tn):∀(a:Tj) (i:Nat),Pr ks cs a i=jZ ks cs a i
 | [],_=>rfl
 |e::a,i=>by
  have h:Pr ks cs (e::a) i=match e.key with
   | .agg ds=>@Option.rec Bool (λ_=>Option (Ts)) Q (λb=>@Bool.rec (λ_=>Option (Ts)) (Pr ks cs a (i+1)) (O (O i)) b) (Yv ks cs ds.toList)
   |_=>Q:=rfl
  rw[h];simp only[jZ,yo,pG ks cs a];split
  next ds _=>
   cases C2 ks cs ds.toList with
   |none=>rfl
   |some b=>cases b<;>rfl
  .rfl
def wx(P:TI)(kt:TS)(k:FO)(a:Tj):Option (Ts):=
 match k with
 | .agg b=>match DV P kt,EE P 10000 kt with
  |O J,O c=>match Pr c b.toList a 0 with
   |O r=>O r
   |Q=>ur P kt k a
  |_,_=>ur P kt k a
 |_=>ur P kt k a
def LP(P:TI)(kt:TS)(k:FO):Bool:=
 match k with
 | .agg b=>match DV P kt with
  |O J=>match EE P 10000 kt with
   |O a=>match fU a b.toList b.toList with
    |O _=>J
    |Q=>kj P kt k
   |Q=>kj P kt k
  |_=>kj P kt k
 |_=>kj P kt k
def KS(g:cU)(id:Nat):Option (List GU×Nat):=
 match g id with
 |O (.map a c)=>O (a,c)
 |_=>Q
def gM(a:Bool)(v:FO):Option (Tn):=
 match v,a with
 | .agg b,J=>O b.toList
 | .agg _,U=>Q
 |_,J=>Q
 |v,U=>O [v]
def Hv(C:p_)(kt:TS)(b:Bool)(z:FO)(m k:FO)(ok:Bool)(g:cU):Option (Tn):=
 if !LP C.P kt k then Q else
 match m with
 | .map Q=>(gM b z).map λa=>a++if ok then [.bool U]else []
 | .map (O id)=>
  match KS g id with
  |Q=>Q
  |O (c,_)=>
   match wx C.P kt k c with
   |Q=>Q
   |O Q=>(gM b z).map λa=>a++if ok then [.bool U]else []
   |O (O i)=>((eQ c i).bind (gM b)).map λa=>a++if ok then [.bool J]else []
 |_=>Q
def Ic(C:p_)(kt:TS)(m k v:FO)(g:cU)(_:Nat):Option (List Er×List FO):=
 match m with
 | .map (O id)=>
  if !LP C.P kt k then Q else
  match KS g id with
  |Q=>Q
  |O (a,c)=>
   match wx C.P kt k a with
   |Q=>Q
   |O Q=>O ([.set id (.map (a++[{ key:=k,val:=v,born:=c }]) (c+1))],[])
   |O (O i)=>if (a[i]?).all (λe=>Instr.sameBits 10000 e.key k)then O ([.set id (.map (a.modify i λe=>{ e with key:=k,val:=v }) c)],[])else Q
 |_=>Q
def meG(C:p_)(kt:TS)(a:Bool)(z:FO)(m k:FO)(g:cU)(_:Nat):Option (List Er×List FO):=Q
def esG(m:FO)(b:Int)(v:FO)(g:cU)(_:Nat):Option (List Er×List FO):=Q
def deG(C:p_)(kt:TS)(m k:FO)(g:cU)(_:Nat):Option (List Er×List FO):=Q
def mn(n:Nat)(x y:FO):Option Bool:=match Nat.beq n (dK x),Nat.beq n (dK y)with
 |J,J=>nz x y
 |_,_=>Q
def xy{P:TI}{t:TS}{a:GQ}{x y:TV}{b:Bool}(e:P.underlying t=O a)(h:mn (nB a) x y=O b):nz x y=O b/\uW P t x y=J:=by
 unfold mn at h;split at h
 next c d=>
  refine⟨h,?_⟩;unfold uW
  simp_all
 .cases h
def tM(ks:TK):Bool:=ks.all λk=>match k with
 | .v=>U
 |_=>J
def binE(X:Ex)(d:Tq)(e:GO)(t:TS)(a b:S0)(c:Env)(h:HT)(K:KN R HT):R:=
 match a,b with
 | .leaf (.i k x),.leaf (.i m y)=>
  match PM e,dc k m,isCmp e with
  |J,_,_=>A.IX e k x m y λn=>pu d (.st (.leaf (.i k n))) c h K
  |U,J,J=>A.cmp e x y λt=>pu d (.st (.leaf (.b t))) c h K
  |U,J,U=>A.C5 e k x y λn=>pu d (.st (.leaf (.i k n))) c h K
  |_,_,_=>A.fail
 | .agg g,.agg j=>match EE X.C.P 10000 t,X.C.P.eqGuardType X.C.P.depth t,DV X.C.P t with
  |O l,U,O J=>match bf g l&&bf j l&&tM l with
   |J=>match e with
    | .eql=>A.eqs ((g.map SL.lf).zip (j.map SL.lf)) λt=>pu d (.st (.leaf (.b t))) c h K
    | .neq=>A.eqs ((g.map SL.lf).zip (j.map SL.lf)) λt=>pu d (.st (.leaf (.b (!t)))) c h K
    |_=>A.fail
   |U=>A.fail
  |_,_,_=>A.fail
 | .leaf (.v x),.leaf (.v y)=>match X.C.P.underlying t with
  |O .string=>match e with
   | .eql=>A.km (Sc x y) λf=>pu d (.st (.leaf (.b f))) c h K
   | .neq=>A.km (Sc x y) λf=>pu d (.st (.leaf (.b (!f)))) c h K
   |_=>A.fail
  |O o=>match e with
   | .eql=>A.km (mn (nB o) x y) λf=>pu d (.st (.leaf (.b f))) c h K
   | .neq=>A.km (mn (nB o) x y) λf=>pu d (.st (.leaf (.b (!f)))) c h K
   |_=>A.fail
  |Q=>A.fail
 | .leaf x,.leaf y=>match x.is .b&&y.is .b,X.C.P.underlying t with
  |J,O .bool=>match e with
   | .eql=>A.eqs [(x.lf,y.lf)] λt=>pu d (.st (.leaf (.b t))) c h K
   | .neq=>A.eqs [(x.lf,y.lf)] λt=>pu d (.st (.leaf (.b (!t)))) c h K
   |_=>A.fail
  |_,_=>A.fail
 |_,_=>A.fail
def Hm(a:Env):Th->Option (Tt)
 |Q=>O Q
 |O x=>match n_ a x with
  | .st (.leaf (.i _ n))=>O (O n)
  |_=>Q
def pe(a:TP):SK:=match a with
 | [k]=>k
 |_=>.agg []
def V0(d:Tq)(sks:TP)(b:TG)(a:Env)(h:HT)(K:KN R HT):R:=
 match sks with
 | [c]=>Md A d c b a h K
 | []=>A.C3 b (pu d .un a h K)
 |sks=>Ml A sks b λe r=>A.C3 r (pu d (.NE e) a h K)
structure Ko where
 ps:List SK
 rs:List SK
def cJ:List S0->TP->Bool
 | [],[]=>J
 |x::l,k::ks=>x.is k&&cJ l ks
 |_,_=>U
def pv(X:Ex)(d:Tq)(o:SK)(b:Builtin)(xs:List S0)(l:Array TypeId)(f:Env)(h:HT)(K:KN R HT):R:=
 match b,xs,l[0]? with
 | .append,[.leaf (.v s),.leaf (.v x)],O t=>match X.C.P.underlying t with
  |O (.slice e)=>match X.C.P.info? e with
   |O c=>match Nat.beq c.size 0||(mT c).isNone||(l[1]?.any λu=>(X.C.P.underlying u) matches O (.int _)|Q)||l[1]?.isNone with
    |J=>A.fail
    |U=>A.heap (.ap X.C c.size c.bytes s x) h λg h=>K_ A d (.leaf .v) g f h K
   |Q=>A.fail
  |_=>A.fail
 | .len,[x],O t=>match X.C.P.underlying t,x with
  |O (.slice _),.leaf (.v x)=>A.km (KP x) λn=>pu d (.st (.leaf (.i DQ n))) f h K
  |O (.map _ _),.leaf (.v x)=>A.oo (.fn (lenM x)) h λg=>K_ A d (.leaf (.i DQ)) g f h K
  |O (.array n _),_=>pu d (.st (.leaf (.i DQ n))) f h K
  |_,_=>A.fail
 | .cap,[x],O t=>match X.C.P.underlying t,x with
  |O (.slice _),.leaf (.v x)=>A.km (fb x) λn=>pu d (.st (.leaf (.i DQ n))) f h K
  |O (.array n _),_=>pu d (.st (.leaf (.i DQ n))) f h K
  |_,_=>A.fail
 | .copy,[.leaf (.v s),.leaf (.v x)],O t=>match X.C.P.underlying t with
  |O (.slice e)=>match Nat.beq (X.C.P.cellsOf e) 0 with
   |J=>A.fail
   |U=>A.heap (.fn (cpG X.C (X.C.P.cellsOf e) s x)) h λg h=>K_ A d (.leaf (.i DQ)) g f h K
  |_=>A.fail
 | .delete,[.leaf (.v m),k],O t=>match X.C.P.underlying t with
  |O (.map p _)=>A.heap (.fn (deG X.C p m k.val)) h λ_ h=>pu d .un f h K
  |_=>A.fail
 | .clear,[.leaf (.v s)],O t=>match X.C.P.underlying t with
  |O (.slice e)=>match Nat.beq (X.C.P.cellsOf e) 0,zZ X.C.P e with
   |U,O z=>A.heap (.fn (clG (X.C.P.cellsOf e) (z.cells.map SL.val) s)) h λ_ h=>pu d .un f h K
   |_,_=>A.fail
  |_=>A.fail
 | .min,[.leaf (.i k a),.leaf (.i j b)],_=>match dc k j with
  |J=>A.cmp .lss b a λt=>A.I4 t b a λn=>pu d (.st (.leaf (.i k n))) f h K
  |U=>A.fail
 | .max,[.leaf (.i k a),.leaf (.i j b)],_=>match dc k j with
  |J=>A.cmp .lss a b λt=>A.I4 t b a λn=>pu d (.st (.leaf (.i k n))) f h K
  |U=>A.fail
 |_,_,_=>A.fail
def nl(X:Ex)(d:Tq)(t:TS)(x i:TM)(k:Env)(h:HT)(K:KN R HT):R:=
 match X.C.P.underlying t with
 |O (.array c e)=>
  let a:=X.C.P.cellsOf e
  match Nat.beq a 0,n_ k x,n_ k i,MV i with
  |U,.Kb s f,_,O n=>match Nat.blt n c with
   |J=>pu d (.Kb s (f+n*a)) k h K
   |U=>A.fail
  |U,.My g f,_,O n=>match Nat.blt n c with
   |J=>pu d (.My g (f+n*a)) k h K
   |U=>A.fail
  |U,.Mz s b l,_,O n=>match Nat.blt n c with
   |J=>pu d (.Mz s (b+n*a) l) k h K
   |U=>A.fail
  |U,.Pz g b l,_,O n=>match Nat.blt n c with
   |J=>pu d (.Pz g (b+n*a) l) k h K
   |U=>A.fail
  |U,.Kb s f,.st (.leaf (.i _ j)),_=>A.km (G4 c j) λ_=>pu d (.Mz s f [(j,a)]) k h K
  |U,.My g f,.st (.leaf (.i _ j)),_=>A.km (G4 c j) λ_=>pu d (.Pz g f [(j,a)]) k h K
  |U,.Mz s b l,.st (.leaf (.i _ j)),_=>A.km (G4 c j) λ_=>pu d (.Mz s b (l++[(j,a)])) k h K
  |U,.Pz g b l,.st (.leaf (.i _ j)),_=>A.km (G4 c j) λ_=>pu d (.Pz g b (l++[(j,a)])) k h K
  |U,.st (.leaf (.v p)),.st (.leaf (.i _ j)),_=>A.km (Y9 c a p j) λq=>A.qa q (pu d (.st (.leaf (.v q))) k h K)
  |_,_,_,_=>A.fail
 |O (.slice e)=>
  let a:=X.C.P.cellsOf e
  match Nat.beq a 0,n_ k x,n_ k i with
  |U,.st (.leaf (.v p)),.st (.leaf (.i _ j))=>A.km (D8 a p j) λq=>pu d (.st (.leaf (.v q))) k h K
  |_,_,_=>A.fail
 |_=>A.fail
def ni(X:Ex)(d:Tq)(t:TS)(x:TM)(f:Nat)(c:Env)(h:HT)(K:KN R HT):R:=
 match X.C.P.underlying t with
 |O (.struct j)=>match j[f]? with
  |O e=>match Nat.beq (X.C.P.cellsOf e.type) 0,n_ c x with
   |U,.Kb s b=>pu d (.Kb s (b+e.offset)) c h K
   |U,.My g b=>pu d (.My g (b+e.offset)) c h K
   |U,.Mz s a i=>pu d (.Mz s (a+e.offset) i) c h K
   |U,.Pz g a i=>pu d (.Pz g (a+e.offset) i) c h K
   |U,.st (.leaf (.v p))=>A.km (Fq e.offset p) λq=>A.qa q (pu d (.st (.leaf (.v q))) c h K)
   |_,_=>A.fail
  |Q=>A.fail
 |_=>A.fail
abbrev _root_.Td:=FuncId->Option Ko
def opE(X:Ex)(Sg:Td)(o:FQ)(B:TP)(d:Env)(h:HT)(K:KN R HT):R:=
 match o.op with
 | .move x=>match n_ d x with
  | .no=>A.fail
  |y=>pu o.dst y d h K
 | .assign x=>match n_ d x with
  | .no=>A.fail
  |y=>pu o.dst y d h K
 | .pick c a b=>match n_ d c,n_ d a,n_ d b with
  | .st (.leaf (.l J)),.st y,_=>pu o.dst (.st y) d h K
  | .st (.leaf (.l U)),_,.st y=>pu o.dst (.st y) d h K
  | .st (.leaf (.b t)),.st y,.st z=>A.cond t (pu o.dst (.st y) d h K) (pu o.dst (.st z) d h K)
  |_,_,_=>A.fail
 | .alloc t=>match zZ X.C.P t with
  |O x=>eM A X o.dst t x d h K
  |Q=>A.fail
 | .box t x=>match n_ d x with
  | .st x=>eM A X o.dst t x d h K
  |_=>A.fail
 | .build t L=>match zZ X.C.P t,pW X.C.P t,EM d (L.toList.map (·.2))with
  |O z,O pl,O D=>match uo pl z.cells ((L.toList.map (·.1)).zip D)with
   |O w=>pu o.dst (.st (.agg w)) d h K
   |Q=>A.fail
  |_,_,_=>A.fail
 | .buildSlice t n L=>match X.C.P.underlying t,EM d (L.toList.map (·.2))with
  |O (.slice e),O D=>match X.C.P.info? e with
   |O u=>match Nat.beq u.size 0||Nat.blt 16777216 (n*u.size),(mT u).bind K9 with
    |U,O z=>match uo (λi=>O (i*u.size,u.size)) (FJ n z.cells).flatten ((L.toList.map (·.1)).zip D)with
     |O w=>A.new (EJ (w.map SL.val) u.size J) h λm h=>pu o.dst (.st (.leaf (.v (DW (O ⟨m,0,le u.size⟩) n (n+1))))) d h K
     |Q=>A.fail
    |_,_=>A.fail
   |Q=>A.fail
  |_,_=>A.fail
 | .load t a=>match DV X.C.P t with
  |O G=>match YE G (lz (pe B))with
   |J=>ZG A X o.dst (pe B) G (if G then X.C.P.cellsOf t else 1) a d h K
   |U=>A.fail
  |Q=>A.fail
 | .store t a x=>match n_ d x with
  | .st x=>ND A X o.dst t a x d h K
  |_=>A.fail
 | .nilCheck x=>match n_ d x with
  | .st (.leaf (.v p))=>A.km (EZ p) λq=>A.qa q (pu o.dst (.st (.leaf (.v q))) d h K)
  | .Kb s H=>pu o.dst (.Kb s H) d h K
  | .My s H=>pu o.dst (.My s H) d h K
  |_=>A.fail
 | .binOp op t x y _=>match Ea d x,Ea d y with
  |O a,O b=>binE A X o.dst op t a b d h K
  |_,_=>A.fail
 | .unOp op _ x=>match op,n_ d x with
  | .not,.st (.leaf (.b t))=>pu o.dst (.st (.leaf (.b (!t)))) d h K
  | .not,.st (.leaf (.l t))=>pu o.dst (.st (.leaf (.l (!t)))) d h K
  | .neg,.st (.leaf (.i k n))=>A.C5 .sub k 0 n λn=>pu o.dst (.st (.leaf (.i k n))) d h K
  |_,_=>A.fail
 | .convert sT dT x=>match X.C.P.underlying sT,X.C.P.underlying dT,n_ d x with
  |O (.int _),O (.int k),.st (.leaf (.i _ n))=>A.conv k n λn=>pu o.dst (.st (.leaf (.i k n))) d h K
  |_,_,_=>A.fail
 | .makeFunc fn first M=>match fn,EM d first.toList,EM d M.toList with
  | .func g,O a,O b=>A.qa (.func (.func g) ⟨ao a⟩ ⟨ao b⟩) (pu o.dst (.st (.leaf (.v (.func (.func g) ⟨ao a⟩ ⟨ao b⟩)))) d h K)
  |_,_,_=>A.fail
 | .makeMap t r=>match qM X.C t (r.map λ_=>EO DQ 0),Hm d r with
  |J,O _=>A.new (.map [] 0) h λn h=>pu o.dst (.st (.leaf (.v (.map (O n))))) d h K
  |_,_=>A.fail
 | .makeSlice t l c=>match X.C.P.underlying t,n_ d l,n_ d c with
  |O (.slice e),.st (.leaf (.i _ l)),.st (.leaf (.i _ c))=>match X.C.P.info? e with
   |O u=>match Nat.beq u.size 0||Nat.blt 4096 u.bytes,(mT u).bind K9 with
    |U,O z=>A.km (FV l c) λ_=>A.new (EJ (aQ (z.cells.map SL.val) c.toNat) u.size J) h λn h=>pu o.dst (.st (.leaf (.v (DW (O ⟨n,0,le u.size⟩) l.toNat (c.toNat+1))))) d h K
    |_,_=>A.fail
   |Q=>A.fail
  |_,_,_=>A.fail
 | .slice t x Y T Z=>match X.C.P.underlying t,n_ d x,Hm d Y,Hm d T,Hm d Z with
  |O (.slice e),.st (.leaf (.v x)),O Y,O T,O Z=>match Nat.beq (X.C.P.cellsOf e) 0 with
   |J=>A.fail
   |U=>A.km (GV (X.C.P.cellsOf e) x Y T Z) λq=>A.qa q (pu o.dst (.st (.leaf (.v q))) d h K)
  |_,_,_,_,_=>A.fail
 | .fieldAddr t x f=>ni A X o.dst t x f d h K
 | .indexAddr t x i=>nl A X o.dst t x i d h K
 | .field t x f=>match X.C.P.underlying t,n_ d x with
  |O (.struct fs),.st (.agg w)=>match fs[f]? with
   |O S=>match (DV X.C.P S.type).bind (λI=>(F0 w S.offset (if I then X.C.P.cellsOf S.type else 1)).bind (Kd I))with
    |O x=>pu o.dst (.st x) d h K
    |Q=>A.fail
   |Q=>A.fail
  |_,_=>A.fail
 | .index t x i=>match X.C.P.underlying t,n_ d x,n_ d i with
  |O (.array V e),.st (.agg w),.st (.leaf (.i _ j))=>match DV X.C.P e with
   |O I=>match YE I (lz (pe B))&&vT w (La (pe B)) 0 [(j,X.C.P.cellsOf e)]&&Nat.beq (if I then X.C.P.cellsOf e else 1) (W (La (pe B))) with
    |U=>A.fail
    |J=>A.km (G4 V j) λ_=>A.km (jz (w.map SL.lf) 0 [(j,X.C.P.cellsOf e)] (if I then X.C.P.cellsOf e else 1)) λls=>Md A o.dst (pe B) ls d h K
   |Q=>A.fail
  |O .string,.st (.leaf (.v (.string s))),.st (.leaf (.i _ j))=>A.km (Mg s j) λb=>pu o.dst (.st (.leaf (.i DU b))) d h K
  |_,_,_=>A.fail
 | .lookup t m k ok=>match X.C.P.underlying t,n_ d m,Ea d k with
  |O (.map E N),.st (.leaf (.v m)),O k=>match fq X.C.P N with
   |O z=>match B,ok with
    | [F],U=>A.oo (.fn (Hv X.C E (lz F) z m k.val U)) h λw=>NH A F w λx r=>A.wb r (pu o.dst (.st x) d h K)
    | [F,.leaf .b],J=>A.oo (.fn (Hv X.C E (lz F) z m k.val J)) h λw=>NH A F w λx r=>A.F5 r λt r=>A.wb r (pu o.dst (.NE [x,.leaf (.b t)]) d h K)
    |_,_=>A.fail
   |Q=>A.fail
  |_,_,_=>A.fail
 | .mapUpdate t m k v=>match X.C.P.underlying t,n_ d m,Ea d k,Ea d v with
  |O (.map E _),.st (.leaf (.v m)),O k,O v=>A.heap (.fn (Ic X.C E m k.val v.val)) h λ_ h=>pu o.dst .un d h K
  |_,_,_,_=>A.fail
 | .insert t m k v=>match X.C.P.underlying t,n_ d m,Ea d k,Ea d v with
  |O (.map E _),.st (.leaf (.v m)),O k,O v=>A.heap (.fn (Ic X.C E m k.val v.val)) h λ_ h=>pu o.dst .un d h K
  |_,_,_,_=>A.fail
 | .mapEntry t m k=>match X.C.P.underlying t,n_ d m,Ea d k with
  |O (.map E N),.st (.leaf (.v m)),O k=>match fq X.C.P N with
   |O z=>match B with
    | [F,.leaf (.i DQ)]=>A.heap (.fn (meG X.C E (lz F) z m k.val)) h λw h=>NH A F w λx r=>A.ua DQ r λn r=>A.wb r (pu o.dst (.NE [x,.leaf (.i DQ n)]) d h K)
    |_=>A.fail
   |Q=>A.fail
  |_,_,_=>A.fail
 | .entryStore _ m s v=>match n_ d m,n_ d s,Ea d v with
  | .st (.leaf (.v m)),.st (.leaf (.i _ b)),O v=>A.heap (.fn (esG m b v.val)) h λ_ h=>pu o.dst .un d h K
  |_,_,_=>A.fail
 | .extract t i=>match n_ d t with
  | .NE D=>match D[i]? with
   |O x=>pu o.dst (.st x) d h K
   |Q=>A.fail
  |_=>A.fail
 | .call c=>match EM d c.args.toList with
  |O D=>match c.callee with
   | .builtin b=>pv A X o.dst (pe B) b D c.argTypes d h K
   | .value f=>match n_ d f with
    | .st (.leaf (.v v))=>match f with
     | .func g=>match Sg g with
      |O sg=>match cJ D sg.ps with
       |J=>A.call g (cT D) h λrs h=>V0 A o.dst sg.rs rs d h K
       |U=>A.fail
      |Q=>A.fail
     |_=>A.D' v (ao D) B h λrs h=>V0 A o.dst B rs d h K
    |_=>A.fail
   |_=>A.fail
  |Q=>A.fail
 |_=>A.fail
def opG(X:Ex)(Sg:Td)(ops:To)(o:FQ)(e:TP)(a:Env)(h:HT)(K:KN R HT):R:=
 match o.guard with
 |Q=>opE A X Sg o e a h K
 |O (j,c)=>match (ops[j]?).bind (·.dst)with
  |O d=>match a.tm.getD d .no with
   | .st (.leaf (.l b))=>match b==c with
    |J=>opE A X Sg o e a h K
    |U=>pu o.dst .un a h K
   | .un=>pu o.dst .un a h K
   | .st (.leaf (.b t))=>match c with
    |J=>A.cond t (Ht (.st (.leaf (.l J))) a.tm d λtm=>opE A X Sg o e ⟨tm,a.lc⟩ h K) (Ht (.st (.leaf (.l U))) a.tm d λtm=>pu o.dst .un ⟨tm,a.lc⟩ h K)
    |U=>A.cond t (Ht (.st (.leaf (.l J))) a.tm d λtm=>pu o.dst .un ⟨tm,a.lc⟩ h K) (Ht (.st (.leaf (.l U))) a.tm d λtm=>opE A X Sg o e ⟨tm,a.lc⟩ h K)
   |_=>A.fail
  |Q=>A.fail
abbrev _root_.TA:=List FQ
def VD(X:Ex)(Sg:Td)(ops:To)(l:TA):List (TP)->Env->HT->KN R HT->R:=
 List.rec (motive:=λ_=>List (TP)->Env->HT->KN R HT->R) (λ_ a h K=>K a h)
  (λo _ c b a h K=>opG A X Sg ops o (b.headD []) a h λa h=>c b.tail a h K) l
end
namespace Sx
def lR(_ _:FQ):Bool:=U
def N0(a:TC)(o:FQ):Nat:=
 o.after.toList.foldl (λm e=>match Region.binds .any e with
  |J=>Nat.lor (Nat.lor m (Nat.shiftLeft 1 e.on)) (a.getD e.on 0)
  |U=>m) 0
def HC:TA->TC->List Nat
 | [],a=>a
 |o::l,a=>HC l (a++[N0 a o])
def E':FO->List Nat
 | EQ (O a)=>match a.spot with
  |Q=>[a.block]
  |O _=>[]
 | DW (O a) _ _=>match a.spot with
  |O 1=>[]
  |_=>[a.block]
 | .map (O id)=>[id]
 |_=>[]
def adrP:FO->List Nat
 | EQ (O a)=>match a.spot with
  |Q=>[a.block]
  |O _=>[]
 |_=>[]
def adrM:FO->List Nat
 | .map (O id)=>[id]
 |_=>[]
def dz(b_:TC)(o:FQ):List GJ×Nat:=
 match o.op with
 | .load _ a=>match oV b_ a with
  |0=>([a],0)
  |_=>([],0)
 | .store _ a _=>match oV b_ a with
  |0=>([a],0)
  |_=>([],0)
 | .slice _ x _ _ _=>([x],1)
 | .lookup _ m _ _=>([m],0)
 | .mapUpdate _ m _ _ | .insert _ m _ _ | .mapEntry _ m _ | .entryStore _ m _ _=>([m],0)
 | .call c=>match c.callee with
  | .builtin b=>match b with
   | .append | .copy=>(c.args.toList,0)
   | .delete | .clear=>(c.args.toList.take 1,0)
   | .len=>(c.args.toList,2)
   |_=>([],0)
  |_=>([],0)
 |_=>([],0)
def D9:Nat->FO->List Nat
 |0,v=>E' v
 |1,v=>adrP v
 |_,v=>adrM v
def fD(b_:TC)(o:FQ):List GJ:=
 match o.op with
 | .store _ a _=>match oV b_ a with
  |0=>[a]
  |_=>[]
 | .mapUpdate _ m _ _ | .insert _ m _ _ | .mapEntry _ m _ | .entryStore _ m _ _=>[m]
 | .call c=>match c.callee with
  | .builtin b=>match b with
   | .append | .copy | .delete | .clear=>c.args.toList.take 1
   |_=>[]
  |_=>[]
 |_=>[]
def F2(b_:TC)(o:FQ):Nat:=
 match o.op with
 | .load _ a=>match oV b_ a with
  |0=>1
  |_=>0
 | .store _ a _=>match oV b_ a with
  |0=>2
  |_=>0
 | .alloc _ | .box _ _=>match dJ b_ o with
  |J=>2
  |U=>0
 | .buildSlice _ _ _ | .makeMap _ _ | .makeSlice _ _ _ | .mapUpdate _ _ _ _ | .mapEntry _ _ _ | .entryStore _ _ _ _ | .insert _ _ _ _=>2
 | .lookup _ _ _ _ | .slice _ _ _ _ _=>1
 | .call c=>match c.callee with
  | .builtin b=>match b with
   | .append | .copy | .delete | .clear=>2
   | .len=>1
   |_=>0
  |_=>0
 |_=>0
def Ym(b_:TC)(a b:FQ):Bool:=Nat.ble 3 (F2 b_ a+F2 b_ b) && !lR a b
def wn(b_:TC)(b:FQ)(m i:Nat):TA->Nat->List (Nat×Nat)
 | [],_=>[]
 |a::l,k=>match Nat.testBit m k || !Ym b_ a b with
  |J=>wn b_ b m i l (k+1)
  |U=>(k,i)::wn b_ b m i l (k+1)
def Ar(b_:TC)(ms:TC):TA->TA->Nat->List (Nat×Nat)
 |_,[],_=>[]
 |pre,b::l,i=>wn b_ b (ms.getD i 0) i pre 0++Ar b_ ms (pre++[b]) l (i+1)
def As(b_:TC)(ops:To):List (Nat×Nat):=Ar b_ (HC ops.toList []) [] ops.toList 0
def KV(x:Nat):TC->Bool
 | []=>U
 |y::l=>match Nat.beq x y with
  |J=>J
  |U=>KV x l
def Eo:TC->TC->Bool
 | [],_=>J
 |x::l,m=>match KV x m with
  |J=>U
  |U=>Eo l m
def Fh:List (FO×Nat×FO)->Option Unit
 | []=>O ()
 |p::l=>match Eo (E' p.1) (D9 p.2.1 p.2.2)with
  |J=>Fh l
  |U=>Q
def entV:SV->Option (Tn)
 | .st (.leaf (.v x))=>O [x]
 | .no=>Q
 |_=>O []
def ue(c:Env):List GJ->Option (Tn)
 | []=>O []
 |x::l=>match entV (n_ c x),ue c l with
  |O a,O b=>O (a++b)
  |_,_=>Q
def K1(b_:TC)(o:FQ):List GJ:=fD b_ o++match F2 b_ o,o.dst with
 |2,O d=>[.tmp d]
 |_,_=>[]
def Lz(us:Tn)(k:Nat)(vs:Tn):List (FO×Nat×FO):=us.flatMap λu=>vs.map λv=>(u,k,v)
def Nw(b_:TC)(c:Env)(a b:FQ):Option (List (FO×Nat×FO)):=
 match ue c (K1 b_ a),ue c (K1 b_ b),ue c (dz b_ a).1,ue c (dz b_ b).1 with
 |O d,O e,O f,O g=>O (Lz d (dz b_ b).2 g++Lz d 0 e++Lz e (dz b_ a).2 f)
 |_,_,_,_=>Q
def vA(b_:TC)(ops:To)(c:Env):List (Nat×Nat)->Option (List (FO×Nat×FO))
 | []=>O []
 |p::l=>match ops[p.1]?,ops[p.2]?,vA b_ ops c l with
  |O a,O b,O r=>(Nw b_ c a b).map λx=>x++r
  |_,_,_=>Q
def sepK{R a:Type}(A:Eh R a)(b_:TC)(ops:To)(ps:List (Nat×Nat))(c:KN R a):KN R a:=
 match ps with
 | []=>c
 |ps=>λb h=>match vA b_ ops b ps with
  |O l=>A.km (Fh l) λ_=>c b h
  |Q=>A.fail
def IY:List (Nat×Nat)->Option (Nat×Nat)
 | []=>Q
 |p::l=>match l with
  | []=>match Nat.ble 1000 p.1 with
   |J=>O (p.1-1000,p.2)
   |U=>Q
  |_=>Q
def M3(x y:FO):Option Unit:=match x with
 | .func (.yield l) a b=>match y with
  | .func (.yield m) c d=>match Nat.beq l m,a.toList,b.toList,c.toList,d.toList with
   |J,[],[],[],[]=>O ()
   |_,_,_,_,_=>Q
  |_=>Q
 |_=>Q
def fs:SV->Option FO
 | .st (.leaf (.v x))=>O x
 |_=>Q
def reK{R a:Type}(A:Eh R a)(X:Ex)(Sg:Td)(ops:To)(k:Nat)(e:TP)(b:Env)(h:a)(f:KN R a):R:=
 match ops[k]? with
 |O o=>match o.dst with
  |O d=>opG A X Sg ops o e b h λc _=>match fs (b.tm.getD d .no),fs (c.tm.getD d .no)with
   |O x,O y=>A.km (M3 x y) λ_=>f b h
   |_,_=>A.fail
  |Q=>A.fail
 |Q=>A.fail
def HG(l:List (Nat×Nat)):Option (List (Nat×Nat)):=match l with
 | []=>Q
 |p::l=>match Nat.ble 5000 p.1 with
  |J=>O l
  |U=>Q
def eqNt:Int->Int->Bool
 | .ofNat a,.ofNat b=>Nat.beq a b
 | .negSucc a,.negSucc b=>Nat.beq a b
 |_,_=>U
def eqSp:Ts->Ts->Bool
 |Q,Q=>J
 |O a,O b=>Nat.beq a b
 |_,_=>U
def M1:Option Addr->Option Addr->Bool
 |Q,Q=>J
 |O a,O b=>match Nat.beq a.block b.block,Nat.beq a.off b.off with
  |J,J=>eqSp a.spot b.spot
  |_,_=>U
 |_,_=>U
def YK(x y:FO):Option Unit:=match x with
 | .pointer a=>match y with
  | .pointer b=>match M1 a b with
   |J=>O ()
   |U=>Q
  |_=>Q
 | .slice a n c=>match y with
  | .slice b m d=>match M1 a b,Nat.beq n m,Nat.beq c d with
   |J,J,J=>O ()
   |_,_,_=>Q
  |_=>Q
 | .map a=>match y with
  | .map b=>match eqSp a b with
   |J=>O ()
   |U=>Q
  |_=>Q
 |_=>M3 x y
def eqIn(x y:Int):Option Unit:=match eqNt x y with
 |J=>O ()
 |U=>Q
def eqBo(x y:Bool):Option Unit:=match x,y with
 |J,J=>O ()
 |U,U=>O ()
 |_,_=>Q
def oH{R c:Type}(A:Eh R c)(x y:SL)(K:R):R:=match x with
 | .i k n=>match y with
  | .i d m=>match dc k d with
   |J=>A.km (eqIn n m) λ_=>K
   |U=>A.fail
  |_=>A.fail
 | .b t=>match y with
  | .b u=>A.km (eqBo t u) λ_=>K
  |_=>A.fail
 | .v a=>match y with
  | .v b=>A.km (YK a b) λ_=>K
  |_=>A.fail
 | .l _=>A.fail
def RZ{R a:Type}(A:Eh R a):List SL->List SL->R->R
 | [],[],K=>K
 |x::l,y::m,K=>oH A x y (RZ A l m K)
 |_,_,_=>A.fail
def samS{R c:Type}(A:Eh R c)(x y:SV)(K:R):R:=match x with
 | .st (.leaf a)=>match y with
  | .st (.leaf b)=>oH A a b K
  |_=>A.fail
 | .st (.agg a)=>match y with
  | .st (.agg b)=>RZ A a b K
  |_=>A.fail
 |_=>A.fail
def opsM{R a:Type}(A:Eh R a)(X:Ex)(Sg:Td)(ops:To)(l:TA):List (TP)->Env->a->(Env->a->List a->R)->R:=
 List.rec (motive:=λ_=>List (TP)->Env->a->(Env->a->List a->R)->R) (λ_ b h K=>K b h [])
  (λo _ g d b h K=>opG A X Sg ops o (d.headD []) b h λb h=>g d.tail b h λc e f=>K c e (h::f)) l
def atM{j7:Type}(h0:j7)(a:List j7)(p:Nat×Nat):j7:=(h0::a).getD (match Nat.ble p.1 p.2 with
 |J=>p.2+1
 |U=>p.2) h0
def reM{R a:Type}(A:Eh R a)(X:Ex)(Sg:Td)(ops:To)(f:List (TP))(b:Env)(h0:a)(e:List a)(K:R):List (Nat×Nat)->R
 | []=>K
 |p::l=>match ops[p.1]? with
  |O o=>match o.dst with
   |O d=>opG A X Sg ops o (f.getD p.1 []) b (atM h0 e p) λc _=>samS A (b.tm.getD d .no) (c.tm.getD d .no) (reM A X Sg ops f b h0 e K l)
   |Q=>A.fail
  |Q=>A.fail
def regE{R d:Type}(A:Eh R d)(X:Ex)(Sg:Td)(ops:To)(b:List (TP))(f:List (Nat×Nat))(a:Env)(h:d)(e:KN R d):R:=
 match HG f with
 |O l=>opsM A X Sg ops ops.toList b a h λc g i=>reM A X Sg ops b c h i (e c g) l
 |Q=>match IY f with
  |Q=>VD A X Sg ops ops.toList b a h (sepK A X.b_ ops f e)
  |O p=>VD A X Sg ops (ops.toList.take (p.2+1)) b a h λa h=>reK A X Sg ops p.1 (b.getD p.1 []) a h λa h=>VD A X Sg ops (ops.toList.drop (p.2+1)) (b.drop (p.2+1)) a h e
end Sx
abbrev Dr:=List Nat->To->Option (List (Nat×Nat))
section
variable {R HT:Type} (A:Eh R HT)
def wu(e:Exit)(id:Nat):Bool:=match e with
 | .exit i=>Nat.beq i id
 |_=>U
def qj(tm:List SV):List (Nat×SK)->Option (Tn)
 | []=>O []
 |(t,a)::l=>match tm.getD t .no,qj tm l with
  | .st x,O vs=>match x.is a with
   |J=>O (x.val::vs)
   |U=>Q
  |_,_=>Q
def drX(b:Dr)(a:Bool)(b_:TC)(ops:To):Option (List (Nat×Nat)):=match a with
 |J=>b b_ ops
 |U=>O []
def exec(X:Ex)(Sg:Td)(x:Dr)(c:AC):Env->HT->KN R HT->(Exit->KN R HT)->R:=
 AC.rec (motive:=λ_=>Env->HT->KN R HT->(Exit->KN R HT)->R)
  (λd h g _=>g d h)
  (λd h _ i=>i .ret d h)
  (λid d h _ i=>i (.exit id) d h)
  (λ_ d h g _=>g d h)
  (λ_ _ m n d h g i=>m d h (λd h=>n d h g i) i)
  (λ_ r d h g i=>r d h g i)
  (λid q o y j d h g _=>match drX x o X.b_ q with
   |Q=>A.fail
   |O B=>wS A X.b_ (.region id q o) j d g λg=>Sx.regE A X Sg q y B d h g)
  (λc a b j m n d h g i=>match n_ d c with
   | .st (.leaf (.l J))=>m d h g i
   | .st (.leaf (.l U))=>n d h g i
   | .st (.leaf (.b t))=>wS A X.b_ (.cond c (a.erase λk t=>gF (X.T k) t) (b.erase λk t=>gF (X.T k) t)) j d g λg=>A.cond t (m d h g i) (n d h g i)
   |_=>A.fail)
  (λid b j r d h g i=>wS A X.b_ (b.erase λk t=>gF (X.T k) t) j d g λg=>r d h g λe=>match wu e id with
   |J=>g
   |U=>i e)
  (λb lv r d h _ i=>match pk d lv with
   |Q=>A.fail
   |O s=>match lv.rows.all λp=>!(aS X.b_ (b.erase λk t=>gF (X.T k) t)).contains p.1 with
    |U=>A.fail
    |J=>A.loop (λu s h=>reE A X.b_ (b.erase λk t=>gF (X.T k) t) .nil lv d s λd=>r d h (λd h=>match pk d lv with
     |O s=>u s h
     |Q=>A.fail) i) s h)
  (λf k w d h g i=>match f,n_ d f,X.b_ with
   | .tmp _,.st (.leaf (.v v)),_::_=>match Nat.beq (W d.tm) (X.T k).nt,qj d.tm (X.T k).caps with
    |J,O C=>A.Gr k v C h λz h=>A.F4 z (g d h) (i .ret d h) (w.map λid=>(id,i (.exit id) d h))
    |_,_=>A.fail
   |_,_,_=>A.fail) c
def MN(cs:List SL)(K:R):R:=
 List.rec K (λc _ a=>match c with
  | .v x=>A.km (H0 x) λ_=>a
  |_=>a) cs
def iL(a:Bool)(x:S0)(K:R):R:=
 match a,x with
 |J,.agg b=>MN A b K
 |_,_=>K
def Kl(X:Ex)(c:Bool)(j:Env)(h:HT)(l:List ResultVar):TP->TG->(TG->HT->R)->R:=
 List.rec (motive:=λ_=>TP->TG->(TG->HT->R)->R) (λb d K=>match b with
   | []=>K d h
   |_=>A.fail)
  (λm _ i b d K=>match b with
   | []=>A.fail
   |g::b=>match m with
    | .tmp t=>match j.tm.getD t .no with
     | .st x=>match x.is g with
      |J=>iL A c x (i b (d++x.cells.map SL.lf) K)
      |U=>A.fail
     |_=>A.fail
    | .cell a t=>match DV X.C.P t with
     |O e=>
      let n:=if e then X.C.P.cellsOf t else 1
      match j.tm.getD a .no with
      | .Kb s k=>match (vu j s).bind (λf=>(F0 f k n).bind (Kd e))with
       |O x=>match x.is g with
        |J=>iL A c x (i b (d++x.cells.map SL.lf) K)
        |U=>A.fail
       |Q=>A.fail
      | .st (.leaf (.v p))=>match e,g with
       |J,.agg _=>A.oo (.ld n p) h λf=>NH A g f λx r=>A.wb r (iL A c x (i b (d++x.cells.map SL.lf) K))
       |U,.leaf _=>A.oo (.ld n p) h λf=>NH A g f λx r=>A.wb r (iL A c x (i b (d++x.cells.map SL.lf) K))
       |_,_=>A.fail
      |_=>A.fail
     |Q=>A.fail) l
structure Fn1 where
 sg:Ko
 nt:Nat
 rvs:List ResultVar
 code:AC
def au(X:Ex)(Sg:Td)(d:Dr)(a:Fn1)(ls:TG)(h:HT)(K:TG->HT->R):R:=
 Ml A a.sg.ps ls λc r=>A.C3 r (
  exec A X Sg d a.code ⟨c.map .st++FJ (a.nt-W c) .no,FJ a.nt .nil⟩ h
   (λb h=>Kl A X (Nat.blt 1 (W a.rvs)) b h a.rvs a.sg.rs [] K)
   λe b h=>match e with
    | .ret=>Kl A X (Nat.blt 1 (W a.rvs)) b h a.rvs a.sg.rs [] K
    |_=>A.fail)
def gn(a:Nat):List (Nat×SK)->List S0->List SV->List SV
 |(t,_)::l,x::xs,tm=>gn a l xs (tm.set t (.st x))
 |_,_,tm=>tm
def H9:AC->Bool
 | .seq a b=>H9 a&&H9 b
 | .scope b=>H9 b
 | .cond _ a b _=>H9 a&&H9 b
 | .block _ b _=>H9 b
 | .loop b _=>H9 b
 | .rangeFunc _ _ _=>U
 |_=>J
def uM(l:List (Nat×SK)):Bool:=l.all λp=>match p.2 with
 | .leaf _=>J
 | .agg _=>U
def uj(X:Ex)(Sg:Td)(a:Dr)(st:Site)(vs:Tn)(l:Nat)(ls:TG)(h:HT)(K:TG->HT->R):R:=
 match uM st.caps&&H9 st.assign&&H9 st.body with
 |U=>A.fail
 |J=>ucSs A (st.caps.map (·.2)) vs λd r=>A.wb r (Ml A (st.params.map (·.2)) ls λf r=>A.C3 r (
  exec A { X with b_:=[] } Sg a st.assign ⟨gn st.nt st.params f (gn st.nt st.caps d (FJ st.nt .no)),[]⟩ h
   (λc h=>A.LX l h λh=>exec A { X with b_:=[] } Sg a st.body c h
    (λ_ h=>A.I1 l Q h λh=>K [.b J] h)
    λe _ h=>match e with
     | .ret=>A.I1 l (O .ret) h λh=>K [.b U] h
     | .exit id=>A.I1 l (O (.exit id)) h λh=>K [.b U] h
     |_=>A.fail)
   λ_ _ _=>A.fail))
end
inductive An where
 |r (hs:List (TP)) (j:Option Live)
 |c (j:Option Live)
 |b (j:Option Live)
 |l (lv:Live)
 |f (m8:Nat) (ids:TC)
abbrev lv:SK:=.leaf .v
abbrev lb:SK:=.leaf .b
abbrev M:SK:=.leaf (.i DQ)
def rO:Code->List An->AC×List An
 | .skip,l=>(.skip,l)
 | .ret,l=>(.ret,l)
 | .exit id,l=>(.exit id,l)
 | .label n,l=>(.label n,l)
 | .seq a b,l=>
  let x:=rO a l
  let y:=rO b x.2
  (.seq x.1 y.1,y.2)
 | .scope b,l=>
  let x:=rO b l
  (.scope x.1,x.2)
 | .region id g d,.r h j::l=>(.region id g d h j,l)
 | .cond c a b,.c j::l=>
  let x:=rO a l
  let y:=rO b x.2
  (.cond c x.1 y.1 j,y.2)
 | .block id b,.b j::l=>
  let x:=rO b l
  (.block id x.1 j,x.2)
 | .loop b,.l lv::l=>
  let x:=rO b l
  (.loop x.1 lv,x.2)
 | .rangeFunc f _ _ _,.f i e::l=>(.rangeFunc f i e,l)
 |_,l=>(.exit 1000000,l)
def MT(P:TI)(f:TT):Code:=((P.funcs[f]?).bind (·.body)).getD .skip
def jD:Code->List (Array Tmp×Code×Code)
 | .seq a b=>jD a++jD b
 | .scope b=>jD b
 | .cond _ a b=>jD a++jD b
 | .block _ b=>jD b
 | .loop b=>jD b
 | .rangeFunc _ c a b=>[(c,a,b)]
 |_=>[]
def site(c:Code)(i e:Nat)(caps d:List (Nat×SK))(a b:List An):Site:=
 match (jD c)[i]? with
 |O (_,x,y)=>⟨e,caps,d,(rO x a).1,(rO y b).1⟩
 |Q=>⟨0,[],[],.skip,.skip⟩
def fn1(P:TI)(f:TT)(sg:Ko)(b:List An):Fn1:=
 match P.funcs[f]? with
 |O a=>⟨sg,a.ntmps,a.results.toList,(rO (MT P f) b).1⟩
 |Q=>⟨sg,0,[],.skip⟩
abbrev B9:SK:=.agg [.i DQ,.i DQ,.i DU]
abbrev D1:SK:=.agg [.i DU,.i DQ,.i DQ]
abbrev D4:SK:=.leaf (.i DU)
abbrev Ee:SK:=.agg [.i DQ,.i DQ]
abbrev Fk:SK:=.agg [.i DQ,.i DQ,.v]
abbrev Hc:SK:=.agg [.i DQ,.i DQ,.v,.i DU,.i DQ,.i DQ,.v]
abbrev IZ:SK:=.agg [.i DQ,.i DU]
abbrev I_:SK:=.agg [.i DQ,.b]
abbrev Kr:SK:=.agg [.i DU,.i DQ]
abbrev LH:SK:=.agg [.i DQ,.i DU,.i DU]
abbrev GR:SK:=.agg [.i DQ,.i DQ,.i DU,.v]
abbrev Hi:SK:=.agg [.i DQ,.i DQ,.i DQ,.i DQ]
abbrev Vg:SK:=.leaf (.i .u64)
abbrev g013:SK:=.agg [.i DU,.i DU,.v]
abbrev g014:SK:=.agg [.i DQ,.b,.i DQ,.b,.i DQ,.b,.i DQ,.b]
abbrev g015:SK:=.agg [.i DQ,.i DQ,.i DU,.i DQ,.i DQ,.i DQ,.i DU,.i DQ,.i DQ,.i DU,.i DQ,.i DQ,.i DU,.i DQ,.i DQ,.i DQ,.i DQ]
abbrev Z:An:=.r [] Q
abbrev E:An:=.c Q
abbrev tf:An:=.b Q
abbrev I(x:List (TP)):An:=.r x Q
open Go.Proofs
def gl1:Tn:=[1,0,0,1,0,-1,1,0,-1,0,0,-1,0,1,-1,0,-1,0,0,1,0,-1,-1,0,1,0,0,-1,0,1,1,0].map (.int DQ)
def gl0:Tn:=[EO DQ 0,EO DQ (-1),EO DU 2,EO DQ 0,EO DQ 0,EO DQ (-1),EO DU 2,EO DQ 0,EO DQ 0,EO DU 1,EO DQ 0,EO DQ 0,EO DU 3,EO DQ 0,EO DQ 0,EO DQ 2,EO DQ 0,EO DQ 1,EO DQ 0,EO DU 1,EO DQ 1,EO DQ 1,EO DQ 0,EO DU 3,EO DQ 0,EO DQ 0,EO DU 0,EO DQ 0,EO DQ 0,EO DU 2,EO DQ 2,EO DQ 2,EO DQ 2,EO DQ 0,EO DQ 0,EO DQ 1,EO DU 2,EO DQ 1,EO DQ 0,EO DQ 1,EO DU 0,EO DQ 0,EO DQ 0,EO DU 3,EO DQ 0,EO DQ 0,EO DU 1,EO DQ 2,EO DQ 2,EO DQ 0,EO DQ 2,EO DQ (-1),EO DQ 0,EO DU 1,EO DQ 0,EO DQ (-1),EO DQ 0,EO DU 1,EO DQ 0,EO DQ 0,EO DU 2,EO DQ 0,EO DQ 0,EO DU 0,EO DQ 0,EO DQ 0,EO DQ 0,EO DQ 2]
def r8:List (TC):=[[],[],[0],[0,3,0,5,6,25,3,23,3,23,3,3,23,3,26,5,0,5,28,6,0,6,0,6,26,6,0,5,25,6,0,5,32,5,0,5],[0,3,4,5,23,3,25,3,27,3,37,3,32,3,27,3],[27,8,68,8,26,8,29,8,30,8],[23,4,5],[24,5,6,32,18,0,20,67,5],[23,4,5,0,4,0,5,24,4,0,5],[23,4,5,0,4,0,5],[24,5,6],[23,4,5,0,4,0,5,24,4,0,5,25,4,0,5],[25,6,7,35,7,0,7,7,29,7],[0,3,25,8,45,8,29,8,29,8],[23,4,5,6,7,8,24,12,31,5,23,4,4,23,4,4,24,4,24,4,26,4,25,5,0,12,23,5,24,12,23,12,26,12,29,12,27,12,26,4,24,8,23,12,54,5,65,8,0,4,0,4,38,5,33,5,23,8,8,27,4,4,37,8,8,8,8,23,8,8],[24,5,6],[23,4,5,33,5,32,5],[2],[23,4,5,28,13,24,17,0,19,39,4,4,0,4,4],[0],[23,4,5,31,16,4,4,23,4,4,52,4,39,4,24,4],[28,9,39,9,24,9,25,9,25,9,25,9],[23,4,5,6],[23,4,0,6,23,4,25,4],[0,3,24,7,24,3,3,23,3,3,25,3,26,3,29,3,0,7,27,3,0,7,24,7,26,7,25,7,27,3,25,7,28,7],[23,4,0,6,23,4,24,4,0,4,26,4,23,4,25,4,0,4,24,4,23,4,25,4,0,4,0,4,25,4,0,4,0,4],[27,8,24,12,13,49,8,29,8],[26,7,37,7],[0],[0],[0],[29,10,11],[23,4,5,0,4,0,5,23,4,0,5],[0],[23,4,5,0,4,0,5,23,4,0,5,23,4,23,5],[0],[0],[0],[0,3,29,12,13,0,3,0,3,25,3,33,3,3,42,3,3,29,3,3],[0,3,4,3,24,3,26,3,26,3,0,3,23,3,23,3],[23,4,5,0,7,24,7,0,7,0,7,0,7,23,7,0,7,24,4,25,4],[23,4,5,6,7,8,9,0,11,41,7,23,7],[0],[24,5],[0],[23,4,5],[0],[32,13,23,16,0,18,0,20],[26,7,0,9,24,13,24,17,0,19,44,7,0,9,24,7,0,9,42,7,0,13,25,7,0,13,55,17,0,19,24,17,0,19,24,17,0,19,24,17,0,19],[0],[0],[23,4,5,6,0,8,25,5,24,5,43,6],[0],[0],[24,5,24,9,26,9,24,9,25,9,0,5,25,9,0,5,24,9,0,5,23,9,24,9],[23,4,5,6,4,0,5,23,4,0,5,25,4,0,5,23,4,0,5,25,4,0,5,25,4,0,5,25,4,0,4,24,4,0,4,25,4,0,4,23,4,0,4],[23,4,5,0,4,0,5,24,4,0,5,24,4,0,5,24,4,0,5,24,4,0,5],[0,3,4,5,23,3,23,3,24,3,0,5,24,3,0,5,24,5,31,5,25,5,26,5],[23,4,5,6,24,5,0,5,0,4,26,4,31,4,25,4],[0,3,4,5,23,5,5,0,5,5,23,5,5,24,5,5,0,5,5,23,5,5],[24,5],[24,5],[0],[25,6,28,6,0,6],[0],[29,10,11],[23,4,5,0,4,0,5,24,4,0,5],[0],[23,4,5,6,7,24,7,24,7,26,7,26,7,23,7],[0],[23,4,5,0,4,0,5,24,4,0,5,24,4,0,5,24,4,0,5,24,4,0,5],[23,4,5,29,14,15,49,4],[0],[0],[23,4,5],[23,4,0,6],[23,4,0,6,0,8,29,4,23,1,1,1,0,8,0,4,23,8,0,4,23,8,8],[23,4,5,6,0,8],[24,5,25,10,0,12],[24,5,25,10,40,5],[31,12,31,12,23,12],[0,3,26,3],[25,6,7,31,6,0,7,0,6,0,7,26,6,0,7,29,6,0,7,57,6,0,7,0,6,0,7,34,7,0,6,0,6,0,7],[27,8],[0],[0],[0],[0],[25,6,27,6,26,6,29,6,30,6,29,6],[25,6,23,9],[0],[0,3,4,23,7,3,23,3,28,3],[0],[0,3,24,7,8,23,3,26,3,23,3,28,3,0,7,0,7,35,3,26,3,27,3],[0,3,0,3,25,3,25,3,25,3,0,3],[34,15],[23,4,5,6,34,5,0,1,0,4,0,4,25,4,0,1,0,5,0,1,25,5,24,5],[0],[],[],[],[],[],[],[],[],[0],[0,3,0,3,24,3,25,3,25,3,25,3,0,3],[23,4,27,4,23,4],[23,4,0,6,23,4,25,4],[0,3,0,3,24,3,25,3,25,3,25,3],[23,4,5,6,7,8,9,0,11,23,5,0,1,1,28,4,4,27,7,0,7,25,7,0,7,31,11,26,9],[23,4,5,33,5,25,5,0,4,25,5,25,5,0,4,24,5,0,4,23,5,24,5],[24,5,23,8,25,13,31,5,32,5],[24,5,6,7,25,5,25,5,27,5,24,7,0,5,0,7],[24,5,25,5,26,5,29,5],[0],[0,3,0,3],[0],[24,5,23,8],[0,3,4,3,0,3],[23,4,5,0,4,0,5,23,4,0,5,23,4,23,5],[0],[0,3,24,7,3,24,3,28,7,0,7],[0,3,25,3,23,3],[28,9,10,0,12,0,14,0,16],[23,4,5,6,0,8,33,5],[0,3,4,26,3,24,3,26,3,26,3,0,3,23,3,23,3],[24,5,25,5,24,5,25,5,24,5],[0,3,4],[0,3,23,6],[23,4,5,6,27,4,0,4,27,4,0,4],[0],[0],[],[],[],[0,3,4,3,24,3],[23,4,5,6,24,10,31,4,0,1,0,5,0,5,26,4,25,4],[24,5],[0],[23,4,5,6,23,9,30,5,0,5,34,5],[23,4,0,6,0,8,9,29,4,0,1,0,8,0,4,0,8,27,4,0,4,28,4,0,4,25,8,23,4,0,8,23,9],[0,3,0,3,24,3,25,3,25,3],[],[0,3,0,3,24,3,25,3,25,3],[25,6],[23,4,5],[],[],[],[],[],[],[],[],[],[],[],[],[],[],[],[],[],[],[],[],[0]].map (·.flatMap λx=>if x<21 then[x]else FJ (x-21) 0)
def cc:p_ where
 P:=Tryz.prog
 G:=λg=>match g with
  |1=>O gl1
  |0=>O gl0
  |_=>Q
 b_:=λf=>r8.getD f []
namespace J_
def a:TP:=[]
def b(a b:TP):Option Ko:=O ⟨a,b⟩
def c(n:Nat):An:=.l ⟨[(n,M)],[]⟩
def d(a:List (Nat×SK)):An:=.l ⟨a,[]⟩
def e(a:List (Nat×SK)):An:=.c (O ⟨a,[]⟩)
def f(a:List (Nat×SK)):An:=.b (O ⟨a,[]⟩)
def g(a:List (TP))(b:List (Nat×SK)):An:=.r a (O ⟨b,[]⟩)
def h(n:Nat):Nat×SK:=(n,M)
def i:An:=.b (O ⟨[],[]⟩)
def j:An:=.c (O ⟨[],[]⟩)
def k:An:=tf
def l:TP:=[M]
def m:TP:=[lv]
def n:TP:=[B9]
def o:TP:=[D4]
def p:TP:=[D1]
def q:TP:=[Ee]
def r:TP:=[lb]
def s:TP:=[Fk]
def t:TP:=[Hc]
def u:TP:=[Kr]
def v:TP:=[LH]
def w:TP:=[I_]
def x:TP:=[IZ]
def y:TP:=[GR]
def z:TP:=[Hi]
def A:TP:=[.agg [.v,.v]]
end J_
open J_
def ac:TT->Option Ko
 |2=>b a a
 |3=>b [g013] r
 |4=>b [g013] t
 |5=>b a r
 |6=>b [Fk,D1] [Hc,M]
 |7=>b [Fk,D1,lv] l
 |8=>b [Fk,Fk] r
 |9=>b [Hc,Hc] l
 |10=>b [Fk,D1,M] [lv,M]
 |11=>b [Hc,Hc] r
 |12=>b [M,M] t
 |13=>b t m
 |14=>b [Hc,.agg [.i DU,.i DQ,.i DU,.b]] t
 |15=>b [Fk,D1,M] [M,M]
 |16=>b m s
 |17=>b a p
 |18=>b [Fk,D1] [lv,M]
 |19=>b m m
 |20=>b [Fk,D1] [lv,M]
 |21=>b [lv,M] l
 |22=>b [D1,B9] n
 |23=>b [Ee,M] n
 |24=>b s m
 |25=>b [B9,M] n
 |26=>b [Fk,lv,lv,lv,B9,B9] m
 |27=>b [lv,lv] l
 |28=>b [lv,M] l
 |29=>b [D4,lb] l
 |30=>b [lv,lv] r
 |31=>b [lv,lv,lv] l
 |32=>b [GR,GR] l
 |33=>b m l
 |34=>b [B9,B9] l
 |35=>b [lv,lv] l
 |36=>b m m
 |37=>b [lv,lv] r
 |38=>b t m
 |39=>b u p
 |40=>b [Kr,B9] o
 |41=>b [D1,D1] p
 |42=>b m m
 |43=>b [Ee,M,M] o
 |44=>b m m
 |45=>b [Fk,D1] [lv,M]
 |46=>b [lv,lv] a
 |47=>b [lv,lv] [lv,M]
 |48=>b [lv,lv] a
 |49=>b [lv,lv] a
 |50=>b [M,lv,lv,lv] r
 |51=>b m t
 |52=>b [lv,M,M,lv] r
 |53=>b [lv,M,lv] a
 |54=>b [Ee,M,M] l
 |55=>b [B9,B9] p
 |56=>b [B9,B9] l
 |57=>b q n
 |58=>b [D1,Ee] q
 |59=>b n q
 |60=>b [Ee,M,M] l
 |61=>b [lv,B9] m
 |62=>b [lv,M] l
 |63=>b m l
 |64=>b [M,M] l
 |65=>b [lv,lv,lv] r
 |66=>b [GR,GR] r
 |67=>b [lv,lv] r
 |68=>b [B9,B9] u
 |69=>b [M,M] l
 |70=>b [B9,B9] l
 |71=>b [Fk,D1] [lv,lv,M]
 |72=>b [lv,M,M,M,lv] a
 |73=>b [Vg] l
 |74=>b [Fk,D1] [lv,M]
 |75=>b [Ee,M] [B9,M]
 |76=>b [B9,D4] [B9,M]
 |77=>b [D1,B9] [B9,M]
 |78=>b [Ee,M,D4] [M,M]
 |79=>b [Fk,M,D4] [D4,M]
 |80=>b [lv,D4,M,M,lb] a
 |81=>b p r
 |82=>b [lv,I_,I_] a
 |83=>b [lv,M,M] w
 |84=>b m m
 |85=>b m m
 |86=>b m m
 |87=>b m m
 |88=>b [lv,I_,lv] r
 |89=>b m r
 |90=>b [M,M] l
 |91=>b n [.agg [.i DQ,.i DQ,.i DQ,.i DQ,.i DQ,.i DQ]]
 |92=>b l r
 |93=>b s l
 |94=>b p l
 |95=>b s [lv,M]
 |96=>b [D1,D1] [D1,M]
 |97=>b [lv,M,M,lv] a
 |106=>b [Vg] l
 |107=>b q l
 |108=>b [Ee,M] r
 |109=>b [Ee,M] n
 |110=>b n l
 |111=>b [D1,B9] n
 |112=>b [Ee,B9] [M,M]
 |113=>b [Fk,M,D4] [IZ,M,lb,M]
 |114=>b [lv,I_] w
 |115=>b [lv,I_] l
 |116=>b [lv,lv] r
 |117=>b v r
 |118=>b o r
 |119=>b [Ee,M,D4] [IZ,M]
 |120=>b v x
 |121=>b [IZ,IZ] l
 |122=>b l r
 |123=>b s m
 |124=>b q l
 |125=>b [M,D4,lv,lv,lv] p
 |126=>b [Ee,IZ] [Kr,M]
 |127=>b u [D1,M]
 |128=>b [Hi,M,M] [M,M]
 |129=>b p [D1,M]
 |130=>b z o
 |131=>b [Hi,Hi] z
 |132=>b [lv,M,M,M,lv] a
 |133=>b l [Vg]
 |137=>b n q
 |138=>b [D1,Ee] [Ee,M]
 |139=>b [lv,IZ] [M,lb]
 |140=>b [lv,lv] l
 |141=>b [Ee,IZ] [B9,M]
 |142=>b [B9,D4] [Kr,M]
 |143=>b u l
 |145=>b q l
 |146=>b [lv,IZ,lv] [M,lb]
 |147=>b [LH,IZ] l
 |168=>b a a
 |_=>Q
def J3:List An:=[Z,I [a,o,a,a,o],I [[g013]],I [a,m],E,Z,I [a,s,a,p],I [a,a,a,a,s,a,p,a,m,a,a,a,a,a,p,a,p,a,a,a,a,s,a,s,a,a,a,a,t,t],E,Z,I [a,s,a,p],Z,E,Z,Z,Z,k,d [(7,lb),h 8],Z,E,k,g [a,a,a,a,a,t,t] [(7,lb)],I [a,a,a,a,a,a,a,t,a,a,a,t],j,Z,Z,g [] [(2,lb)]]
def J4:List An:=[Z,I [a,o,a,a,a,a,o],Z,.b (O ⟨[],[(3,[.i DQ,.i DQ,.v,.i DU,.i DQ,.i DQ,.v])]⟩),.l ⟨[h 4],[(3,[.i DQ,.i DQ,.v,.i DU,.i DQ,.i DQ,.v])]⟩,I [a,a,m],E,k,I [t],Z,E,I [t,a,a,m,a,a,a,o,a,a,a,a,a,u,a,m,a,a,a,o,a,a,m,a,a,a,o],Z,I [t]]
def J5:List An:=[Z,Z,Z,Z,k,c 3,Z,E,k,I [a,a,a,m],I [a,a,a,a,l],E,Z,Z,I [a,a,m],g [a,a,a,a,m,a,a,a,a,a,m,a,a,m,a,a,a,a,a,m,a,a,m,a,l,a,a,a,a,m,a,a,m,a,l] [(0,lb)]]
def J6:List An:=[Z,I [s,p],Z,E,Z,Z,k,.f 96 [],Z]
def J7:List An:=[Z,I [s,p],Z,E,Z,Z,Z,E,Z,Z,k,c 10,Z,E,k,Z,k,c 11,I [a,a,a,a,a,m],E,k,I [a,a,a,a,m,a,a,l],I [a,a,a,p,a,q,a,a,a,a,a,a,a,n],E,Z,Z,Z,I [s],Z,Z,k,d [h 14,h 15],Z,E,k,I [a,a,a,a,n],Z,k,d [h 14,h 17],Z,E,k,I [n],I [s,a,a,a,n,n,a,s,a,a,a,n,n],Z,E,Z,Z,k,d [h 14,h 21],Z,E,k,I [a,a,a,a,o,a,a,a,a,a,a,a,a,a,a,a,a,a,o,a,a,a,a,a,l,a,a,o],e [h 14],Z,Z,Z,Z,Z]
def J8:List An:=[Z,g [a,q,a,q,a,a,a,m,a,m] [(4,lb)]]
def J9:List An:=[Z,I [a,m,a,m]]
def J10:List An:=[Z,I [s,p],Z,E,Z,I [l,a,a,l],E,Z,Z,Z,i,.f 160 [0],I [m]]
def J11:List An:=[Z,g [a,s,a,s,a,a,a,p,a,p,a,a,a,a,m,a,m] [(4,lb)]]
def J12:List An:=[Z,Z,Z,k,.l ⟨[h 6],[(5,[.i DQ,.i DQ,.v,.i DU,.i DQ,.i DQ,.v])]⟩,Z,E,k,I [a,m,a,a,q],Z,I [t]]
def J13:List An:=[Z,I [t],Z,Z,k,d [(4,lv),h 5],Z,E,k,I [a,a,a,a,u],Z,f [h 7],c 7,I [a,a,a,a,a,a,a,a,a,o,a,o,a,a,a,a,a,a,o,a,o,a,a,a,a,a,a,l,a,l],j,k,Z,I [a,a,a,a,a,a,a,a,u,u],e [(4,lv)],I [a,a,a,a,a,u],Z,Z]
def J14:List An:=[Z,I [a,u],I [a,a,q,a,a,a,m,a,a,a,p],Z,Z,k,.l ⟨[(8,lv),(7,lv),h 9],[(6,[.i DQ,.i DQ,.v,.i DU,.i DQ,.i DQ,.v])]⟩,I [a,a,m],E,.b (O ⟨[(8,lv),(7,lv)],[(6,[.i DQ,.i DQ,.v,.i DU,.i DQ,.i DQ,.v])]⟩),I [a,m,a,a,y],I [a,u,a,n,a,a,o],E,I [a,a,n,a,a,m],Z,I [a,m],k,.l ⟨[(11,lv),h 12],[(6,[.i DQ,.i DQ,.v,.i DU,.i DQ,.i DQ,.v])]⟩,Z,E,k,I [a,a,m,a,a,l],I [a,m,a,a,l],.c (O ⟨[],[(6,[.i DQ,.i DQ,.v,.i DU,.i DQ,.i DQ,.v])]⟩),I [a,p,p],Z,I [a,p,a,n],Z,Z,k,d [(8,lv),h 13],Z,E,k,Z,Z,f [(14,lb)],d [(14,lb),h 15],Z,E,f [(14,lb)],I [a,a,a,a,n,a,a,a,a,n],E,Z,I [a,r],j,I [a,a,a,a,a,a,m,a,a,a,a,m],I [a,a,a,a,a,a,a,m,a,a,a,a,a,m],Z,Z,e [(8,lv)],I [a,a,a,a,y],Z,Z,I [a,s,a,p],I [t],Z,k,.l ⟨[h 19],[(6,[.i DQ,.i DQ,.v,.i DU,.i DQ,.i DQ,.v])]⟩,Z,E,.b (O ⟨[],[(6,[.i DQ,.i DQ,.v,.i DU,.i DQ,.i DQ,.v])]⟩),I [a,a,a,a,u,a,u],E,Z,I [a,a,a,a,a,l,a,a,o,a,a,r],e [(20,D4)],Z,I [a,a,m,a,a,a,a,l,a,a,q,a,a,a,a,l,a,a,a,a,l],Z,I [a,a,m],I [t]]
def J15:List An:=[Z,I [s,p],Z]
def J16:List An:=[Z,Z,Z,k,.l ⟨[h 4],[(3,[.i DQ,.i DQ,.v])]⟩,Z,E,k,I [a,m,a,a,a,a,a,a,o],Z,I [s]]
def J17:List An:=[Z,Z]
def J18:List An:=[Z,I [s,p],Z,E,Z,I [a,a,l,a,a,l],E,Z,I [s,p],Z,Z,k,c 55,Z,E,k,I [a,n],I [a,n,[M,lb]],Z,j,I [a,n],I [a,a,a,a,m,n],Z,I [a,a,a,m],I [a,a,a,m],k,c 90,Z,E,k,I [a,a,n],I [a,n],Z,I [a,a,a,a,a,m,a,a,a,a,a,m],Z,k,c 119,Z,E,k,I [a,a,n],I [a,a,a,m,a,n,l,a,a,a,m,a,n,l,a,m],Z,I [a,a,a,m],k,c 150,Z,E,k,I [a,m],Z,k,c 156,Z,E,k,I [a,a,l],Z,k,c 165,Z,E,k,I [a,l],I [a,a,a,m,a,a,a,a,a,a,m],I [a,a,a,a,m,a,a,a,m],Z,Z,Z,I [a,a,a,a,m],Z,Z,k,c 216,Z,E,k,I [a,m],Z,Z,Z]
def J19:List An:=[Z,Z]
def J20:List An:=[Z,I [a,a,l,a,a,a,l],Z,Z,Z,E,Z,I [a,a,p],I [s],Z,k,d [(10,lb)],Z,E,k,Z,Z,k,d [(10,lb),h 11],Z,E,k,Z,f [(10,lb)],d [(10,lb),h 12],I [a,a,a,a,a,a,r],E,f [(10,lb)],I [a,q],Z,E,I [a,a,a,p],I [a,a,a,a,a,a,o],.c (O ⟨[],[(14,[.i DU,.i DQ,.i DQ])]⟩),I [a,q,a,a,a,q,a,a,a,a,a,a,p],I [a,a,a,r,a,a,a,a,p,p],j,Z,I [a,a,a,r],e [(10,lb)],I [a,a,a,a,p],Z,Z,Z,Z]
def J21:List An:=[Z,Z,Z,k,c 6,Z,E,k,I [a,a,a,a,n],I [a,l,a,a,a,l,a,a,a,a,l,a,a,a,a,l,a,a,a,a,o,a,a,a,a,a,a,a,a,a,a,a,n,n,a,a,a,a,a,a,a,a,a,m],j,Z,Z,k,c 8,I [a,a,a,a,a,m],E,k,I [a,a,a,a,m,a,a,l],Z,E,Z,Z,Z,Z,Z,k,d [h 10,h 11],Z,E,k,Z,k,d [h 10,h 12],I [a,a,a,a,a,m],E,k,I [a,a,a,a,a,m,a,a,l,a,l],I [a,a,a,a,a,m,a,a,l,a,l],E,Z,Z,Z,Z,Z,E,Z,Z]
def J22:List An:=[Z,I [p,n]]
def J23:List An:=[Z,I [a,a,a,l,a,a,a,a,l]]
def J24:List An:=[Z,I [a,a,l,a,a,a,l],Z,k,c 4,I [a,a,m],E,k,I [a,m,a,a,v],Z,k,c 6,Z,E,i,I [a,q,a,l],I [a,a,a,a,q,a,l,a,a,a,o],E,I [a,a,l,a,a,a,a,o],Z,k,c 8,Z,E,k,I [a,q,a,a,a,a,l],j,I [a,a,a,a,a,a,o],Z,Z,Z,Z]
def J25:List An:=[Z,Z,E,I [a,o],k,Z,E,I [a,l,a,l],Z,E,I [a,l,a,a,l],Z,E,I [a,l,a,l],I [a,l,a,a,l],Z,E,I [a,l,a,l,a,o],I [a,l,a,l,a,o]]
def J26:List An:=[Z,Z,I [a,n],Z,k,d [(13,lv),h 15],Z,E,k,I [a,a,a,l],Z,k,d [(13,lv),h 17],Z,E,f [(13,lv)],I [a,a,a,p,a,q,a,a,a,a,a,n],E,I [a,q],I [a,a,a,a,a,a,a,a,a,o],Z,Z,Z]
def J27:List An:=[Z,Z,Z,k,c 6,Z,E,k,I [a,a,m],Z,k,c 8,Z,E,i,I [a,a,a,a,o],E,Z,Z,k,c 10,Z,E,k,I [a,a,a,a,l,a,a,a,a,a,a,o],j,Z,I [a,a,a,a,o],j,Z,Z,E,Z,Z,Z,Z,Z,k,c 12,Z,E,k,Z,k,c 13,Z,E,i,I [a,a,a,a,o,a,a,a,a,a,a,o,a,a,a,a,a,a,a,l,a,a,a,a,a,a,a,l],E,I [a,a,a,a,a,l,a,a,a,a,a,a,l],E,Z,Z,Z,Z]
def J28:List An:=[Z,I [a,a,a,a,a,l]]
def J29:List An:=[Z,Z,E,Z,Z]
def J30:List An:=[Z,Z,E,Z,Z,k,c 13,Z,E,k,Z,I [a,a,a,v,a,a,a,v],E,Z,Z,Z]
def J31:List An:=[Z,Z,k,c 13,Z,E,k,I [a,a,y],Z,E,Z,I [a,a,a,y],I [a,y,y,l],Z,E,Z,Z,Z,E,Z,Z]
def J32:List An:=[Z,I [a,n,a,n,a,a,m,a,m]]
def J33:List An:=[Z,Z,Z,k,c 8,Z,E,k,I [a,l],Z,E,Z,Z,Z]
def J34:List An:=[Z,I [a,l,a,l,a,a,l,a,l,a,a,o,a,a,o]]
def J35:List An:=[Z,Z,k,c 11,Z,E,k,I [a,a,l],Z,E,Z,I [a,a,a,l],Z,Z,E,Z,Z,Z,E,Z,Z]
def J36:List An:=[Z,Z]
def J37:List An:=[Z,Z]
def J38:List An:=[Z,I [a,s,a,p],I [a,s],Z,Z,k,d [(6,lv),h 7],Z,E,k,Z,k,d [(6,lv),h 8],Z,E,f [(6,lv)],I [a,a,q],I [a,a,a,a,a,a,a,a,a,a,o],E,I [a,a,a,p,a,a,q,a,a,a,a,a,a,p,a,a,q],I [a,a,a,n,n],Z,Z,Z]
def J39:List An:=[Z,I [a,o],k,Z,E,I [a,l],Z,E,I [a,l],Z,E,I [a,l,a,l],I [a,l,a,a,l]]
def J40:List An:=[Z,I [n],I [a,l,a,l,a,l,a,l,a,a,l,a,l,a,a,a,o,a,l],I [a,a,l],E,Z,Z]
def J41:List An:=[Z,I [p,p],I [p,p],I [p,p],Z,k,d [(8,D4)],Z,E,k,I [a,a,l,a,a,l],I [p,a,a,q,a,a,p,a,a,q],j,I [p],Z,Z]
def J42:List An:=[Z,Z,Z,k,c 4,Z,E,k,Z,i,c 5,I [a,a,a,a,a,a,a,a,n,a,a,a,a,n],E,k,I [a,a,a,a,a,a,a,a,y,a,a,a,a,y],Z,Z,Z]
def J43:List An:=[Z,Z,k,c 7,Z,E,k,I [q],E,Z,E,Z,Z,Z,Z]
def J44:List An:=[Z,Z,k,c 3,Z,E,k,Z,i,c 4,I [a,a,a,a,a,a,a,a,l,a,a,a,a,l,a,a,a,a,a,a,a,l,a,a,a,a,l,a,a,a,a,a,a,a,o,a,a,a,a,o],j,k,I [a,a,a,a,a,a,a,a,v,a,a,a,a,v],Z,Z,Z]
def J45:List An:=[Z,I [s,p],Z]
def J46:List An:=[Z,Z]
def J47:List An:=[Z,Z,Z,I [a,a,a,s,a,a,a,p],Z,k,d [(7,lv),h 39],Z,E,k,Z,I [a,a,a,a,q],Z,k,d [(7,lv),(52,D4)],Z,E,f [(7,lv)],Z,I [n],I [a,a,a,n],I [a,a,a,p,n],Z,E,Z,I [n,n],.c (O ⟨[h 17],[(16,[.i DQ,.i DQ,.i DU]),(18,[.i DQ,.i DQ,.i DU])]⟩),I [n,n],I [a,n,n,a,m],Z,e [(20,lv),(7,lv)],Z,I [a,n,n],Z,I [a,a,a,a,q],Z,E,I [a,a,a,s],k,Z,j,I [a,a,a,a,m],Z,j,I [a,a,a,a,m],I [a,a,a,a,a,a,a,m],I [a,a,a,a,a,a,a,p],Z,Z,Z]
def J48:List An:=[I [a,a,a,m],k,c 23,Z,E,k,I [a,a,q],I [a,a,a,m],k,c 35,Z,E,k,I [a,q],I [a,a,a,l,a,l,a,a,a,l,a,l],Z,I [a,a,a,A],k,c 58,Z,E,k,I [a,m],Z,k,c 64,Z,E,k,I [a,q],I [a,a,a,a,l,a,l,a,a,a,a,l,a,l],Z,Z,Z,I [a,a,a,A],k,c 91,Z,E,k,I [m],Z,k,c 96,Z,E,k,I [a,a,q],Z,k,c 105,Z,E,k,I [a,q],I [a,a,a,a,m,a,a,l,a,l,a,a,a,l,a,l,a,a,a,l,a,l,a,a,a,l,a,l],Z,Z,Z]
def J49:List An:=[Z,Z,Z,I [m,a,a,r],j,I [m,r]]
def J50:List An:=[Z,I [a,m,a,a,m],E,I [m,m,a,r],I [m,a,a,m,a,a,m,a,m,a,a,m,a,a,m],E,I [m,a,a,r],I [m,a,a,m,a,a,m],k,c 50,Z,E,i,I [a,l],I [m,a,a,m,a,a,r],E,Z,g [m,a,a,a,a,a,m,a,r] [(9,lb)],I [m,a,m],Z,E,Z,Z,Z]
def J51:List An:=[Z,I [a,a,a,s],I [a,m],I [s,a,a,a,p,a,a,a,m],I [a,a,a,m],k,c 33,Z,E,k,I [a,a,n],I [a,m,a,n,a,a,a,m,a,a,m],Z,I [t]]
def J52:List An:=[Z,I [a,a,a,m],I [a,a,a,m,a,a,a,a,m,a,a,m],I [a,a,a,m,a,a,m],k,c 41,Z,E,k,I [a,l],I [a,a,a,m,a,a,r],j,Z,Z,Z]
def J53:List An:=[I [a,a,a,m,a,a,m],I [a,a,a,m,a,a,a,m,a,a,m,a,a,l],I [a,a,a,m,a,a,a,a,m,a,a,m],Z,k,c 50,Z,E,k,I [a,l],I [a,a,a,m],Z]
def J54:List An:=[Z,I [q],I [a,l,a,a,a,l,a,a,a,a,l,a,l,a,a,a,a,l,a,l],E,Z,I [a,l,a,l,a,a,l,a,a,a,o]]
def J55:List An:=[Z,I [a,l,a,l],E,I [a,l,a,l],I [a,l,a,l],E,I [a,l,a,l],I [a,o,a,o,a,a,a,a,o,a,o],E,I [a,l,a,l,a,a,a,l,a,l],I [a,l,a,l,a,a,l,a,l]]
def J56:List An:=[Z,I [a,l,a,l,a,a,a,l,a,l,a,a,a,l,a,l,a,a,a,l,a,l,a,a,a,o,a,o],j,Z,Z]
def J57:List An:=[Z,I [a,l,a,a,l],I [a,l,a,l,a,a,a,l,a,l],k,Z,.c (O ⟨[],[(3,[.i DQ,.i DQ,.i DU])]⟩),Z,Z,.c (O ⟨[],[(3,[.i DQ,.i DQ,.i DU])]⟩),Z,Z,.c (O ⟨[],[(3,[.i DQ,.i DQ,.i DU])]⟩),Z,Z,I [n]]
def J58:List An:=[Z,I [a,l,a,l],I [a,o],e [h 5],Z,Z,k,d [h 5,h 6,h 7],I [a,a,o],E,k,Z,Z,I [a,a,l,a,a,a,a,l]]
def J59:List An:=[Z,I [n],I [a,a,l,a,a,l,a,a,a,l,a,a,a,a,l,a,a,l,a,a,a,l]]
def J60:List An:=[Z,Z,E,Z,I [q],Z,E,Z,Z]
def J61:List An:=[Z,Z,k,c 5,Z,E,k,I [a,a,a,a,n,n],E,I [a,a,a,a,m],Z,Z]
def J62:List An:=[Z,Z,k,c 5,Z,E,k,I [a,a,a,a,l],E,Z,Z,Z]
def J63:List An:=[Z,Z,k,c 8,Z,E,k,I [a,q],I [a,l,a,l],Z,E,Z,Z,Z]
def J64:List An:=[Z,Z,Z,Z,E,Z,E,Z,Z,Z,E,Z,Z,E,Z,Z,E,Z,Z]
def J65:List An:=[Z,Z,E,Z,Z,k,c 17,Z,E,k,I [a,a,y],I [a,a,a,y],I [a,y,y,r],E,Z,Z,Z]
def J66:List An:=[Z,g [a,n,a,n,a,a,a,m,a,m] [(4,lb)]]
def J67:List An:=[Z,Z,E,Z,Z,k,c 13,Z,E,k,Z,I [a,a,a,l,a,a,a,l],E,Z,Z,Z]
def J68:List An:=[Z,I [n,n],I [a,o],k,Z,E,I [a,l],Z,E,I [a,l],Z,E,I [a,l],I [a,l]]
def J69:List An:=[Z,Z,E,Z,Z]
def J70:List An:=[Z,I [a,l,a,l,a,a,a,l,a,l,a,a,a,l,a,l,a,a,a,l,a,l,a,a,a,o,a,o],j,Z,Z]
def J71:List An:=[Z,I [s],Z,E,Z,I [p],E,Z,I [s],Z,E,Z,Z,Z,k,c 36,Z,E,k,I [a,a,p],I [a,q],I [a,a,p,p],Z,E,Z,I [a,a,a,a,a,p,n],Z,E,Z,Z,Z]
def J72:List An:=[Z,Z,k,d [h 3,h 1,(11,lb),(10,lb),h 2],f [h 3,h 1,(11,lb),(10,lb),h 2],Z,Z,E,Z,.r [] (O ⟨[],[]⟩),E,Z,Z,E,Z,Z,Z,Z,E,Z,Z,Z,Z,E,Z,E,Z,E,Z,Z,Z,Z,Z,Z,Z,E,Z,Z,Z,Z,Z,Z]
def J73:List An:=[Z,E,Z,Z]
def J74:List An:=[Z,I [s,p],Z]
def J75:List An:=[Z,I [q],Z,E,Z,I [q],E,Z,I [q]]
def J76:List An:=[Z,I [n],E,Z,I [a,o,a,a,a,a,n],I [a,l,a,l,a,a,l,a,l],I [n],E,Z,I [n]]
def J77:List An:=[Z,I [p,a,a,a,n],E,Z,I [p,n],I [n],E,Z,I [n]]
def J78:List An:=[Z,I [q],Z,E,Z,I [n],Z,E,Z,I [q,n]]
def J79:List An:=[Z,I [s],Z,E,Z,I [a,m,a,a,a,o]]
def J80:List An:=[Z,E,Z,Z,.c (O ⟨[],[(10,[.i DQ,.b])]⟩),I [a,r],.r [a,a,a,a,r,a,a,w] (O ⟨[],[]⟩)]
def J81:List An:=[Z,g [p,a,a,a,a,o] [(2,lb)]]
def J82:List An:=[Z,I [a,w,a,a,w],k,I [a,l,a,l],j,.r [a,a,a,a,r,a,a,r,a,r] (O ⟨[],[]⟩),I [a,w,a,a,a,a,w],j,.r [a,a,a,a,r,a,a,w,a,a,w] (O ⟨[],[]⟩),I [a,a,a,m,a,l,a,l,a,r,a,r],I [a,w],j,I [a,a,a,m,a,l,a,l,a,r,a,r],I [a,a,a,m,a,l,a,l,a,r,a,r]]
def J83:List An:=[Z,Z,E,I [a,a,a,m,a,a,a,l],I [a,a,a,m,a,a,a,l]]
def J84:List An:=[Z,Z]
def J85:List An:=[Z,Z,E,Z,Z]
def J86:List An:=[Z,Z]
def J87:List An:=[Z,Z,E,Z,Z]
def J88:List An:=[Z,I [a,w],Z,I [a,r],e [h 7],Z,I [a,a,a,m,a,l,a,l],j,I [a,a,a,m,a,l],Z,j,I [a,a,a,m,a,l],I [a,a,a,m,a,l,a,l]]
def J89:List An:=[Z,I [a,a,a,m],k,c 13,Z,E,k,I [a,[g014]],Z,I [[g014]],k,d [h 5,h 18],Z,E,k,I [w],I [a,a,w],Z,Z,E,Z,Z,Z]
def J90:List An:=[Z,Z,E,Z,Z]
def J91:List An:=[Z,I [a,l,a,a,l],Z,I [a,o],k,Z,E,I [q],Z,E,I [q],Z,E,I [q],I [q]]
def J92:List An:=[Z,Z]
def J93:List An:=[Z,I [a,q],Z,E,Z,I [a,m],E,Z,I [a,m],k,c 21,Z,E,k,I [a,v],I [a,q,a,l,a,o],I [a,a,a,x,v],E,Z,Z,Z,k,c 8,I [a,a,m],E,k,I [a,m,a,a,a,v,a,a,m,a,a,v],E,Z,Z,Z]
def J94:List An:=[Z,I [a,o,a,a,a,a,l,a,a,a,a,l,a,a,a,a,l,a,l],E,Z,Z]
def J95:List An:=[Z,I [s],I [a,q],I [m],Z,Z,Z,k,d [(8,lv)],Z,E,k,I [a,a,l],Z,Z,k,d [(8,lv),(35,D4)],Z,E,f [(8,lv)],Z,I [a,q],Z,E,I [a,a,a,p],I [a,a,a,r],e [(8,lv)],I [m,a,a,a,p],Z,I [m,a,a,p,p],E,Z,Z,I [m]]
def J96:List An:=[Z,I [p,a,a,a,p],E,Z,I [a,o,a,z,a,l,a,l],I [a,o,a,z,a,o,a,z,a,a,a,a,l,a,a,a,l]]
def J97:List An:=[Z,k,c 8,Z,E,k,Z,i,c 9,I [a,a,a,a,a,a,a,a,n,a,a,a,a,n,l],E,k,I [a,a,a,a,a,a,a,a,a,n,a,a,a,n],Z,Z]
def J106:List An:=[Z,Z,e [(0,Vg),h 2],Z,Z,Z,e [(0,Vg),h 2],Z,Z,Z,e [(0,Vg),h 2],Z,Z,Z]
def J107:List An:=[Z,I [a,l,a,a,a,l,a,a,a,a,l,a,a,a,a,l,a,a,a,a,l,a,l],E,Z,Z]
def J108:List An:=[Z,g [a,a,a,a,a,l,a,a,l] [(4,lb)]]
def J109:List An:=[Z,I [a,a,a,l,a,a,a,a,l]]
def J110:List An:=[Z,I [a,l,a,a,a,l,a,a,a,a,l,a,a,a,a,l,a,a,a,a,o],E,Z,Z]
def J111:List An:=[Z,I [n,a,a,o,a,a,q],I [p,q],Z,I [p,q],I [a,l,a,l,a,a,a,a,l,a,l],I [[.agg [.i DQ,.i DQ,.i DU,.i DQ,.i DQ,.i DQ,.i DU,.i DQ,.i DQ,.i DU,.i DQ,.i DQ,.i DU,.i DQ,.i DQ,.i DQ,.i DQ,.i DQ,.i DQ,.i DU,.i DQ,.i DQ,.i DQ,.i DU,.i DQ,.i DQ,.i DU,.i DQ,.i DQ,.i DU,.i DQ,.i DQ,.i DQ,.i DQ,.i DQ,.i DQ,.i DU,.i DQ,.i DQ,.i DQ,.i DU,.i DQ,.i DQ,.i DU,.i DQ,.i DQ,.i DU,.i DQ,.i DQ,.i DQ,.i DQ,.i DQ,.i DQ,.i DU,.i DQ,.i DQ,.i DQ,.i DU,.i DQ,.i DQ,.i DU,.i DQ,.i DQ,.i DU,.i DQ,.i DQ,.i DQ,.i DQ]]],k,.l ⟨[h 47],[(7,[.i DQ,.i DQ,.i DU])]⟩,Z,E,k,I [a,[g015]],I [a,q,q],.c (O ⟨[],[(7,[.i DQ,.i DQ,.i DU])]⟩),Z,Z,I [n]]
def J112:List An:=[Z,I [q],Z,E,Z,I [n,a,a,a,a,l,a,a,a,a,l,a,l,a,a,a,a,l,a,a,a,a,l,a,l],E,Z,I [a,l,a,l,a,a,l,a,a,a,o]]
def J113:List An:=[Z,I [s],Z,E,Z,I [a,q],Z,E,Z,I [a,m,x],I [x]]
def J114:List An:=[Z,k,.l ⟨[],[(3,[.i DQ,.b])]⟩,I [a,a,a,m,a,l,a,a,l,a,l],E,k,I [a,a,a,m,a,l,a,w],I [a,l,a,r,a,r],I [w]]
def J115:List An:=[Z,I [a,w],I [a,r],E,I [a,a,a,m,a,l,a,l],I [a,a,a,m,a,l,a,l]]
def J116:List An:=[Z,Z]
def J117:List An:=[Z,I [a,o]]
def J118:List An:=[Z,g [] [(2,lb)]]
def J119:List An:=[Z,I [q],Z,E,Z,Z]
def J120:List An:=[Z,I [a,l,a,o]]
def J121:List An:=[Z,I [a,l,a,l],E,I [a,l,a,l],I [a,o,a,a,o]]
def J122:List An:=[Z,g [] [(2,lb)]]
def J123:List An:=[Z,I [a,m],I [a,m],k,c 13,Z,E,k,I [a,v],I [a,a,l,a,o],Z,Z]
def J124:List An:=[Z,I [q],E,Z,I [a,l,a,a,l]]
def J125:List An:=[Z,I [a,q],I [m,x,r],E,I [m,a,a,p],I [a,q,x],I [u],I [p,m,a,a,p],I [p]]
def J126:List An:=[Z,I [q,x],Z,E,Z,I [n,a,o]]
def J127:List An:=[Z,I [u],E,Z,I [a,o],k,Z,E,I [a,l],Z,E,I [a,l],Z,E,I [a,l,a,l],I [a,l,a,a,l]]
def J128:List An:=[Z,I [a,l,a,a,a,l,a,a,a,a,l,a,a,a,l]]
def J129:List An:=[Z,I [p],E,Z,I [p]]
def J130:List An:=[Z,I [[.agg [.i DQ,.i DQ,.i DQ,.i DQ,.i DQ,.i DQ,.i DQ,.i DQ,.i DQ,.i DQ,.i DQ,.i DQ,.i DQ,.i DQ,.i DQ,.i DQ,.i DQ,.i DQ,.i DQ,.i DQ,.i DQ,.i DQ,.i DQ,.i DQ,.i DQ,.i DQ,.i DQ,.i DQ,.i DQ,.i DQ,.i DQ,.i DQ]]],k,c 6,Z,E,k,I [a,z],I [z,z],E,Z,Z,Z]
def J131:List An:=[Z,I [z,a,l,a,l],I [z,a,l,a,l],Z]
def J137:List An:=[Z,I [a,l,a,a,a,l]]
def J138:List An:=[Z,I [p,a,a,a,q],E,Z,I [a,o,a,z,a,l,a,l],I [a,a,l,a,a,a,a,l],I [q],E,Z,I [q]]
def J139:List An:=[Z,I [a,x]]
def J140:List An:=[Z,Z,k,c 8,Z,E,k,Z,I [a,a,a,a,v,r],E,Z,Z,Z]
def J141:List An:=[Z,I [q],Z,E,Z,I [q,a,l,a,o],I [a,a,a,x,x],E,Z,I [q,a,l]]
def J142:List An:=[Z,I [n],E,Z,I [a,o,a,[g015]],I [a,o,a,l,a,l],k,Z,.c (O ⟨[],[(7,[.i DU,.i DQ])]⟩),I [a,l,a,l],Z,.c (O ⟨[],[(7,[.i DU,.i DQ])]⟩),I [a,l,a,l],I [a,o],.c (O ⟨[],[(7,[.i DU,.i DQ])]⟩),I [a,l,a,l],I [u],E,Z,I [u]]
def J143:List An:=[Z,I [a,o,a,a,a,o,a,a,a,a,l,a,a,a,a,l],E,Z,Z]
def J145:List An:=[Z,I [a,l,a,a,a,l,a,a,a,a,l,a,a,a,a,l],E,Z,Z]
def J146:List An:=[Z,Z,Z,k,d [h 9,h 10],Z,E,k,Z,I [a,a,a,a,v,x,l],e [h 9,h 10],Z,Z,g [a,a,a,a,a,a,a,a,a,v,x,l] [h 6,(7,lb)]]
def J147:List An:=[Z,I [v,a,x]]
def aa:Nat->Site
 |96=>site (MT Tryz.prog 6) 0 24 [(4,lv),(5,lv)] [(21,Hc)] [Z] [tf,I [[Hc]]]
 |160=>site (MT Tryz.prog 10) 0 40 [(5,lv),(10,lv)] [(29,Hc)] [Z] [tf,I [[lv],[Hc]],I [[lv],[],[M]],E]
 |_=>⟨0,[],[],.skip,.skip⟩
def xc(f:TT):Ex:=⟨cc,r8.getD f [],aa⟩
end Go.Am
end

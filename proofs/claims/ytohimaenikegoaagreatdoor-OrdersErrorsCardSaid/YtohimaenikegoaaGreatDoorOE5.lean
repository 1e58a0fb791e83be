import Derived.Test.YtohimaenikegoaaGreatDoorOE4
import Derived.LaidMore
import Derived.MakeChecks
import Derived.OpenShut
import Derived.ProofKit
import Derived.Stop.Joined
import Derived.Test.YtohimaenikegoaaGreatDoorRows
import GoSem.ClaimJoined
set_option linter.all false
noncomputable section
set_option maxRecDepth 100000
set_option maxHeartbeats 16000000
open Int(ofNat)
open List(range)
namespace Go.Am
theorem oo{p:Prop}(h:p:=by decide):p:=h
theorem d_{p:Prop}(h:p:=by kernel_rfl):p:=h
namespace Sx
def EX(b_:TC)(a:Tg)(o:Oper):TC:=(dg b_ o).1.flatMap λx=>BN (dg b_ o).2 (a x)
def JO(b_:TC)(a:Tg)(o:Oper):TC:=(fh b_ o).flatMap λx=>Df (a x)
def Wb(N:Tc)(b_:TC)(o:Oper):Bool:=
 match az N b_ o with
 |some .hw=>(match o.op with
  | .call c=>(match c.callee with
   | .builtin _=>true
   |_=>false)
  |_=>true)
 |some .hr=>(match o.op with
  | .call c=>(match c.callee with
   | .builtin _=>true
   |_=>false)
  |_=>true)
 |some _=>true
 |none=>false
def dE{C:m'}{a:Tg}{o:Oper}{e:DS}(h:cK C a o=some e):∃v,e = .val v:=by
 unfold cK at h
 grind
def dP{x:Tk}{e:DS}(h:x.map DS.val=some e):∃v,e = .val v:=by
 obtain⟨v,_,rfl⟩:=DC.1 h;exact⟨v,rfl⟩
def Qq{a:Tk}{b:Option DS}{e:DS}(c:b=some e->∃v,e = .val v)(h:pZ a b=some e):∃v,e = .val v:=by
 unfold pZ at h
 grind
def Zg(Q a:Prop)(F W:TC):DS->Prop
 | .F9 f=>∀H,FZ a F W f H
 | .EZ f=>∀H,Zh F f H
 | .call _ _=>Q
 | .yield _ _=>Q
 |_=>True
def bY{Q a:Prop}{F W:TC}{e:DS}(h:∃v,e = .val v):Zg Q a F W e:=by
 obtain⟨v,rfl⟩:=h;trivial
def jT{v:TR}{p:Nat×Nat}(h:iR v=some p):Df v=[p.1]:=by
 unfold iR at h;split at h
 next a=>
  split at h
  next c=>
   cases h;cases b:a.spot with
   |none=>simp[Df,b]
   |some k=>simp_all
  .cases h
 .cases h
def zf{Q c:Prop}{C:m'}{b_:TC}{d:Tq}{t:TP}{v:TR}{e:DS}{F W:TC}(a:∀x,d=some x->b_.getD x 0≠x+2->c)(h:cJ C b_ d t v=some e):Zg Q c F W e:=by
 unfold cJ at h;split at h
 .cases h
 .split at h
  .cases h
  .split at h
   .cases h
   .split at h
    .cases h;trivial
    next b=>
     cases h;exact λH=>xm (a _ rfl b) (.cells v.cells.toList (mK C.P t) true) (λn=>.pointer (some ⟨n,0,none⟩)) rfl .ptr
def Mw{C:m'}{b_:TC}{u:Tg}{o:Oper}{e:DS}(g:au C b_ u o=some e):Zg (∃c f,o.op = .call c/\c.callee = .value f) (dv b_ o=true) (EX b_ u o) (JO b_ u o) e:=by
 unfold au at g;split at g
 .cases g;trivial
 .cases g;trivial
 .split at g
  .cases g;trivial
  .cases g
 next t h=>
  obtain⟨z,_,g⟩:=EE.1 g;exact zf (λx F D=>by simp only[dv,h,F];cases O:Nat.beq (b_.getD x 0) (x+2)with
   |false=>rfl
   |true=>simp_all) g
 next t x h=>
  exact zf (λx F D=>by simp only[dv,h,F];cases O:Nat.beq (b_.getD x 0) (x+2)with
   |false=>rfl
   |true=>simp_all) g
 .split at g
  .exact bY (dP g)
  .cases g
 next t n V h=>
  split at g
  .obtain⟨r,_,rfl⟩:=DC.1 g;exact λH=>xm (by simp only[dv,h]) (.cells r.2 r.1 true) (λk=>.slice (some ⟨k,0,le r.1⟩) n (n+1)) rfl (.slice _ _ _)
  .cases g
 next t a h=>
  unfold dX at g;split at g
  next G=>
   split at g
   next p D=>
    cases g;intro H v E M J;obtain⟨P,B,K⟩:=EE.1 E;have L:p.1∈EX b_ u o:=by simp[EX,dg,BN,h,G,jT D]
    refine EE.2 ⟨P,?_,K⟩;unfold ge at B ⊢;split at B
    next i'=>cases B;rw[gJ J L i']
    .cases B
   .obtain⟨p,_,rfl⟩:=DC.1 g;exact λH v E M _=>E
  .obtain⟨p,_,g⟩:=EE.1 g;exact bY (dP g)
  .obtain⟨p,_,rfl⟩:=DC.1 g;trivial
 next t a x h=>
  unfold fg at g;split at g
  .cases g
  .split at g
   next G=>
    obtain⟨p,D,rfl⟩:=DC.1 g;exact λH=>MX (by simp[EX,dg,BN,h,G,jT D]) (by simp[JO,fh,h,G,jT D])
   .cases g
   .obtain⟨p,_,rfl⟩:=DC.1 g;trivial
 .split at g<;>cases g<;>trivial
 .split at g
  .split at g
   .split at g
    .cases g;trivial
    .cases g
   .exact bY (dE g)
  .split at g
   .split at g
    .cases g;trivial
    .cases g
   .exact bY (dE g)
  .exact bY (dE g)
 .split at g
  .cases g
  .cases g;trivial
 next t r h=>
  split at g
  .cases g;exact λH=>xm (by simp only[dv,h]) (.map [] 0) (λn=>.map (some n)) rfl .map
  .cases g
 next t l c h=>
  cases g;exact λH=>P9 (by simp only[dv,h])
 next t x S Q T h=>
  split at g
  next a F=>
   split at g
   .exact bY (dP g)
   .cases g;exact λH=>VM λr i=>by simp[EX,dg,BN,jk,h,F];exact i
  .exact bY (Qq dE g)
 .exact bY (dP g)
 .exact bY (dP g)
 .exact bY (dP g)
 .exact bY (dP g)
 next t m k U h=>
  split at g
  .exact bY (dP g)
  .cases g;exact λH=>Bd λr i=>by simp[EX,dg,BN,h];exact i
 next t m k v h=>
  cases g;exact λH=>rx λr i=>⟨by simp[EX,dg,BN,h];exact i,by simp[JO,fh,h];exact i⟩
 next t m k v h=>
  cases g;exact λH=>rx λr i=>⟨by simp[EX,dg,BN,h];exact i,by simp[JO,fh,h];exact i⟩
 next t m k h=>
  cases g;exact λH=>MW λr i=>⟨by simp[EX,dg,BN,h];exact i,by simp[JO,fh,h];exact i⟩
 next t m s v h=>
  cases g;exact λH=>Bc λr i=>⟨by simp[EX,dg,BN,h];exact i,by simp[JO,fh,h];exact i⟩
 .split at g
  .split at g
   .cases g
   .exact bY (dP g)
  .cases g
 next c h=>
  unfold gM at g;simp only at g;cases j:c.callee with
  |invoke r m=>simp_all
  |builtin b=>
   simp only[j]at g;unfold aX at g;split at g
   next s x t y I=>
    split at g
    .cases g
    .cases g;have w:∃a b,c.args.toList=[a,b]/\u a=s/\u b=x:=by
      match c.args.toList,y with
      | [a,b],y=>grind
     obtain⟨a,b,q,rfl,rfl⟩:=w;exact λH=>Ba (by simp only[dv,h,j]) (λr i=>⟨by simp[EX,dg,BN,h,j,q,i],by simp[JO,fh,h,j,q,i]⟩) λr i=>by simp[EX,dg,BN,h,j,q,i]
   next x t y I=>
    split at g
    .cases g;trivial
    next id R=>
     cases g;have A:∃a,c.args.toList=[a]/\u a = .map (some id):=by
      simp_all
     obtain⟨a,q,N⟩:=A;intro H v E M J;obtain⟨p,B,K⟩:=DC.1 E;have L:id∈EX b_ u o:=by simp[EX,dg,BN,vi,h,j,q,N]
     exact DC.2 ⟨p,(iu J L B).2,K⟩
    .cases g;trivial
    .exact bY (dE g)
   .split at g
    .cases g;trivial
    .cases g;trivial
    .cases g;trivial
    .cases g
   next d x t y I=>
    cases g;have w:∃a b,c.args.toList=[a,b]/\u a=d/\u b=x:=by
     match c.args.toList,y with
     | [a,b],y=>grind
    obtain⟨a,b,q,rfl,rfl⟩:=w;exact λH=>P8 (λr i=>⟨by simp[EX,dg,BN,h,j,q,i],by simp[JO,fh,h,j,q,i]⟩) λr i=>by simp[EX,dg,BN,h,j,q,i]
   next m k t y I=>
    cases g;have w:∃a b,c.args.toList=[a,b]/\u a=m/\u b=k:=by
     match c.args.toList,y with
     | [a,b],y=>grind
    obtain⟨a,b,q,rfl,rfl⟩:=w;exact λH=>Bb λr i=>⟨by simp[EX,dg,BN,h,j,q,i],by simp[JO,fh,h,j,q,i]⟩
   next x t y I=>
    cases g;have A:∃a,c.args.toList=[a]/\u a=x:=by
     simp_all
    obtain⟨a,q,rfl⟩:=A;exact λH=>MV λr i=>⟨by simp[EX,dg,BN,h,j,q,i],by simp[JO,fh,h,j,q,i]⟩
   .exact bY (dE g)
  |value f=>
   simp only[j]at g;split at g
   .cases g
   .split at g
    .split at g
     .cases g;exact⟨c,f,h,j⟩
     .cases g
    .split at g
     .cases g;exact⟨c,f,h,j⟩
     .cases g
    .cases g
 .exact bY (dE g)
 .exact bY (dE g)
 .cases g
section
variable [Co] {C:m'} {B:Below} {N:Tc} {b_:TC} {ops:To}
def sq(N:Tc)(b_:TC)(ops:To)(o:Oper)(g9 i9:St):Prop:=
 (∀t∈bj ops o,i9.tmps[t]?=g9.tmps[t]?)/\(match az N b_ o with
 |some (.row s _)=>i9.loc[s]?=g9.loc[s]?
 |_=>True)/\jP (EX b_ (jw g9.tmps) o) g9.heap i9.heap
def fD(dst:Tq)(e:CZ)(rw:Option (Nat×Option (Tn)))(k:Ts)(i9:St):St:=
 ({ tmps:=i9.tmps,loc:=(match rw with|some p=>i9.loc.set p.1 p.2|none=>i9.loc),heap:=(match k with
  |none=>e.heap i9.heap
  |some k=>match e.push with
   |some p=>(e.put i9.heap).set k p.1
   |none=>e.put i9.heap) }:St).put dst (match k with
  |none=>e.val i9.heap.length
  |some k=>e.val k)
def MY(U:DJ N B){i:Nat}{o:Oper}(M:ops[i]?=some o)(y:Wb N b_ o=true){g9 F:St}(t:ao C B b_ ops i g9 F) :
  ∃(e:CZ) (rw:Option (Nat×Option (Tn))),F=fD o.dst e rw none g9/\(∀p,rw=some p->az N b_ o=some (.row p.1 true))/\(e.push≠none->az N b_ o=some .hw)/\
   (∀p,e.set=some p->p.1∈JO b_ (jw g9.tmps) o/\∃x,g9.heap[p.1]?=some x/\x.alive=true)/\(∀p,e.push=some p->dv b_ o=true/\Dv p.2/\p.1.alive=true)/\
   ∀i9,sq N b_ ops o g9 i9->∀n:Nat->Option Nat,
    (e.push=none->n i=none->ed C B b_ ops n i i9 (fD o.dst e rw none i9))/\
    (∀p k,e.push=some p->n i=some k->(e.put i9.heap)[k]?=some .dead->ed C B b_ ops n i i9 (fD o.dst e rw (some k) i9)):=by
 have E:az N b_ o≠none:=by intro h;unfold Wb at y;rw[h]at y;cases y
 by_cases L:az N b_ o=some .hr∨az N b_ o=some .hw
 case neg=>
  obtain⟨e,I,J,K⟩:=jl U M E t;have W:e.hp=none:=by
   cases z:e.hp with
   |none=>rfl
   |some x=>exact absurd (.inr (J.2 (by rw[z];simp))) L
  have A:∀i9,e.on o.dst i9=fD o.dst ⟨none,none,e.v⟩ e.rw none i9:=λi9=>by
   unfold Ef.on fD;rw[W];rfl
  refine⟨⟨none,none,e.v⟩,e.rw,by rw[I,A],J.1,λh=>absurd rfl h,λp b=>(by cases b),λp b=>(by cases b),λi9 d n=>⟨λ_ m=>?_,λp k b=>(by cases b)⟩⟩;unfold ed;rw[m];rw[←A];refine K i9 ⟨d.1,?_⟩;have:=d.2.1
  grind
 case pos=>
  unfold ao at t;simp only[M]at t;have Ca:∀i9,sq N b_ ops o g9 i9->cB ops i9.tmps o=cB ops g9.tmps o:=λi9 d=>yo d.1;have val:∀v:Value,F=g9.put o.dst v->(∀i9,sq N b_ ops o g9 i9->ao C B b_ ops i i9 (i9.put o.dst v))->
    ∃(e:CZ) (rw:Option (Nat×Option (Tn))),F=fD o.dst e rw none g9/\(∀p,rw=some p->az N b_ o=some (.row p.1 true))/\(e.push≠none->az N b_ o=some .hw)/\
     (∀p,e.set=some p->p.1∈JO b_ (jw g9.tmps) o/\∃x,g9.heap[p.1]?=some x/\x.alive=true)/\(∀p,e.push=some p->dv b_ o=true/\Dv p.2/\p.1.alive=true)/\
     ∀i9,sq N b_ ops o g9 i9->∀n:Nat->Option Nat,
      (e.push=none->n i=none->ed C B b_ ops n i i9 (fD o.dst e rw none i9))/\
      (∀p k,e.push=some p->n i=some k->(e.put i9.heap)[k]?=some .dead->ed C B b_ ops n i i9 (fD o.dst e rw (some k) i9)):=by
   intro v u h;refine⟨⟨none,none,v⟩,none,u,λp b=>(by cases b),λh=>absurd rfl h,λp b=>(by cases b),λp b=>(by cases b),λi9 d n=>⟨λ_ m=>?_,λp k b=>(by cases b)⟩⟩;unfold ed;rw[m];exact h i9 d
  split at t
  .exact t.elim
  next X=>
   refine val undef t λi9 d=>?_;unfold ao
   simp_all
  next X=>
   have step:∀ {i9 G:St},sq N b_ ops o g9 i9->((∃e,au C b_ (jw i9.tmps) o=some e/\mY B e o.dst i9 G)∨(∃v,nB C i9.tmps o v/\G=i9.put o.dst v))->ao C B b_ ops i i9 G:=by
    intro i9 G d h;unfold ao
    simp_all
   rcases t with⟨e,z,O⟩|⟨v,u,rfl⟩
   .have H:∀i9,sq N b_ ops o g9 i9->au C b_ (jw i9.tmps) o=some e:=λi9 d=>by
     rw[ph N b_ E (zH d.1)];exact z
    have a:=iP (N:=N) (λ_=>rfl) E z;have j:=Mw z;cases e with
    |val v=>
     obtain⟨p,b,rfl⟩:=O;cases b;exact val v rfl λi9 d=>step d (.inl ⟨_,H i9 d,_,rfl,rfl⟩)
    |FC s vs=>
     have a:az N b_ o=some (.row s true):=a
     simp_all
    |Hc s f=>
     have a:az N b_ o=some (.row s false):=a
     simp_all
    |FD s f=>
     have a:az N b_ o=some (.row s true):=a
     simp_all
    |EZ f=>
     obtain⟨p,b,rfl⟩:=O;simp only[aW]at b;obtain⟨v,u,rfl⟩:=DC.1 b;refine val v rfl λi9 d=>step d (.inl ⟨_,H i9 d,(i9,v),?_,rfl⟩);simp only[aW,j _ _ u _ d.2.2,EO]
    |F9 f=>
     obtain⟨p,b,rfl⟩:=O;simp only[aW]at b;obtain⟨q,u,rfl⟩:=DC.1 b;obtain⟨e,Z,l2,l3,P,Q⟩:=j g9.heap q.1 q.2 u;refine⟨e,none,?_,λp b=>(by cases b),λ_=>a,l3,P,λi9 d n=>⟨λb m=>?_,λp k b m V=>?_⟩⟩
     .unfold fD;rw[Z,l2]
     .unfold ed;rw[m];exact step d (.inl ⟨_,H i9 d,({ i9 with heap:=e.heap i9.heap },e.val i9.heap.length),by simp only[aW,Q _ d.2.2,EO],rfl⟩)
     .unfold ed;rw[m];refine⟨o,f,e.put i9.heap,p.1,p.2,M,kb,H i9 d,?_,?_,V,(P p b).2.1,?_⟩
      .rw[Q _ d.2.2];unfold CZ.heap CZ.val;rw[b]
      .unfold CZ.put;split<;>simp
      .unfold fD CZ.val;rw[b]
    |call f r=>
     exfalso;have a:(az N b_ o=some (.neu f)/\N f=some (2*r.length))∨(az N b_ o=some .hr/\N f=some (2*r.length+1))∨az N b_ o=some .hw:=a;rcases a with⟨h,_⟩|⟨h,_⟩|h
     .simp_all
     .obtain⟨c,g,R,S⟩:=j;unfold Wb at y
      simp_all
     .obtain⟨c,g,R,S⟩:=j;unfold Wb at y
      simp_all
    |yield l r=>
     exfalso;have a:az N b_ o=some .hw:=a;obtain⟨c,g,R,S⟩:=j;unfold Wb at y
     simp_all
   .refine val v rfl λi9 d=>step d (.inr ⟨v,?_,rfl⟩);obtain⟨I,J,K,T⟩:=u;have D:=zH d.1;refine⟨I,?_,K,λw=>?_⟩
    .simp_all
    .rw[execOp_congr N b_ E (t7:=λx=>FS (jw g9.tmps x)) λx Y=>by rw[D x Y]];exact T w
end
end Sx
namespace Sx
section
variable [Co] {C:m'} {B:Below} {N:Tc} {b_:TC} {ops:To}
def Et(S:Nat->St->St->Prop):TC->St->St->Prop
 | [],g9,a=>a=g9
 |i :: l,g9,a=>∃j6,S i g9 j6/\Et S l j6 a
def pT{S:Nat->St->St->Prop}{i:Nat}{post:TC}:∀(pre:TC),(∀k∈pre,∀g9 j6 a:St,S k g9 j6->S i j6 a->∃i9,S i g9 i9/\S k i9 a)->
  ∀g9 a:St,Et S (pre++i :: post) g9 a->Et S (i :: (pre++post)) g9 a
 | [],_,g9,a,h=>h
 |k :: pre,b,g9,a,⟨j6,h1,d⟩=>by
  obtain⟨c,e,f⟩:=pT pre (λk l=>b k (by simp[l])) j6 a d;obtain⟨i9,g,j⟩:=b k c_ g9 j6 c h1 e;exact⟨i9,g,c,j,f⟩
def yV{S:Nat->St->St->Prop}(b:∀(i:Nat) o,ops[i]?=some o->∀e∈o.after.toList,Region.binds .any e=true->e.on<i)
  (d:∀i k:Nat,i<ops.size->k<i->IH ops k i∨∀g9 j6 f:St,S k g9 j6->S i j6 f->∃i9,S i g9 i9/\S k i9 f):∀(fuel t:Nat) (a:Array Bool),a.size=ops.size->(EG ops.size a).length=fuel->
  (∀(x:Nat) o,a.getD x true=true->ops[x]?=some o->∀e∈o.after.toList,Region.binds .any e=true->a.getD e.on false=true)->
  ∀g9 f:St,Et S (EG ops.size a) g9 f->Et S (Region.linearise.go .any ops fuel t a []) g9 f/\(Region.linearise.go .any ops fuel t a []).Nodup/\∀x∈Region.linearise.go .any ops fuel t a [],a.getD x true=false
 |0,t,a,_,Z,_,g9,f,h=>by
  have:EG ops.size a=[]:=NM.1 Z;rw[this]at h;simpa[Region.linearise.go]using h
 |fuel+1,t,a,V,Z,w,g9,f,h=>by
  simp only[Region.linearise.go];generalize E:((range ops.size).filter λi=>!a.getD i true&&((ops[i]?).map (·.after.all λe=>!Region.binds .any e||a.getD e.on false)).getD false)=rs;have l:∀i∈rs,i<ops.size/\a.getD i true=false/\∀o,ops[i]?=some o->∀e∈o.after.toList,Region.binds .any e=true->a.getD e.on false=true:=by
   intro i P;rw[←E,Gm,Cm]at P;obtain⟨h1,L⟩:=P;simp only[vd,gE]at L;refine⟨h1,L.1,λo u e I H=>?_⟩;have M:=L.2;rw[u]at M;simp only[EO,S8]at M;rw[bx]at M
   grind
  have U:rs≠[]:=by
   have hu:EG ops.size a≠[]:=jn;obtain⟨F,tl,q⟩:=qcV hu;have Q:F∈EG ops.size a:=by rw[q];simp
   have g:=Q;rw[EG,Gm,Cm]at g;have n:F∈rs:=by
    rw[←E,Gm,Cm];refine⟨g.1,?_⟩;simp only[vd];refine⟨g.2,?_⟩;have u:ops[F]?=some ops[F]:=by simp[g.1]
    rw[u];simp only[EO,S8];rw[bx];intro e I;cases H:Region.binds .any e with
    |false=>simp
    |true=>
     have ag:=b F _ u e (by simpa using I) H;simp only[DP,w5];by_cases ad:a.getD e.on true=true
     .grind
     .exfalso;have s:e.on∈EG ops.size a:=by
       rw[EG,Gm,Cm]
       grind
      rw[q]at s;rcases DB.1 s with s|s
      .omega
      .have hs:(EG ops.size a).Pairwise (· < ·):=qcK _ fu;rw[q,Jp]at hs
       grind
   grind
  have c:0<rs.length:=C0.2 U;have z:rs[t%rs.length]?=some (rs[t%rs.length]'(Nd _ c)):=Gn (Nd _ c);rw[z];simp only;generalize P:rs[t%rs.length]'(Nd _ c)=i;have n:i∈rs:=jn;obtain⟨i1,i2,i3⟩:=l i n;rw[linearise_go_acc,List.reverse_singleton,List.singleton_append];have R:i∈(range ops.size).filter λj=>!a.getD j true:=by
   simp_all
  obtain⟨r,post,K,e2,e3⟩:=iM List.nodup_range R;have A:=nh K;have p:EG ops.size (a.setIfInBounds i true)=r++post:=by
   rw[←e2];unfold EG;refine qc9 λj hj=>?_;rw[WF,WF,YX]
   grind
  have T:=pT (S:=S) (i:=i) (post:=post) r (λk Y g9 j6 f W X=>by
   obtain⟨m1,m2⟩:=e3 k Y;rw[Gm,Cm]at m1;rcases d i k i1 (A k Y)with v|O
   .exfalso;have:=qN w v i3
    grind
   .exact O _ _ _ W X) g9 f
  obtain⟨j6,W,X⟩:=T (by rw[←K];exact h);obtain⟨r1,r2,r3⟩:=yV b d fuel (t / rs.length) (a.setIfInBounds i true) (by simp[V]) (by
    rw[p];have:(EG ops.size a).length=(r++post).length+1:=by
     show(List.filter _ _).length=_;rw[K];simp;omega
    omega) (by
    intro x o J u e I H;have G:∀y,a.getD y false=true->(a.setIfInBounds i true).getD y false=true:=by
     intro y hy;rw[WF]at hy ⊢;rw[YX]
     grind
    by_cases m:x=i
    .simp_all
    .refine G _ (w x o ?_ u e I H);rw[WF,YX,te (λe=>m e.symm)]at J
     simp_all) j6 f (by rw[p];exact X)
  have D:∀x∈Region.linearise.go .any ops fuel (t / rs.length) (a.setIfInBounds i true) [],x≠i/\a.getD x true=false:=by
   intro x J;have:=r3 x J;rw[WF,YX]at this;by_cases m:i=x
   .simp_all
   .rw[te m]at this;exact⟨CY m,kb⟩
  refine⟨⟨j6,W,r1⟩,zS.2 ⟨λs=>(D i s).1 rfl,r2⟩,λx J=>?_⟩
  grind
end
end Sx
namespace Sx
def fe(a:List (Nat×p_))(H:Tu):Tu:=a.foldl (λH p=>H.set p.1 p.2) H
def jb:∀(a:List (Nat×p_)) (H:Tu),(fe a H).length=H.length
 | [],H=>rfl
 |p :: a,H=>by
  show(fe a (H.set p.1 p.2)).length=_;rw[jb a];simp
def lL{r:Nat}:∀ {a:List (Nat×p_)} {H:Tu},(∀p∈a,p.1≠r)->(fe a H)[r]?=H[r]?
 | [],H,_=>rfl
 |p :: a,H,h=>by
  show(fe a (H.set p.1 p.2))[r]?=_;rw[lL λq b=>h q (E7 _ b),Hj (h p c_)]
def wi{i:Nat}{x:p_}:∀ {a:List (Nat×p_)} {H:Tu},(∀p∈a,p.1≠i)->fe a (H.set i x)=(fe a H).set i x
 | [],H,_=>rfl
 |p :: a,H,h=>by
  show fe a ((H.set i x).set p.1 p.2)=(fe a (H.set p.1 p.2)).set i x;rw[List.set_comm _ _ (CY (h p c_)),wi λq b=>h q (E7 _ b)]
def jt:∀ {a b:List (Nat×p_)} {H:Tu},(∀p∈a,∀q∈b,p.1≠q.1)->fe a (fe b H)=fe b (fe a H)
 | [],b,H,_=>rfl
 |p :: a,b,H,h=>by
  show fe a ((fe b H).set p.1 p.2)=fe b (fe a (H.set p.1 p.2));rw[←wi λq c=>CY (h p c_ q c)];exact jt λq c=>h q (E7 _ c)
section
variable [Co] {C:m'} {B:Below} {N:Tc} {b_:TC} {ops:To}
structure Rec where
 g9:St
 e:CZ
 rw:Option (Nat×Option (Tn))
 k:Option Nat
def Rec.on(r:Rec)(o:Oper)(i9:St):St:=fD o.dst r.e r.rw r.k i9
def Rec.Jw(N:Tc)(b_:TC)(ops:To)(r:Rec)(o:Oper)(i9:St):Prop:=
 sq N b_ ops o r.g9 i9/\∀k,r.k=some k->(r.e.put i9.heap)[k]?=some .dead
def Rec.slot(r:Rec):List (Nat×p_):=match r.k,r.e.push with
 |some k,some p=>[(k,p.1)]
 |_,_=>[]
def Rec.ws(r:Rec):List (Nat×p_):=r.e.set.toList++r.slot
structure Rec.Ok(C:m')(B:Below)(N:Tc)(b_:TC)(ops:To)(i:Nat)(o:Oper)(r:Rec):Prop where
 row:∀p,r.rw=some p->az N b_ o=some (.row p.1 true)
 wr:∀p,r.e.set=some p->p.1∈JO b_ (jw r.g9.tmps) o
 kp:r.k=none↔r.e.push=none
 fr:∀p,r.e.push=some p->Dv p.2/\az N b_ o=some .hw/\dv b_ o=true
 step:∀i9,r.Jw N b_ ops o i9->∀sl:Nat->Option Nat,sl i=r.k->ed C B b_ ops sl i i9 (r.on o i9)
def fc(e:CZ)(H:Tu):e.put H=fe e.set.toList H:=by
 unfold CZ.put;cases e.set<;>rfl
def gT{r:Rec}{o:Oper}{i9:St}(h:r.k=none↔r.e.push=none):(r.on o i9).heap=fe r.ws i9.heap:=by
 unfold Rec.on fD;rw[lF];unfold Rec.ws Rec.slot;cases a:r.k with
 |none=>
  simp only[CZ.heap,h.1 a,fc,GU]
 |some k=>
  cases b:r.e.push with
  |none=>simp_all
  |some p=>
   simp only[fc];show(fe r.e.set.toList i9.heap).set k p.1=_;unfold fe
   simp_all
def pY{r:Rec}{o:Oper}{i9:St}:(r.on o i9).loc=(match r.rw with|some p=>i9.loc.set p.1 p.2|none=>i9.loc):=by
 unfold Rec.on fD;rw[tQ]
 all_goals grind
def Rec.val(r:Rec):Value:=match r.k with
 |some k=>r.e.val k
 |none=>r.e.v
def oA{r:Rec}{o:Oper}{i9:St}(h:r.k=none↔r.e.push=none):(r.on o i9).tmps=(match o.dst with|some d=>i9.tmps.set d r.val|none=>i9.tmps):=by
 unfold Rec.on fD;rw[tR];unfold Rec.val;cases a:r.k with
 |none=>simp only[CZ.val,h.1 a];all_goals grind
 |some k=>cases o.dst<;>rfl
def Io:MC->MC->Bool
 | .row s w,.row a w'=>!Nat.beq s a||(!w && !w')
 |_,_=>true
def RO(N:Tc)(b_:TC)(ops:To)(a b:Oper):Bool:=
 match az N b_ a,az N b_ b with
 |some m,some n=>Io m n&&bw a.dst (bj ops b)&&bw b.dst (bj ops a)&&bg a.dst b.dst
 |_,_=>false
def qW{d:Tq}{l:TC}(a:bw d l=true):∀t∈l,∀x,d=some x->x≠t:=by
 intro t c x e b;subst e b;simp only[bw,gE,hj,decide_eq_false_iff_not]at a;exact a c
def L4{a b:Oper}{m n:MC}{f rb:Rec}{G:Nat}(z:az N b_ a=some m)(A:az N b_ b=some n)(j:f.Ok C B N b_ ops G a)(g:Io m n=true∨Io n m=true)(D:bw a.dst (bj ops b)=true)
  (y:∀p∈f.ws,p.1∉EX b_ (jw rb.g9.tmps) b) {i9:St}:sq N b_ ops b rb.g9 (f.on a i9)↔sq N b_ ops b rb.g9 i9:=by
 have v:∀t∈bj ops b,(f.on a i9).tmps[t]?=i9.tmps[t]?:=λt v=>by
  unfold Rec.on fD;exact tP λx i=>qW D t v x i
 have J:∀s w,az N b_ b=some (.row s w)->(f.on a i9).loc[s]?=i9.loc[s]?:=λs w u=>by
  rw[pY];cases k:f.rw with
  |none=>rfl
  |some p=>
   have o:=j.row p k;rw[z]at o;rw[A]at u;cases o;cases u;have:p.1≠s:=by
    intro E;subst E;rcases g with h|h<;>simp[Io]at h
   simp_all
 have q:∀r∈EX b_ (jw rb.g9.tmps) b,(f.on a i9).heap[r]?=i9.heap[r]?:=λr d=>by
  rw[gT j.kp];exact lL λp F e=>y p F (e▸d)
 constructor
 .rintro⟨H,I,l⟩;refine⟨λt h=>kb,?_,λr d x i c=>by rw[←q r d];exact l r d x i c⟩
  grind
 .rintro⟨H,I,l⟩;refine⟨λt h=>kb,?_,λr d x i c=>by rw[q r d];exact l r d x i c⟩
  grind
def g'{a b:Oper}{c rb:Rec}{P Q:Nat}(d:c.Ok C B N b_ ops P a)(f:rb.Ok C B N b_ ops Q b)(i:RO N b_ ops a b=true)
  (M:∀p∈c.ws,p.1∉EX b_ (jw rb.g9.tmps) b) (O:∀p∈rb.ws,p.1∉EX b_ (jw c.g9.tmps) a) (r:∀p∈c.ws,∀q∈rb.ws,p.1≠q.1) {i9:St} (I:c.Jw N b_ ops a i9) (J:rb.Jw N b_ ops b (c.on a i9)) :
  rb.Jw N b_ ops b i9/\c.Jw N b_ ops a (rb.on b i9)/\rb.on b (c.on a i9)=c.on a (rb.on b i9):=by
 unfold RO at i;split at i
 case h_2=>cases i
 rename_i m n z A
 simp only[vd]at i;obtain⟨⟨⟨t,K⟩,L⟩,F⟩:=i;have S:=L4 (rb:=rb) z A d (.inl t) K M (i9:=i9);have R:=L4 (rb:=c) A z f (.inr t) L O (i9:=i9);refine⟨⟨S.1 J.1,λk h=>?_⟩,⟨R.2 I.1,λk h=>?_⟩,?_⟩
 .have o:=J.2 k h;have w:∃p,rb.e.push=some p:=by
   cases j:rb.e.push with
   |none=>rw[f.kp.2 j]at h;cases h
   |some p=>exact⟨p,rfl⟩
  obtain⟨p,j⟩:=w;have g:(k,p.1)∈rb.ws:=by simp[Rec.ws,Rec.slot,h,j]
  rw[gT d.kp,fc,←jt (λq l s i e=>r q l s (Jq _ i) e),lL (λq l e=>r q l _ g e)]at o;rw[fc];exact o
 .have o:=I.2 k h;have v:∃p,c.e.push=some p:=by
   cases j:c.e.push with
   |none=>rw[d.kp.2 j]at h;cases h
   |some p=>exact⟨p,rfl⟩
  obtain⟨p,j⟩:=v;have g:(k,p.1)∈c.ws:=by simp[Rec.ws,Rec.slot,h,j]
  rw[gT f.kp,fc,jt (λq l s i e=>r q (Jq _ l) s i e),lL (λq l e=>r _ g q l e.symm)];rw[fc]at o;exact o
 .have o:(rb.on b (c.on a i9)).tmps=(c.on a (rb.on b i9)).tmps:=by
   rw[oA f.kp,oA d.kp,oA d.kp,oA f.kp];cases D:a.dst with
   |none=>rfl
   |some x=>
    cases E:b.dst with
    |none=>rfl
    |some y=>
     rw[D,E]at F;have:x≠y:=by
      intro u;subst u;simp[bg]at F
     exact set_comm _ _ _ this
  have T:(rb.on b (c.on a i9)).loc=(c.on a (rb.on b i9)).loc:=by
   rw[pY,pY,pY,pY];cases D:c.rw with
   |none=>rfl
   |some p=>
    cases E:rb.rw with
    |none=>rfl
    |some q=>
     have G:=d.row p D;have H:=f.row q E;rw[z]at G;rw[A]at H;cases G;cases H;have:p.1≠q.1:=by
      intro u;rw[u]at t;simp[Io]at t
     exact set_comm _ _ _ this
  have U:(rb.on b (c.on a i9)).heap=(c.on a (rb.on b i9)).heap:=by
   rw[gT f.kp,gT d.kp,gT d.kp,gT f.kp];exact(jt r).symm
  generalize rb.on b (c.on a i9)=x at *;generalize c.on a (rb.on b i9)=y at *;cases x;simp_all
end
end Sx
namespace Sx
section
variable [Co] {C:m'} {B:Below} {N:Tc} {b_:TC} {ops:To}
def St.Dn(g9:St)(m:Nat):St:=g9.pad (m - g9.heap.length)
def Nh(N:Tc)(b_:TC)(ops:To)(a:Nat->Rec)(i:Nat)(i9 b:St):Prop:=∃o,ops[i]?=some o/\(a i).Jw N b_ ops o i9/\b=(a i).on o i9
def lK{D:Tu}:∀ {a:List (Nat×p_)} {H:Tu},(∀p∈a,p.1<H.length)->fe a (H++D)=fe a H++D
 | [],H,_=>rfl
 |p :: a,H,h=>by
  show fe a ((H++D).set p.1 p.2)=fe a (H.set p.1 p.2)++D;rw[qcN _ _ (h p c_),lK λq b=>by
   grind]
structure RunOk(C:m')(B:Below)(N:Tc)(b_:TC)(ops:To)(l:TC)(g9 i6:St)(rc:Nat->Rec):Prop where
 len:g9.heap.length<=i6.heap.length
 ok:∀i∈l,∀o,ops[i]?=some o->(rc i).Ok C B N b_ ops i o
 slot:∀i∈l,∀k,(rc i).k=some k->g9.heap.length<=k/\k<i6.heap.length
 inj:∀i∈l,∀j∈l,∀k,(rc i).k=some k->(rc j).k=some k->i=j
 j9:∀t,(∀j∈l,∀o,ops[j]?=some o->o.dst≠some t)->i6.tmps[t]?=g9.tmps[t]?
 args:∀i∈l,∀t,(∀j∈l,i<=j->∀o,ops[j]?=some o->o.dst≠some t)->i6.tmps[t]?=(rc i).g9.tmps[t]?
 res:∀i∈l,∀o d v,ops[i]?=some o->o.dst=some d->(∀j∈l,i<j->∀o,ops[j]?=some o->o.dst≠some d)->i6.tmps[d]?=some v->v=(rc i).val
 run:∀m,i6.heap.length<=m->Et (Nh N b_ ops rc) l (St.Dn g9 m) (St.Dn i6 m)
def Mx{dst:Tq}{e:CZ}{rw:Option (Nat×Option (Tn))}{g9:St}:(fD dst e rw none g9).heap.length=g9.heap.length+(match e.push with|some _=>1|none=>0):=by
 unfold fD;rw[lF];simp only[CZ.heap,CZ.put]
 grind
def lX{dst:Tq}{e:CZ}{rw:Option (Nat×Option (Tn))}{k:Ts}{g9:St}:(fD dst e rw k g9).tmps=(match dst with|some d=>g9.tmps.set d (match k with|none=>e.val g9.heap.length|some k=>e.val k)|none=>g9.tmps):=by
 unfold fD;rw[tR]
 all_goals grind
def WS(F:DJ N B){i:Nat}{o:Oper}(I:ops[i]?=some o)(G:Wb N b_ o=true){g9 j6:St}(K:ao C B b_ ops i g9 j6) :
  ∃r:Rec,r.g9=g9/\r.Ok C B N b_ ops i o/\g9.heap.length<=j6.heap.length/\(∀k,r.k=some k->k=g9.heap.length/\k<j6.heap.length)/\
   (∀t,o.dst≠some t->j6.tmps[t]?=g9.tmps[t]?)/\(∀d v,o.dst=some d->j6.tmps[d]?=some v->v=r.val)/\
   ∀m,j6.heap.length<=m->r.Jw N b_ ops o (St.Dn g9 m)/\St.Dn j6 m=r.on o (St.Dn g9 m):=by
 obtain⟨e,rw,g,A,D,E,q,s⟩:=MY (N:=N) F I G K;have b:j6.heap.length=g9.heap.length+(match e.push with|some _=>1|none=>0):=by rw[g];exact Mx
 refine⟨⟨g9,e,rw,match e.push with|some _=>some g9.heap.length|none=>none⟩,rfl,⟨A,λp a=>(E p a).1,?_,λp a=>⟨(q p a).2.1,D kb,(q p a).1⟩,?_⟩,a_,?_,?_,?_,?_⟩
 .grind
 .intro y n z f;unfold Rec.on;simp only at f ⊢;cases a:e.push with
  |none=>
   rw[a]at f;exact(s y n.1 z).1 a f
  |some p=>
   rw[a]at f;refine(s y n.1 z).2 p _ a f (n.2 _ ?_);simp only[a]
 .grind
 .intro t L;rw[g];unfold fD;exact tP λx w e=>L (by rw[w,e])
 .intro d v H h;rw[g,lX,H]at h;simp only[GS]at h;split at h
  .split at h
   .cases h;unfold Rec.val;simp only[CZ.val]
    grind
   .cases h
  simp_all
 .intro m R;have u:(St.Dn g9 m).heap=g9.heap++List.replicate (m - g9.heap.length) .dead:=rfl;have c:∀p∈e.set.toList,p.1<g9.heap.length:=λp a=>by
   grind
  refine⟨⟨⟨λt _=>rfl,?_,λr _ x w _=>?_⟩,λk j=>?_⟩,?_⟩
  .cases az N b_ o with
   |none=>trivial
   |some M=>cases M<;>first|trivial|rfl
  .grind
  .simp only at j;cases a:e.push with
   |none=>rw[a]at j;cases j
   |some p=>
    rw[a]at j b;cases j;simp only at b ⊢;rw[fc,u,lK c,GV (by rw[jb];omega),jb,WH,YY,rv a_]
  · -- the same state
   have O:(St.Dn j6 m).tmps=((⟨g9,e,rw,match e.push with|some _=>some g9.heap.length|none=>none⟩ : Rec).on o (St.Dn g9 m)).tmps:=by
    show j6.tmps=_;unfold Rec.on;rw[g,lX,lX];show _=(match o.dst with|some d=>g9.tmps.set d _|none=>g9.tmps);cases o.dst with
    |none=>rfl
    |some d=>
     simp only[CZ.val]
     grind
   have P:(St.Dn j6 m).loc=((⟨g9,e,rw,match e.push with|some _=>some g9.heap.length|none=>none⟩ : Rec).on o (St.Dn g9 m)).loc:=by
    show j6.loc=_;unfold Rec.on;rw[g];unfold fD;rw[tQ,tQ];rfl
   have e3:(St.Dn j6 m).heap=((⟨g9,e,rw,match e.push with|some _=>some g9.heap.length|none=>none⟩ : Rec).on o (St.Dn g9 m)).heap:=by
    show j6.heap++List.replicate (m - j6.heap.length) .dead=_;unfold Rec.on;have l:j6.heap=e.heap g9.heap:=by rw[g];unfold fD;rw[lF]
    unfold fD;rw[lF,u];cases a:e.push with
    |none=>
     rw[a]at b;simp only[a,CZ.heap,fc]at l ⊢;rw[lK c,l];simp only[jb]
    |some p=>
     rw[a]at b;simp only at b;simp only[a,CZ.heap,fc]at l ⊢;rw[lK c,l];have J:m - g9.heap.length=(m - g9.heap.length - 1)+1:=a_;rw[J,u1];rw[qcH _ _ jn,jb,WH,List.set_cons_zero]
     grind
   generalize Q:(⟨g9,e,rw,match e.push with|some _=>some g9.heap.length|none=>none⟩ : Rec).on o (St.Dn g9 m)=X at *;generalize St.Dn j6 m=Y at *;cases X;cases Y
   simp_all
def rV{S b:Nat->St->St->Prop}:∀ {l:TC},(∀i∈l,∀g9 a,S i g9 a->b i g9 a)->∀ {g9 a:St},Et S l g9 a->Et b l g9 a
 | [],_,_,_,h=>h
 |i :: l,c,g9,a,⟨j6,h1,d⟩=>⟨j6,c i c_ _ _ h1,rV (λj e=>c j (E7 _ e)) d⟩
def Lm(J:DJ N B):∀(l:TC) (g9 u:St),l.Pairwise (· < ·)->(∀i∈l,∃o,ops[i]?=some o/\Wb N b_ o=true)->br C B b_ ops l g9 u->∃z:Nat->Rec,RunOk C B N b_ ops l g9 u z
 | [],g9,u,_,_,h=>by
  have:u=g9:=h;subst this;exact⟨λ_=>⟨u,⟨none,none,undef⟩,none,none⟩,A9 _,λ_ h=>(by cases h),λ_ h=>(by cases h),λ_ h=>(by cases h),λ_ _=>rfl,λ_ h=>(by cases h),λ_ h=>(by cases h),λ_ _=>rfl⟩
 |i :: l,g9,u,A,y,⟨O,P,Q⟩=>by
  obtain⟨o,E,S⟩:=y i c_;obtain⟨r,rfl,Z,T,G,r4,U,V⟩:=WS J E S P;rw[Jp]at A;obtain⟨z,R⟩:=Lm J l O u A.2 (λj a=>y j (E7 _ a)) Q;have F:∀j∈l,j≠i:=λj a e=>jn;have c:∀j∈l,(if j=i then r else z j)=z j:=λj a=>te (F j a);refine⟨λj=>if j=i then r else z j,NN T R.len,?_,?_,?_,?_,?_,?_,?_⟩
  .intro j a q p;rcases DB.1 a with rfl|a
   .simp_all
   .simp only[c j a];exact R.ok j a q p
  .intro j a k n;rcases DB.1 a with rfl|a
   .simp only[if_true]at n;obtain⟨H,I⟩:=G k n;have:=R.len;omega
   .simp only[c j a]at n;have:=R.slot j a k n;omega
  .intro j a f b k n g;rcases DB.1 a with q1|q1<;>rcases DB.1 b with s|s
   .rw[q1,s]
   .simp only[q1,if_true]at n;simp only[c f s]at g;have H:=G k n;have I:=R.slot f s k g;omega
   .simp only[s,if_true]at g;simp only[c j q1]at n;have H:=G k g;have I:=R.slot j q1 k n;omega
   .simp only[c j q1]at n;simp only[c f s]at g;exact R.inj j q1 f s k n g
  .intro t D;rw[R.j9 t λj a=>D j (E7 _ a)]
   simp_all
  .intro j a t D;rcases DB.1 a with rfl|a
   .simp only[if_true];have w:∀f∈l,∀q,ops[f]?=some q->q.dst≠some t:=λf b=>D f (E7 _ b) (Nat.le_of_lt (A.1 f b));rw[R.j9 t w]
    simp_all
   .simp only[c j a];exact R.args j a t λf b=>D f (E7 _ b)
  .intro j a q d v p K x M;rcases DB.1 a with rfl|a
   .simp only[if_true];rw[E]at p;cases p;refine U d v K ?_;rw[←R.j9 d λf b=>x f (E7 _ b) (A.1 f b)];exact M
   .simp only[c j a];exact R.res j a q d v p K (λf b=>x f (E7 _ b)) M
  .intro m L;obtain⟨s1,s2⟩:=V m (NN R.len L);refine⟨St.Dn O m,⟨o,E,?_,?_⟩,?_⟩
   .simp_all
   .simp_all
   .refine rV (λj a W X h=>?_) (R.run m L);obtain⟨q,q1,s,Y⟩:=h;exact⟨q,q1,kb,kb⟩
end
end Sx
namespace Sx
section
variable [Co] {C:m'} {B:Below} {N:Tc} {b_:TC} {ops:To}
def wg(o:Oper)(g9:St):CP N b_ ops o g9 g9:=by
 refine⟨λ_ _=>rfl,?_⟩
 grind
def Nj{o:Oper}{g9 i9:St}(h:CP N b_ ops o g9 i9):CP N b_ ops o i9 g9:=by
 refine⟨λt a=>(h.1 t a).symm,?_⟩;have h:=h.2
 grind
def fy{o:Oper}{g9 i9 b:St}(h:CP N b_ ops o g9 i9)(h':CP N b_ ops o i9 b):CP N b_ ops o g9 b:=by
 refine⟨λt a=>(h'.1 t a).trans (h.1 t a),?_⟩;have h:=h.2;have h':=h'.2;cases c:az N b_ o with
 |none=>trivial
 |some m=>rw[c]at h h';cases m<;>first|trivial|exact h'.trans h
structure Loc(C:m')(B:Below)(N:Tc)(b_:TC)(ops:To)(j:Nat)(b:Oper)(f:Ef)(i9 m9:St):Prop where
 is:m9=f.on b.dst i9
 tc:uv (az N b_ b) f
 st:∀j7,CP N b_ ops b i9 j7->ao C B b_ ops j j7 (f.on b.dst j7)
def qD(N:Tc)(b_:TC)(ops:To)(a b:Oper):Bool:=
 match az N b_ a,az N b_ b with
 |some m,some n=>m.ok2 n&&bw a.dst (bj ops b)&&bw b.dst (bj ops a)&&bg a.dst b.dst
 |_,_=>false
def Aq{i j:Nat}{a b:Oper}{e f:Ef}(d:qD N b_ ops a b=true){i9 g q:St}(h1:Loc C B N b_ ops i a e i9 g)(c:Loc C B N b_ ops j b f g q) :
  Loc C B N b_ ops j b f i9 (f.on b.dst i9)/\Loc C B N b_ ops i a e (f.on b.dst i9) q/\CP N b_ ops b g i9:=by
 unfold qD at d;split at d
 next m n k l=>
  simp only[vd]at d;obtain⟨⟨⟨h,s⟩,t⟩,u⟩:=d;have r:CP N b_ ops b g i9:=by
   rw[h1.is];exact Nj (Az k l (.inl h) s h1.tc i9)
  have v:CP N b_ ops a i9 (f.on b.dst i9):=Az l k (.inr h) t c.tc i9;refine⟨⟨rfl,c.tc,λo p=>c.st o (fy r p)⟩,⟨?_,h1.tc,λo p=>h1.st o (fy v p)⟩,r⟩;rw[c.is,h1.is];exact K1 k l h u h1.tc c.tc i9
 .cases d
def FH(N:Tc)(b_:TC)(ops:To)(a b:Oper):Bool:=
 (match az N b_ a with
 |some .hr=>true
 |_=>false)&&((match az N b_ b with
 |some .hw=>true
 |_=>false)&&(bw a.dst (bj ops b)&&(bw b.dst (bj ops a)&&(bw a.dst (bj ops a)&&bg a.dst b.dst))))
def iI{o:Oper}(b:az N b_ o=some .hr){e:Ef}(a:uv (az N b_ o) e):e.rw=none/\e.hp=none:=by
 rw[b]at a;constructor
 .cases h:e.rw with
  |none=>rfl
  |some p=>have:=a.1 p h;cases this
 .cases h:e.hp with
  |none=>rfl
  |some p=>have:=a.2 (by rw[h];simp);cases this
def ik{e:Ef}{d:Tq}{g9:St}{t:Nat}(h:∀x,d=some x->x≠t):(e.on d g9).tmps[t]?=g9.tmps[t]?:=by
 unfold Ef.on;exact tP h
def bM{d:Tq}{l:TC}(h:bw d l=true){t:Nat}(a:t∈l):∀x,d=some x->x≠t:=by
 intro x b e;subst e;rw[b]at h;simp only[bw,gE,hj,decide_eq_false_iff_not]at h;exact h a
def LO{k i:Nat}{a b:Oper}{e f:Ef}(n:FH N b_ ops a b=true){i9 j d:St}(h1:Loc C B N b_ ops k a e i9 j)(m:Loc C B N b_ ops i b f j d)(z:∀c,CP N b_ ops a d c->ao C B b_ ops k c (e.on a.dst c)) :
  Loc C B N b_ ops i b f i9 (f.on b.dst i9)/\Loc C B N b_ ops k a e (f.on b.dst i9) d/\CP N b_ ops a d (f.on b.dst i9):=by
 unfold FH at n;simp only[vd]at n;obtain⟨H,I,u,J,v,q⟩:=n;have D:az N b_ a=some .hr:=by
  grind
 have E:az N b_ b=some .hw:=by
  grind
 obtain⟨w,r⟩:=iI D h1.tc;have g:∀l:St,(e.on a.dst l).heap=l.heap:=λl=>by rw[dY,r];rfl
 have G:CP N b_ ops b j i9:=by
  refine⟨λt o=>?_,?_⟩
  .rw[h1.is];exact(ik (bM u o)).symm
  .rw[E];show i9.heap=j.heap;rw[h1.is,g]
 have h:d=e.on a.dst (f.on b.dst i9):=by
  rw[m.is,h1.is];have K:(f.on b.dst (e.on a.dst i9)).tmps=(e.on a.dst (f.on b.dst i9)).tmps:=by
   simp only[ml];cases h:a.dst with
   |none=>rfl
   |some x=>
    cases F:b.dst with
    |none=>rfl
    |some y=>
     rw[h,F]at q;have:x≠y:=by intro A;subst A;simp[bg]at q
     exact set_comm _ _ _ this
  have L:(f.on b.dst (e.on a.dst i9)).loc=(e.on a.dst (f.on b.dst i9)).loc:=by
   simp only[zC,w]
  have M:(f.on b.dst (e.on a.dst i9)).heap=(e.on a.dst (f.on b.dst i9)).heap:=by
   simp only[dY,r,qdj]
  generalize f.on b.dst (e.on a.dst i9)=x at *;generalize e.on a.dst (f.on b.dst i9)=y at *;cases x;simp_all
 have s:CP N b_ ops a d (f.on b.dst i9):=by
  rw[h];refine⟨λt o=>(ik (bM v o)).symm,?_⟩
  simp_all
 exact⟨⟨rfl,m.tc,λc p=>m.st c (fy G p)⟩,⟨h,h1.tc,λc p=>z c (fy s p)⟩,s⟩
def WW(q:Nat->Nat->Oper->Oper->Bool)(j:Nat)(b:Oper)(m:Nat):TA->Nat->Bool
 | [],_=>true
 |a :: l,n=>(Nat.testBit m n||q n j a b)&&WW q j b m l (n+1)
def xM(q:Nat->Nat->Oper->Oper->Bool)(ms:TC):TA->TA->Nat->Bool
 |_,[],_=>true
 |pre,b :: l,i=>WW q i b (ms.getD i 0) pre 0&&xM q ms (pre++[b]) l (i+1)
def Lr{q:Nat->Nat->Oper->Oper->Bool}{i:Nat}{b:Oper}{m:Nat}:∀ {l:TA} {k:Nat},WW q i b m l k=true->∀(j:Nat) a,l[j]?=some a->m.testBit (k+j)=true∨q (k+j) i a b=true
 | [],k,_,j,a,h=>by simp at h
 |a :: l,k,h,j,c,d=>by
  simp only[WW,vd,Gk]at h;cases j with
  |zero=>simp_all
  |succ j=>
   have:=Lr h.2 j c (by simpa using d)
   grind
def tK{q:Nat->Nat->Oper->Oper->Bool}{ms:TC}:∀ {l pre:TA} {i:Nat},pre.length=i->xM q ms pre l i=true->∀(j:Nat) b,l[j]?=some b->∀(k:Nat) a,k<i+j->(pre++l)[k]?=some a->(ms.getD (i+j) 0).testBit k=true∨q k (i+j) a b=true
 | [],pre,i,_,_,j,b,h,_,_,_,_=>by simp at h
 |b :: l,pre,i,f,h,j,c,e,k,a,g,d=>by
  simp only[xM,vd]at h;cases j with
  |zero=>
   simp at e;subst e;rw[Fe a_]at d;have:=Lr h.1 k a d;simpa using this
  |succ j=>
   have:=tK (pre:=pre++[b]) (i:=i+1) (by simp[f]) h.2 j c (by simpa using e) k a a_ (by simpa using d)
   grind
def T5(q:Nat->Oper->Bool):TA->Nat->Bool
 | [],_=>true
 |b :: l,i=>q i b&&T5 q l (i+1)
def JY{q:Nat->Oper->Bool}:∀ {l:TA} {i:Nat},T5 q l i=true->∀(j:Nat) b,l[j]?=some b->q (i+j) b=true
 | [],i,_,j,b,h=>by simp at h
 |a :: l,i,h,j,b,c=>by
  simp only[T5,vd]at h;cases j with
  |zero=>simp_all
  |succ j=>
   have:=JY h.2 j b (by simpa using c)
   grind
def n7(N:Tc)(b_:TC)(ops:To)(k i n j:Nat)(a b:Oper):Bool:=
 match Nat.beq j i,Nat.beq n i with
 |true,_=>Nat.beq n k
 |_,true=>false
 |_,_=>qD N b_ ops a b
def wm(N:Tc)(b_:TC)(ops:To)(k i:Nat):Bool:=
 fC ops.toList 0&&(Nat.blt k i&&(ops.toList.all (λo=>(az N b_ o).isSome)&&(xM (n7 N b_ ops k i) (Fi ops.toList []) [] ops.toList 0 &&
  match ops[k]?,ops[i]? with
  |some a,some b=>FH N b_ ops a b&&(a.dst.isSome&&T5 (λj o=>Nat.beq j k||bw o.dst a.dst.toList) ops.toList 0)
  |_,_=>false)))
def nk(k:DJ N B)(a:∀(j:Nat) b,ops[j]?=some b->az N b_ b≠none){j:Nat}{b:Oper}(c:ops[j]?=some b){i9 d:St}(h:ao C B b_ ops j i9 d):∃f,Loc C B N b_ ops j b f i9 d:=by
 obtain⟨f,e,g,i⟩:=jl k c (a j b c) h;exact⟨f,e,g,i⟩
def JF(C:m')(B:Below)(N:Tc)(b_:TC)(ops:To)(k i:Nat)(a:Oper)(e:Ef)(j:Nat)(i9 d:St):Prop:=
 ∃b f,ops[j]?=some b/\Loc C B N b_ ops j b f i9 d/\(j=k->f=e)/\(j=i->∀c,CP N b_ ops a d c->ao C B b_ ops k c (e.on a.dst c))
def RG{k i:Nat}{a b:Oper}{e:Ef}(H:ops[k]?=some a)(I:ops[i]?=some b)(r:FH N b_ ops a b=true)(L:xM (n7 N b_ ops k i) (Fi ops.toList []) [] ops.toList 0=true)(j n:Nat)(K:j<ops.size)(Q:n<j) :
  IH ops n j∨∀i9 t s:St,JF C B N b_ ops k i a e n i9 t->JF C B N b_ ops k i a e j t s->∃p,JF C B N b_ ops k i a e j i9 p/\JF C B N b_ ops k i a e n p s:=by
 have m:ops[j]?=some ops[j]:=by simp[K]
 have o:ops[n]?=some (ops[n]'(by omega)):=kb;generalize ops[j]=y at m;generalize ops[n]'(by omega)=x at o;have d:=tK (pre:=[]) (i:=0) rfl L j y (by simpa using m) n x a_ (by simpa using o);rw[ER]at d;rcases d with d|d
 .exact .inl (oN ops.toList [] rfl (λi k h=>by simp at h) j n d)
 right;rintro i9 t s ⟨R,f,w,z,A,P⟩ ⟨S,g,D,E,F,G⟩;rw[o]at w;cases w;rw[m]at D;cases D;unfold n7 at d;cases c:Nat.beq j i with
 |true=>
  rw[c]at d;have c:=Dx c;have q:=Dx d;subst c q;rw[H]at o;cases o;rw[I]at m;cases m;obtain rfl:=A rfl;obtain⟨u,v,O⟩:=LO r z E (G rfl);exact⟨_,⟨_,g,I,u,F,λ_ p M=>G rfl p (fy O M)⟩,_,f,H,v,λ_=>rfl,λJ=>absurd J a_⟩
 |false=>
  rw[c]at d;cases l:Nat.beq n i with
  |true=>simp_all
  |false=>
   rw[l]at d;have d:qD N b_ ops x y=true:=d;have c:j≠i:=λh=>kb;have l:n≠i:=λh=>kb;obtain⟨u,v,_⟩:=Aq d z E;exact⟨_,⟨y,g,m,u,F,λh=>absurd h c⟩,x,f,o,v,A,λh=>absurd h l⟩
def K7{b c:TC}:∀ {g9 a:St},br C B b_ ops (b++c) g9 a->∃j6,br C B b_ ops b g9 j6/\br C B b_ ops c j6 a:=by
 induction b with
 |nil=>intro g9 a h;exact⟨g9,rfl,h⟩
 |cons x l i=>
  rintro g9 a ⟨j6,d,e⟩;obtain⟨j,f,g⟩:=i e;exact⟨j,⟨j6,d,f⟩,g⟩
def xY{S:Nat->St->St->Prop}{d e:TC}:∀ {g9 j6 a:St},Et S d g9 j6->Et S e j6 a->Et S (d++e) g9 a:=by
 induction d with
 |nil=>intro g9 j6 a b c;cases b;exact c
 |cons x l g=>
  rintro g9 j6 a ⟨h,b,f⟩ c;exact⟨h,b,g f c⟩
def mo{S:Nat->St->St->Prop}(b:∀i g9 a,S i g9 a->ao C B b_ ops i g9 a):∀ {l:TC} {g9 a:St},Et S l g9 a->br C B b_ ops l g9 a
 | [],_,_,h=>h
 |_ :: _,_,_,⟨j6,h1,c⟩=>⟨j6,b _ _ _ h1,mo b c⟩
def jq{S:Nat->St->St->Prop}:∀ {l:TC},(∀i∈l,∀g9 a,ao C B b_ ops i g9 a->S i g9 a)->∀ {g9 a:St},br C B b_ ops l g9 a->Et S l g9 a
 | [],_,_,_,h=>h
 |_ :: _,b,_,_,⟨j6,h1,c⟩=>⟨j6,b _ c_ _ _ h1,jq (λi d=>b i (E7 _ d)) c⟩
def zG(g:DJ N B)(a:∀(j:Nat) b,ops[j]?=some b->az N b_ b≠none){d:Nat}:∀ {l:TC},(∀j∈l,∀b,ops[j]?=some b->∀x,b.dst=some x->x≠d)->∀ {g9 e:St},br C B b_ ops l g9 e->e.tmps[d]?=g9.tmps[d]?
 | [],_,_,_,h=>by cases h;rfl
 |j :: l,k,g9,e,⟨j6,h1,m⟩=>by
  rw[zG g a (λi o=>k i (E7 _ o)) m];cases c:ops[j]? with
  |none=>
   have:j6=g9:=by simpa[ao,c]using h1
   rw[this]
  |some b=>
   obtain⟨f,n⟩:=nk g a c h1;rw[n.is];exact ik (k j c_ b c)
def T9(D:DJ N B){k i:Nat}(q:wm N b_ ops k i=true){g9 j6 o8 M:St}(h1:br C B b_ ops (List.range' 0 (ops.toList.take (i+1)).length) g9 j6)(h2:ao C B b_ ops k j6 o8)(hs:G5 ops k j6 o8)
  (h3:br C B b_ ops (List.range' (i+1) (ops.toList.drop (i+1)).length) j6 M):eo C B b_ ops g9 M:=by
 unfold wm at q;simp only[vd]at q;obtain⟨g1,g2,g3,g4,K⟩:=q;have ag:k<i:=kb;have c:∀(j:Nat) b,ops[j]?=some b->az N b_ b≠none:=by
  grind
 split at K
 case h_2=>cases K
 rename_i a b E y
 simp only[vd]at K;obtain⟨u,Q,g6⟩:=K;obtain⟨d,L⟩:=xT.1 Q;have hi:i<ops.size:=(IG.1 y).1;have ht:(ops.toList.take (i+1)).length=i+1:=ua;rw[ht]at h1;have I:List.range' 0 (i+1)=List.range' 0 k++(k :: (List.range' (k+1) (i - k - 1)++[i])):=by
  have e1:List.range' 0 (i+1)=List.range' 0 k++List.range' (0+k) (i+1 - k):=by rw[qcM];congr 1;omega
  have e2:List.range' (0+k) (i+1 - k)=k :: List.range' (k+1) (i - k):=by
   rw[show i+1 - k=(i - k)+1 by omega,eL,ER]
  have e3:List.range' (k+1) (i - k)=List.range' (k+1) (i - k - 1)++[i]:=by
   have:List.range' (k+1) (i - k)=List.range' (k+1) (i - k - 1)++List.range' (k+1+(i - k - 1)) 1:=by rw[qcM];congr 1;omega
   grind
  rw[e1,e2,e3]
 rw[I]at h1;obtain⟨B8,p1,P,p2,p3⟩:=K7 h1;obtain⟨B9,p4,Cb,p5,p6⟩:=K7 p3;cases p6;obtain⟨e,F⟩:=nk D c E p2;have hm:az N b_ a=some .hr:=by
  have u:=u;unfold FH at u
  grind
 obtain⟨e1,e2⟩:=iI hm F.tc;have r:∀j,j≠k->∀b,ops[j]?=some b->∀x,b.dst=some x->x≠d:=by
  intro j ad b p x hx;have:=JY g6 j b (by simpa using p);rw[ER]at this;cases V:Nat.beq j k with
  |true=>simp_all
  |false=>
   rw[V,w5,L]at this;exact bM this c_ x hx
 have w:j6.tmps[d]?=P.tmps[d]?:=by
  have:br C B b_ ops (List.range' (k+1) (i - k - 1)++[i]) P j6:=p3;refine zG D c (λj p=>r j ?_) this
  grind
 obtain⟨g,T⟩:=nk D c E h2;obtain⟨f1,f2⟩:=iI hm T.tc;have U:g=e:=by
  obtain⟨a',d',x,Y,J,A,Z⟩:=hs;rw[E]at Y;cases Y;rw[L]at J;cases J;rw[T.is,ml,L]at Z;simp only[GS]at Z;rw[rv trivial,rv (s4.1 A).1]at Z;rw[w,F.is,ml,L]at A;simp only[GS]at A;rw[rv trivial]at A;split at A
  .cases g;cases e
   simp_all
  .cases A
 subst U;have l:∀j,j≠k->j≠i->j<ops.size->∀z O,ao C B b_ ops j z O->JF C B N b_ ops k i a g j z O:=by
  intro j hk W p z O h;have G:ops[j]?=some ops[j]:=by simp[p]
  obtain⟨f,R⟩:=nk D c G h;exact⟨_,f,G,R,λh=>absurd h hk,λh=>absurd h W⟩
 have H:Et (JF C B N b_ ops k i a g) (range ops.size) g9 M:=by
  have e0:range ops.size=List.range' 0 (i+1)++List.range' (i+1) (ops.toList.drop (i+1)).length:=by
   have:(ops.toList.drop (i+1)).length=ops.size - (i+1):=c_;rw[this,YZ];have:=qcM (s:=0) (m:=i+1) (n:=ops.size - (i+1))
   grind
  rw[e0,I];refine xY (xY (j6:=B8) (jq (λj p=>?_) p1) ⟨P,⟨a,g,E,F,λ_=>rfl,λh=>absurd h a_⟩,xY (j6:=B9) (jq (λj p=>?_) p4) ⟨j6,?_,rfl⟩⟩) (jq (λj p=>?_) h3)
  .rw[qda]at p;exact l j a_ a_ a_
  .rw[qda]at p;exact l j a_ a_ a_
  .obtain⟨f,R⟩:=nk D c y p5;exact⟨b,f,y,R,λh=>absurd h a_,λ_=>T.st⟩
  .rw[qda]at p;have:(ops.toList.drop (i+1)).length=ops.size - (i+1):=c_;exact l j a_ a_ a_
 have v:∀(i:Nat) o,ops[i]?=some o->∀e∈o.after.toList,Region.binds .any e=true->e.on<i:=by
  intro i o X e F y;have:=ep g1 i o (by simpa using X) e F y;omega
 have hz:EG ops.size (Array.replicate ops.size false)=range ops.size:=by
  unfold EG
  simp_all
 refine .inl λt=>?_;obtain⟨r1,_,_⟩:=yV (S:=JF C B N b_ ops k i a g) v (λj n p hn=>RG E y u g4 j n p hn) ops.size t (Array.replicate ops.size false) c_ (by rw[hz];simp) (λx o hx X=>by
  have al:x<ops.size:=(IG.1 X).1
  simp_all) g9 M (by rw[hz];exact H)
 refine mo (λj z O hS=>?_) r1;obtain⟨b',f,Y,J,_,_⟩:=hS;rw[J.is];exact J.st z (wg b' z)
end
end Sx
namespace Sx
section
variable [Co] {C:m'} {B:Below} {N:Tc} {b_:TC} {ops:To}
def Bl{a b:Tq}(i:bg a b=true){e f:Ef}(h:e.rw=none)(d:e.hp=none)(i9:St):f.on b (e.on a i9)=e.on a (f.on b i9):=by
 have g:∀c:St,(e.on a c).heap=c.heap:=λc=>by rw[dY,d];rfl
 have k:(f.on b (e.on a i9)).tmps=(e.on a (f.on b i9)).tmps:=by
  simp only[ml];cases a with
  |none=>rfl
  |some x=>
   cases b with
   |none=>rfl
   |some y=>
    have:x≠y:=by intro j;subst j;simp[bg]at i
    exact set_comm _ _ _ this
 have l:(f.on b (e.on a i9)).loc=(e.on a (f.on b i9)).loc:=by
  simp only[zC,h]
 have m:(f.on b (e.on a i9)).heap=(e.on a (f.on b i9)).heap:=by
  simp only[dY,d,qdj]
 generalize f.on b (e.on a i9)=x at *;generalize e.on a (f.on b i9)=y at *;cases x;simp_all
def xV{a b:Oper}(c:FH N b_ ops a b=true):az N b_ a=some .hr/\az N b_ b=some .hw/\bw a.dst (bj ops b)=true/\bw b.dst (bj ops a)=true/\bw a.dst (bj ops a)=true/\bg a.dst b.dst=true:=by
 unfold FH at c
 grind
def Xe{k i:Nat}{a b:Oper}{e f:Ef}(p:FH N b_ ops b a=true){i9 j h:St}(h1:Loc C B N b_ ops k a e i9 j)(d:Loc C B N b_ ops i b f j h)(o:∀c,CP N b_ ops b i9 c->ao C B b_ ops i c (f.on b.dst c)) :
  Loc C B N b_ ops i b f i9 (f.on b.dst i9)/\Loc C B N b_ ops k a e (f.on b.dst i9) h:=by
 obtain⟨q,r,l,v,w,m⟩:=xV p;obtain⟨n,g⟩:=iI q d.tc;refine⟨⟨rfl,d.tc,o⟩,⟨?_,h1.tc,λc u=>h1.st c (fy ⟨λt s=>ik (bM l s),?_⟩ u)⟩⟩
 .rw[d.is,h1.is];exact(Bl m n g i9).symm
 .rw[r];show(f.on b.dst i9).heap=i9.heap;rw[dY,g];rfl
def H8(k i:Nat):List (Nat×Nat)->Bool
 | []=>false
 |p :: l=>match Nat.beq p.1 k,Nat.beq p.2 i with
  |true,true=>true
  |_,_=>H8 k i l
def tF{k i:Nat}:∀ {l:List (Nat×Nat)},H8 k i l=true->(k,i)∈l
 | [],h=>by cases h
 |p :: l,h=>by
  unfold H8 at h;split at h
  next h1 a=>
   rw[←Dx h1,←Dx a]
   grind
  .exact E7 _ (tF h)
def r7(N:Tc)(b_:TC)(ops:To)(c:List (Nat×Nat))(n j:Nat)(a b:Oper):Bool:=
 qD N b_ ops a b||((FH N b_ ops a b&&H8 n j c)||(FH N b_ ops b a&&H8 j n c))
def Xb(ops:To):TA->Bool
 | []=>true
 |b :: l=>bw b.dst (bj ops b)&&((l.all λa=>bw a.dst (bj ops b)&&bg a.dst b.dst)&&Xb ops l)
def zk(N:Tc)(b_:TC)(ops:To)(a:List (Nat×Nat)):Bool:=
 fC ops.toList 0&&(ops.toList.all (λo=>(az N b_ o).isSome)&&(Xb ops ops.toList&&xM (r7 N b_ ops a) (Fi ops.toList []) [] ops.toList 0))
def yj:∀ {l:TA},Xb ops l=true->∀(j:Nat) b,l[j]?=some b->∀(n:Nat) a,l[n]?=some a->(j<=n->bw a.dst (bj ops b)=true)/\(j<n->bg a.dst b.dst=true)
 | [],_,j,b,h,_,_,_=>by simp at h
 |c :: l,h,j,b,e,n,a,f=>by
  simp only[Xb,vd,A_]at h;obtain⟨h1,g,d⟩:=h;cases j with
  |zero=>
   grind
  |succ j=>
   cases n with
   |zero=>omega
   |succ n=>
    have:=yj d j b (by simpa using e) n a (by simpa using f)
    simp_all
def Y'{c:St}:∀(m i:Nat) (i9:St) (a:List (Tu)),Fu C B b_ ops (List.range' i m) i9 a c->
  ∃st:Nat->St,st i=i9/\st (i+m)=c/\(∀j,i<=j->j<i+m->ao C B b_ ops j (st j) (st (j+1)))/\∀j,j<m->a[j]?=some (st (i+j+1)).heap
 |0,i,i9,a,h=>by
  obtain⟨_,rfl⟩:=h;exact⟨λ_=>c,rfl,rfl,λj _ _=>absurd (show j<i+0 by assumption) a_,λj d=>absurd d a_⟩
 |m+1,i,i9,a,h=>by
  rw[eL]at h;obtain⟨l,b,n,e,g⟩:=h;subst e;obtain⟨st,o,p,q,r⟩:=Y' m (i+1) l b g;refine⟨λj=>if j=i then i9 else st j,c_,?_,λj f k=>?_,λj d=>?_⟩
  .grind
  .grind
  grind
def Jd(C:m')(B:Below)(N:Tc)(b_:TC)(ops:To)(e:Nat->Ef)(st:Nat->St)(c:St)(j:Nat)(i9 a:St):Prop:=
 ∃b,ops[j]?=some b/\Loc C B N b_ ops j b (e j) i9 a/\(∀t∈bj ops b,i9.tmps[t]?=c.tmps[t]?)/\(az N b_ b=some .hw->i9.heap=(st j).heap/\a.heap=(st (j+1)).heap)
def KB{o:Oper}{e:Ef}(b:uv (az N b_ o) e)(a:az N b_ o≠some .hw):e.hp=none:=by
 cases h:e.hp with
 |none=>rfl
 |some p=>exact absurd (b.2 (by rw[h];simp)) a
def yF{a b:Oper}(c:qD N b_ ops a b=true):az N b_ a≠some .hw∨az N b_ b≠some .hw:=by
 unfold qD at c;split at c
 next m n f g=>
  simp only[vd]at c;by_cases d:az N b_ a=some .hw
  .by_cases e:az N b_ b=some .hw
   .rw[d]at f;rw[e]at g;cases f;cases g;exact absurd c.1.1.1 oo
   .exact .inr e
  .exact .inl d
 .cases c
def AM{a b:Oper}(c:qD N b_ ops a b=true):bw b.dst (bj ops a)=true:=by
 unfold qD at c
 grind
def Qe{W:List (Nat×Nat)}{e:Nat->Ef}{st:Nat->St}{o:St}(U:∀k i,(k,i)∈W->i<ops.size->∀a,ops[k]?=some a->az N b_ a=some .hr->∀c,CP N b_ ops a { o with heap:=(if k<=i then(st (i+1)).heap else(st i).heap) } c->ao C B b_ ops k c ((e k).on a.dst c))
  (hp:xM (r7 N b_ ops W) (Fi ops.toList []) [] ops.toList 0=true) (j n:Nat) (V:j<ops.size) (hn:n<j) :
  IH ops n j∨∀i9 u v:St,Jd C B N b_ ops e st o n i9 u->Jd C B N b_ ops e st o j u v->∃c,Jd C B N b_ ops e st o j i9 c/\Jd C B N b_ ops e st o n c v:=by
 have p:ops[j]?=some ops[j]:=by simp[V]
 have q:ops[n]?=some (ops[n]'(by omega)):=kb;generalize ops[j]=y at p;generalize ops[n]'(by omega)=x at q;have d:=tK (pre:=[]) (i:=0) rfl hp j y (by simpa using p) n x a_ (by simpa using q);rw[ER]at d;rcases d with d|d
 .exact .inl (oN ops.toList [] rfl (λi k h=>by simp at h) j n d)
 right;rintro i9 u v ⟨x',R,g,D,Y⟩ ⟨y',S,r,J,Z⟩;rw[q]at R;cases R;rw[p]at S;cases S;unfold r7 at d;simp only[Gk,vd]at d;have E:u.heap=(e n).hp.getD i9.heap:=by rw[g.is,dY]
 have F:v.heap=(e j).hp.getD u.heap:=by rw[r.is,dY]
 have G:((e j).on y.dst i9).heap=(e j).hp.getD i9.heap:=dY;rcases d with d|⟨d,K⟩|⟨d,K⟩
 .obtain⟨w,z,w3⟩:=Aq d g r;refine⟨_,⟨y,p,w,λt b=>(w3.1 t b).trans (J t b),λs=>?_⟩,x,q,z,λt b=>(ik (bM (AM d) b)).trans (D t b),λs=>?_⟩
  .have L:az N b_ x≠some .hw:=(yF d).resolve_right λh=>h s;rw[KB g.tc L]at E
   grind
  .have M:az N b_ y≠some .hw:=(yF d).resolve_left λh=>h s;rw[KB r.tc M]at F G
   grind
 .obtain⟨m,H,I,A,Q,X⟩:=xV d;obtain⟨O,P⟩:=Z H;have L:(e n).hp=none:=(iI m g.tc).2;rw[L]at E;have E:u.heap=i9.heap:=E;have f:∀c,CP N b_ ops x v c->CP N b_ ops x { o with heap:=(if n<=j then(st (j+1)).heap else(st j).heap) } c:=by
   intro c l;refine⟨λt b=>?_,?_⟩
   .rw[l.1 t b,r.is,ik (bM A b),g.is,ik (bM Q b)];exact D t b
   .rw[m];show c.heap=if n<=j then(st (j+1)).heap else(st j).heap
    rw[rv a_,←P];have:=l.2
    simp_all
  obtain⟨w,z,_⟩:=LO d g r λc l=>U n j (tF K) V x q m c (f c l);refine⟨_,⟨y,p,w,λt b=>?_,λ_=>?_⟩,x,q,z,λt b=>(ik (bM A b)).trans (D t b),λs=>?_⟩
  .rw[←J t b,g.is];exact(ik (bM I b)).symm
  .simp_all
  simp_all
 .obtain⟨m,H,I,A,Q,X⟩:=xV d;obtain⟨O,P⟩:=Y H;have M:(e j).hp=none:=(iI m r.tc).2;rw[M]at F G;have F:v.heap=u.heap:=F;have G:((e j).on y.dst i9).heap=i9.heap:=G;have T:∀t∈bj ops y,i9.tmps[t]?=o.tmps[t]?:=λt b=>by
   rw[←J t b,g.is];exact(ik (bM A b)).symm
  have f:∀c,CP N b_ ops y i9 c->CP N b_ ops y { o with heap:=(if j<=n then(st (n+1)).heap else(st n).heap) } c:=by
   intro c l;refine⟨λt b=>?_,?_⟩
   .rw[l.1 t b];exact T t b
   .rw[m];show c.heap=if j<=n then(st (n+1)).heap else(st n).heap
    rw[te a_,←O];have:=l.2
    simp_all
  obtain⟨w,z⟩:=Xe d g r λc l=>U j n (tF K) a_ y p m c (f c l);refine⟨_,⟨y,p,w,T,λs=>?_⟩,x,q,z,λt b=>(ik (bM I b)).trans (D t b),λ_=>?_⟩
  .rw[m]at s;cases s
  simp_all
def LJ(e:DJ N B)(a:∀(j:Nat) b,ops[j]?=some b->az N b_ b≠none){st:Nat->St}{t i:Nat}:∀(m:Nat),(∀j,i<=j->j<i+m->ao C B b_ ops j (st j) (st (j+1))/\∀b,ops[j]?=some b->∀x,b.dst=some x->x≠t)->(st (i+m)).tmps[t]?=(st i).tmps[t]?
 |0,_=>rfl
 |m+1,h=>by
  obtain⟨h1,g⟩:=h (i+m) a_ a_;rw[←LJ e a m λj c k=>h j c a_,show i+(m+1)=i+m+1 by omega];cases d:ops[i+m]? with
  |none=>
   have:st (i+m+1)=st (i+m):=by simpa[ao,d]using h1
   rw[this]
  |some b=>
   obtain⟨f,c⟩:=nk e a d h1;rw[c.is];exact ik (g b d)
def Rm{S:Nat->St->St->Prop}{st:Nat->St}:∀(m i:Nat),(∀j,i<=j->j<i+m->S j (st j) (st (j+1)))->Et S (List.range' i m) (st i) (st (i+m))
 |0,i,_=>rfl
 |m+1,i,h=>by
  rw[eL];refine⟨st (i+1),h i a_ a_,?_⟩;have:=Rm m (i+1) λj a b=>h j a_ a_
  grind
def J0(P:DJ N B){X:List (Nat×Nat)}(q:zk N b_ ops X=true){g9 l:St}{A:List (Tu)}(h1:Fu C B b_ ops (range ops.size) g9 A l)(h2:ES C B b_ ops g9 A l X):eo C B b_ ops g9 l:=by
 unfold zk at q;simp only[vd]at q;obtain⟨g1,g2,Z,g4⟩:=q;have m:∀(j:Nat) b,ops[j]?=some b->az N b_ b≠none:=by
  grind
 have w:∀ {i:Nat} {o:Oper},ops[i]?=some o->i<ops.size:=λD=>(IG.1 D).1;rw[YZ]at h1;obtain⟨st,s1,s2,O,s4⟩:=Y' ops.size 0 g9 A h1;rw[ER]at s2;have O:∀j,j<ops.size->ao C B b_ ops j (st j) (st (j+1)):=λj c=>O j a_ a_;have s4:∀j,j<ops.size->A[j]?=some (st (j+1)).heap:=λj c=>kb;have R:∀j,∃f,∀b,ops[j]?=some b->Loc C B N b_ ops j b f (st j) (st (j+1)):=by
  intro j;cases c:ops[j]? with
  |none=>exact⟨⟨.nilFunc,none,none⟩,λb h=>by cases h⟩
  |some b=>
   obtain⟨f,T⟩:=nk P m c (O j (w c));exact⟨f,λY h=>by cases h;exact T⟩
 obtain⟨e,K⟩:=Classical.axiomOfChoice R;have p:∀(j:Nat) (t:Nat),j<=ops.size->(∀n,j<=n->∀a,ops[n]?=some a->∀x,a.dst=some x->x≠t)->l.tmps[t]?=(st j).tmps[t]?:=by
  intro j t c h;have:=LJ (t:=t) (i:=j) P m (ops.size - j) λn h3 h4=>⟨O n a_,h n h3⟩
  simp_all
 have r:∀(j:Nat) b,ops[j]?=some b->∀t∈bj ops b,(st j).tmps[t]?=l.tmps[t]?:=by
  intro j b c t ht;refine(p j t (Nat.le_of_lt (w c)) λn L a s x hx=>?_).symm;exact bM ((yj Z j b (by simpa using c) n a (by simpa using s)).1 L) ht x hx
 have Q:∀k i,i<ops.size->atM g9.heap A (k,i)=if k<=i then(st (i+1)).heap else(st i).heap:=by
  intro k i D;unfold atM;show List.getD (g9.heap :: A) (match Nat.ble k i with|true=>i+1|false=>i) g9.heap=_;by_cases E:k<=i
  .rw[DQ E,rv E,List.getD_eq_getElem?_getD,z2,s4 i D];rfl
  .rw[show Nat.ble k i=false by rw[←Gj];simp_all,te E,List.getD_eq_getElem?_getD]
   grind
 have T:∀k i,(k,i)∈X->i<ops.size->∀a,ops[k]?=some a->az N b_ a=some .hr->∀W,CP N b_ ops a { l with heap:=(if k<=i then(st (i+1)).heap else(st i).heap) } W->ao C B b_ ops k W ((e k).on a.dst W):=by
  intro k i hm D a s hr;obtain⟨o8,M,o,d,x,G,H,q3,q4⟩:=h2 (k,i) hm;have G:ops[k]?=some o:=G;rw[s]at G;cases G;rw[Q k i D]at M;obtain⟨g,U⟩:=nk P m s M;have hl:=K k a s;obtain⟨f1,f2⟩:=iI hr U.tc;obtain⟨f3,f4⟩:=iI hr hl.tc;have V:g=e k:=by
   have E:l.tmps[d]?=(st (k+1)).tmps[d]?:=p (k+1) d (w s) λn L b u y hy=>by
    have:=(yj Z k a (by simpa using s) n b (by simpa using u)).2 a_;intro h;subst h;rw[hy,H]at this;simp[bg]at this
   have I:(g.on a.dst { l with heap:=(if k<=i then(st (i+1)).heap else(st i).heap) }).tmps[d]?=some x:=by rw[←U.is];exact q4
   have J:((e k).on a.dst (st k)).tmps[d]?=some x:=by rw[←hl.is,←E];exact q3
   rw[ml,H]at I J;simp only[GS]at I J;rw[rv trivial]at I J;split at I
   .split at J
    .generalize e k=z at *;cases g;cases z
     grind
    .cases J
   .cases I
  subst V;exact U.st
 have F:Et (Jd C B N b_ ops e st l) (range ops.size) g9 l:=by
  rw[YZ];have:=Rm (S:=Jd C B N b_ ops e st l) (st:=st) ops.size 0 λj _ c=>by
   rw[ER]at c;have u:ops[j]?=some ops[j]:=by simp[c]
   exact⟨_,u,K j _ u,r j _ u,λ_=>⟨rfl,rfl⟩⟩
  simp_all
 have v:∀(i:Nat) o,ops[i]?=some o->∀e∈o.after.toList,Region.binds .any e=true->e.on<i:=by
  intro i o ho e K u;have:=ep g1 i o (by simpa using ho) e K u;omega
 have hz:EG ops.size (Array.replicate ops.size false)=range ops.size:=by
  unfold EG
  simp_all
 refine .inl λt=>?_;obtain⟨M,_,_⟩:=yV (S:=Jd C B N b_ ops e st l) v (λj n c L=>Qe T g4 j n c L) ops.size t (Array.replicate ops.size false) c_ (by rw[hz];simp) (λx o hx ho=>by
  simp_all) g9 l (by rw[hz];exact F)
 refine mo (λj i9 m9 hS=>?_) M;obtain⟨Y,G,H,_,_⟩:=hS;rw[H.is];exact H.st i9 (wg Y i9)
end
end Sx
namespace Sx
section
variable [Co] {C:m'} {B:Below} {N:Tc} {b_:TC} {ops:To}
def Af(q:Oper->Oper->Bool)(b:Oper)(m:Nat):TA->Nat->Bool
 | [],_=>true
 |a :: l,k=>(Nat.testBit m k||q a b)&&Af q b m l (k+1)
def tJ(q:Oper->Oper->Bool)(ms:TC):TA->TA->Nat->Bool
 |_,[],_=>true
 |pre,b :: l,i=>Af q b (ms.getD i 0) pre 0&&tJ q ms (pre++[b]) l (i+1)
def vY{q:Oper->Oper->Bool}{b:Oper}{m:Nat}:∀ {l:TA} {k:Nat},Af q b m l k=true->∀(j:Nat) a,l[j]?=some a->m.testBit (k+j)=true∨q a b=true
 | [],k,_,j,a,h=>by simp at h
 |a :: l,k,h,j,c,d=>by
  simp only[Af,vd,Gk]at h;cases j with
  |zero=>simp_all
  |succ j=>
   have:=vY h.2 j c (by simpa using d)
   grind
def rM{q:Oper->Oper->Bool}{ms:TC}:∀ {l pre:TA} {i:Nat},pre.length=i->tJ q ms pre l i=true->∀(j:Nat) b,l[j]?=some b->∀(k:Nat) a,k<i+j->(pre++l)[k]?=some a->(ms.getD (i+j) 0).testBit k=true∨q a b=true
 | [],pre,i,_,_,j,b,h,_,_,_,_=>by simp at h
 |b :: l,pre,i,f,h,j,c,e,k,a,g,d=>by
  simp only[tJ,vd]at h;cases j with
  |zero=>
   simp at e;subst e;rw[Fe a_]at d;have:=vY h.1 k a d;simpa using this
  |succ j=>
   have:=rM (pre:=pre++[b]) (i:=i+1) (by simp[f]) h.2 j c (by simpa using e) k a a_ (by simpa using d)
   grind
def uP{b:Oper}{m i:Nat}:∀ {l:TA} {k:Nat} (j:Nat) a,l[j]?=some a->m.testBit (k+j)=false->ON b_ a b=true->(k+j,i)∈uO b_ b m i l k
 | [],k,j,a,h,_,_=>by simp at h
 |a :: l,k,j,c,e,f,d=>by
  unfold uO;cases j with
  |zero=>
   simp_all
  |succ j=>
   have:=uP (i:=i) (k:=k+1) j c (by simpa using e) (by rwa [show k+1+j=k+(j+1)by omega]) d
   grind
def uN{ms:TC}:∀ {l pre:TA} {i:Nat},pre.length=i->∀(j:Nat) b,l[j]?=some b->∀(k:Nat) a,k<i+j->(pre++l)[k]?=some a->(ms.getD (i+j) 0).testBit k=false->ON b_ a b=true->(k,i+j)∈yK b_ ms pre l i
 | [],pre,i,_,j,b,h,_,_,_,_,_,_=>by simp at h
 |b :: l,pre,i,g,j,c,e,k,a,n,d,m,f=>by
  unfold yK;rw[Ek];cases j with
  |zero=>
   simp at e;subst e;rw[Fe a_]at d;have:=uP (b_:=b_) (i:=i) (k:=0) k a d (by simpa using m) f
   simp_all
  |succ j=>
   right;have:=uN (pre:=pre++[b]) (i:=i+1) (by simp[g]) j c (by simpa using e) k a a_ (by simpa using d) (by rwa [show i+1+j=i+(j+1)by omega]) f
   grind
def eF(b_:TC)(o:Oper):TC:=((dg b_ o).1++fh b_ o).filterMap λx=>match x with
 | .tmp t=>some t
 |_=>none
def Xa(b_:TC):TA->TA->Bool
 |_,[]=>true
 |pre,b :: l=>bw b.dst (eF b_ b)&&(pre.all λa=>bw b.dst (eF b_ a)&&bg a.dst b.dst)&&Xa b_ (pre++[b]) l
def yi:∀ {l pre:TA},Xa b_ pre l=true->∀(j:Nat) b,l[j]?=some b->∀(k:Nat) a,(pre++l)[k]?=some a->(k<=pre.length+j->bw b.dst (eF b_ a)=true)/\(k<pre.length+j->bg a.dst b.dst=true)
 | [],pre,_,j,b,h,_,_,_=>by simp at h
 |b :: l,pre,h,j,c,f,k,a,e=>by
  simp only[Xa,vd,A_]at h;obtain⟨⟨h1,g⟩,d⟩:=h;cases j with
  |zero=>
   grind
  |succ j=>
   have:=yi d j c (by simpa using f) k a (by simpa using e)
   grind
def Jz(N:Tc)(b_:TC)(ops:To):Bool:=
 fC ops.toList 0&&(ops.toList.all (Wb N b_)&&(ops.toList.any (dv b_)&&(ops.toList.all (λo=>!dv b_ o||o.dst.isSome)&&(Xa b_ [] ops.toList&&tJ (λa b=>RO N b_ ops a b && !kQ a b) (Fi ops.toList []) [] ops.toList 0))))
def W9(N:Tc)(b_:TC)(ops:To)(i:Nat):Nat->Option Nat
 |0=>none
 |k+1=>match ops[k]?,ops[i]? with
  |some a,some b=>match FH N b_ ops a b&&wm N b_ ops k i with
   |true=>some k
   |false=>W9 N b_ ops i k
  |_,_=>none
def W8(N:Tc)(b_:TC)(ops:To):Nat->Option (List (Nat×Nat))
 |0=>none
 |i+1=>match W9 N b_ ops i i with
  |some k=>some [(k+1000,i)]
  |none=>W8 N b_ ops i
def zm(N:Tc)(b_:TC)(ops:To)(j:Nat)(b:Oper)(m:Nat):TA->Nat->List (Nat×Nat)
 | [],_=>[]
 |a :: l,n=>match Nat.testBit m n||qD N b_ ops a b,FH N b_ ops a b with
  |true,_=>zm N b_ ops j b m l (n+1)
  |false,true=>(n,j) :: zm N b_ ops j b m l (n+1)
  |false,false=>(j,n) :: zm N b_ ops j b m l (n+1)
def Jc(N:Tc)(b_:TC)(ops:To)(ms:TC):TA->TA->Nat->List (Nat×Nat)
 |_,[],_=>[]
 |pre,b :: l,i=>zm N b_ ops i b (ms.getD i 0) pre 0++Jc N b_ ops ms (pre++[b]) l (i+1)
def VT(N:Tc)(b_:TC)(ops:To):Option (List (Nat×Nat)):=
 match zk N b_ ops (Jc N b_ ops (Fi ops.toList []) [] ops.toList 0)with
 |true=>some ((5000,0) :: Jc N b_ ops (Fi ops.toList []) [] ops.toList 0)
 |false=>none
def ZX(N:Tc):Dr:=λb_ ops=>match yL b_ ops with
 | []=>match vX N b_ ops with
  |true=>some []
  |false=>match W8 N b_ ops ops.size with
   |some a=>match Fm a with
    |none=>some a
    |some _=>none
   |none=>VT N b_ ops
 |p :: a=>match Fm (p :: a),Gr (p :: a),Jz N b_ ops with
  |none,none,true=>some (p :: a)
  |_,_,_=>VT N b_ ops
def LI{i:Nat}:∀ {n k:Nat},W9 N b_ ops i n=some k->wm N b_ ops k i=true
 |0,k,h=>by cases h
 |n+1,k,h=>by
  unfold W9 at h;split at h
  .split at h
   .simp_all
   .exact LI h
  .cases h
def LH:∀ {n:Nat} {a:List (Nat×Nat)},W8 N b_ ops n=some a->∃k i,a=[(k+1000,i)]/\wm N b_ ops k i=true
 |0,a,h=>by cases h
 |n+1,a,h=>by
  unfold W8 at h;split at h
  next k b=>
   cases h;exact⟨k,n,rfl,LI b⟩
  .exact LH h
def Pv{o:Oper}(h:DW b_ o=0):(dg b_ o).1=[]/\fh b_ o=[]/\dv b_ o=false:=by
 obtain⟨dst,k,i,pos,d,guard⟩:=o;cases k<;>simp only[DW]at h<;>first|(exact⟨rfl,rfl,rfl⟩)|(exact absurd h oo)|skip
 case alloc t=>cases g:dv b_ ⟨dst,.alloc t,i,pos,d,guard⟩with
  |true=>rw[g]at h;cases h
  |false=>exact⟨rfl,rfl,rfl⟩
 case box t x=>cases g:dv b_ ⟨dst,.box t x,i,pos,d,guard⟩with
  |true=>rw[g]at h;cases h
  |false=>exact⟨rfl,rfl,rfl⟩
 case load t a=>
  split at h
  .cases h
  next j=>
   refine⟨?_,rfl,rfl⟩;simp only[dg]
 case store t a x=>
  split at h
  .cases h
  next j=>
   refine⟨?_,?_,rfl⟩
   .simp only[dg]
   .simp only[fh]
 case call c=>
  cases e:c.callee with
  |builtin b=>
   rw[e]at h;simp only[dg,fh,dv,e]
   grind
  |value f=>simp only[dg,fh,dv,e];simp_all
  |invoke r m=>simp only[dg,fh,dv,e];simp_all
def Yx{o:Oper}(h:DW b_ o=1):fh b_ o=[]/\dv b_ o=false:=by
 obtain⟨dst,j,i,pos,d,guard⟩:=o;cases j<;>simp only[DW]at h<;>first|(exact⟨rfl,rfl⟩)|(exact absurd h oo)|skip
 case alloc t=>cases g:dv b_ ⟨dst,.alloc t,i,pos,d,guard⟩with
  |true=>rw[g]at h;cases h
  |false=>exact⟨rfl,rfl⟩
 case box t x=>cases g:dv b_ ⟨dst,.box t x,i,pos,d,guard⟩with
  |true=>rw[g]at h;cases h
  |false=>exact⟨rfl,rfl⟩
 case store t a x=>split at h<;>cases h
 case call c=>
  cases e:c.callee with
  |builtin b=>
   rw[e]at h;simp only[fh,dv,e];cases b<;>first|(exact⟨rfl,rfl⟩)|(exact absurd h c_)
  |value f=>simp only[fh,dv,e];exact⟨trivial,trivial⟩
  |invoke r m=>simp only[fh,dv,e];exact⟨trivial,trivial⟩
def tk(o:Oper):DW b_ o=0∨DW b_ o=1∨DW b_ o=2:=by
 obtain⟨dst,d,e,pos,b,guard⟩:=o;cases d<;>simp only[DW]<;>first|(exact .inl trivial)|(exact .inr (.inl trivial))|(exact .inr (.inr trivial))|skip
 case alloc t=>split<;>simp
 case box t x=>split<;>simp
 case load t a=>split<;>simp
 case store t a x=>split<;>simp
 case call c=>split<;>first|(split<;>simp)|simp
end
end Sx
namespace Sx
section
variable [Co] {C:m'} {B:Below} {N:Tc} {b_:TC} {ops:To}
def ML{mk:Nat->TR}(h:Dv mk)(k:Nat):Df (mk k)=[k]:=by
 cases h<;>simp[Df,le]
def Al{S:Nat->St->St->Prop}{d:Nat->Ts}(c:∀i g9 a,S i g9 a->ed C B b_ ops d i g9 a):∀ {l:TC},l.Nodup->∀ {g9 a:St},Et S l g9 a->ju C B b_ ops d l g9 a
 | [],_,_,_,h=>h
 |i :: l,b,g9,a,⟨j6,h1,e⟩=>by
  rw[zS]at b;exact⟨b.1,j6,c i _ _ h1,Al c b.2 e⟩
def Wd{o:Oper}{t:Nat}(h:Operand.tmp t∈(dg b_ o).1++fh b_ o):t∈eF b_ o:=by
 unfold eF
 grind
def T8 [C7](hN:DJ N B)(A:Jz N b_ ops=true){g9 m:St}(h:br C B b_ ops (range ops.size) g9 m)(O:JT b_ ops m.tmps (yL b_ ops)):eo C B b_ ops g9 m:=by
 simp only[Jz,vd]at A;obtain⟨g1,g2,g3,g4,g5,g6⟩:=A;have ap:∀i∈range ops.size,∃o,ops[i]?=some o/\Wb N b_ o=true:=by
  simp_all
 obtain⟨f,R⟩:=Lm hN (range ops.size) g9 m fu ap h;have ax:∀ {i:Nat} {o:Oper},ops[i]?=some o->i<ops.size:=λc=>(IG.1 c).1;have g:∀ {i:Nat} {o:Oper},ops[i]?=some o->i∈range ops.size:=λc=>Cm.2 (ax c);have hl:∀ {i:Nat} {o:Oper},ops[i]?=some o->ops.toList[i]?=some o:=λc=>by simpa using c
 have av:∀ {i:Nat} {o:Oper},ops[i]?=some o->∀x∈(dg b_ o).1++fh b_ o,jw m.tmps x=jw (f i).g9.tmps x:=by
  intro i o c x T;refine mr λt ht=>?_;subst ht;refine R.args i (g c) t λj hj an o' G I=>?_;have:=(yi g5 j o' (hl G) i o (by simpa using c)).1 a_;exact qW this t (Wd T) t I rfl
 have hF:∀ {i:Nat} {o:Oper},ops[i]?=some o->∀r∈EX b_ (jw (f i).g9.tmps) o,r∈w6 b_ m.tmps o:=by
  intro i o c r hr;unfold EX at hr;unfold w6
  grind
 have hW:∀ {i:Nat} {o:Oper},ops[i]?=some o->HS b_ m.tmps o->∀p∈(f i).ws,p.1∈TT b_ m.tmps o:=by
  intro i o c ag p hp;have K:=R.ok i (g c) o c;unfold Rec.ws at hp;unfold TT;rw[Gw];rcases Ek.1 hp with hp|hp
  .have:=K.wr p (by simpa using hp);unfold JO at this;obtain⟨x,T,hr⟩:=Gw.1 this;exact⟨x,Jq _ T,by rw[av c x (S5 _ T)];exact hr⟩
  .unfold Rec.slot at hp;split at hp
   next k q s z=>
    have hp:p=(k,q.1):=by simpa using hp
    subst hp;obtain⟨f1,f2,f3⟩:=K.fr q z;have L:DW b_ o=2:=by
     rcases tk (b_:=b_) o with u|u|u
     .rw[(Pv u).2.2]at f3;cases f3
     .rw[(Yx u).2]at f3;cases f3
     .exact u
    have al:o.dst.isSome=true:=by
     grind
    obtain⟨d,I⟩:=xT.1 al;obtain⟨v,hv⟩:=ag d I L;have Q:=R.res i (g c) o d v c I (λj hj an o' G ad=>by
     have:=(yi g5 j o' (hl G) i o (by simpa using c)).2 a_;rw[I,ad]at this;simp[bg]at this) hv
    refine⟨.tmp d,uq I L,?_⟩;have V:jw m.tmps (.tmp d)=v:=by simp[jw,List.getD_eq_getElem?_getD,hv]
    rw[V,Q];unfold Rec.val CZ.val;rw[s];simp only[z];rw[ML f1]
    simp_all
   .cases hp
 have a2:∀ {i:Nat} {o:Oper},ops[i]?=some o->DW b_ o≠2->(f i).ws=[]:=by
  intro i o c hc;have K:=R.ok i (g c) o c;have hw:fh b_ o=[]/\dv b_ o=false:=by
   rcases tk (b_:=b_) o with u|u|u
   .exact(Pv u).2
   .exact Yx u
   omega
  have X:(f i).e.set=none:=by
   cases hs:(f i).e.set with
   |none=>rfl
   |some p=>
    have:=K.wr p hs;unfold JO at this
    simp_all
  have Y:(f i).e.push=none:=by
   cases hs:(f i).e.push with
   |none=>rfl
   |some p=>have:=(K.fr p hs).2.2;simp_all
  unfold Rec.ws Rec.slot
  simp_all
 have ay:∀ {i:Nat} {o:Oper},DW b_ o=0->EX b_ (jw (f i).g9.tmps) o=[]:=by
  intro i o hc;unfold EX;rw[(Pv hc).1];rfl
 refine .inr ⟨λi=>if i<ops.size then(f i).k else none,m.heap.length - g9.heap.length,g3,?_,?_,λt=>?_⟩
 .intro i k s;simp only at s;split at s
  next c=>
   have:=R.slot i (Cm.2 c) k s;omega
  .cases s
 .intro i j k s y;simp only at s y;split at s
  next c=>
   split at y
   next hj=>
    exact R.inj i (Cm.2 c) j (Cm.2 hj) k s y
   .cases y
  .cases s
 have F:∀(i:Nat) o,ops[i]?=some o->∀e∈o.after.toList,Region.binds .any e=true->e.on<i:=by
  intro i o V e he w;have:=ep g1 i o (by simpa using V) e he w;omega
 have H:∀i k:Nat,i<ops.size->k<i->IH ops k i∨∀U s9 W:St,Nh N b_ ops f k U s9->Nh N b_ ops f i s9 W->∃j7,Nh N b_ ops f i U j7/\Nh N b_ ops f k j7 W:=by
  intro i k c aE;have w:ops[i]?=some ops[i]:=by simp[c]
  have E:ops[k]?=some (ops[k]'(by omega)):=kb;generalize ops[i]=b at w;generalize ops[k]'(by omega)=a at E;have z:=rM (pre:=[]) (i:=0) rfl g6 i b (by simpa using w) k a a_ (by simpa using E);rw[ER]at z;cases P:(List.getD (Fi ops.toList []) i 0).testBit k with
  |true=>exact .inl (oN ops.toList [] rfl (λi k h=>by simp at h) i k P)
  |false=>
   right;rw[P]at z;have z:=z.resolve_left c_;simp only[vd]at z;obtain⟨q1,q2⟩:=z;have d:(∀p∈(f k).ws,p.1∉EX b_ (jw (f i).g9.tmps) b)/\(∀p∈(f i).ws,p.1∉EX b_ (jw (f k).g9.tmps) a)/\(∀p∈(f k).ws,∀q∈(f i).ws,p.1≠q.1):=by
    cases n:ON b_ a b with
    |true=>
     have hm:=uN (b_:=b_) (ms:=Fi ops.toList []) (l:=ops.toList) (pre:=[]) (i:=0) rfl i b (by simpa using w) k a a_ (by simpa using E) kb n;rw[ER]at hm;obtain⟨a',b',r1,r2,s1,s2,s3,s4,s5⟩:=O (k,i) hm
     grind
    |false=>
     have n:Nat.ble 3 (DW b_ a+DW b_ b)=false:=by
      unfold ON at n
      simp_all
     have a0:¬3<=DW b_ a+DW b_ b:=λh=>by rw[DQ h]at n;cases n
     rcases tk (b_:=b_) a with X|X|X<;>rcases tk (b_:=b_) b with Y|Y|Y
     .simp_all
     .simp_all
     .simp_all
     .simp_all
     .simp_all
     .omega
     .simp_all
     .omega
     .omega
   rintro U s9 W ⟨a1,J,Z,rfl⟩ ⟨b1,h3,h4,rfl⟩;rw[E]at J;rw[w]at h3;cases J;cases h3;obtain⟨w1,w2,w3⟩:=g' (R.ok k (g E) a E) (R.ok i (g w) b w) q1 d.1 d.2.1 d.2.2 Z h4;exact⟨_,⟨b,w,w1,rfl⟩,⟨a,E,w2,w3⟩⟩
 have hz:EG ops.size (Array.replicate ops.size false)=range ops.size:=by
  unfold EG
  simp_all
 have D:=R.run m.heap.length (A9 _);have M:St.Dn m m.heap.length=m:=by
  unfold St.Dn St.pad
  simp_all
 rw[M]at D;obtain⟨r1,r2,_⟩:=yV (S:=Nh N b_ ops f) F H ops.size t (Array.replicate ops.size false) c_ (by rw[hz];simp) (λx o T V=>by
  simp_all) _ _ (by rw[hz];exact D)
 refine Al (λi U W hS=>?_) r2 r1;obtain⟨o,J,Z,rfl⟩:=hS;exact(R.ok i (g J) o J).step U Z _ kb
def Nt(k i:Nat):Gr [(k+1000,i)]=some (k,i):=by
 have a:Nat.ble 1000 (k+1000)=true:=DQ (Nat.le_add_left 1000 k);generalize c:k+1000=m at *;have b:m - 1000=k:=a_;unfold Gr;simp only[a,b]
def KS{a:List (Nat×Nat)}(h:VT N b_ ops=some a):∃l,Fm a=some l/\zk N b_ ops l=true:=by
 unfold VT at h;split at h
 next b=>
  cases h;exact⟨_,rfl,b⟩
 .cases h
def UR [C7]{C:m'}(g:∀f n,N f=some n->Ji N C f n=true)(j:∀f args H r H',C7.kh f args H r H'->N f=none∨(N f=some (2*args.length+1)/\H'=H)):NS C (ZX N):=by
 intro b_ ops z h;unfold ZX at h;split at h
 .split at h
  next a=>
   cases h;exact λn b m t o=>gb g j b_ ops a n b m t
  .split at h
   next x=>
    split at h
    next q=>
     cases h;obtain⟨k,i,s,a⟩:=LH x;have e:Gr z=some (k,i):=s▸Nt k i;rw[q];simp only;rw[e];exact λn b A D m c d u v=>T9 (rD g j n).1.1 a c d u v
    .cases h
   .obtain⟨l,e,a⟩:=KS h;rw[e];exact λn b m o c d=>J0 (rD g j n).1.1 a c d
 next p E w=>
  split at h
  next q y a=>
   cases h;rw[q];simp only;rw[y];exact λn b m t o=>T8 (rD g j n).1.1 a t (by rw[w];exact o)
  .obtain⟨l,e,a⟩:=KS h;rw[e];exact λn b m o c d=>J0 (rD g j n).1.1 a c d
end
end Sx
end Go.Am
namespace Go.Am
open Sx Go.Proofs
def q6:List (Nat×Nat):=[(61,6),(87,6),(25,4),(49,4),(62,4),(63,4),(24,4),(104,4),(85,2),(90,6),(65,4),(98,4),(99,4),(64,2),(66,2),(32,2),(81,2),(127,4),(100,2),(129,2),(40,4),(131,4),(105,4),(78,6),(37,2),(149,2),(79,4),(80,4),(155,6),(156,2),(157,2),(158,4),(140,4),(41,4),(162,2),(163,4),(170,2),(94,4),(128,2),(113,3),(151,2),(12,0),(110,7)]
def KO(l:List (Nat×Nat))(f:Nat):Ts:=match l with
 | []=>none
 |p :: l=>match Nat.beq p.1 f with
  |true=>some p.2
  |false=>KO l f
def Hg(f:TQ):Ts:=KO q6 f
def vC{f n:Nat}:∀ {l:List (Nat×Nat)},KO l f=some n->(f,n)∈l
 |p :: l,h=>by
  unfold KO at h;split at h
  next e=>
   cases h;have:=Dx e;subst this;exact Lk
  .exact E7 _ (vC h)
def V5:(q6.all λp=>Ji Hg cc p.1 p.2)=true:=d_
def V4(f n:Nat)(h:Hg f=some n):Ji Hg cc f n=true:=A_.1 V5 (f,n) (vC h)
def IC:Dr:=ZX Hg
def nF(k:Nat)(a:List An):Fn1:=fn1 cc.P k ((ac k).getD ⟨[],[]⟩) a
def iF {k:Nat} {g:Func} {a:List An} (h0:(xc k).C.P.funcs[k]?=some g) (h:(g.body,((g.name == "runtime.NumGoroutine")||(xc k).C.opq k),g.ntmps,g.results.toList,ac k)=(some (er (xc k) (nF k a).code),false,(nF k a).nt,(nF k a).rvs,some (nF k a).sg)):Gx (xc k) ac k (nF k a):=by
 simp only[Q7]at h;exact⟨⟨g,h0,h.1,h.2.1,h.2.2.1,h.2.2.2.1⟩,rfl,h.2.2.2.2⟩
abbrev x4(k:Nat)(a:List An):(R b:Type)->B_ R b->TG->b->(TG->b->R)->R:=λR b A ls h K=>aw A (xc k) ac IC (nF k a) ls h K
abbrev x7(k:Nat)(a:List An):Prop:=Gx (xc k) ac k (nF k a)
def i3:x7 3 an3:=iF Tryz.func3 d_
def i4:x7 4 an4:=iF Tryz.func4 d_
def i5:x7 5 an5:=iF Tryz.func5 d_
def i8:x7 8 an8:=iF Tryz.func8 d_
def i10:x7 10 an10:=iF Tryz.func10 d_
def i11:x7 11 an11:=iF Tryz.func11 d_
def i12:x7 12 an12:=iF Tryz.func12 d_
def i13:x7 13 an13:=iF Tryz.func13 d_
def i14:x7 14 an14:=iF Tryz.func14 d_
def i16:x7 16 an16:=iF Tryz.func16 d_
def i18:x7 18 an18:=iF Tryz.func18 d_
def i23:x7 23 an23:=iF Tryz.func23 d_
def i24:x7 24 an24:=iF Tryz.func24 d_
def i25:x7 25 an25:=iF Tryz.func25 d_
def i26:x7 26 an26:=iF Tryz.func26 d_
def i28:x7 28 an28:=iF Tryz.func28 d_
def i29:x7 29 an29:=iF Tryz.func29 d_
def i30:x7 30 an30:=iF Tryz.func30 d_
def i31:x7 31 an31:=iF Tryz.func31 d_
def i32:x7 32 an32:=iF Tryz.func32 d_
def i33:x7 33 an33:=iF Tryz.func33 d_
def i34:x7 34 an34:=iF Tryz.func34 d_
def i35:x7 35 an35:=iF Tryz.func35 d_
def i36:x7 36 an36:=iF Tryz.func36 d_
def i37:x7 37 an37:=iF Tryz.func37 d_
def i38:x7 38 an38:=iF Tryz.func38 d_
def i40:x7 40 an40:=iF Tryz.func40 d_
def i41:x7 41 an41:=iF Tryz.func41 d_
def i44:x7 44 an44:=iF Tryz.func44 d_
def i45:x7 45 an45:=iF Tryz.func45 d_
def i46:x7 46 an46:=iF Tryz.func46 d_
def i48:x7 48 an48:=iF Tryz.func48 d_
def i49:x7 49 an49:=iF Tryz.func49 d_
def i58:x7 58 an58:=iF Tryz.func58 d_
def i61:x7 61 an61:=iF Tryz.func61 d_
def i62:x7 62 an62:=iF Tryz.func62 d_
def i63:x7 63 an63:=iF Tryz.func63 d_
def i64:x7 64 an64:=iF Tryz.func64 d_
def i65:x7 65 an65:=iF Tryz.func65 d_
def i66:x7 66 an66:=iF Tryz.func66 d_
def i67:x7 67 an67:=iF Tryz.func67 d_
def i68:x7 68 an68:=iF Tryz.func68 d_
def i69:x7 69 an69:=iF Tryz.func69 d_
def i70:x7 70 an70:=iF Tryz.func70 d_
def i71:x7 71 an71:=iF Tryz.func71 d_
def i72:x7 72 an72:=iF Tryz.func72 d_
def i73:x7 73 an73:=iF Tryz.func73 d_
def i74:x7 74 an74:=iF Tryz.func74 d_
def i75:x7 75 an75:=iF Tryz.func75 d_
def i76:x7 76 an76:=iF Tryz.func76 d_
def i77:x7 77 an77:=iF Tryz.func77 d_
def i78:x7 78 an78:=iF Tryz.func78 d_
def i79:x7 79 an79:=iF Tryz.func79 d_
def i80:x7 80 an80:=iF Tryz.func80 d_
def i81:x7 81 an81:=iF Tryz.func81 d_
def i83:x7 83 an83:=iF Tryz.func83 d_
def i84:x7 84 an84:=iF Tryz.func84 d_
def i85:x7 85 an85:=iF Tryz.func85 d_
def i86:x7 86 an86:=iF Tryz.func86 d_
def i87:x7 87 an87:=iF Tryz.func87 d_
def i88:x7 88 an88:=iF Tryz.func88 d_
def i90:x7 90 an90:=iF Tryz.func90 d_
def i93:x7 93 an93:=iF Tryz.func93 d_
def i94:x7 94 an94:=iF Tryz.func94 d_
def i98:x7 98 an98:=iF Tryz.func98 d_
def i99:x7 99 an99:=iF Tryz.func99 d_
def i100:x7 100 XD:=iF Tryz.func100 d_
def i101:x7 101 XE:=iF Tryz.func101 d_
def i102:x7 102 XF:=iF Tryz.func102 d_
def i103:x7 103 XH:=iF Tryz.func103 d_
def i104:x7 104 XI:=iF Tryz.func104 d_
def i105:x7 105 XJ:=iF Tryz.func105 d_
def i106:x7 106 XK:=iF Tryz.func106 d_
def i107:x7 107 XL:=iF Tryz.func107 d_
def i108:x7 108 XM:=iF Tryz.func108 d_
def i109:x7 109 XN:=iF Tryz.func109 d_
def i110:x7 110 XO:=iF Tryz.func110 d_
def i111:x7 111 XP:=iF Tryz.func111 d_
def i112:x7 112 XQ:=iF Tryz.func112 d_
def i113:x7 113 XR:=iF Tryz.func113 d_
def i114:x7 114 XS:=iF Tryz.func114 d_
def i115:x7 115 XT:=iF Tryz.func115 d_
def i116:x7 116 XU:=iF Tryz.func116 d_
def i126:x7 126 XV:=iF Tryz.func126 d_
def i127:x7 127 XW:=iF Tryz.func127 d_
def i128:x7 128 XX:=iF Tryz.func128 d_
def i129:x7 129 XY:=iF Tryz.func129 d_
def i130:x7 130 XZ:=iF Tryz.func130 d_
def i131:x7 131 X0:=iF Tryz.func131 d_
def i132:x7 132 X1:=iF Tryz.func132 d_
def i140:x7 140 X2:=iF Tryz.func140 d_
def i141:x7 141 X3:=iF Tryz.func141 d_
def i142:x7 142 X4:=iF Tryz.func142 d_
def i143:x7 143 X5:=iF Tryz.func143 d_
def i149:x7 149 X6:=iF Tryz.func149 d_
def i150:x7 150 X7:=iF Tryz.func150 d_
def i151:x7 151 X8:=iF Tryz.func151 d_
def i152:x7 152 X9:=iF Tryz.func152 d_
def i153:x7 153 X_:=iF Tryz.func153 d_
def i154:x7 154 X':=iF Tryz.func154 d_
def i155:x7 155 Ya:=iF Tryz.func155 d_
def i156:x7 156 Yb:=iF Tryz.func156 d_
def i157:x7 157 Yc:=iF Tryz.func157 d_
def i158:x7 158 Yd:=iF Tryz.func158 d_
def i162:x7 162 Ye:=iF Tryz.func162 d_
def i163:x7 163 Yf:=iF Tryz.func163 d_
def i164:x7 164 Yg:=iF Tryz.func164 d_
def i166:x7 166 Yh:=iF Tryz.func166 d_
def i167:x7 167 Yi:=iF Tryz.func167 d_
def i168:x7 168 Yj:=iF Tryz.func168 d_
def i170:x7 170 Yk:=iF Tryz.func170 d_
def i171:x7 171 Ym:=iF Tryz.func171 d_
def i172:x7 172 Yn:=iF Tryz.func172 d_
def e4:@f4=x4 4 an4:=d_
def e13:@f13=x4 13 an13:=d_
def e25:@f25=x4 25 an25:=d_
def e29:@f29=x4 29 an29:=d_
def e37:@f37=x4 37 an37:=d_
def e48:@f48=x4 48 an48:=d_
def e61:@f61=x4 61 an61:=d_
def e65:@f65=x4 65 an65:=d_
def e76:@f76=x4 76 an76:=d_
def e77:@f77=x4 77 an77:=d_
def e87:@f87=x4 87 an87:=d_
def e94:@f94=x4 94 an94:=d_
def e107:@Vc=x4 107 XL:=d_
def e114:@Sz=x4 114 XS:=d_
def e129:@GT=x4 129 XY:=d_
def e163:@SH=x4 163 Yf:=d_
def e170:@SJ=x4 170 Yk:=d_
def e172:@SM=x4 172 Yn:=d_
def e30:@f30=x4 30 an30:=d_
def e35:@f35=x4 35 an35:=d_
def e45:@f45=x4 45 an45:=d_
def e46:@f46=x4 46 an46:=d_
def e68:@f68=x4 68 an68:=d_
def e74:@f74=x4 74 an74:=d_
def e78:@f78=x4 78 an78:=d_
def e101:@Sq=x4 101 XE:=d_
def e104:@Sr=x4 104 XI:=d_
def e109:@Vd=x4 109 XN:=d_
def e128:@SC=x4 128 XX:=d_
def e131:@Se=x4 131 X0:=d_
def e141:@Vh=x4 141 X3:=d_
def e150:@Vk=x4 150 X7:=d_
def e18:@f18=x4 18 an18:=d_
def e36:@f36=x4 36 an36:=d_
def e44:@f44=x4 44 an44:=d_
def e62:@f62=x4 62 an62:=d_
def e66:@f66=x4 66 an66:=d_
def e67:@f67=x4 67 an67:=d_
def e79:@f79=x4 79 an79:=d_
def e99:@f99=x4 99 an99:=d_
def e102:@f102=x4 102 XF:=d_
def e105:@Ss=x4 105 XJ:=d_
def e111:@Sv=x4 111 XP:=d_
def e112:@Sw=x4 112 XQ:=d_
def e115:@SA=x4 115 XT:=d_
def e116:@Vf=x4 116 XU:=d_
def e126:@f126=x4 126 XV:=d_
def e127:@SB=x4 127 XW:=d_
def e130:@Vg=x4 130 XZ:=d_
def e140:@SD=x4 140 X2:=d_
def e142:@Vi=x4 142 X4:=d_
def e149:@Sf=x4 149 X6:=d_
def e152:@Vl=x4 152 X9:=d_
def e162:@SG=x4 162 Ye:=d_
def e3:@f3=x4 3 an3:=d_
def e5:@f5=x4 5 an5:=d_
def e8:@f8=x4 8 an8:=d_
def e26:@f26=x4 26 an26:=d_
def e31:@f31=x4 31 an31:=d_
def e41:@f41=x4 41 an41:=d_
def e58:@f58=x4 58 an58:=d_
def e71:@f71=x4 71 an71:=d_
def e72:@f72=x4 72 an72:=d_
def e83:@f83=x4 83 an83:=d_
def e84:@f84=x4 84 an84:=d_
def e90:@f90=x4 90 an90:=d_
def e93:@f93=x4 93 an93:=d_
def e100:@Sp=x4 100 XD:=d_
def e103:@Va=x4 103 XH:=d_
def e155:@SF=x4 155 Ya:=d_
def e156:@Si=x4 156 Yb:=d_
def e164:@Vm=x4 164 Yg:=d_
def e12:@f12=x4 12 an12:=d_
def e24:@f24=x4 24 an24:=d_
def e38:@Yt=x4 38 an38:=d_
def e49:@f49=x4 49 an49:=d_
def e69:@f69=x4 69 an69:=d_
def e70:@f70=x4 70 an70:=d_
def e73:@f73=x4 73 an73:=d_
def e81:@f81=x4 81 an81:=d_
def e86:@f86=x4 86 an86:=d_
def e106:@Vb=x4 106 XK:=d_
def e110:@Ve=x4 110 XO:=d_
def e113:@Sy=x4 113 XR:=d_
def e132:@f132=x4 132 X1:=d_
def e166:@f166=x4 166 Yh:=d_
def e168:@SI=x4 168 Yj:=d_
def e171:@Vn=x4 171 Ym:=d_
def e10:@f10=x4 10 an10:=d_
def e11:@f11=x4 11 an11:=d_
def e14:@f14=x4 14 an14:=d_
def e16:@f16=x4 16 an16:=d_
def e23:@f23=x4 23 an23:=d_
def e28:@f28=x4 28 an28:=d_
def e32:@f32=x4 32 an32:=d_
def e33:@f33=x4 33 an33:=d_
def e34:@f34=x4 34 an34:=d_
def e40:@f40=x4 40 an40:=d_
def e63:@f63=x4 63 an63:=d_
def e64:@f64=x4 64 an64:=d_
def e75:@f75=x4 75 an75:=d_
def e80:@f80=x4 80 an80:=d_
def e85:@f85=x4 85 an85:=d_
def e88:@f88=x4 88 an88:=d_
def e98:@f98=x4 98 an98:=d_
def e108:@Su=x4 108 XM:=d_
def e143:@Vj=x4 143 X5:=d_
def e151:@f151=x4 151 X8:=d_
def e153:@f153=x4 153 X_:=d_
def e154:@SE=x4 154 X':=d_
def e157:@f157=x4 157 Yc:=d_
def e158:@f158=x4 158 Yd:=d_
def e167:@f167=x4 167 Yi:=d_
end Go.Am
namespace Go.Am
namespace Sx
def NQ(P:TI)(a:TP->DataW Unit->Option (Tn)):List (Nat×TypeId)->List (DataW Unit)->Nat->Option (Tn)
 | [],[],_=>some []
 |(o,t) :: l,d :: ds,off=>match Nat.beq o off,a t d with
  |true,some v=>match Nat.beq v.length (P.cellsOf t),NQ P a l ds (off+v.length)with
   |true,some vs=>some (v++vs)
   |_,_=>none
  |_,_=>none
 |_,_,_=>none
def g0(P:TI):Nat->TP->DataW Unit->Option (Tn)
 |0,_,_=>none
 |a+1,t,d=>match P.underlying t,d with
  |some .bool,.lit (.bool b)=>some [.bool b]
  |some (.int k),.lit (.int _ n)=>some [.int k n]
  |some (.struct c),.agg ds=>match NQ P (g0 P a) (c.toList.map λf=>(f.offset,f.type)) ds 0 with
   |some vs=>if vs.length=P.cellsOf t then some vs else none
   |none=>none
  |some (.array n e),.agg ds=>match NQ P (g0 P a) ((range n).map λi=>(i*P.cellsOf e,e)) ds 0 with
   |some vs=>if vs.length=P.cellsOf t then some vs else none
   |none=>none
  |_,_=>none
section
variable {P:TI} {w:TS} {base:Nat} {spare:Tx} {held:Bool} {enc:TypeId×Value->Unit}
def Jx{g:TP->DataW Unit->Option (Tn)}{fuel:Nat}(c:∀t d vs,g t d=some vs->∀cs p,DataW.trod enc P w base spare held fuel t cs=some (d,p)->cs=vs){i7:Type}(o:i7->Nat)(ty:i7->TP)(cs:Tn) :
  ∀(l:List i7) (xs:List (DataW Unit×List MemPlace)) (off:Nat) (vs:Tn),l.mapM (λa=>DataW.trod enc P w base spare held fuel (ty a) ((cs.drop (o a)).take (P.cellsOf (ty a))))=some xs->
   NQ P g (l.map λa=>(o a,ty a)) (xs.map (·.1)) off=some vs->(cs.drop off).take vs.length=vs
 | [],xs,off,vs,h1,b=>by
  simp only[b1,g4,FU]at h1;subst h1;simp only[Il,NQ,FU]at b;subst b;simp
 |a :: l,xs,off,vs,h1,b=>by
  rw[WL]at h1;obtain⟨x,i,h1⟩:=EE.1 h1;obtain⟨m,j,h1⟩:=EE.1 h1;cases h1;simp only[DD,NQ]at b;split at b
  next v e h=>
   split at b
   next n e3 e4=>
    cases b;have e:=Dx e;have e3:=Dx e3;have f:=c _ _ _ h _ _ i;have k:=Jx c o ty cs l m _ _ j e4;rw[e,←e3]at f;rw[Gv,bm,f,n5];rw[k]
   .cases b
  .cases b
def R6:∀(l:Nat) (t:TP) (d:DataW Unit) (vs:Tn),g0 P l t d=some vs->∀(fuel:Nat) (cs:Tn) (p:List MemPlace),DataW.trod enc P w base spare held fuel t cs=some (d,p)->cs=vs
 |0,_,_,_,h=>by cases h
 |l+1,t,d,vs,h=>by
  intro fuel cs p a;cases fuel with
  |zero=>simp[DataW.trod]at a
  |succ fuel=>
   have j:∀t d vs,g0 P l t d=some vs->∀cs p,DataW.trod enc P w base spare held fuel t cs=some (d,p)->cs=vs:=λt d vs h cs p=>R6 l t d vs h fuel cs p;simp only[g0]at h;split at h
   next b e=>
    cases h;simp only[DataW.trod,e]at a
    grind
   next k v n e=>
    cases h;simp only[DataW.trod,e]at a
    grind
   next u r e=>
    split at h
    next s c=>
     split at h
     next e3=>
      cases h;simp only[DataW.trod,e]at a;split at a
      next e4=>
       obtain⟨o,m,g⟩:=DC.1 a;simp only[Q7,DataW.agg.injEq]at g;rw[←g.1]at c;have:=Jx j (λf:Field=>f.offset) (λf:Field=>f.type) cs _ o 0 _ m c
       grind
      .cases a
     .cases h
    .cases h
   next n q r e=>
    split at h
    next s c=>
     split at h
     next e3=>
      cases h;simp only[DataW.trod,e]at a;split at a
      next e4=>
       obtain⟨o,m,g⟩:=DC.1 a;simp only[Q7,DataW.agg.injEq]at g;rw[←g.1]at c;have:=Jx j (λi=>i*P.cellsOf q) (λ_=>q) cs _ o 0 _ m c
       grind
      .cases a
     .cases h
    .cases h
   .cases h
end
section
variable [Co]
def vj [Dw]{W:TS}{g:Nat}{vs:Tn}(h0:Nat.blt g gB=true)(h1:vs.all bh=true)(f:vs.all flat=true)(h:∃c e fr,W.heap[g]?=some (.cells c e fr)/\c.toList=vs) :
  Eo g<W.heap.size/\vs.all bh=true/\∃c e fr,W.heap[Eo g]?=some (.cells c e fr)/\cD (λ_=>none) vs c (Fz g):=by
 obtain⟨c,e,fr,a,j⟩:=h;rw[Kr h0,Kt h0];refine⟨(IG.1 a).1,h1,c,e,fr,a,.FQ ?_⟩;rw[j];exact⟨rfl,λi x y b d=>by rw[b]at d;cases d;exact .of_flat (A_.1 f x (Cf b))⟩
end
end Sx
namespace Sx
open Go.ChangeShapes Go.WideShapes Go.ChangeAt Go.WideMaps Go.WideElems Go.RowKit
def VF{W a:TS}(h1:a.os=W.os)(d:a.output=W.output)(e:∀b,b<W.heap.size->a.heap[b]?=W.heap[b]?)(c:MemPlace->Prop):W.keptBut a c:=by
 refine⟨h1,d,λi f=>?_⟩
 grind
def rr{P:TI}{w:TS}{a:List (String×DataW Unit)}{m:List MemPlace}(h:DataW.LaidVars P w a m):∀n d,(n,d)∈a->∀g t b vs,P.globalNamed n=some g->(P.globals[g]?).map (·.type)=some t->g0 P b t d=some vs->
  ∃c e fr,w.heap[g]?=some (.cells c e fr)/\c.toList=vs:=by
 induction a generalizing m with
 |nil=>intro n d h;cases h
 |cons x l E=>
  obtain⟨F,B⟩:=x;obtain⟨C,G,A,j,p,q,o,r,s,u,y,z⟩:=h;intro n d k g t b vs f i v;rcases DB.1 k with e|k
  .cases e;rw[o]at f;cases f;rw[r]at i;cases i;have D:=R6 b _ _ vs v _ _ _ u;unfold World.var? at s
   grind
  grind
section
variable [Co] [C7]
def T6{t:Bool}(h:ax t=r9):t=true:=by cases t;cases h;rfl
end
end Sx
namespace Sx
section
variable [Co] [C7]
def Yq(b:Bool)(x y:Prop):Prop:=(b=true->x)/\(b=false->y)
abbrev _root_.Tw:=Int->Prop
def Ua(op:BinOp)(k:TL)(a b:Int)(K:Tw):Prop:=
 match op with
 | .add=>K (k.wrap (a+b))
 | .sub=>K (k.wrap (a - b))
 | .mul=>K (k.wrap (a*b))
 | .quo=>b≠0/\K (k.wrap (a.tdiv b))
 | .rem=>b≠0/\K (a.tmod b)
 | .and=>(b=1/\K (a%2))∨(b≠1/\∃n,sn .and k a b n/\K n)
 |op=>∃n,sn op k a b n/\K n
abbrev _root_.Tp:=Bool->Prop
def UK(c:BinOp)(a b:Int)(K:Tp):Prop:=
 match c with
 | .eql=>K (a==b)
 | .neq=>K (a != b)
 | .lss=>K (decide (a<b))
 | .leq=>K (decide (a<=b))
 | .gtr=>K (decide (a > b))
 | .geq=>K (decide (a ≥ b))
 |_=>False
def dB{i7:Type}(o:Option i7)(K:i7->Prop):Prop:=∃x,o=some x/\K x
def ce(ls:TG)(K:Int->TG->Prop):Prop:=match ls with | .i n :: r=>K n r|_=>False
def cq(ls:TG)(K:Bool->TG->Prop):Prop:=match ls with | .b n :: r=>K n r|_=>False
def z0(ls:TG)(K:Value->TG->Prop):Prop:=match ls with | .v n :: r=>K n r|_=>False
def cp(ls:TG)(K:Prop):Prop:=match ls with | []=>K|_=>False
def cb(k:TL)(ls:Tn)(K:Int->Tn->Prop):Prop:=match ls with | .int k' n :: r=>k=k'/\K n r|_=>False
def w3(ls:Tn)(K:Bool->Tn->Prop):Prop:=match ls with | .bool n :: r=>K n r|_=>False
abbrev _root_.Ta:=Value->Tn->Prop
def cm(ls:Tn)(K:Ta):Prop:=match ls with|n :: r=>K n r|_=>False
def w2(ls:Tn)(K:Prop):Prop:=match ls with | []=>K|_=>False
def o'(h:Tu):cQ:=λi=>h[i]?
abbrev _root_.Tf:=List Value->Prop
def m3(f:Pk)(h:Tu)(K:Tf):Prop:=∃cs,f.run (o' h)=some cs/\K cs
def d5(f:Hp)(h:Tu)(K:Tn->Tu->Prop):Prop:=∃a cs,f.run (o' h) h.length=some (a,cs)/\K cs (ii h a)
def g8(C:m')(Sg:Td)(g:TQ)(ls:TG)(h:Tu)(K:TG->Tu->Prop):Prop:=∃a h',aA C Sg g ls h a h'/\K a h'
def ZK(C:m')(v:Value)(args:Tn)(b:TN)(h:Tu)(K:TG->Tu->Prop):Prop:=∃a h',wu C v args b h a h'/\K a h'
def itP(F:(TG->Tu->Prop)->TG->Tu->Prop)(n:Nat):TG->Tu->Prop:=
 match n with
 |0=>λ_ _=>False
 |n+1=>F (itP F n)
def G'(F:(TG->Tu->Prop)->TG->Tu->Prop)(ls:TG)(h:Tu):Prop:=∃n,itP F n ls h
def v2(C:m')(T:Tv)(d:Nat)(v:Value)(a:Tn)(h:Tu)(K:Tm->Tu->Prop):Prop:=
 ∃g first cap r c b,v = .func (.func g) first cap/\
  jF C g (first.toList++[.func (.yield h.length) #[] #[]]++cap.toList) (h++[.loop (Er (T d) d a)]) r c/\
  eI c h.length=some b/\b.state≠.busy/\K b.pending (c.set h.length (.loop { b with state:=.exhausted }))
def Lb(c:Tm)(a b:Prop)(ks:List (Nat×Prop)):Prop:=
 match c with
 |none=>a
 |some .ret=>b
 |some (.exit id)=>∃x,(id,x)∈ks/\x
 |_=>False
def lp1P(l:Nat)(h:Tu)(K:Tu->Prop):Prop:=∃a,eI h l=some a/\a.state = .ready/\K (h.set l (.loop { a with state:=.busy }))
def lp2P(l:Nat)(j:Tm)(h:Tu)(K:Tu->Prop):Prop:=∃a,eI h l=some a/\K (h.set l (.loop { a with state:=if j.isNone then .ready else .done,pending:=j }))
def PA(C:m')(Sg:Td)(T:Tv):B_ Prop (Tu) where
 fail:=False
 cond:=Yq
 z_:=Ua
 FK:=λd k a c b K=>∃n,JU d k a c b n/\K n
 cmp:=UK
 eqs:=λl K=>K (cj l)
 conv:=λk a K=>K (k.wrap a)
 Gq:=λt a b K=>K (if t then a else b)
 j_:=dB
 nC:=λv K=>aF v=true/\K
 pu:=ce
 D9:=cq
 Ci:=z0
 w_:=cp
 td:=cb
 D1:=w3
 BM:=cm
 v9:=w2
 my:=m3
 heap:=d5
 new:=λo h K=>K h.length (h++[o])
 call:=g8 C Sg
 BO:=ZK C
 join:=λb m=>m b
 loop:=G'
 Ei:=v2 C T
 DZ:=Lb
 H7:=lp1P
 Gt:=lp2P
def gH(C:m')(Sg:Td)(T:Tv):qs (PA C Sg T) C Sg T id id where
 fail:=λh=>h
 cond:=by
  intro b x y h;cases b
  .exact .inr ⟨rfl,h.2 rfl⟩
  .exact .inl ⟨rfl,h.1 rfl⟩
 z_:=by
  intro e k a b K h;have h:Ua e k a b K:=h;cases e<;>simp only[Ua]at h
  .exact⟨_,λP t w=>by simp[binOp,Op.intArith],h⟩
  .exact⟨_,λP t w=>by simp[binOp,Op.intArith],h⟩
  .exact⟨_,λP t w=>by simp[binOp,Op.intArith],h⟩
  .obtain⟨u,h⟩:=h;exact⟨_,λP t w=>by simp[binOp,Op.intDiv,u],h⟩
  .obtain⟨u,h⟩:=h;exact⟨_,λP t w=>by simp[binOp,Op.intDiv,u],h⟩
  .rcases h with⟨rfl,H⟩|⟨_,n,q,s⟩
   .exact⟨_,qi rfl,H⟩
   grind
  all_goals exact h
 FK:=λe k a A b K h=>h
 cmp:=by
  intro e a b K h;have h:UK e a b K:=h;cases e<;>simp only[UK]at h<;>exact⟨_,rfl,h⟩
 eqs:=λl K h=>h
 conv:=λk a K h=>h
 Gq:=λt a b K h=>h
 j_:=λo K h=>h
 nC:=λv K h=>h
 pu:=by
  intro d K h
  match d,h with
  | .i n :: r,h=>exact⟨n,r,rfl,h⟩
 D9:=by
  intro d K h
  match d,h with
  | .b n :: r,h=>exact⟨n,r,rfl,h⟩
 Ci:=by
  intro d K h
  match d,h with
  | .v n :: r,h=>exact⟨n,r,rfl,h⟩
 w_:=by
  intro d K h
  match d,h with
  | [],h=>exact⟨rfl,h⟩
 td:=by
  intro k d K h
  match d,h with
  | .int A n :: r,h=>
   obtain⟨rfl,h⟩ : k=A/\K n r:=h
   grind
 D1:=by
  intro d K h
  match d,h with
  | .bool n :: r,h=>exact⟨n,r,rfl,h⟩
 BM:=by
  intro d K h
  match d,h with
  |n :: r,h=>exact⟨n,r,rfl,h⟩
 v9:=by
  intro d K h
  match d,h with
  | [],h=>exact⟨rfl,h⟩
 my:=λf h K c=>c
 heap:=by
  intro f h K c;obtain⟨p,G,q,s⟩:=c;exact⟨p,G,_,q,rfl,s⟩
 new:=λo h K c=>⟨_,rfl,c⟩
 call:=λg d h K c=>c
 BO:=λv z S h K c=>c
 join:=λb m h=>h
 loop:=by
  intro F d h c;obtain⟨n,c⟩:=c;exact⟨itP F,λd h=>(id:False->False),λn d h=>rfl,n,c⟩
 Ei:=by
  intro U v D h K c;obtain⟨g,first,E,r,O,B,q,s,I,Q,R⟩:=c
  grind
 DZ:=by
  intro N J L M h;have h:Lb N J L M:=h;unfold Lb at h
  grind
 H7:=by
  intro l h K c;obtain⟨B,q,s,I⟩:=c
  simp_all
 Gt:=by
  intro l j h K c;obtain⟨B,q,s⟩:=c
  simp_all
def SL.E6{l:SL}{k:LK}(h:l.is k=true)(a:k.plain=true):scalar l.val=true:=by
 cases l<;>cases k<;>first|(cases a;done)|(cases h;done)|rfl
def mR:∀ {cs:List SL} {ks:TJ},aT cs ks=true->ks.all LK.plain=true->(cs.map SL.val).all scalar=true
 | [],[],_,_=>rfl
 |c :: cs,k :: ks,h,a=>by
  simp only[aT,vd]at h;simp only[S4,vd]at a;simp only[DD,S4,vd];exact⟨SL.E6 h.1 a.1,mR h.2 a.2⟩
 | [],_ :: _,h,_=>by cases h
 |_ :: _,[],h,_=>by cases h
def S0.Ih{x:S0}{k:SK}(h:x.is k=true)(a:k.plain=true):gl x.val=true:=by
 cases x with
 |leaf l=>
  cases k with
  |leaf k=>
   have:=SL.E6 h a;show gl l.val=true;cases b:l.val<;>rw[b]at this<;>first|exact this|cases this
  |agg _=>cases h
 |agg c=>
  cases k with
  |leaf k=>cases h
  |agg d=>exact mR h a
def kT{v:TR}(h:gl v=true):flat v=true:=by
 cases v<;>first|exact h|cases h
def jQ:∀ {xs:List S0} {sks:TN},bW xs sks=true->sks.all SK.plain=true->(aj xs).all gl=true
 | [],[],_,_=>rfl
 |x :: xs,k :: ks,h,a=>by
  simp only[bW,vd]at h;simp only[S4,vd]at a;simp only[aj,DD,S4,vd];exact⟨S0.Ih h.1 a.1,jQ h.2 a.2⟩
 | [],_ :: _,h,_=>by cases h
 |_ :: _,[],h,_=>by cases h
def AF{xs:List S0}{sks:TN}(h:bW xs sks=true)(a:sks.all SK.plain=true):(aj xs).all flat=true:=by
 have:=jQ h a;rw[A_]at this ⊢;exact λv b=>kT (this v b)
def Bm{vs:Tn}(h:vs.all gl=true):flat (fQ vs)=true:=by
 match vs,h with
 | [],_=>rfl
 | [v],h=>
  simp only[S4,List.all_nil,qdr]at h;exact kT h
 |a :: b :: l,h=>
  show flat (.tuple (a :: b :: l).toArray)=true;simp only[flat,vd];exact⟨c_,h⟩
end
@[reducible] def KnoC (C:m') (N:Tc) [Co]:C7:=⟨λf args r=>∀H,dG C f args H r H,λf args H r H'=>(N f=none∨(N f=some (2*args.length+1)/\H'=H))/\dG C f args H r H'⟩
section
variable [Co]
def Ct(C:m')(N:Tc)(Sg:Td)(g:TQ)(ls a:TG):Prop:=let _:C7:=KnoC C N;∀H,aA C Sg g ls H a H
def qt{C:m'}{N:Tc}(a:C.P.follows .mixedOrders=true){f:TQ}{args:Tn}{H:Tu}{r:TR}{H':Tu}(h:let _:C7:=KnoC C N;jF C f args H r H'):dG C f args H r H':=
 @R5 _ _ (KnoC C N) a (λ_ _ _ h=>h) (λ_ _ _ _ _ h=>h.2) _ _ _ _ _ h
def Yr{C:m'}{N:Tc}{Sg:Td}(l:C.P.follows .mixedOrders=true)(j:∀g vs,C.G g=some vs->vs.all Kw=true){g:TQ}{sg:GN}(e:Sg g=some sg)(a:sg.plain=true){ls f:TG}{H':Tu}
  (h:let _:C7:=KnoC C N;aA C Sg g ls [] f H'):Ct C N Sg g ls f:=by
 let _:C7:=KnoC C N
 obtain⟨n,o,p,b,c,d,i⟩:=h;rw[e]at b;cases b;simp only[GN.plain,vd]at a;have k:=AF c.1 a.1;have m:=Bm (jQ d.1 a.2);intro H;exact⟨sg,o,p,e,c,d,⟨0,.inl ⟨λH=>Pn j (qt l i) k m H,rfl⟩⟩⟩
end
section
variable [Co] [C7]
def de{n:Int}(h1:-9223372036854775808<=n)(a:n<=9223372036854775807):IntKind.wrap .i64 n=n:=by
 simp only[IntKind.wrap,IntKind.bits,IntKind.signed,Bool.true_and,ge_iff_le,EP];omega
def ur{n:Int}(h1:0<=n)(a:n<=255):IntKind.wrap .u8 n=n:=by
 simp only[IntKind.wrap,IntKind.bits,IntKind.signed,Bool.false_and,D7,if_false];omega
end
end Sx
namespace Sx
section
variable [Co]
abbrev _root_.TF:=Nat->Nat
def Hl(g9:TF)(v:Value):Value:=match v with
 | .slice (some a) b c=>.slice (some ⟨g9 a.block,a.off,a.spot⟩) b c
 |v=>v
def nM(g9:TF):SL->SL
 | .v x=>.v (Hl g9 x)
 |s=>s
def EQ(g9:TF):S0->S0
 | .leaf l=>.leaf (nM g9 l)
 | .agg cs=>.agg (cs.map (nM g9))
def FJ(g9:TF):Lf->Lf
 | .v x=>.v (Hl g9 x)
 |l=>l
def a8(n:Nat)(v:Value):Prop:=(flat v=true/\∀g9,Hl g9 v=v)∨∃j off len cx e,j<n/\v = .slice (some ⟨j,off,le e⟩) len cx
def G2(n:Nat):Lf->Prop
 | .v x=>a8 n x
 |_=>True
def o7 [Dw]{n:Nat}{g9:TF}{mu a:ke}(b:∀j,j<n->a j=mu (g9 j)){v c:TR}(p:a8 n v)(h:VR y8 mu (Hl g9 v) c):VR y8 a v c:=by
 rcases p with⟨i,m⟩|⟨j,f,d,l,e,o,rfl⟩
 .rw[m]at h;rw[dt i h];exact .of_flat i
 .have h:VR y8 mu (.slice (some ⟨g9 j,f,le e⟩) d l) c:=h;generalize k:le e=t at h ⊢;cases h with
  |x3 g r s u=>exact .x3 ((b j o).trans g) r s u
  |u_ g=>exact .u_ g
  |Cu _=>simp[le]at k
  |y9=>simp[le]at k
  |scalar q=>simp[scalar]at q
def wl{g9:TF}(l:SL)(k:LK):(nM g9 l).is k=l.is k:=by cases l<;>cases k<;>rfl
def uy{g9:TF}:∀(cs:List SL) (ks:TJ),aT (cs.map (nM g9)) ks=aT cs ks
 | [],[]=>rfl
 | [],_ :: _=>rfl
 |_ :: _,[]=>rfl
 |c :: cs,k :: ks=>by simp only[DD,aT,wl,uy cs ks]
def Ca{g9:TF}(x:S0)(k:SK):(EQ g9 x).is k=x.is k:=by
 cases x<;>cases k<;>first|rfl|exact wl _ _|exact uy _ _
def oO{g9:TF}:∀(xs:List S0) (ks:TN),bW (xs.map (EQ g9)) ks=bW xs ks
 | [],[]=>rfl
 | [],_ :: _=>rfl
 |_ :: _,[]=>rfl
 |x :: xs,k :: ks=>by simp only[DD,bW,Ca,oO xs ks]
def hQ{g9:TF}(l:SL):(nM g9 l).lf=FJ g9 l.lf:=by cases l<;>rfl
def uE{g9:TF}(x:S0):(EQ g9 x).cells=x.cells.map (nM g9):=by cases x<;>rfl
def pP{g9:TF}:∀(xs:List S0),bX (xs.map (EQ g9))=(bX xs).map (FJ g9)
 | []=>rfl
 |x :: xs=>by
  simp only[DD,bX,Ij,pP xs,uE,Q8]
  congr 1
  exact WN λl _=>hQ l
def Pr{g9:TF}{l:SL}(h:l.i_):(nM g9 l).i_:=by
 cases l with
 |v x=>
  show aF (Hl g9 x)=true;have h:aF x=true:=h;unfold Hl;split
  .simpa[aF,n_,aS,bB,bi,aO,aH]using h
  .exact h
 |_=>exact h
def Zc [Dw]{n:Nat}{g9:TF}{mu d:ke}(e:∀j,j<n->d j=mu (g9 j)){l:SL}{c:TR}(f:G2 n l.lf)(h:VR y8 mu (nM g9 l).val c):VR y8 d l.val c:=by
 cases l with
 |v x=>exact o7 e f h
 |i k m=>
  have a:flat (Value.int k m)=true:=rfl;have h:VR y8 mu (.int k m) c:=h;rw[dt a h];exact .of_flat a
 |b t=>
  have a:flat (Value.bool t)=true:=rfl;have h:VR y8 mu (.bool t) c:=h;rw[dt a h];exact .of_flat a
 |l t=>
  have a:flat (Value.bool t)=true:=rfl;have h:VR y8 mu (.bool t) c:=h;rw[dt a h];exact .of_flat a
def b9 [Dw]{n:Nat}{g9:TF}{mu f:ke}(d:∀j,j<n->f j=mu (g9 j)){x:S0}{c:TR}(m:∀l∈x.cells,G2 n l.lf)(h:VR y8 mu (EQ g9 x).val c):VR y8 f x.val c:=by
 cases x with
 |leaf l=>exact Zc d (m l (by simp[S0.cells])) h
 |agg g=>
  have h:VR y8 mu (.agg ⟨(g.map (nM g9)).map SL.val⟩) c:=h;generalize o:(⟨(g.map (nM g9)).map SL.val⟩ : Array Value)=a at h;cases h with
  |scalar q=>simp[scalar]at q
  |agg p h=>
   subst o;refine .agg (by simpa using p) λi x y k r=>?_;have b:(g.map SL.val)[i]?=some x:=by simpa using k
   rw[Ew]at b;cases e:g[i]? with
   |none=>rw[e]at b;cases b
   |some l=>
    rw[e]at b;cases b;exact Zc d (m l (Cf e)) (h i _ y (by simp[e]) r)
def Xq [Dw]{n:Nat}{g9:TF}{mu b:ke}(c:∀j,j<n->b j=mu (g9 j)){xs:List S0}{cs:Tn}(d:∀x∈xs,∀l∈x.cells,G2 n l.lf)(h:u9 y8 mu (aj (xs.map (EQ g9))) cs):u9 y8 b (aj xs) cs:=by
 refine⟨by simpa[aj]using h.1,λi x y a f=>?_⟩;unfold aj at a;rw[Ew]at a;cases e:xs[i]? with
 |none=>rw[e]at a;cases a
 |some s=>
  rw[e]at a;cases a;exact b9 c (d s (Cf e)) (h.2 i _ y (by simp[aj,e]) f)
def vA{xs:List S0}{x:S0}{l:SL}(a:x∈xs)(c:l∈x.cells):l.lf∈bX xs:=by
 induction xs with
 |nil=>cases a
 |cons y b d=>
  show l.lf∈y.cells.map SL.lf++bX b
  grind
end
end Sx
end Go.Am
namespace Go.Am
open Sx
abbrev FB:=List Lf->x_->(TG->x_->RT)->RT
def nf:FB:=λ_ _ _=>none
def Ht(a:TG)(_:x_):RT:=tM a λa=>some a
def VV(g:FB):FB:=λa h K=>tM a λa=>@Option.rec _ (λ_=>RT) none (λb=>K b h) (g a .empty Ht)
section
variable {Sg:Td} {T:Tv} {call:fW}
end
section
variable [Co] [C7]
def U0(a:TG):TG->Bool:=@List.rec _ (λ_=>TG->Bool) (λb=>@List.rec _ (λ_=>Bool) true (λ_ _ _=>false) b) (λx _ c b=>@List.rec _ (λ_=>Bool) false (λy m _=>@Bool.rec (λ_=>Bool) false (c m) (I4 x y)) b) a
def AQ{x y:Lf}(h:I4 x y=true):x=y:=by
 cases x<;>cases y<;>first|(cases h;done)|skip
 .have h:Pb _ _=true:=h;rw[wK,beq_iff_eq]at h;rw[h]
 next a b=>cases a<;>cases b<;>first|rfl|cases h
def qX:∀ {a b:TG},U0 a b=true->a=b
 | [],[],_=>rfl
 |x :: a,y :: b,h=>by
  have h:@Bool.rec (λ_=>Bool) false (U0 a b) (I4 x y)=true:=h;cases e:I4 x y with
  |true=>rw[e]at h;rw[AQ e,qX h]
  |false=>rw[e]at h;cases h
 | [],_ :: _,h=>by cases h
 |_ :: _,[],h=>by cases h
def NT(C:m')(Sg:Td)(T:Tv)(k:Nat)(g:FB):Prop:=∀ls h K w,dU ls->g ls h K=some w->∃a h',aA C Sg k ls (g_ T (CU h)) a (g_ T (CU h'))/\K a h'=some w
def YOk(C:m')(Sg:Td)(T:Tv)(a:Nat)(g:Tn->Nat->FB):Prop:=∀vs l ls h K w st c xs,h.at l=some (.lp a st c vs)->Told ((T a).params.map (·.2)) ls xs->g vs l ls h K=some w->
  ∃b h',ip C l (aj xs) (g_ T (CU h)) (.bool b) (g_ T (CU h'))/\K [.b b] h'=some w
def LX:Ht=λa _=>some a:=by
 funext a h
 exact fw a _
def VW{C:m'}{Sg:Td}{T:Tv}(d:∀f sg ls a H',Sg f=some sg->sg.plain=true->aA C Sg f ls [] a H'->∀H,aA C Sg f ls H a H)
  {k:Nat} {g:FB} {sg:GN} (l:NT C Sg T k g) (n:Sg k=some sg) (m:sg.plain=true):NT C Sg T k (VV g):=by
 intro ls h K w c b;unfold VV at b;rw[fw,LX]at b;cases e:g ls .empty (λa _=>some a)with
 |none=>rw[e]at b;cases b
 |some a=>
  rw[e]at b;obtain⟨o,p,i,j⟩:=l ls .empty _ a c e;cases j;exact⟨a,h,d k sg ls a _ n m i _,b⟩
end
end Go.Am
namespace Go.Am
open Sx Go.Proofs
section
variable {R HT:Type} (A:B_ R HT)
def y176(vs:Tn)(e:Nat)(ls:TG)(h:HT)(K:TG->HT->R):R:=A.BM vs λx8 u=>A.nC x8 (A.BM u λa v=>A.nC a (A.v9 v (A.pu ls λf w=>A.pu w λg x=>A.Ci x λx16 y=>A.pu y λi z=>A.pu z λB C=>A.pu C λD E=>A.Ci E λF G=>A.w_ G (A.new (.cells [.int .i64 0,.int .i64 0,.slice none 0 0,.int .u8 0,.int .i64 0,.int .i64 0,.slice none 0 0] 7 true) h λo H=>A.heap (.st (.pointer (some ⟨o,0,none⟩)) [.int .i64 f,.int .i64 g,x16,.int .u8 i,.int .i64 B,.int .i64 D,F]) H λg1 I=>A.H7 e I λd=>A.my (.lg cc 1 a) d λJ=>A.BM J λp L=>A.nC p (A.v9 L (A.my (.lg cc 7 (.pointer (some ⟨o,0,none⟩))) d λM=>A.td .i64 M λj N=>A.td .i64 N λk O=>A.BM O λq P=>A.nC q (A.td .u8 P λl Q=>A.td .i64 Q λS T=>A.td .i64 T λm U=>A.BM U λr V=>A.nC r (A.v9 V (A.new (.cells [.int .i64 j,.int .i64 k,q,.int .u8 l,.int .i64 S,.int .i64 m,r] 7 true) d λW X=>A.heap (.ap cc 7 88 p (.slice (some ⟨W,0,some 17⟩) 1 2)) X λY Z=>A.BM Y λs e7=>A.nC s (A.v9 e7 (A.heap (.st a [s]) Z λg2 c=>A.my (.lg cc 1 a) c λe9=>A.BM e9 λt f0=>A.nC t (A.v9 f0 (A.j_ (GF t) λf1=>A.my (.lg cc 1 x8) c λf2=>A.td .i64 f2 λn f6=>A.v9 f6 (A.cmp .eql f1 n λf7=>A.cond f7 (A.Gt e (some (.exit 0)) c λf9=>K [.b false] f9) (A.Gt e none c λg0=>K [.b true] g0)))))))))))))))
def y224(vs:Tn)(o:Nat)(ls:TG)(h:HT)(K:TG->HT->R):R:=A.BM vs λx8 p=>A.nC x8 (A.BM p λj q=>A.nC j (A.v9 q (A.pu ls λa r=>A.pu r λc s=>A.Ci s λx16 t=>A.pu t λd u=>A.pu u λv w=>A.pu w λx y=>A.Ci y λz B=>A.w_ B (A.new (.cells [.int .i64 0,.int .i64 0,.slice none 0 0,.int .u8 0,.int .i64 0,.int .i64 0,.slice none 0 0] 7 true) h λk C=>A.heap (.st (.pointer (some ⟨k,0,none⟩)) [.int .i64 a,.int .i64 c,x16,.int .u8 d,.int .i64 v,.int .i64 x,z]) C λS D=>A.H7 o D λl=>A.my (.lg cc 7 (.pointer (some ⟨k,0,none⟩))) l λE=>A.td .i64 E λe F=>A.td .i64 F λf G=>A.BM G λm H=>A.nC m (A.td .u8 H λg I=>A.td .i64 I λi J=>A.td .i64 J λL M=>A.BM M λn N=>A.nC n (A.v9 N (A.heap (.st x8 [.int .i64 e,.int .i64 f,m,.int .u8 g,.int .i64 i,.int .i64 L,n]) l λT O=>A.heap (.st j [.int .i64 0]) O λU P=>A.Gt o (some .ret) P λQ=>K [.b false] Q)))))))
end
def p0:@y176=λR b A vs a ls h K=>sS A (xc 0) ac IC (aa 176) vs a ls h K:=d_
def tl:@y224=λR b A vs a ls h K=>sS A (xc 0) ac IC (aa 224) vs a ls h K:=d_
instance val0 : Co := ⟨λ_ => 0⟩
instance kno0:C7:=KnoC cc Hg
def GE:cc.P.follows .mixedOrders=true:=d_
def pH(g:Nat)(vs:Tn)(h:cc.G g=some vs):vs.all Kw=true:=by
 unfold cc at h;simp only at h;split at h<;>first|(cases h;done)|(obtain rfl:=D' h;kernel_rfl)
def uM:NS cc IC:=UR V4 (λ_ _ _ _ _ (h:_/\_)=>h.1)
abbrev Zf(k:Nat)(g:FB):Prop:=NT cc ac aa k g
abbrev Xx(c:fW):Prop:=D5 cc ac aa c
def zY(f:TQ)(sg:GN)(ls a:TG)(H':Tu)(d:ac f=some sg)(c:sg.plain=true)(b:aA cc ac f ls [] a H'):∀H,aA cc ac f ls H a H:=Yr GE pH d c b
def UV{k:Nat}{g:FB}{sg:GN}(h:Zf k g)(a:ac k=some sg)(b:sg.plain=true):Zf k (VV g):=VW zY h a b
def nA:B_ RT x_->FB:=λ_=>nf
def C'(F:B_ RT x_->FB):B_ RT x_->FB:=λA=>VV (F A)
inductive TrA where
 |leaf
 |node (v:B_ RT x_->FB) (l r:TrA)
def G9(p:Dz):TrA->B_ RT x_->FB:=
 Dz.rec (motive:=λ_=>TrA->B_ RT x_->FB) (λt=>TrA.casesOn t nA λv _ _=>v) (λ_ a t=>TrA.casesOn t nA λ_ l _=>a l) (λ_ a t=>TrA.casesOn t nA λ_ _ r=>a r) p
def y_of{d:Nat}{g:fW->Tn->Nat->FB}{ct:fW->fW}{c:fW}(h0:∀vs l ls h K,sS (BA ac aa (ct c)) (xc 0) ac IC (aa d) vs l ls h K=g c vs l ls h K)(k:Xx (ct c)):YOk cc ac aa d (g c):=by
 intro vs l ls h K w o n p e m a;rw[←h0]at a;obtain⟨b,j,f,i⟩:=yP (X:=xc 0) (Xv (w:=w) k) uM (kV e) rfl rfl rfl rfl m a;exact⟨b,j,f,i⟩
def Hs:TrA:=(.node nA (.node nA (.node nA (.node nA (.node nA (.node f31 (.node (C' f63) (.node (C' SB) .leaf .leaf) .leaf) .leaf) (.node nA (.node (C' f79) (.node Vj .leaf .leaf) .leaf) (.node Sv .leaf .leaf))) (.node f23 (.node nA (.node f71 .leaf .leaf) (.node Va (.node (C' f167) .leaf .leaf) .leaf)) (.node nA (.node (C' f87) (.node (C' f151) .leaf .leaf) .leaf) .leaf))) (.node f11 (.node nA (.node (C' f35) (.node (C' f67) (.node (C' Se) .leaf .leaf) .leaf) (.node (C' f99) (.node (C' SH) .leaf .leaf) .leaf)) (.node nA (.node (C' f83) .leaf .leaf) (.node SA .leaf .leaf))) (.node nA (.node nA (.node f75 .leaf .leaf) (.node Vc (.node Vn .leaf .leaf) .leaf)) (.node nA (.node nA (.node (C' SF) .leaf .leaf) .leaf) .leaf)))) (.node f5 (.node nA (.node nA (.node f33 (.node (C' f65) (.node (C' GT) .leaf .leaf) .leaf) .leaf) (.node (C' f49) (.node (C' f81) .leaf .leaf) (.node Sy .leaf .leaf))) (.node (C' f25) (.node (C' f41) (.node f73 .leaf .leaf) (.node (C' Ss) .leaf .leaf)) (.node nA (.node nA (.node (C' f153) .leaf .leaf) .leaf) .leaf))) (.node f13 (.node nA (.node (C' f37) (.node f69 .leaf .leaf) (.node Sq .leaf .leaf)) (.node nA (.node (C' f85) (.node (C' Sf) .leaf .leaf) .leaf) .leaf)) (.node f29 (.node f45 (.node f77 (.node Vh .leaf .leaf) .leaf) (.node Vd .leaf .leaf)) (.node (C' f61) (.node f93 (.node (C' f157) .leaf .leaf) .leaf) .leaf))))) (.node nA (.node nA (.node f8 (.node f16 (.node (C' f32) (.node (C' f64) (.node (C' SC) .leaf .leaf) .leaf) .leaf) (.node f48 (.node (C' f80) .leaf .leaf) (.node Sw .leaf .leaf))) (.node (C' f24) (.node (C' f40) (.node f72 .leaf .leaf) (.node (C' Sr) (.node (C' SI) .leaf .leaf) .leaf)) (.node nA (.node f88 (.node Vl .leaf .leaf) .leaf) .leaf))) (.node (C' f12) (.node nA (.node (C' f36) (.node f68 (.node f132 .leaf .leaf) .leaf) (.node (C' Sp) (.node Vm .leaf .leaf) .leaf)) (.node nA (.node f84 .leaf .leaf) (.node Vf .leaf .leaf))) (.node f28 (.node f44 (.node f76 (.node (C' SD) .leaf .leaf) .leaf) (.node (C' Su) (.node (C' SM) .leaf .leaf) .leaf)) (.node nA (.node nA (.node (C' Si) .leaf .leaf) .leaf) .leaf)))) (.node nA (.node (C' f10) (.node f18 (.node (C' f34) (.node (C' f66) (.node Vg .leaf .leaf) .leaf) (.node (C' f98) (.node (C' SG) .leaf .leaf) .leaf)) (.node nA .leaf (.node Sz .leaf .leaf))) (.node f26 (.node nA (.node f74 .leaf .leaf) (.node Vb (.node (C' SJ) .leaf .leaf) .leaf)) (.node (C' f58) (.node (C' f90) (.node (C' SE) .leaf .leaf) .leaf) .leaf))) (.node f14 (.node nA (.node (C' Yt) (.node f70 .leaf .leaf) (.node f102 (.node (C' f166) .leaf .leaf) .leaf)) (.node nA (.node (C' f86) (.node Vk .leaf .leaf) .leaf) .leaf)) (.node f30 (.node f46 (.node (C' f78) (.node Vi .leaf .leaf) .leaf) (.node Ve .leaf .leaf)) (.node (C' f62) (.node (C' f94) (.node (C' f158) .leaf .leaf) .leaf) (.node (C' f126) .leaf .leaf)))))))
def Y7(c:fW):fW:=λa=>match a with
 | .f f=>match Nat.blt f 173 with
  |true=>G9 (cE f) Hs (BA ac aa c)
  |false=>nf
 | .y b d l=>sS (BA ac aa c) (xc 0) ac IC (aa b) d l
def GM(n:Nat):fW:=Nat.rec (motive:=λ_=>fW) (λ_ _ _ _=>none) (λ_ c=>Y7 c) n
section
variable {k:Nat} {F:(R HT:Type)->B_ R HT->TG->HT->(TG->HT->R)->R} {fn:Fn1} {c:fW}
def tn(h1:G9 (cE k) Hs=nA:=by kernel_rfl):Zf k (G9 (cE k) Hs (BA ac aa c)):=by
 intro d h K w b a;rw[h1]at a;cases a
def oy(g:F=λR HT A ls h K=>aw A (xc k) ac IC fn ls h K)(i:Gx (xc k) ac k fn)(j:Xx c):Zf k (F RT x_ (BA ac aa c)):=by
 intro ls h K w a b;rw[g]at b;obtain⟨l,f,d,_,e⟩:=sR (Xv (w:=w) j) uM i a b;exact⟨l,f,d,e⟩
def tw(a:F=λR HT A ls h K=>aw A (xc k) ac IC fn ls h K)(b:Gx (xc k) ac k fn)(d:Xx c)(h1:G9 (cE k) Hs=F RT x_:=by kernel_rfl):Zf k (G9 (cE k) Hs (BA ac aa c)):=by
 rw[h1];exact oy a b d
def tm(a:F=λR HT A ls h K=>aw A (xc k) ac IC fn ls h K)(b:Gx (xc k) ac k fn)(f:Xx c){sg:GN}(d:ac k=some sg:=by rfl)(e:sg.plain=true:=by kernel_rfl)(h1:G9 (cE k) Hs=C' (F RT x_):=by kernel_rfl):Zf k (G9 (cE k) Hs (BA ac aa c)):=by
 rw[h1];exact UV (oy a b f) d e
end
def Xg{c:fW}(a:Xx c):∀f,Nat.blt f 173=true->Zf f (G9 (cE f) Hs (BA ac aa c))
 |0,_=>tn
 |1,_=>tn
 |2,_=>tn
 |3,_=>tn
 |4,_=>tn
 |5,_=>tw e5 i5 a
 |6,_=>tn
 |7,_=>tn
 |8,_=>tw e8 i8 a
 |9,_=>tn
 |10,_=>tm e10 i10 a
 |11,_=>tw e11 i11 a
 |12,_=>tm e12 i12 a
 |13,_=>tw e13 i13 a
 |14,_=>tw e14 i14 a
 |15,_=>tn
 |16,_=>tw e16 i16 a
 |17,_=>tn
 |18,_=>tw e18 i18 a
 |19,_=>tn
 |20,_=>tn
 |21,_=>tn
 |22,_=>tn
 |23,_=>tw e23 i23 a
 |24,_=>tm e24 i24 a
 |25,_=>tm e25 i25 a
 |26,_=>tw e26 i26 a
 |27,_=>tn
 |28,_=>tw e28 i28 a
 |29,_=>tw e29 i29 a
 |30,_=>tw e30 i30 a
 |31,_=>tw e31 i31 a
 |32,_=>tm e32 i32 a
 |33,_=>tw e33 i33 a
 |34,_=>tm e34 i34 a
 |35,_=>tm e35 i35 a
 |36,_=>tm e36 i36 a
 |37,_=>tm e37 i37 a
 |38,_=>tm e38 i38 a
 |39,_=>tn
 |40,_=>tm e40 i40 a
 |41,_=>tm e41 i41 a
 |42,_=>tn
 |43,_=>tn
 |44,_=>tw e44 i44 a
 |45,_=>tw e45 i45 a
 |46,_=>tw e46 i46 a
 |47,_=>tn
 |48,_=>tw e48 i48 a
 |49,_=>tm e49 i49 a
 |50,_=>tn
 |51,_=>tn
 |52,_=>tn
 |53,_=>tn
 |54,_=>tn
 |55,_=>tn
 |56,_=>tn
 |57,_=>tn
 |58,_=>tm e58 i58 a
 |59,_=>tn
 |60,_=>tn
 |61,_=>tm e61 i61 a
 |62,_=>tm e62 i62 a
 |63,_=>tm e63 i63 a
 |64,_=>tm e64 i64 a
 |65,_=>tm e65 i65 a
 |66,_=>tm e66 i66 a
 |67,_=>tm e67 i67 a
 |68,_=>tw e68 i68 a
 |69,_=>tw e69 i69 a
 |70,_=>tw e70 i70 a
 |71,_=>tw e71 i71 a
 |72,_=>tw e72 i72 a
 |73,_=>tw e73 i73 a
 |74,_=>tw e74 i74 a
 |75,_=>tw e75 i75 a
 |76,_=>tw e76 i76 a
 |77,_=>tw e77 i77 a
 |78,_=>tm e78 i78 a
 |79,_=>tm e79 i79 a
 |80,_=>tm e80 i80 a
 |81,_=>tm e81 i81 a
 |82,_=>tn
 |83,_=>tm e83 i83 a
 |84,_=>tw e84 i84 a
 |85,_=>tm e85 i85 a
 |86,_=>tm e86 i86 a
 |87,_=>tm e87 i87 a
 |88,_=>tw e88 i88 a
 |89,_=>tn
 |90,_=>tm e90 i90 a
 |91,_=>tn
 |92,_=>tn
 |93,_=>tw e93 i93 a
 |94,_=>tm e94 i94 a
 |95,_=>tn
 |96,_=>tn
 |97,_=>tn
 |98,_=>tm e98 i98 a
 |99,_=>tm e99 i99 a
 |100,_=>tm e100 i100 a
 |101,_=>tw e101 i101 a
 |102,_=>tw e102 i102 a
 |103,_=>tw e103 i103 a
 |104,_=>tm e104 i104 a
 |105,_=>tm e105 i105 a
 |106,_=>tw e106 i106 a
 |107,_=>tw e107 i107 a
 |108,_=>tm e108 i108 a
 |109,_=>tw e109 i109 a
 |110,_=>tw e110 i110 a
 |111,_=>tw e111 i111 a
 |112,_=>tw e112 i112 a
 |113,_=>tw e113 i113 a
 |114,_=>tw e114 i114 a
 |115,_=>tw e115 i115 a
 |116,_=>tw e116 i116 a
 |117,_=>tn
 |118,_=>tn
 |119,_=>tn
 |120,_=>tn
 |121,_=>tn
 |122,_=>tn
 |123,_=>tn
 |124,_=>tn
 |125,_=>tn
 |126,_=>tm e126 i126 a
 |127,_=>tm e127 i127 a
 |128,_=>tm e128 i128 a
 |129,_=>tm e129 i129 a
 |130,_=>tw e130 i130 a
 |131,_=>tm e131 i131 a
 |132,_=>tw e132 i132 a
 |133,_=>tn
 |134,_=>tn
 |135,_=>tn
 |136,_=>tn
 |137,_=>tn
 |138,_=>tn
 |139,_=>tn
 |140,_=>tm e140 i140 a
 |141,_=>tw e141 i141 a
 |142,_=>tw e142 i142 a
 |143,_=>tw e143 i143 a
 |144,_=>tn
 |145,_=>tn
 |146,_=>tn
 |147,_=>tn
 |148,_=>tn
 |149,_=>tm e149 i149 a
 |150,_=>tw e150 i150 a
 |151,_=>tm e151 i151 a
 |152,_=>tw e152 i152 a
 |153,_=>tm e153 i153 a
 |154,_=>tm e154 i154 a
 |155,_=>tm e155 i155 a
 |156,_=>tm e156 i156 a
 |157,_=>tm e157 i157 a
 |158,_=>tm e158 i158 a
 |159,_=>tn
 |160,_=>tn
 |161,_=>tn
 |162,_=>tm e162 i162 a
 |163,_=>tm e163 i163 a
 |164,_=>tw e164 i164 a
 |165,_=>tn
 |166,_=>tm e166 i166 a
 |167,_=>tm e167 i167 a
 |168,_=>tm e168 i168 a
 |169,_=>tn
 |170,_=>tm e170 i170 a
 |171,_=>tw e171 i171 a
 |172,_=>tm e172 i172 a
 |n+173,h=>by rw[Gp]at h;omega
def RQ{c:fW}(k:Xx c):Xx (Y7 c):=by
 refine⟨λf b h K w i a=>?_,λj d l b h K w p o q e n a=>?_⟩
 .have a:(match Nat.blt f 173 with|true=>G9 (cE f) Hs (BA ac aa c)|false=>nf) b h K=some w:=a;cases e:Nat.blt f 173 with
  |true=>rw[e]at a;exact Xg k f e b h K w i a
  |false=>rw[e]at a;cases a
 .have m:YOk cc ac aa j (λd l b h K=>sS (BA ac aa c) (xc 0) ac IC (aa j) d l b h K):=y_of (g:=λc d l b h K=>sS (BA ac aa c) (xc 0) ac IC (aa j) d l b h K) (ct:=λc=>c) (λ_ _ _ _ _=>rfl) k;exact m d l b h K w p o q e n a
def tV:∀n,Xx (GM n)
 |0=>⟨λ_ _ _ _ _ _ h=>by(cases h),λ_ _ _ _ _ _ _ _ _ _ _ _ h=>by(cases h)⟩
 |n+1=>RQ (tV n)
end Go.Am
namespace Go.Am
namespace Sx
section
variable [Co] [C7]
def pB(T:Tv)(f:Pk)(h:HL)(K:Tf):Prop:=∃cs,f.run (tf T h)=some cs/\K cs
abbrev _root_.Tb:=List Value->HL->Prop
def eb(T:Tv)(f:Hp)(h:HL)(K:Tb):Prop:=∃a cs,f.run (tf T h) h.length=some (a,cs)/\K cs (bG h a)
abbrev _root_.Te:=List Lf->HL->Prop
def hD(C:m')(Sg:Td)(T:Tv)(g:TQ)(ls:TG)(h:HL)(K:Te):Prop:=∃a h',aA C Sg g ls (g_ T h) a (g_ T h')/\K a h'
def ZJ(C:m')(T:Tv)(v:Value)(args:Tn)(b:TN)(h:HL)(K:Te):Prop:=∃a h',wu C v args b (g_ T h) a (g_ T h')/\K a h'
def SQ(F:(TG->HL->Prop)->TG->HL->Prop)(n:Nat):TG->HL->Prop:=
 match n with
 |0=>λ_ _=>False
 |n+1=>F (SQ F n)
def YA(F:(TG->HL->Prop)->TG->HL->Prop)(ls:TG)(h:HL):Prop:=∃n,SQ F n ls h
def v1(C:m')(T:Tv)(e:Nat)(v:Value)(a:Tn)(h:HL)(K:Tm->HL->Prop):Prop:=
 ∃g first cap r c b d,v = .func (.func g) first cap/\
  jF C g (first.toList++[.func (.yield (g_ T h).length) #[] #[]]++cap.toList) (g_ T h++[.loop (Er (T e) e a)]) r c/\
  eI c (g_ T h).length=some b/\b.state≠.busy/\g_ T d=c.set (g_ T h).length (.loop { b with state:=.exhausted })/\K b.pending d
def lp1H(T:Tv)(l:Nat)(h:HL)(K:HL->Prop):Prop:=∃a h',eI (g_ T h) l=some a/\a.state = .ready/\g_ T h'=(g_ T h).set l (.loop { a with state:=.busy })/\K h'
def lp2H(T:Tv)(l:Nat)(j:Tm)(h:HL)(K:HL->Prop):Prop:=∃a h',eI (g_ T h) l=some a/\g_ T h'=(g_ T h).set l (.loop { a with state:=if j.isNone then .ready else .done,pending:=j })/\K h'
def PH(C:m')(Sg:Td)(T:Tv):B_ Prop HL where
 fail:=False
 cond:=Yq
 z_:=Ua
 FK:=λd k a c b K=>∃n,JU d k a c b n/\K n
 cmp:=UK
 eqs:=λl K=>K (cj l)
 conv:=λk a K=>K (k.wrap a)
 Gq:=λt a b K=>K (if t then a else b)
 j_:=dB
 nC:=λv K=>aF v=true/\K
 pu:=ce
 D9:=cq
 Ci:=z0
 w_:=cp
 td:=cb
 D1:=w3
 BM:=cm
 v9:=w2
 my:=pB T
 heap:=eb T
 new:=λo h K=>K h.length (h++[.o o])
 call:=hD C Sg T
 BO:=ZJ C T
 join:=λb m=>m b
 loop:=YA
 Ei:=v1 C T
 DZ:=Lb
 H7:=lp1H T
 Gt:=lp2H T
def N0(C:m')(Sg:Td)(T:Tv):qs (PH C Sg T) C Sg T id (g_ T) where
 fail:=(gH C Sg T).fail
 cond:=(gH C Sg T).cond
 z_:=(gH C Sg T).z_
 FK:=(gH C Sg T).FK
 cmp:=(gH C Sg T).cmp
 eqs:=(gH C Sg T).eqs
 conv:=(gH C Sg T).conv
 Gq:=(gH C Sg T).Gq
 j_:=(gH C Sg T).j_
 nC:=(gH C Sg T).nC
 pu:=(gH C Sg T).pu
 D9:=(gH C Sg T).D9
 Ci:=(gH C Sg T).Ci
 w_:=(gH C Sg T).w_
 td:=(gH C Sg T).td
 D1:=(gH C Sg T).D1
 BM:=(gH C Sg T).BM
 v9:=(gH C Sg T).v9
 my:=by
  intro f h K a;obtain⟨d,e,i⟩:=a;exact⟨d,by rw[←pG];exact e,i⟩
 heap:=by
  intro f h K a;obtain⟨c,d,e,i⟩:=a;exact⟨c,d,_,by rw[←pG,gI];exact e,lS T c h,i⟩
 new:=λo h K a=>⟨_,kF T h _,by rw[gI];exact a⟩
 call:=λg k h K a=>a
 BO:=λv p r h K a=>a
 join:=λb m h=>h
 loop:=by
  intro F k h a;obtain⟨n,a⟩:=a;exact⟨SQ F,λk h=>(id:False->False),λn k h=>rfl,n,a⟩
 Ei:=λs v q h K a=>a
 DZ:=(gH C Sg T).DZ
 H7:=λl h K a=>a
 Gt:=λl j h K a=>a
section
variable {C:m'} {Sg:Td} {T:Tv} {call:fW} (hc:D5 C Sg T call)
include hc
theorem cy{e:BinOp}{k d:TL}{a b:Int}{K:Int->RT}{c:Tw}(i:∀n,K n=r9->c n)(h:(BA Sg T call).FK e k a d b K=r9):(PH C Sg T).FK e k a d b c:=by
 obtain⟨n,f,g⟩:=LA (w:=[]) h;exact⟨n,f,i _ g⟩
end
def zd{F:(TG->HL->Prop)->TG->HL->Prop}(Inv:Nat->TG->HL->Prop)
  (step:∀m ls h,Inv m ls h->∀a:TG->HL->Prop,(∀b ls h,b<m->Inv b ls h->a ls h)->F a ls h):∀n m ls h,m<n->Inv m ls h->SQ F n ls h
 |0,_,_,_,d,_=>absurd d (qdq _)
 |n+1,m,ls,h,d,e=>step m ls h e (SQ F n) λb ls h h' c=>zd Inv step n b ls h a_ c
def aJ{F:(TG->HL->Prop)->TG->HL->Prop}(Inv:Nat->TG->HL->Prop){m:Nat}{ls:TG}{h:HL}(c:Inv m ls h)
  (step:∀m ls h,Inv m ls h->∀a:TG->HL->Prop,(∀b ls h,b<m->Inv b ls h->a ls h)->F a ls h):YA F ls h:=
 ⟨m+1,zd Inv step (m+1) m ls h (Nat.lt_succ_self m) c⟩
end
end Sx
namespace Sx
class Bx (i7:Sort _) where
 v:i7
def i'{i7:Sort _} [b:Bx i7]:i7:=b.v
section
variable [Co] [C7] {C:m'} {Sg:Td} {T:Tv}
def gu{n:Int}{r:TG}{K:Int->TG->Prop}:(PH C Sg T).pu (.i n :: r) K=K n r:=rfl
def gg{n:Bool}{r:TG}{K:Bool->TG->Prop}:(PH C Sg T).D9 (.b n :: r) K=K n r:=rfl
def fa{n:TR}{r:TG}{K:TR->TG->Prop}:(PH C Sg T).Ci (.v n :: r) K=K n r:=rfl
def z'{K:Prop}:(PH C Sg T).w_ [] K=K:=rfl
def B0{k:TL}{n:Int}{r:Tn}{K:Int->Tn->Prop}:(PH C Sg T).td k (.int k n :: r) K=K n r:=by
 show(k=k/\K n r)=K n r;simp
def h7{n:Bool}{r:Tn}{K:Bool->Tn->Prop}:(PH C Sg T).D1 (.bool n :: r) K=K n r:=rfl
def hZ{n:TR}{r:Tn}{K:Ta}:(PH C Sg T).BM (n :: r) K=K n r:=rfl
def o0{K:Prop}:(PH C Sg T).v9 [] K=K:=rfl
def Og{X Y:Prop}:(PH C Sg T).cond true X Y=X:=by
 show((true=true->X)/\(true=false->Y))=X;simp
def Of{X Y:Prop}:(PH C Sg T).cond false X Y=Y:=by
 show((false=true->X)/\(false=false->Y))=Y;simp
def Up{a b:Int}{K:Tp}(h:a<b):(PH C Sg T).cmp .lss a b K=K true:=by
 show K (decide (a<b))=_;rw[E8 h]
def Uo{a b:Int}{K:Tp}(h:b<=a):(PH C Sg T).cmp .lss a b K=K false:=by
 show K (decide (a<b))=_;grind
def Un{a b:Int}{K:Tp}(h:a<=b):(PH C Sg T).cmp .leq a b K=K true:=by
 show K (decide (a<=b))=_;rw[E8 h]
def Um{a b:Int}{K:Tp}(h:b<a):(PH C Sg T).cmp .leq a b K=K false:=by
 show K (decide (a<=b))=_;grind
def Ul{a b:Int}{K:Tp}(h:b<a):(PH C Sg T).cmp .gtr a b K=K true:=by
 show K (decide (a > b))=_;rw[E8 h]
def Uk{a b:Int}{K:Tp}(h:a<=b):(PH C Sg T).cmp .gtr a b K=K false:=by
 show K (decide (a > b))=_;grind
def Uj{a b:Int}{K:Tp}(h:b<=a):(PH C Sg T).cmp .geq a b K=K true:=by
 show K (decide (a ≥ b))=_;rw[E8 h]
def Ui{a b:Int}{K:Tp}(h:a<b):(PH C Sg T).cmp .geq a b K=K false:=by
 show K (decide (a ≥ b))=_;grind
def Uf{a b:Int}{K:Tp}(h:a=b):(PH C Sg T).cmp .eql a b K=K true:=by
 show K (a==b)=_;rw[beq_iff_eq.2 h]
def Ue{a b:Int}{K:Tp}(h:a≠b):(PH C Sg T).cmp .eql a b K=K false:=by
 show K (a==b)=_;rw[beq_false_of_ne h]
def Uu{a b:Int}{K:Tp}(h:a≠b):(PH C Sg T).cmp .neq a b K=K true:=by
 show K (a != b)=_;rw[bne_iff_ne.2 h]
def Ut{a b:Int}{K:Tp}(h:a=b):(PH C Sg T).cmp .neq a b K=K false:=by
 show K (a != b)=_;subst h;simp
def kC{a b:Int}{K:Tw}(h1:-9223372036854775808<=a+b)(c:a+b<=9223372036854775807):(PH C Sg T).z_ .add .i64 a b K=K (a+b):=by
 show K (IntKind.wrap .i64 (a+b))=_;rw[de h1 c]
def w4{a b:Int}{K:Tw}(h1:-9223372036854775808<=a - b)(c:a - b<=9223372036854775807):(PH C Sg T).z_ .sub .i64 a b K=K (a - b):=by
 show K (IntKind.wrap .i64 (a - b))=_;rw[de h1 c]
def qB{a b:Int}{K:Tw}(h1:-9223372036854775808<=a*b)(c:a*b<=9223372036854775807):(PH C Sg T).z_ .mul .i64 a b K=K (a*b):=by
 show K (IntKind.wrap .i64 (a*b))=_;rw[de h1 c]
def Zx{a b:Int}{K:Tw}(h1:0<=a+b)(c:a+b<=255):(PH C Sg T).z_ .add .u8 a b K=K (a+b):=by
 show K (IntKind.wrap .u8 (a+b))=_;rw[ur h1 c]
def ZD{a b:Int}{K:Tw}(h1:0<=a - b)(c:a - b<=255):(PH C Sg T).z_ .sub .u8 a b K=K (a - b):=by
 show K (IntKind.wrap .u8 (a - b))=_;rw[ur h1 c]
def ZC{a b:Int}{K:Tw}(h1:0<=a*b)(c:a*b<=255):(PH C Sg T).z_ .mul .u8 a b K=K (a*b):=by
 show K (IntKind.wrap .u8 (a*b))=_;rw[ur h1 c]
def Xi{a b:Int}(h:0<=a):a.tdiv b=a / b:=Int.tdiv_eq_ediv_of_nonneg h
def On{a b:Int}{K:Tw}(h:0<=a)(f:0<b)(c:a<=9223372036854775807):(PH C Sg T).z_ .quo .i64 a b K=K (a / b):=by
 show(b≠0/\K (IntKind.wrap .i64 (a.tdiv b)))=_;have d:a / b<=a:=Int.ediv_le_self b h;have e:0<=a / b:=Int.ediv_nonneg h a_;rw[Xi h,de a_ a_];simp;omega
def Om{a b:Int}{K:Tw}(h:a%b=0)(f:0<b)(h1:-9223372036854775808<=a)(e:a<=9223372036854775807):(PH C Sg T).z_ .quo .i64 a b K=K (a / b):=by
 show(b≠0/\K (IntKind.wrap .i64 (a.tdiv b)))=_;obtain⟨q,rfl⟩:=Int.dvd_of_emod_eq_zero h;rw[Int.mul_tdiv_cancel_left q a_,Int.mul_ediv_cancel_left q a_];have c:-9223372036854775808<=q/\q<=9223372036854775807:=by
  rcases Int.le_total 0 q with d|d
  .have:=qb5 (show(1:Int)<=b by omega) d;omega
  .have:=qb5 (show(1:Int)<=b by omega) (show 0<=-q by omega)
   grind
 rw[de c.1 c.2];simp;omega
def Oo{k:TL}{a b:Int}{K:Tw}(h:0<=a)(c:0<b):(PH C Sg T).z_ .rem k a b K=K (a%b):=by
 show(b≠0/\K (a.tmod b))=_
 grind
def Oq{k:TL}{a b:Int}{K:Tw}(h:a<=0)(d:0<b):(PH C Sg T).z_ .rem k a b K=K (-((-a)%b)):=by
 show(b≠0/\K (a.tmod b))=_;have:a.tmod b = -((-a)%b):=by
  have c:=Int.neg_tmod a b
  grind
 grind
def Zy{a:Int}{K:Tw}:(PH C Sg T).z_ .and .i64 a 1 K=K (a%2):=by
 show(((1:Int)=1/\K (a%2))∨((1:Int)≠1/\∃n,sn .and .i64 a 1 n/\K n))=K (a%2);simp
def Zz{a:Int}{K:Tw}(h1:-9223372036854775808<=a)(b:a<=9223372036854775807):(PH C Sg T).conv .i64 a K=K a:=by
 show K (IntKind.wrap .i64 a)=_;rw[de h1 b]
def Ud{a:Int}{K:Tw}(h1:0<=a)(b:a<=255):(PH C Sg T).conv .u8 a K=K a:=by
 show K (IntKind.wrap .u8 a)=_;rw[ur h1 b]
def Ux{a b:Int}{K:Tw}:(PH C Sg T).Gq true a b K=K a:=rfl
def Uw{a b:Int}{K:Tw}:(PH C Sg T).Gq false a b K=K b:=rfl
def Yo{i7:Type}{x:i7}{K:i7->Prop}:(PH C Sg T).j_ (some x) K=K x:=by
 show(∃y,some x=some y/\K y)=K x;simp
def lC{n:Nat}{i:Int}{K:Unit->Prop}(h1:0<=i)(a:i<(n:Int)):(PH C Sg T).j_ (E0 n i) K=K ():=by
 rw[show E0 n i=some ()from(PI n i).trans (rv ⟨h1,a⟩),Yo]
def ZB{b:Te}{m:(TG->HL->Prop)->Prop}:(PH C Sg T).join b m=m b:=rfl
def ZA{K:Tp}:(PH C Sg T).eqs [] K=K true:=rfl
def Uh{a b:Int}{l:List (Lf×Lf)}{K:Tp}(h:a=b):(PH C Sg T).eqs ((.i a,.i b) :: l) K=(PH C Sg T).eqs l K:=by
 show K (cj _)=K (cj l);subst h;simp[cj,ir]
def Ug{a b:Int}{l:List (Lf×Lf)}{K:Tp}(h:a≠b):(PH C Sg T).eqs ((.i a,.i b) :: l) K=K false:=by
 show K (cj _)=K false;have:(a==b)=false:=beq_false_of_ne h;simp[cj,ir,this]
def zL{F:(TG->HL->Prop)->TG->HL->Prop}{ls:TG}{h:HL}(n:Nat)(a:SQ F n ls h):(PH C Sg T).loop F ls h:=⟨n,a⟩
def ag{F:(TG->HL->Prop)->TG->HL->Prop}{n:Nat}{ls:TG}{h:HL}:SQ F (n+1) ls h=F (SQ F n) ls h:=rfl
def ai{g:TQ}{ls a:TG}{h:HL}{K:Te}(b:∀H,aA C Sg g ls H a H)(c:K a h):(PH C Sg T).call g ls h (@i' _ ⟨K⟩):=⟨a,h,b _,c⟩
def Oh{a b:Bool}{l:List (Lf×Lf)}{K:Tp}(h:a=b):(PH C Sg T).eqs ((.b a,.b b) :: l) K=(PH C Sg T).eqs l K:=by
 show K (cj _)=K (cj l);subst h;simp[cj,ir]
def Md{l:List (Lf×Lf)}{K:Tp}:(PH C Sg T).eqs ((.b true,.b false) :: l) K=K false:=rfl
def Mc{l:List (Lf×Lf)}{K:Tp}:(PH C Sg T).eqs ((.b false,.b true) :: l) K=K false:=rfl
def Ur{b:Int}{K:Tw}(h1:-9223372036854775808<=b)(a:b<=9223372036854775807):(PH C Sg T).z_ .mul .i64 1 b K=K b:=by
 show K (IntKind.wrap .i64 (1*b))=_;rw[Int.one_mul,de h1 a]
def Uq{b:Int}{K:Tw}:(PH C Sg T).z_ .mul .i64 0 b K=K 0:=by
 show K (IntKind.wrap .i64 (0*b))=_;rw[Int.zero_mul];rfl
def Us{b:Int}{K:Tw}(h1:-9223372036854775808<=-b)(a:-b<=9223372036854775807):(PH C Sg T).z_ .mul .i64 (-1) b K=K (-b):=by
 show K (IntKind.wrap .i64 (-1*b))=_;have:(-1*b:Int) = -b:=a_;rw[this,de h1 a]
def Oj{b:Int}{K:Tw}(h1:-9223372036854775808<=b)(a:b<=9223372036854775807):(PH C Sg T).z_ .mul .i64 b 1 K=K b:=by
 show K (IntKind.wrap .i64 (b*1))=_;rw[Int.mul_one,de h1 a]
def Oi{b:Int}{K:Tw}:(PH C Sg T).z_ .mul .i64 b 0 K=K 0:=by
 show K (IntKind.wrap .i64 (b*0))=_;rw[Int.mul_zero];rfl
def Ol{b:Int}{K:Tw}(h1:-9223372036854775808<=-b)(a:-b<=9223372036854775807):(PH C Sg T).z_ .mul .i64 b (-1) K=K (-b):=by
 show K (IntKind.wrap .i64 (b * -1))=_;have:(b * -1:Int) = -b:=a_;rw[this,de h1 a]
def Uc{b:Int}{K:Tw}(h1:-9223372036854775808<=b)(a:b<=9223372036854775807):(PH C Sg T).z_ .add .i64 0 b K=K b:=by
 show K (IntKind.wrap .i64 (0+b))=_;rw[Int.zero_add,de h1 a]
def Oe{b:Int}{K:Tw}(h1:-9223372036854775808<=b)(a:b<=9223372036854775807):(PH C Sg T).z_ .add .i64 b 0 K=K b:=by
 show K (IntKind.wrap .i64 (b+0))=_;rw[Int.add_zero,de h1 a]
def Od{K:Tw}:(PH C Sg T).z_ .add .i64 1 1 K=K 2:=by
 show K (IntKind.wrap .i64 (1+1))=_;rfl
def Uv{a:Int}{K:Tw}(h1:-9223372036854775808<=a)(b:a<=9223372036854775807):(PH C Sg T).z_ .quo .i64 a 1 K=K a:=by
 show((1:Int)≠0/\K (IntKind.wrap .i64 (a.tdiv 1)))=_;rw[Int.tdiv_one,de h1 b];simp
def ae{i7:Type}{o:Option i7}{x:i7}{K:i7->Prop}(h:o=some x)(a:K x):(PH C Sg T).j_ o (@i' _ ⟨K⟩):=⟨x,h,a⟩
theorem YS{n:Int}{r:TG}{K:Int->TG->Prop}:(PH C Sg T).pu (.i n :: r) (@i' _ ⟨K⟩)=K n r:=gu
theorem YR{n:Bool}{r:TG}{K:Bool->TG->Prop}:(PH C Sg T).D9 (.b n :: r) (@i' _ ⟨K⟩)=K n r:=gg
theorem YT{n:TR}{r:TG}{K:TR->TG->Prop}:(PH C Sg T).Ci (.v n :: r) (@i' _ ⟨K⟩)=K n r:=fa
theorem YQ{K:Prop}:(PH C Sg T).w_ [] (@i' _ ⟨K⟩)=K:=z'
theorem YO{k:TL}{n:Int}{r:Tn}{K:Int->Tn->Prop}:(PH C Sg T).td k (.int k n :: r) (@i' _ ⟨K⟩)=K n r:=B0
theorem YN{n:Bool}{r:Tn}{K:Bool->Tn->Prop}:(PH C Sg T).D1 (.bool n :: r) (@i' _ ⟨K⟩)=K n r:=h7
theorem YP{n:TR}{r:Tn}{K:Ta}:(PH C Sg T).BM (n :: r) (@i' _ ⟨K⟩)=K n r:=hZ
theorem YM{K:Prop}:(PH C Sg T).v9 [] (@i' _ ⟨K⟩)=K:=o0
theorem Ie{X Y:Prop}:(PH C Sg T).cond true (@i' _ ⟨X⟩) Y=X:=Og
theorem Ic{X Y:Prop}:(PH C Sg T).cond false X (@i' _ ⟨Y⟩)=Y:=Of
theorem ub{a b:Int}{K:Tp}(h:a<b):(PH C Sg T).cmp .lss a b (@i' _ ⟨K⟩)=K true:=Up h
theorem vc{a b:Int}{K:Tp}(h:b<=a):(PH C Sg T).cmp .lss a b (@i' _ ⟨K⟩)=K false:=Uo h
theorem Hh{a b:Int}{K:Tp}(h:a<=b):(PH C Sg T).cmp .leq a b (@i' _ ⟨K⟩)=K true:=Un h
theorem Wo{a b:Int}{K:Tp}(h:b<a):(PH C Sg T).cmp .leq a b (@i' _ ⟨K⟩)=K false:=Um h
theorem B3{a b:Int}{K:Tp}(h:b<a):(PH C Sg T).cmp .gtr a b (@i' _ ⟨K⟩)=K true:=Ul h
theorem y_{a b:Int}{K:Tp}(h:a<=b):(PH C Sg T).cmp .gtr a b (@i' _ ⟨K⟩)=K false:=Uk h
theorem FT{a b:Int}{K:Tp}(h:b<=a):(PH C Sg T).cmp .geq a b (@i' _ ⟨K⟩)=K true:=Uj h
theorem FR{a b:Int}{K:Tp}(h:a<b):(PH C Sg T).cmp .geq a b (@i' _ ⟨K⟩)=K false:=Ui h
theorem ra{a b:Int}{K:Tp}(h:a=b):(PH C Sg T).cmp .eql a b (@i' _ ⟨K⟩)=K true:=Uf h
theorem wb{a b:Int}{K:Tp}(h:a≠b):(PH C Sg T).cmp .eql a b (@i' _ ⟨K⟩)=K false:=Ue h
theorem CA{a b:Int}{K:Tp}(h:a≠b):(PH C Sg T).cmp .neq a b (@i' _ ⟨K⟩)=K true:=Uu h
theorem CN{a b:Int}{K:Tp}(h:a=b):(PH C Sg T).cmp .neq a b (@i' _ ⟨K⟩)=K false:=Ut h
theorem E4{a b:Int}{K:Tw}(h1:-9223372036854775808<=a+b)(c:a+b<=9223372036854775807):(PH C Sg T).z_ .add .i64 a b (@i' _ ⟨K⟩)=K (a+b):=kC h1 c
theorem K'{a b:Int}{K:Tw}(h1:-9223372036854775808<=a - b)(c:a - b<=9223372036854775807):(PH C Sg T).z_ .sub .i64 a b (@i' _ ⟨K⟩)=K (a - b):=w4 h1 c
theorem GQ{a b:Int}{K:Tw}(h1:-9223372036854775808<=a*b)(c:a*b<=9223372036854775807):(PH C Sg T).z_ .mul .i64 a b (@i' _ ⟨K⟩)=K (a*b):=qB h1 c
theorem Jm{a b:Int}{K:Tw}(h1:0<=a+b)(c:a+b<=255):(PH C Sg T).z_ .add .u8 a b (@i' _ ⟨K⟩)=K (a+b):=Zx h1 c
theorem A3{a b:Int}{K:Tw}(h1:0<=a - b)(c:a - b<=255):(PH C Sg T).z_ .sub .u8 a b (@i' _ ⟨K⟩)=K (a - b):=ZD h1 c
theorem oH{a b:Int}{K:Tw}(h1:0<=a*b)(c:a*b<=255):(PH C Sg T).z_ .mul .u8 a b (@i' _ ⟨K⟩)=K (a*b):=ZC h1 c
theorem Gg{a b:Int}{K:Tw}(h:0<=a)(d:0<b)(c:a<=9223372036854775807):(PH C Sg T).z_ .quo .i64 a b (@i' _ ⟨K⟩)=K (a / b):=On h d c
theorem QK{a b:Int}{K:Tw}(h:a%b=0)(d:0<b)(h1:-9223372036854775808<=a)(c:a<=9223372036854775807):(PH C Sg T).z_ .quo .i64 a b (@i' _ ⟨K⟩)=K (a / b):=Om h d h1 c
theorem E5{k:TL}{a b:Int}{K:Tw}(h:0<=a)(c:0<b):(PH C Sg T).z_ .rem k a b (@i' _ ⟨K⟩)=K (a%b):=Oo h c
theorem Gh{k:TL}{a b:Int}{K:Tw}(h:a<=0)(c:0<b):(PH C Sg T).z_ .rem k a b (@i' _ ⟨K⟩)=K (-((-a)%b)):=Oq h c
theorem np{a:Int}{K:Tw}:(PH C Sg T).z_ .and .i64 a 1 (@i' _ ⟨K⟩)=K (a%2):=Zy
theorem QB{a:Int}{K:Tw}(h1:-9223372036854775808<=a)(b:a<=9223372036854775807):(PH C Sg T).conv .i64 a (@i' _ ⟨K⟩)=K a:=Zz h1 b
theorem Wk{a:Int}{K:Tw}(h1:0<=a)(b:a<=255):(PH C Sg T).conv .u8 a (@i' _ ⟨K⟩)=K a:=Ud h1 b
theorem K_{a b:Int}{K:Tw}:(PH C Sg T).Gq true a b (@i' _ ⟨K⟩)=K a:=Ux
theorem K9{a b:Int}{K:Tw}:(PH C Sg T).Gq false a b (@i' _ ⟨K⟩)=K b:=Uw
theorem YL{i7:Type}{x:i7}{K:i7->Prop}:(PH C Sg T).j_ (some x) (@i' _ ⟨K⟩)=K x:=Yo
theorem YI{n:Nat}{i:Int}{K:Unit->Prop}(h1:0<=i)(a:i<(n:Int)):(PH C Sg T).j_ (E0 n i) (@i' _ ⟨K⟩)=K ():=lC h1 a
theorem om{b:Te}{m:(TG->HL->Prop)->Prop}:(PH C Sg T).join (@i' _ ⟨b⟩) (@i' _ ⟨m⟩)=m (@i' _ ⟨b⟩):=ZB
theorem nH{K:Tp}:(PH C Sg T).eqs [] (@i' _ ⟨K⟩)=K true:=ZA
theorem Wn{a b:Int}{l:List (Lf×Lf)}{K:Tp}(h:a=b):(PH C Sg T).eqs ((.i a,.i b) :: l) (@i' _ ⟨K⟩)=(PH C Sg T).eqs l (@i' _ ⟨K⟩):=Uh h
theorem Wm{a b:Int}{l:List (Lf×Lf)}{K:Tp}(h:a≠b):(PH C Sg T).eqs ((.i a,.i b) :: l) (@i' _ ⟨K⟩)=K false:=Ug h
theorem dD{F:(TG->HL->Prop)->TG->HL->Prop}{n:Nat}{ls:TG}{h:HL}:SQ (@i' _ ⟨F⟩) (n+1) ls h=F (SQ (@i' _ ⟨F⟩) n) ls h:=ag
theorem Ig{a b:Bool}{l:List (Lf×Lf)}{K:Tp}(h:a=b):(PH C Sg T).eqs ((.b a,.b b) :: l) (@i' _ ⟨K⟩)=(PH C Sg T).eqs l (@i' _ ⟨K⟩):=Oh h
theorem M_{l:List (Lf×Lf)}{K:Tp}:(PH C Sg T).eqs ((.b true,.b false) :: l) (@i' _ ⟨K⟩)=K false:=Md
theorem M9{l:List (Lf×Lf)}{K:Tp}:(PH C Sg T).eqs ((.b false,.b true) :: l) (@i' _ ⟨K⟩)=K false:=Mc
theorem Wq{b:Int}{K:Tw}(h1:-9223372036854775808<=b)(a:b<=9223372036854775807):(PH C Sg T).z_ .mul .i64 1 b (@i' _ ⟨K⟩)=K b:=Ur h1 a
theorem Wp{b:Int}{K:Tw}:(PH C Sg T).z_ .mul .i64 0 b (@i' _ ⟨K⟩)=K 0:=Uq
theorem Wr{b:Int}{K:Tw}(h1:-9223372036854775808<=-b)(a:-b<=9223372036854775807):(PH C Sg T).z_ .mul .i64 (-1) b (@i' _ ⟨K⟩)=K (-b):=Us h1 a
theorem QI{b:Int}{K:Tw}(h1:-9223372036854775808<=b)(a:b<=9223372036854775807):(PH C Sg T).z_ .mul .i64 b 1 (@i' _ ⟨K⟩)=K b:=Oj h1 a
theorem QH{b:Int}{K:Tw}:(PH C Sg T).z_ .mul .i64 b 0 (@i' _ ⟨K⟩)=K 0:=Oi
theorem QJ{b:Int}{K:Tw}(h1:-9223372036854775808<=-b)(a:-b<=9223372036854775807):(PH C Sg T).z_ .mul .i64 b (-1) (@i' _ ⟨K⟩)=K (-b):=Ol h1 a
theorem Wi{b:Int}{K:Tw}(h1:-9223372036854775808<=b)(a:b<=9223372036854775807):(PH C Sg T).z_ .add .i64 0 b (@i' _ ⟨K⟩)=K b:=Uc h1 a
theorem QA{b:Int}{K:Tw}(h1:-9223372036854775808<=b)(a:b<=9223372036854775807):(PH C Sg T).z_ .add .i64 b 0 (@i' _ ⟨K⟩)=K b:=Oe h1 a
theorem Qz{K:Tw}:(PH C Sg T).z_ .add .i64 1 1 (@i' _ ⟨K⟩)=K 2:=Od
theorem Wt{a:Int}{K:Tw}(h1:-9223372036854775808<=a)(b:a<=9223372036854775807):(PH C Sg T).z_ .quo .i64 a 1 (@i' _ ⟨K⟩)=K a:=Uv h1 b
theorem QE{f:Te}{a:TG}{b:HL}:@i' _ ⟨f⟩ a b=f a b:=rfl
theorem Gf{a b c d:Int}{K:Tp}(h:¬(a=c/\b=d)):(PH C Sg T).eqs [(.i a,.i c),(.i b,.i d)] (@i' _ ⟨K⟩)=K false:=by
 show K (cj _)=K false;have:cj [(.i a,.i c),(.i b,.i d)]=false:=by
  rw[b5];simpa[cj,ir]using h
 rw[this]
theorem QC{a b c d e f:Int}{K:Tp}(h:¬(a=d/\b=e/\c=f)):(PH C Sg T).eqs [(.i a,.i d),(.i b,.i e),(.i c,.i f)] (@i' _ ⟨K⟩)=K false:=by
 show K (cj _)=K false;have:cj [(.i a,.i d),(.i b,.i e),(.i c,.i f)]=false:=by
  rw[b5];simpa[cj,ir]using h
 rw[this]
def ak{g:TQ}{ls a:TG}{h h':HL}{K:Te}(b:aA C Sg g ls (g_ T h) a (g_ T h'))(c:K a h'):(PH C Sg T).call g ls h (@i' _ ⟨K⟩):=⟨a,h',b,c⟩
def sF{g:TQ}{sg:GN}{ls d:TG}{H H':Tu}(h:aA C Sg g ls H d H')(i:Sg g=some sg)(xs:List S0)(h1:bW xs sg.ps=true)(f:bX xs=ls) :
  wu C (.func (.func g) #[] #[]) (aj xs) sg.rs H d H':=by
 obtain⟨j,l,m,a,b,e,c⟩:=h;rw[i]at a;cases a;obtain⟨k,_⟩:=cW b.1 h1 (b.2.1.trans f.symm);rw[k]at c;exact⟨m,e,.inl ⟨g,#[],#[],rfl,by simpa using c⟩⟩
def iV{v:TR}{args:Tn}{b:TN}{a:TG}{h h':HL}{K:Te}(c:wu C v args b (g_ T h) a (g_ T h'))(d:K a h'):(PH C Sg T).BO v args b h (@i' _ ⟨K⟩):=⟨a,h',c,d⟩
theorem YK{o:p_}{h:HL}{K:Nat->HL->Prop}:(PH C Sg T).new o h (@i' _ ⟨K⟩)=K h.length (h++[.o o]):=rfl
def ab{v:TR}{K:Prop}(h:aF v=true)(a:K):(PH C Sg T).nC v (@i' _ ⟨K⟩):=⟨h,a⟩
def bH{f:Hp}{h:HL}{K:Tb}{a:List Cw}{cs:Tn}(e:f.run (tf T h) h.length=some (a,cs))(b:K cs (bG h a)):(PH C Sg T).heap f h (@i' _ ⟨K⟩):=⟨a,cs,e,b⟩
def bT{f:Pk}{h:HL}{K:Tf}{cs:Tn}(e:f.run (tf T h)=some cs)(a:K cs):(PH C Sg T).my f h (@i' _ ⟨K⟩):=⟨cs,e,a⟩
def pxs(C:m')(Sg:Td)(T:Tv):=And.intro @QE (And.intro (@YK _ _ C Sg T) (And.intro (@YS _ _ C Sg T) (And.intro (@YR _ _ C Sg T) (And.intro (@YT _ _ C Sg T) (And.intro (@YQ _ _ C Sg T) (And.intro (@YO _ _ C Sg T) (And.intro (@YN _ _ C Sg T) (And.intro (@YP _ _ C Sg T) (And.intro (@YM _ _ C Sg T) (And.intro (@Ie _ _ C Sg T) (And.intro (@Ic _ _ C Sg T) (And.intro (@YL _ _ C Sg T) (And.intro (@YI _ _ C Sg T) (And.intro (@om _ _ C Sg T) (And.intro (@K_ _ _ C Sg T) (And.intro (@K9 _ _ C Sg T) ((@dD))))))))))))))))))
def pxc(C:m')(Sg:Td)(T:Tv):=And.intro (@ub _ _ C Sg T) (And.intro (@vc _ _ C Sg T) (And.intro (@Hh _ _ C Sg T) (And.intro (@Wo _ _ C Sg T) (And.intro (@B3 _ _ C Sg T) (And.intro (@y_ _ _ C Sg T) (And.intro (@FT _ _ C Sg T) (And.intro (@FR _ _ C Sg T) (And.intro (@ra _ _ C Sg T) (And.intro (@wb _ _ C Sg T) (And.intro (@CA _ _ C Sg T) (And.intro (@CN _ _ C Sg T) (And.intro (@nH _ _ C Sg T) (And.intro (@Wn _ _ C Sg T) (And.intro (@Wm _ _ C Sg T) (And.intro (@Gf _ _ C Sg T) (And.intro (@QC _ _ C Sg T) (And.intro (@Ig _ _ C Sg T) (And.intro (@M_ _ _ C Sg T) ((@M9 _ _ C Sg T))))))))))))))))))))
def pxa(C:m')(Sg:Td)(T:Tv):=And.intro (@Wq _ _ C Sg T) (And.intro (@Wp _ _ C Sg T) (And.intro (@Wr _ _ C Sg T) (And.intro (@QI _ _ C Sg T) (And.intro (@QH _ _ C Sg T) (And.intro (@QJ _ _ C Sg T) (And.intro (@Wi _ _ C Sg T) (And.intro (@QA _ _ C Sg T) (And.intro (@Qz _ _ C Sg T) (And.intro (@Wt _ _ C Sg T) (And.intro (@E4 _ _ C Sg T) (And.intro (@K' _ _ C Sg T) (And.intro (@GQ _ _ C Sg T) (And.intro (@Jm _ _ C Sg T) (And.intro (@A3 _ _ C Sg T) (And.intro (@oH _ _ C Sg T) (And.intro (@Gg _ _ C Sg T) (And.intro (@QK _ _ C Sg T) (And.intro (@E5 _ _ C Sg T) (And.intro (@Gh _ _ C Sg T) (And.intro (@np _ _ C Sg T) (And.intro (@QB _ _ C Sg T) ((@Wk _ _ C Sg T)))))))))))))))))))))))
end
end Sx
namespace Sx
section
variable [Co] [C7]
variable {C:m'} {Sg:Td} {T:Tv}
def vq{h:HL}{l a:Nat}{st:LoopState}{b:Tm}{vs:Tn}(e:h[l]?=some (.lp a st b vs)):eI (g_ T h) l=some { Er (T a) a vs with state:=st,pending:=b }:=by
 unfold eI g_;rw[Ew,e];rfl
def L9(h:HL)(o:HO):g_ T (h++[o])=g_ T h++[EA T o]:=by simp[g_]
def zM{g:TQ}{first cap:Tl}{k:Nat}{b:Tn}{h h1:HL}{ls s:TG}{K:Tm->HL->Prop}{d:Nat}{st:LoopState}{c:Tm}{vs:Tn}{sg:GN}{xs:List S0}
  (o:aA C Sg g ls (g_ T (h++[.lp k .ready none b])) s (g_ T h1)) (r:Sg g=some sg) (l:bW xs sg.ps=true) (m:bX xs=ls) (n:aj xs=first.toList++[.func (.yield h.length) #[] #[]]++cap.toList)
  (q:h1[h.length]?=some (.lp d st c vs)) (e:st≠.busy) (p:K c (h1.set h.length (.lp d .exhausted c vs))):(PH C Sg T).Ei k (.func (.func g) first cap) b h (@i' _ ⟨K⟩):=by
 obtain⟨t,v,w,f,i,x,j⟩:=o;rw[r]at f;cases f;have a:(g_ T h).length=h.length:=gI T h;obtain⟨u,_⟩:=cW i.1 l (i.2.1.trans m.symm);rw[u,n,L9]at j;refine⟨g,first,cap,fQ (aj w),g_ T h1,{ Er (T d) d vs with state:=st,pending:=c },h1.set h.length (.lp d .exhausted c vs),rfl,?_,?_,e,?_,p⟩
 .rw[a];exact j
 .rw[a];exact vq q
 .rw[a];simp[g_,EA,l1]
def kJ{h:HL}{l:Nat}{o:HO}:g_ T (h.set l o)=(g_ T h).set l (EA T o):=by
 unfold g_;rw[l1]
def YJ{l a:Nat}{b:Tm}{vs:Tn}{h:HL}{K:HL->Prop}(d:h[l]?=some (.lp a .ready b vs))(c:K (h.set l (.lp a .busy b vs))):(PH C Sg T).H7 l h (@i' _ ⟨K⟩):=
 ⟨{ Er (T a) a vs with state:=.ready,pending:=b },h.set l (.lp a .busy b vs),vq d,rfl,kJ,c⟩
def hE{l a:Nat}{st:LoopState}{b:Tm}{vs:Tn}{h:HL}{K:HL->Prop}(d:h[l]?=some (.lp a st b vs))(c:K (h.set l (.lp a .ready none vs))):(PH C Sg T).Gt l none h (@i' _ ⟨K⟩):=
 ⟨{ Er (T a) a vs with state:=st,pending:=b },h.set l (.lp a .ready none vs),vq d,kJ,c⟩
def Wj{l:Nat}{ys:List S0}{b:Bool}{h h':HL}{K:Te}(e:ip C l (aj ys) (g_ T h) (.bool b) (g_ T h'))(d:K [.b b] h'):(PH C Sg T).BO (.func (.yield l) #[] #[]) (aj ys) [.leaf .b] h (@i' _ ⟨K⟩):=
 ⟨[.b b],h',⟨[.leaf (.b b)],⟨rfl,rfl,λx a=>by
  simp only[Fc]at a;subst a;intro y c;simp only[S0.cells,Fc]at c;subst c;trivial⟩,.inr ⟨l,rfl,e⟩⟩,d⟩
end
end Sx
namespace Sx
open Go.Proofs
def hA(A:B_ Prop HL):B_ Prop HL where
 fail:=A.fail
 cond b x y:=A.cond b (@i' _ ⟨x⟩) (@i' _ ⟨y⟩)
 z_ o k a b K:=A.z_ o k a b (@i' _ ⟨K⟩)
 FK o k a l b K:=A.FK o k a l b (@i' _ ⟨K⟩)
 cmp o a b K:=A.cmp o a b (@i' _ ⟨K⟩)
 eqs l K:=A.eqs l (@i' _ ⟨K⟩)
 conv k a K:=A.conv k a (@i' _ ⟨K⟩)
 Gq t a b K:=A.Gq t a b (@i' _ ⟨K⟩)
 j_ o K:=A.j_ o (@i' _ ⟨K⟩)
 nC v x:=A.nC v (@i' _ ⟨x⟩)
 pu l K:=A.pu l (@i' _ ⟨K⟩)
 D9 l K:=A.D9 l (@i' _ ⟨K⟩)
 Ci l K:=A.Ci l (@i' _ ⟨K⟩)
 w_ l x:=A.w_ l (@i' _ ⟨x⟩)
 td k l K:=A.td k l (@i' _ ⟨K⟩)
 D1 l K:=A.D1 l (@i' _ ⟨K⟩)
 BM l K:=A.BM l (@i' _ ⟨K⟩)
 v9 l x:=A.v9 l (@i' _ ⟨x⟩)
 my f h K:=A.my f h (@i' _ ⟨K⟩)
 heap f h K:=A.heap f h (@i' _ ⟨K⟩)
 new o h K:=A.new o h (@i' _ ⟨K⟩)
 call g l h K:=A.call g l h (@i' _ ⟨K⟩)
 BO v a s h K:=A.BO v a s h (@i' _ ⟨K⟩)
 join b m:=A.join (@i' _ ⟨b⟩) (@i' _ ⟨m⟩)
 loop F l h:=A.loop (@i' _ ⟨F⟩) l h
 Ei n v a h K:=A.Ei n v a h (@i' _ ⟨K⟩)
 DZ o x y l:=A.DZ o (@i' _ ⟨x⟩) (@i' _ ⟨y⟩) l
 H7 n h K:=A.H7 n h (@i' _ ⟨K⟩)
 Gt n o h K:=A.Gt n o h (@i' _ ⟨K⟩)
def Pu(A:B_ Prop HL):hA A=A:=rfl
section
variable {A:B_ Prop HL}
theorem BX{b:Bool}{x y:Prop}:(hA A).cond b x y=A.cond b (@i' _ ⟨x⟩) (@i' _ ⟨y⟩):=rfl
theorem e9{o:BinOp}{k:TL}{a b:Int}{K:Tw}:(hA A).z_ o k a b K=A.z_ o k a b (@i' _ ⟨K⟩):=rfl
theorem d7{o:BinOp}{k l:TL}{a b:Int}{K:Tw}:(hA A).FK o k a l b K=A.FK o k a l b (@i' _ ⟨K⟩):=rfl
theorem h8{o:BinOp}{a b:Int}{K:Tp}:(hA A).cmp o a b K=A.cmp o a b (@i' _ ⟨K⟩):=rfl
theorem hT{l:List (Lf×Lf)}{K:Tp}:(hA A).eqs l K=A.eqs l (@i' _ ⟨K⟩):=rfl
theorem BZ{k:TL}{a:Int}{K:Tw}:(hA A).conv k a K=A.conv k a (@i' _ ⟨K⟩):=rfl
theorem ek{t:Bool}{a b:Int}{K:Tw}:(hA A).Gq t a b K=A.Gq t a b (@i' _ ⟨K⟩):=rfl
theorem hX{i7:Type}{o:Option i7}{K:i7->Prop}:(hA A).j_ o K=A.j_ o (@i' _ ⟨K⟩):=rfl
theorem g7{v:TR}{x:Prop}:(hA A).nC v x=A.nC v (@i' _ ⟨x⟩):=rfl
theorem d4{l:TG}{K:Int->TG->Prop}:(hA A).pu l K=A.pu l (@i' _ ⟨K⟩):=rfl
theorem ej{l:TG}{K:Bool->TG->Prop}:(hA A).D9 l K=A.D9 l (@i' _ ⟨K⟩):=rfl
theorem ec{l:TG}{K:TR->TG->Prop}:(hA A).Ci l K=A.Ci l (@i' _ ⟨K⟩):=rfl
theorem ef{l:TG}{x:Prop}:(hA A).w_ l x=A.w_ l (@i' _ ⟨x⟩):=rfl
theorem ee{k:TL}{l:Tn}{K:Int->Tn->Prop}:(hA A).td k l K=A.td k l (@i' _ ⟨K⟩):=rfl
theorem d9{l:Tn}{K:Bool->Tn->Prop}:(hA A).D1 l K=A.D1 l (@i' _ ⟨K⟩):=rfl
theorem d6{l:Tn}{K:Ta}:(hA A).BM l K=A.BM l (@i' _ ⟨K⟩):=rfl
theorem eV{l:Tn}{x:Prop}:(hA A).v9 l x=A.v9 l (@i' _ ⟨x⟩):=rfl
theorem B4{f:Pk}{h:HL}{K:Tf}:(hA A).my f h K=A.my f h (@i' _ ⟨K⟩):=rfl
theorem sT{f:Hp}{h:HL}{K:Tb}:(hA A).heap f h K=A.heap f h (@i' _ ⟨K⟩):=rfl
theorem x1{o:p_}{h:HL}{K:Nat->HL->Prop}:(hA A).new o h K=A.new o h (@i' _ ⟨K⟩):=rfl
theorem BW{g:TQ}{l:TG}{h:HL}{K:Te}:(hA A).call g l h K=A.call g l h (@i' _ ⟨K⟩):=rfl
theorem Vy{v:TR}{a:Tn}{s:TN}{h:HL}{K:Te}:(hA A).BO v a s h K=A.BO v a s h (@i' _ ⟨K⟩):=rfl
theorem zv{b:Te}{m:(TG->HL->Prop)->Prop}:(hA A).join b m=A.join (@i' _ ⟨b⟩) (@i' _ ⟨m⟩):=rfl
theorem A6{F:(TG->HL->Prop)->TG->HL->Prop}{l:TG}{h:HL}:(hA A).loop F l h=A.loop (@i' _ ⟨F⟩) l h:=rfl
theorem u7{n:Nat}{v:TR}{a:Tn}{h:HL}{K:Tm->HL->Prop}:(hA A).Ei n v a h K=A.Ei n v a h (@i' _ ⟨K⟩):=rfl
theorem B5{o:Tm}{x y:Prop}{l:List (Nat×Prop)}:(hA A).DZ o x y l=A.DZ o (@i' _ ⟨x⟩) (@i' _ ⟨y⟩) l:=rfl
theorem kg{n:Nat}{h:HL}{K:HL->Prop}:(hA A).H7 n h K=A.H7 n h (@i' _ ⟨K⟩):=rfl
theorem x2{n:Nat}{o:Tm}{h:HL}{K:HL->Prop}:(hA A).Gt n o h K=A.Gt n o h (@i' _ ⟨K⟩):=rfl
end
def pxh(A:B_ Prop HL):=And.intro (@BX A) (And.intro (@e9 A) (And.intro (@d7 A) (And.intro (@h8 A) (And.intro (@hT A) (And.intro (@BZ A) (And.intro (@ek A) (And.intro (@hX A) (And.intro (@g7 A) (And.intro (@d4 A) (And.intro (@ej A) (And.intro (@ec A) (And.intro (@ef A) (And.intro (@ee A) (And.intro (@d9 A) (And.intro (@d6 A) (And.intro (@eV A) (And.intro (@B4 A) (And.intro (@sT A) (And.intro (@x1 A) (And.intro (@BW A) (And.intro (@Vy A) (And.intro (@zv A) (And.intro (@A6 A) (And.intro (@u7 A) (And.intro (@B5 A) (And.intro (@kg A) ((@x2 A))))))))))))))))))))))))))))
end Sx
end Go.Am
namespace Go.Am
open Sx Go.Proofs
def Vw(g:Nat)(vs:Tn)(h:cc.G g=some vs):vs.all bh=true:=by
 unfold cc at h;simp only at h;split at h<;>first|(cases h;done)|(obtain rfl:=D' h;kernel_rfl)
abbrev P1:B_ Prop HL:=PH cc ac aa
abbrev Cc(g:TQ)(ls a:TG):Prop:=∀H,aA cc ac g ls H a H
def z3{f:TQ}{c:Fn1}(i:Gx (xc f) ac f c){ls:TG}{H:HL}{K:Te}(b:iQ ls=true)
  (h:aw P1 (xc f) ac IC c ls H K):∃a H',aA cc ac f ls (g_ aa H) a (g_ aa H')/\K a H':=by
 obtain⟨a,g,d,_,e⟩:=sR (X:=xc f) (holds:=id) (abs:=g_ aa) (N0 cc ac aa) uM i (fG b) h;exact⟨a,g,d,e⟩
def BV{f:TQ}{c:Fn1}(i:Gx (xc f) ac f c){ls:TG}{H:HL}{K:Te}(b:dU ls)
  (h:aw P1 (xc f) ac IC c ls H K):∃a H',aA cc ac f ls (g_ aa H) a (g_ aa H')/\K a H':=by
 obtain⟨a,g,d,_,e⟩:=sR (X:=xc f) (holds:=id) (abs:=g_ aa) (N0 cc ac aa) uM i b h;exact⟨a,g,d,e⟩
def t0:dU []:=λ_ h=>by cases h
def k_{n:Int}{ls:TG}(h:dU ls):dU (.i n :: ls):=λl a=>by
 rcases DB.1 a with rfl|a
 .trivial
 .exact h l a
def H0{n:Bool}{ls:TG}(h:dU ls):dU (.b n :: ls):=λl a=>by
 rcases DB.1 a with rfl|a
 .trivial
 .exact h l a
def q7{x:TR}{ls:TG}(b:aF x=true)(h:dU ls):dU (.v x :: ls):=λl a=>by
 rcases DB.1 a with rfl|a
 .exact b
 .exact h l a
abbrev FP:=List Lf->HL->(TG->HL->Prop)->Prop
abbrev UG(k:TQ)(p:FP):Prop:=∀ {ls:TG} {H:HL} {K:Te},iQ ls=true->p ls H K->∃a H',aA cc ac k ls (g_ aa H) a (g_ aa H')/\K a H'
abbrev XG(k:TQ)(p:FP):Prop:=∀ {ls:TG} {H:HL} {K:Te},dU ls->p ls H K->∃a H',aA cc ac k ls (g_ aa H) a (g_ aa H')/\K a H'
abbrev QG(k:TQ)(p:FP):Prop:=∀ {ls b:TG},iQ ls=true->p ls [] (λa _=>a=b)->Cc k ls b
abbrev YG(k:Nat)(p:Tn->Nat->FP):Prop:=∀ {vs:Tn} {a:Nat} {ls:TG} {H:HL} {K:Te} {st:LoopState} {c:Tm} {ys:List S0},H[a]?=some (.lp k st c vs)->Told ((aa k).params.map (·.2)) ls ys->p vs a ls H K->∃b H',ip cc a (aj ys) (g_ aa H) (.bool b) (g_ aa H')/\K [.b b] H'
def uu{k:TQ}{c:Fn1}{f:{R a:Type}->B_ R a->TG->a->(TG->a->R)->R}(d:Gx (xc k) ac k c)(e:@f=λR a A ls h K=>aw A (xc k) ac IC c ls h K):UG k (f (hA P1)):=by
 intro ls H K b h;rw[Pu,e]at h;exact z3 d b h
def xx{k:TQ}{c:Fn1}{f:{R a:Type}->B_ R a->TG->a->(TG->a->R)->R}(d:Gx (xc k) ac k c)(e:@f=λR a A ls h K=>aw A (xc k) ac IC c ls h K):XG k (f (hA P1)):=by
 intro ls H K b h;rw[Pu,e]at h;exact BV d b h
def qq{k:TQ}{sg:GN}{p:FP}(e:UG k p)(d:ac k=some sg)(c:sg.plain=true):QG k p:=λa h=>by
 obtain⟨_,_,b,rfl⟩:=e a h;exact Yr GE pH d c b
def yy{k:Nat}{f:{R a:Type}->B_ R a->Tn->Nat->TG->a->(TG->a->R)->R}(e:@f=λR a A vs b ls h K=>sS A (xc 0) ac IC (aa k) vs b ls h K):YG k (f (hA P1)):=by
 intro vs b ls H K i g j c d h;rw[Pu,e]at h;exact yP (X:=xc 0) (N0 cc ac aa) uM (vq c) rfl rfl rfl rfl d h
def qxs:=pxs cc ac aa
def u5:=And.intro (qeq (hA P1)) (pxh P1)
def qxc:=pxc cc ac aa
def qxa:=pxa cc ac aa
def nc:=And.intro qxs (And.intro qxc qxa)
def e_{P Q:Prop}(k:Q)(h:P=Q:=by simp(disch:=omega)only[↓nc];exact rfl):P:=Eq.mpr h k
def km{P Q:Prop}(k:Q)(h:P=Q:=by first|(simp(disch:=omega)only[↓nc];exact rfl)|exact rfl):P:=Eq.mpr h k
def x5:XG 5 (f5 (hA P1)):=xx i5 e5
def x8:XG 8 (f8 (hA P1)):=xx i8 e8
def x11:XG 11 (f11 (hA P1)):=xx i11 e11
def u12:UG 12 (f12 (hA P1)):=uu i12 e12
def q12:QG 12 (f12 (hA P1)):=qq u12 rfl d_
def x13:XG 13 (f13 (hA P1)):=xx i13 e13
def x14:XG 14 (f14 (hA P1)):=xx i14 e14
def x16:XG 16 (f16 (hA P1)):=xx i16 e16
def x18:XG 18 (f18 (hA P1)):=xx i18 e18
def x23:XG 23 (f23 (hA P1)):=xx i23 e23
def u24:UG 24 (f24 (hA P1)):=uu i24 e24
def q24:QG 24 (f24 (hA P1)):=qq u24 rfl d_
def x26:XG 26 (f26 (hA P1)):=xx i26 e26
def x29:XG 29 (f29 (hA P1)):=xx i29 e29
def x30:XG 30 (f30 (hA P1)):=xx i30 e30
def x31:XG 31 (f31 (hA P1)):=xx i31 e31
def u32:UG 32 (f32 (hA P1)):=uu i32 e32
def q32:QG 32 (f32 (hA P1)):=qq u32 rfl d_
def x33:XG 33 (f33 (hA P1)):=xx i33 e33
def u34:UG 34 (f34 (hA P1)):=uu i34 e34
def q34:QG 34 (f34 (hA P1)):=qq u34 rfl d_
def u35:UG 35 (f35 (hA P1)):=uu i35 e35
def q35:QG 35 (f35 (hA P1)):=qq u35 rfl d_
def u36:UG 36 (f36 (hA P1)):=uu i36 e36
def q36:QG 36 (f36 (hA P1)):=qq u36 rfl d_
def u37:UG 37 (f37 (hA P1)):=uu i37 e37
def q37:QG 37 (f37 (hA P1)):=qq u37 rfl d_
def u38:UG 38 (Yt (hA P1)):=uu i38 e38
def q38:QG 38 (Yt (hA P1)):=qq u38 rfl d_
def u40:UG 40 (f40 (hA P1)):=uu i40 e40
def q40:QG 40 (f40 (hA P1)):=qq u40 rfl d_
def u44:UG 44 (f44 (hA P1)):=uu i44 e44
def x45:XG 45 (f45 (hA P1)):=xx i45 e45
def x46:XG 46 (f46 (hA P1)):=xx i46 e46
def x48:XG 48 (f48 (hA P1)):=xx i48 e48
def u58:UG 58 (f58 (hA P1)):=uu i58 e58
def q58:QG 58 (f58 (hA P1)):=qq u58 rfl d_
def u62:UG 62 (f62 (hA P1)):=uu i62 e62
def q62:QG 62 (f62 (hA P1)):=qq u62 rfl d_
def u63:UG 63 (f63 (hA P1)):=uu i63 e63
def q63:QG 63 (f63 (hA P1)):=qq u63 rfl d_
def u64:UG 64 (f64 (hA P1)):=uu i64 e64
def q64:QG 64 (f64 (hA P1)):=qq u64 rfl d_
def u65:UG 65 (f65 (hA P1)):=uu i65 e65
def q65:QG 65 (f65 (hA P1)):=qq u65 rfl d_
def u66:UG 66 (f66 (hA P1)):=uu i66 e66
def q66:QG 66 (f66 (hA P1)):=qq u66 rfl d_
def u67:UG 67 (f67 (hA P1)):=uu i67 e67
def q67:QG 67 (f67 (hA P1)):=qq u67 rfl d_
def x68:XG 68 (f68 (hA P1)):=xx i68 e68
def x70:XG 70 (f70 (hA P1)):=xx i70 e70
def x71:XG 71 (f71 (hA P1)):=xx i71 e71
def x72:XG 72 (f72 (hA P1)):=xx i72 e72
def x73:XG 73 (f73 (hA P1)):=xx i73 e73
def x74:XG 74 (f74 (hA P1)):=xx i74 e74
def x75:XG 75 (f75 (hA P1)):=xx i75 e75
def x76:XG 76 (f76 (hA P1)):=xx i76 e76
def x77:XG 77 (f77 (hA P1)):=xx i77 e77
def u78:UG 78 (f78 (hA P1)):=uu i78 e78
def q78:QG 78 (f78 (hA P1)):=qq u78 rfl d_
def u79:UG 79 (f79 (hA P1)):=uu i79 e79
def q79:QG 79 (f79 (hA P1)):=qq u79 rfl d_
def u81:UG 81 (f81 (hA P1)):=uu i81 e81
def q81:QG 81 (f81 (hA P1)):=qq u81 rfl d_
def x84:XG 84 (f84 (hA P1)):=xx i84 e84
def u85:UG 85 (f85 (hA P1)):=uu i85 e85
def q85:QG 85 (f85 (hA P1)):=qq u85 rfl d_
def u86:UG 86 (f86 (hA P1)):=uu i86 e86
def q86:QG 86 (f86 (hA P1)):=qq u86 rfl d_
def x88:XG 88 (f88 (hA P1)):=xx i88 e88
def x93:XG 93 (f93 (hA P1)):=xx i93 e93
def u94:UG 94 (f94 (hA P1)):=uu i94 e94
def q94:QG 94 (f94 (hA P1)):=qq u94 rfl d_
def u98:UG 98 (f98 (hA P1)):=uu i98 e98
def q98:QG 98 (f98 (hA P1)):=qq u98 rfl d_
def u99:UG 99 (f99 (hA P1)):=uu i99 e99
def q99:QG 99 (f99 (hA P1)):=qq u99 rfl d_
def u100:UG 100 (Sp (hA P1)):=uu i100 e100
def q100:QG 100 (Sp (hA P1)):=qq u100 rfl d_
def x101:XG 101 (Sq (hA P1)):=xx i101 e101
def x103:XG 103 (Va (hA P1)):=xx i103 e103
def u104:UG 104 (Sr (hA P1)):=uu i104 e104
def q104:QG 104 (Sr (hA P1)):=qq u104 rfl d_
def u105:UG 105 (Ss (hA P1)):=uu i105 e105
def q105:QG 105 (Ss (hA P1)):=qq u105 rfl d_
def x106:XG 106 (Vb (hA P1)):=xx i106 e106
def x107:XG 107 (Vc (hA P1)):=xx i107 e107
def u108:UG 108 (Su (hA P1)):=uu i108 e108
def q108:QG 108 (Su (hA P1)):=qq u108 rfl d_
def x109:XG 109 (Vd (hA P1)):=xx i109 e109
def Xr:XG 110 (Ve (hA P1)):=xx i110 e110
def Sn:XG 111 (Sv (hA P1)):=xx i111 e111
def x112:XG 112 (Sw (hA P1)):=xx i112 e112
def So:XG 113 (Sy (hA P1)):=xx i113 e113
def x114:XG 114 (Sz (hA P1)):=xx i114 e114
def Do:XG 115 (SA (hA P1)):=xx i115 e115
def x116:XG 116 (Vf (hA P1)):=xx i116 e116
def u127:UG 127 (SB (hA P1)):=uu i127 e127
def q127:QG 127 (SB (hA P1)):=qq u127 rfl d_
def u128:UG 128 (SC (hA P1)):=uu i128 e128
def q128:QG 128 (SC (hA P1)):=qq u128 rfl d_
def u129:UG 129 (GT (hA P1)):=uu i129 e129
def q129:QG 129 (GT (hA P1)):=qq u129 rfl d_
def x130:XG 130 (Vg (hA P1)):=xx i130 e130
def u131:UG 131 (Se (hA P1)):=uu i131 e131
def q131:QG 131 (Se (hA P1)):=qq u131 rfl d_
def u140:UG 140 (SD (hA P1)):=uu i140 e140
def q140:QG 140 (SD (hA P1)):=qq u140 rfl d_
def x141:XG 141 (Vh (hA P1)):=xx i141 e141
def x142:XG 142 (Vi (hA P1)):=xx i142 e142
def x143:XG 143 (Vj (hA P1)):=xx i143 e143
def u149:UG 149 (Sf (hA P1)):=uu i149 e149
def q149:QG 149 (Sf (hA P1)):=qq u149 rfl d_
def x150:XG 150 (Vk (hA P1)):=xx i150 e150
def Xs:XG 152 (Vl (hA P1)):=xx i152 e152
def u154:UG 154 (SE (hA P1)):=uu i154 e154
def q154:QG 154 (SE (hA P1)):=qq u154 rfl d_
def u155:UG 155 (SF (hA P1)):=uu i155 e155
def q155:QG 155 (SF (hA P1)):=qq u155 rfl d_
def u156:UG 156 (Si (hA P1)):=uu i156 e156
def q156:QG 156 (Si (hA P1)):=qq u156 rfl d_
def u162:UG 162 (SG (hA P1)):=uu i162 e162
def q162:QG 162 (SG (hA P1)):=qq u162 rfl d_
def u163:UG 163 (SH (hA P1)):=uu i163 e163
def q163:QG 163 (SH (hA P1)):=qq u163 rfl d_
def x164:XG 164 (Vm (hA P1)):=xx i164 e164
def u168:UG 168 (SI (hA P1)):=uu i168 e168
def q168:QG 168 (SI (hA P1)):=qq u168 rfl d_
def u170:UG 170 (SJ (hA P1)):=uu i170 e170
def q170:QG 170 (SJ (hA P1)):=qq u170 rfl d_
def x171:XG 171 (Vn (hA P1)):=xx i171 e171
def u172:UG 172 (SM (hA P1)):=uu i172 e172
def q172:QG 172 (SM (hA P1)):=qq u172 rfl d_
def gx:YG 176 (y176 (hA P1)):=yy p0
def l2:YG 224 (y224 (hA P1)):=yy tl
def xK{k:TQ}{p:FP}(c:XG k p){ls R:TG}{H H':HL}(b:dU ls)(h:p ls H λa h'=>a=R/\h'=H'):aA cc ac k ls (g_ aa H) R (g_ aa H'):=by
 grind
end Go.Am
namespace Go.Am
namespace Sx
def fZ{vs:Tn}{off n:Nat}{cs:Tn}:cut vs off n=some cs↔off+n<=vs.length/\(vs.drop off).take n=cs:=by
 unfold cut
 simp_all
def lU{vs:Tn}{off n:Nat}{cs:Tn}(h:cut vs off n=some cs){o k:Nat}(b:o+k<=n):cut vs (off+o) k=some ((cs.drop o).take k):=by
 obtain⟨a,rfl⟩:=fZ.1 h;refine fZ.2 ⟨a_,?_⟩;rw[List.drop_take,n5,List.take_take,zP a_]
def wa{vs:Tn}{n:Nat}(h:vs.length=n):cut vs 0 n=some vs:=fZ.2 ⟨a_,jn⟩
def v_(h0 h:HL):Prop:=∃G,h=h0++G
theorem v_.refl(h:HL):v_ h h:=⟨[],c_⟩
def v_.trans{a b c:HL}(h:v_ a b)(k:v_ b c):v_ a c:=by
 obtain⟨G,rfl⟩:=h;obtain⟨d,rfl⟩:=k;exact⟨G++d,c_⟩
def v_.Fa{a b:HL}(h:v_ a b)(G:HL):v_ a (b++G):=h.trans ⟨G,rfl⟩
def v_.len{a b:HL}(h:v_ a b):a.length<=b.length:=by obtain⟨G,rfl⟩:=h;simp
def v_.get{a b:HL}(h:v_ a b){i:Nat}{o:HO}(c:a[i]?=some o):b[i]?=some o:=by
 obtain⟨G,rfl⟩:=h
 grind
def v_.set{a b:HL}(h:v_ a b){i:Nat}(c:a.length<=i)(o:HO):v_ a (b.set i o):=by
 obtain⟨G,rfl⟩:=h;rw[qcH _ _ c];exact⟨_,rfl⟩
def Gy(h:HL)(p:Value)(cs:Tn):Prop:=∃id o vs e rw,p = .pointer (some ⟨id,o,none⟩)/\h[id]?=some (.o (.cells vs e rw))/\cut vs o cs.length=some cs
def F1(h:HL)(v:Value)(e n:Nat)(cs:Tn):Prop:=
 cs.length=n*e/\((v = .slice none 0 0/\n=0)∨∃id off cx vs rw,v = .slice (some ⟨id,off,le e⟩) n cx/\h[id]?=some (.o (.cells vs e rw))/\cut vs off (n*e)=some cs)
def q9{i7:Type}(h:HL)(v:Value)(e:Nat)(enc:i7->Tn)(l:List i7):Prop:=(∀a∈l,(enc a).length=e)/\F1 h v e l.length (l.flatMap enc)
def Mk(n0:Nat)(h:HL)(v:Value)(e n:Nat)(cs:Tn):Prop:=
 cs.length=n*e/\((v = .slice none 0 0/\n=0)∨∃id,n0<=id/\v = .slice (some ⟨id,0,le e⟩) n 0/\h[id]?=some (.o (.cells cs e true)))
def MkL{i7:Type}(n0:Nat)(h:HL)(v:Value)(e:Nat)(enc:i7->Tn)(l:List i7):Prop:=(∀a∈l,(enc a).length=e)/\Mk n0 h v e l.length (l.flatMap enc)
def hY:Value->Option Nat
 | .slice (some a) _ _=>some a.block
 |_=>none
def F1.j9{h h':HL}{v:TR}{e n:Nat}{cs:Tn}(l:F1 h v e n cs)(k:∀(j:Nat) o,h[j]?=some o->hY v=some j->h'[j]?=some o):F1 h' v e n cs:=by
 obtain⟨c,f|⟨id,a,d,m,b,rfl,g,i⟩⟩:=l
 .exact⟨c,.inl f⟩
 .exact⟨c,.inr ⟨id,a,d,m,b,rfl,k _ _ g rfl,i⟩⟩
def F1.pre{h h':HL}{v:TR}{e n:Nat}{cs:Tn}(b:F1 h v e n cs)(a:v_ h h'):F1 h' v e n cs:=b.j9 λ_ _ h _=>a.get h
def q9.j9{i7:Type}{h h':HL}{v:TR}{e:Nat}{enc:i7->Tn}{l:List i7}(a:q9 h v e enc l)(b:∀(j:Nat) o,h[j]?=some o->hY v=some j->h'[j]?=some o):q9 h' v e enc l:=⟨a.1,a.2.j9 b⟩
def q9.pre{i7:Type}{h h':HL}{v:TR}{e:Nat}{enc:i7->Tn}{l:List i7}(a:q9 h v e enc l)(b:v_ h h'):q9 h' v e enc l:=⟨a.1,a.2.pre b⟩
def F1.len{h:HL}{v:TR}{e n:Nat}{cs:Tn}(a:F1 h v e n cs):GF v=some (.ofNat n):=by
 obtain⟨_,⟨rfl,rfl⟩|⟨id,b,d,f,c,rfl,_⟩⟩:=a<;>rfl
def q9.len{i7:Type}{h:HL}{v:TR}{e:Nat}{enc:i7->Tn}{l:List i7}(a:q9 h v e enc l):GF v=some (.ofNat l.length):=a.2.len
def Mk.sl{n0:Nat}{h:HL}{v:TR}{e n:Nat}{cs:Tn}(d:Mk n0 h v e n cs):F1 h v e n cs:=by
 obtain⟨a,b|⟨id,_,rfl,c⟩⟩:=d
 .exact⟨a,.inl b⟩
 .exact⟨a,.inr ⟨id,0,0,cs,true,rfl,c,wa a⟩⟩
def MkL.ls{i7:Type}{n0:Nat}{h:HL}{v:TR}{e:Nat}{enc:i7->Tn}{l:List i7}(a:MkL n0 h v e enc l):q9 h v e enc l:=⟨a.1,a.2.sl⟩
def Mk.nil(n0:Nat)(h:HL)(e:Nat):Mk n0 h (.slice none 0 0) e 0 []:=⟨c_,.inl ⟨rfl,rfl⟩⟩
def MkL.nil{i7:Type}(n0:Nat)(h:HL)(e:Nat)(enc:i7->Tn):MkL n0 h (.slice none 0 0) e enc []:=⟨c_,Mk.nil n0 h e⟩
def q9.nil{i7:Type}(h:HL)(e:Nat)(enc:i7->Tn):q9 h (.slice none 0 0) e enc []:=(MkL.nil 0 h e enc).ls
def Mk.j9{n0:Nat}{h h':HL}{v:TR}{e n:Nat}{cs:Tn}(f:Mk n0 h v e n cs)(d:∀(j:Nat) o,h[j]?=some o->hY v=some j->h'[j]?=some o):Mk n0 h' v e n cs:=by
 obtain⟨b,a|⟨id,a,rfl,c⟩⟩:=f
 .exact⟨b,.inl a⟩
 .exact⟨b,.inr ⟨id,a,rfl,d _ _ c rfl⟩⟩
def Mk.pre{n0:Nat}{h h':HL}{v:TR}{e n:Nat}{cs:Tn}(b:Mk n0 h v e n cs)(a:v_ h h'):Mk n0 h' v e n cs:=b.j9 λ_ _ h _=>a.get h
def aR{i7:Type}{e:Nat}{enc:i7->Tn}:∀ {l:List i7},(∀a∈l,(enc a).length=e)->(l.flatMap enc).length=l.length*e
 | [],_=>c_
 |a :: l,h=>by
  rw[S6,Gv,h a Lk,aR λb c=>h b (E7 _ c),YV,Js,S9,Nat.add_comm]
def ma{i7:Type}{e:Nat}{enc:i7->Tn}:∀ {l:List i7},(∀a∈l,(enc a).length=e)->∀ {i:Nat} {a:i7},l[i]?=some a->((l.flatMap enc).drop (i*e)).take e=enc a
 |b :: l,h,0,a,c=>by
  simp_all
 |b :: l,h,i+1,a,c=>by
  simp only[z2]at c;have d:=h b Lk;have:=ma (λb d=>h b (E7 _ d)) c;rw[S6,Js,S9,←this];have f:i*e+e=(enc b).length+i*e:=a_;rw[f,bP,BR a_,DA,qdg]
 | [],_,_,_,c=>by simp at c
def F1.at{h:HL}{v:TR}{e n:Nat}{cs:Tn}(j:F1 h v e n cs){i:Nat}(q:i<n):∃p,BL e v (.ofNat i)=some p/\Gy h p ((cs.drop (i*e)).take e):=by
 obtain⟨m,⟨rfl,rfl⟩|⟨id,a,l,k,c,rfl,d,f⟩⟩:=j
 .omega
 .have b:i*e+e<=n*e:=by
   have:=Q9 e (show i+1<=n by omega)
   grind
  refine⟨.pointer (some ⟨id,a+i*e,none⟩),?_,id,a+i*e,k,e,c,rfl,d,?_⟩
  .rw[rj];have g:0<=ofNat i/\ofNat i<(n:Int):=⟨GK i,kb⟩;simp only[rv g];have:¬(le e=some 1):=by simp[le]
   simp_all
  .have o:=lU f b
   grind
def q9.at{i7:Type}{h:HL}{v:TR}{e:Nat}{enc:i7->Tn}{l:List i7}(d:q9 h v e enc l){i:Nat}{a:i7}(g:l[i]?=some a):∃p,BL e v (.ofNat i)=some p/\Gy h p (enc a):=by
 have b:i<l.length:=by
  grind
 obtain⟨p,f,c⟩:=d.2.at b;rw[ma d.1 g]at c;exact⟨p,f,c⟩
def Gy.fd{h:HL}{p:TR}{cs:Tn}(g:Gy h p cs)(o k:Nat)(f:o+k<=cs.length):∃b,Dm o p=some b/\Gy h b ((cs.drop o).take k):=by
 obtain⟨id,i,j,e,a,rfl,c,d⟩:=g;refine⟨_,rfl,id,i+o,j,e,a,rfl,c,?_⟩;have l:=lU d f
 grind
section
variable [Co] [C7]
def bF{T:Tv}{h:HL}{i:Nat}{o:p_}(a:h[i]?=some (.o o)):tf T h i=some o:=by
 unfold tf;rw[a];rfl
def Gy.ld{T:Tv}{h:HL}{p:TR}{cs:Tn}(f:Gy h p cs){n:Nat}(d:cs.length=n):(Pk.ld n p).run (tf T h)=some cs:=by
 obtain⟨id,o,a,e,g,rfl,b,c⟩:=f;subst d;show(match (none:Ts)with|none=>(iD (tf T h) id).bind λa=>cut a o cs.length|some _=>none)=_;unfold iD;rw[bF b];exact c
def Gy.lg{C:m'}{T:Tv}{h:HL}{p:TR}{cs:Tn}(f:Gy h p cs){n:Nat}(d:cs.length=n):(Pk.lg C n p).run (tf T h)=some cs:=by
 obtain⟨id,o,a,e,g,rfl,b,c⟩:=f;subst d;show(iD (tf T h) id).bind (λa=>cut a o cs.length)=_;unfold iD;rw[bF b];exact c
def nz{C:m'}{T:Tv}{h:HL}{v:TR}{e n:Nat}{cs:Tn}(c:F1 h v e n cs):NP C e (tf T h) v=some (cs,n):=by
 obtain⟨a,⟨rfl,rfl⟩|⟨id,d,g,j,f,rfl,b,i⟩⟩:=c
 .simp only[Y2,NM]at a;subst a;rfl
 .unfold NP;have:¬(le e=some 1):=by simp[le]
  simp only[te this,if_true];rw[bF b]
  simp_all
variable {C:m'} {Sg:Td} {T:Tv}
def p8{n0:Nat}{h0 h:HL}{v x:TR}{e n k bytes:Nat}{cs new:Tn}(f:v_ h0 h)(s:h0.length=n0)(p:Mk n0 h v e n cs)(r:F1 h x e k new)(z:bc (n+k) bytes=true) :
  ∃b v',(Hp.ap C e bytes v x).run (tf T h) h.length=some (b,[v'])/\v_ h0 (bG h b)/\Mk n0 (bG h b) v' e (n+k) (cs++new)/\
   (∀(j:Nat) o,h[j]?=some o->hY v≠some j->(bG h b)[j]?=some o)/\(hY v'=hY v∨hY v'=none∨∃j,hY v'=some j/\h.length<=j):=by
 obtain⟨g,p⟩:=p;have i:=r.1;have q:(cs++new).length=(n+k)*e:=jn;have c:=nz (C:=C) (T:=T) r;rcases p with⟨rfl,rfl⟩|⟨id,i',rfl,l⟩
 .simp only[Y2,NM]at g;subst g;by_cases m:k=0
  .subst m;simp only[Y2,NM]at i;subst i;refine⟨[],.slice none 0 0,?_,f,Mk.nil _ _ _,λj o d _=>d,.inl rfl⟩;show Em C e bytes (.slice none 0 0) x (tf T h) h.length=_;unfold Em;rw[c];rfl
  .refine⟨[.push (.cells new e true)],.slice (some ⟨h.length,0,le e⟩) k 0,?_,f.Fa _,?_,λj o d _=>?_,.inr (.inr ⟨h.length,rfl,A9 _⟩)⟩
   .show Em C e bytes (.slice none 0 0) x (tf T h) h.length=_;unfold Em
    simp_all
   .rw[ER,DA];refine⟨a_,.inr ⟨h.length,by have:=f.len;omega,rfl,?_⟩⟩;simp[bG,Cw.onH]
   .exact v_.get ⟨_,rfl⟩ d
 .by_cases m:k=0
  .subst m;simp only[Y2,NM]at i;subst i;refine⟨[],.slice (some ⟨id,0,le e⟩) n 0,?_,f,⟨q,.inr ⟨id,i',rfl,by simpa[bG]using l⟩⟩,λj o d _=>d,.inl rfl⟩;show Em C e bytes (.slice (some ⟨id,0,le e⟩) n 0) x (tf T h) h.length=_;unfold Em;rw[c];simp only[ne_eq,not_true_eq_false,if_false];rw[bF l];simp only[ne_eq,not_true_eq_false,if_false];rw[wa g];rfl
  .have w:id<h.length:=by
    grind
   refine⟨[.set id .dead,.push (.cells (cs++new) e true)],.slice (some ⟨h.length,0,le e⟩) (n+k) 0,?_,?_,?_,λj o d t=>?_,.inr (.inr ⟨h.length,rfl,A9 _⟩)⟩
   .show Em C e bytes (.slice (some ⟨id,0,le e⟩) n 0) x (tf T h) h.length=_;unfold Em;rw[c];simp only[ne_eq,not_true_eq_false,if_false];rw[bF l];simp only[ne_eq,not_true_eq_false,if_false];rw[wa g]
    simp_all
   .exact(f.set a_ _).Fa _
   .refine⟨q,.inr ⟨h.length,a_,rfl,?_⟩⟩;simp[bG,Cw.onH]
   .have y:id≠j:=λu=>t (by subst u;rfl);refine v_.get (a:=h.set id (.o .dead)) ⟨_,rfl⟩ ?_
    simp_all
def na{i7:Type}{h0 h:HL}{v:TR}{e bytes:Nat}{enc:i7->Tn}{l:List i7}{a:i7}{K:Tb}{new:Tn}{m:Nat}{p:Ts}(w:v_ h0 h)(n:MkL h0.length h v e enc l)(u:new=enc a)(B:(enc a).length=e)(f:m=h.length)(g:p=some (e+10))
  (x:bc (l.length+1) bytes=true)
  (t:∀v' h',v_ h0 h'->MkL h0.length h' v' e enc (l++[a])->aF v'=true->(∀(j:Nat) o,h[j]?=some o->hY v≠some j->h'[j]?=some o)->(hY v'=hY v∨∃j,hY v'=some j/\h.length<=j)->K [v'] h') :
  (PH C Sg T).heap (.ap C e bytes v (.slice (some ⟨m,0,p⟩) 1 2)) (h++[.o (.cells new e true)]) (@i' _ ⟨K⟩):=by
 subst u f g;have y:F1 (h++[HO.o (.cells (enc a) e true)]) (.slice (some ⟨h.length,0,le e⟩) 1 2) e 1 (enc a):=by
  refine⟨a_,.inr ⟨h.length,0,2,enc a,true,rfl,c_,wa a_⟩⟩
 have d:Mk h0.length (h++[HO.o (.cells (enc a) e true)]) v e l.length (l.flatMap enc):=n.2.pre ⟨_,rfl⟩;obtain⟨k,v',q,r,i,z,s⟩:=p8 (C:=C) (T:=T) (w.Fa [HO.o (.cells (enc a) e true)]) rfl d y x;refine bH q (t v' _ r ⟨?_,?_⟩ ?_ ?_ ?_)
 .intro b hb;rcases Ek.1 hb with hb|hb
  .exact n.1 b hb
  simp_all
 .simp_all
 .obtain⟨_,⟨rfl,_⟩|⟨id,_,rfl,_⟩⟩:=i
  .rfl
  .simp[aF,n_,aS,bB,bi,aO,aH,le]
 .grind
 .rcases s with c|c|⟨j,c,A⟩
  .exact .inl c
  .obtain⟨D,⟨_,E⟩|⟨id,_,rfl,_⟩⟩:=i
   .omega
   .cases c
  grind
end
end Sx
namespace Sx
def Gy.i_{h:HL}{p:TR}{cs:Tn}(a:Gy h p cs):aF p=true:=by
 obtain⟨id,o,c,e,b,rfl,_⟩:=a;simp[aF,n_,aS,bB,bi,aO,aH]
def F1.i_{h:HL}{v:TR}{e n:Nat}{cs:Tn}(a:F1 h v e n cs):aF v=true:=by
 obtain⟨_,⟨rfl,_⟩|⟨id,b,d,f,c,rfl,_⟩⟩:=a
 .rfl
 .simp[aF,n_,aS,bB,bi,aO,aH,le]
def q9.i_{i7:Type}{h:HL}{v:TR}{e:Nat}{enc:i7->Tn}{l:List i7}(a:q9 h v e enc l):aF v=true:=a.2.i_
section
variable [Co] [C7] {C:m'} {Sg:Td} {T:Tv}
def Di{F:(TG->HL->Prop)->TG->HL->Prop}{s:Te}{l:TG}{h:HL}(a:F s l h):@i' _ ⟨F⟩ s l h:=a
def bN{g9:Type}{F:(TG->HL->Prop)->TG->HL->Prop}(n:Nat)(S:Nat->g9->TG)(d:Nat->g9->HL)(Inv:Nat->g9->Prop){j0:Nat}{s0:g9}{ls:TG}{h:HL}(i:ls=S j0 s0)(k:h=d j0 s0)(g:j0<=n)(e:Inv j0 s0)
  (step:∀j s,j<=n->Inv j s->∀a:TG->HL->Prop,(∀c,j<n->Inv (j+1) c->a (S (j+1) c) (d (j+1) c))->F a (S j s) (d j s)):(PH C Sg T).loop (@i' _ ⟨F⟩) ls h:=by
 subst i k;refine aJ (m:=n - j0) (λm ls h=>∃j s,ls=S j s/\h=d j s/\j<=n/\m=n - j/\Inv j s) ⟨j0,s0,rfl,rfl,g,rfl,e⟩ ?_;rintro m ls h ⟨j,s,rfl,rfl,g,rfl,e⟩ a b;exact Di (step j s g e a λc l f=>b (n - (j+1)) _ _ a_ ⟨j+1,c,rfl,rfl,a_,rfl,f⟩)
abbrev _root_.Tz:=Nat->Prop
def mf{F:(TG->HL->Prop)->TG->HL->Prop}(n:Nat)(Inv:Tz){j0:Nat}{h:HL}{ls:TG}(f:ls=[.i (ofNat j0)])(e:j0<=n)(d:Inv j0)
  (step:∀j,j<=n->Inv j->∀c:TG->HL->Prop,(j<n->Inv (j+1)->c [.i (ofNat j+1)] h)->F c [.i (ofNat j)] h):(PH C Sg T).loop (@i' _ ⟨F⟩) ls h:=
 bN (g9:=Unit) n (λj _=>[.i (ofNat j)]) (λ_ _=>h) (λj _=>Inv j) (s0:=()) f rfl e d λj _ e d c g=>step j e d c (λa b=>g () a b)
def bz{i7:Type}{h:HL}{v:TR}{e:Nat}{enc:i7->Tn}{l:List i7}{K:Tw}(b:q9 h v e enc l)(a:K (ofNat l.length)):(PH C Sg T).j_ (GF v) (@i' _ ⟨K⟩):=ae b.len a
def aP{i7:Type}{h:HL}{v:TR}{e:Nat}{enc:i7->Tn}{l:List i7}{i:Nat}{a:i7}{n:Int}{K:Tf}(c:q9 h v e enc l)(j:n=ofNat i)(b:l[i]?=some a)(g:K (enc a)) :
  (PH C Sg T).j_ (BL e v n) (@i' _ ⟨λx=>(PH C Sg T).my (.lg C e x) h (@i' _ ⟨K⟩)⟩):=by
 subst j;obtain⟨p,d,f⟩:=c.at b;exact ae d (bT (f.lg (c.1 a (Cf b))) g)
def dF{i7:Type}{h:HL}{v:TR}{e:Nat}{enc:i7->Tn}{l:List i7}{i:Nat}{a:i7}{n:Int}{o k:Nat}{cs:Tn}{K:Tf}(j:q9 h v e enc l)(u:n=ofNat i)(g:l[i]?=some a)(d:cs=((enc a).drop o).take k)(c:o+k<=e)(t:K cs) :
  (PH C Sg T).j_ (BL e v n) (@i' _ ⟨λx=>(PH C Sg T).j_ (Dm o x) (@i' _ ⟨λy=>(PH C Sg T).nC y (@i' _ ⟨(PH C Sg T).my (.lg C k y) h (@i' _ ⟨K⟩)⟩)⟩)⟩):=by
 subst u d;obtain⟨p,m,r⟩:=j.at g;have w:=j.1 a (Cf g);have c:o+k<=(enc a).length:=a_;have b:(((enc a).drop o).take k).length=k:=jn;obtain⟨q,s,f⟩:=r.fd o k c;refine ae m (ae s ?_);show aF q=true/\_;exact⟨f.i_,bT (f.lg b) t⟩
end
end Sx
namespace Sx
section
variable [Co] [C7] {C:m'} {Sg:Td} {T:Tv}
def aY{j:Nat}{K:Tw}(h:j<=4294967296):(PH C Sg T).z_ .add .i64 (ofNat j) 1 (@i' _ ⟨K⟩)=K (ofNat j+1):=
 E4 jn jn
def lq{j:Nat}{K:Tw}(h1:1<=j)(h:j<=4294967296):(PH C Sg T).z_ .sub .i64 (ofNat j) 1 (@i' _ ⟨K⟩)=K (ofNat (j - 1)):=by
 rw[K' jn jn]
 grind
def aN{j n:Nat}{K:Tp}(h:j<n):(PH C Sg T).cmp .lss (ofNat j) (ofNat n) (@i' _ ⟨K⟩)=K true:=ub kb
def aM{j n:Nat}{K:Tp}(h:n<=j):(PH C Sg T).cmp .lss (ofNat j) (ofNat n) (@i' _ ⟨K⟩)=K false:=vc kb
end
def am{i7:Type}{l:List i7}{i:Nat}{a:i7}(h:l[i]?=some a):i<l.length:=by
 grind
def aq{i7:Type}{l:List i7}{i:Nat}(h:i<l.length):∃a,l[i]?=some a:=⟨_,Gn h⟩
end Sx
namespace Sx
section
variable [Co] [C7]
variable {C:m'} {Sg:Td} {T:Tv} {i7:Type}
def po(h:HL)(id e:Nat)(enc:i7->Tn)(l:List i7):HL:=h.set id (.o (.cells (l.flatMap enc) e true))
def bI{h:HL}{id e:Nat}{enc:i7->Tn}{l:List i7}(a:id<h.length):(po h id e enc l)[id]?=some (.o (.cells (l.flatMap enc) e true)):=by
 unfold po
 simp_all
def Q2{h:HL}{id e:Nat}{enc:i7->Tn}{l l':List i7}:(po h id e enc l).set id (.o (.cells (l'.flatMap enc) e true))=po h id e enc l':=by
 unfold po;rw[List.set_set]
def WD{h:HL}{id e cx:Nat}{enc:i7->Tn}(b:∀a,(enc a).length=e){l:List i7}(c:id<h.length):q9 (po h id e enc l) (.slice (some ⟨id,0,le e⟩) l.length cx) e enc l:=by
 have d:=aR (e:=e) (enc:=enc) (l:=l) λa _=>b a;exact⟨λa _=>b a,d,.inr ⟨id,0,cx,_,true,rfl,bI c,wa d⟩⟩
def gQ{e:Nat}{enc:i7->Tn}(c:∀a,(enc a).length=e):∀ {l:List i7} {i:Nat} (a:i7),i<l.length->(l.flatMap enc).take (i*e)++enc a++(l.flatMap enc).drop (i*e+e)=(l.set i a).flatMap enc
 | [],_,_,h=>by simp at h
 |b :: l,0,a,_=>by
  simp_all
 |b :: l,i+1,a,h=>by
  have f:=c b;have d:=gQ c (l:=l) (i:=i) a (by simpa using h);simp only[g3,S6];rw[←d,Js,S9,qdi,bP];rw[Ik a_,BR a_,DA]
  simp_all
def g6{h:HL}{id e cx len:Nat}{enc:i7->Tn}(b:∀a,(enc a).length=e){l:List i7}{i:Nat}{a:i7}{n:Int}{new:Tn}{K:Tb}(j:id<h.length)(q:n=ofNat i)(m:i<l.length)(c:l.length=len)(d:new=enc a)
  (o:K [] (po h id e enc (l.set i a))):(PH C Sg T).j_ (BL e (.slice (some ⟨id,0,le e⟩) len cx) n) (@i' _ ⟨λx=>(PH C Sg T).heap (.st x new) (po h id e enc l) (@i' _ ⟨K⟩)⟩):=by
 subst q c d;have r:BL e (.slice (some ⟨id,0,le e⟩) l.length cx) (ofNat i)=some (.pointer (some ⟨id,i*e,none⟩)):=by
  rw[rj];have k:0<=ofNat i/\ofNat i<(l.length:Int):=⟨GK i,kb⟩;simp only[rv k];have:¬(le e=some 1):=by simp[le]
  simp_all
 refine ae r ?_;have p:=aR (e:=e) (enc:=enc) (l:=l) λa _=>b a;have g:i*e+e<=l.length*e:=by
  have:=Q9 e (show i+1<=l.length by omega)
  grind
 have f:(Hp.st (.pointer (some ⟨id,i*e,none⟩)) (enc a)).run (tf T (po h id e enc l)) (po h id e enc l).length=some ([.set id (.cells ((l.set i a).flatMap enc) e true)],[]):=by
  show JH (.pointer (some ⟨id,i*e,none⟩)) (enc a) (tf T (po h id e enc l)) (po h id e enc l).length=_;unfold JH;simp only;rw[bF (bI j)];simp only;unfold s_;rw[b a,p,rv g,gQ b a m];rfl
 refine bH f ?_;show K [] (bG _ _);have:bG (po h id e enc l) [.set id (.cells ((l.set i a).flatMap enc) e true)]=po h id e enc (l.set i a):=Q2;rw[this];exact o
end
end Sx
namespace Sx
section
variable [Co] [C7]
variable {C:m'} {Sg:Td} {T:Tv} {i7:Type}
def cT{enc:i7->Tn}{z:i7}{n:Nat}:aL (enc z) n=(List.replicate n z).flatMap enc:=by
 unfold aL;rw[List.flatMap_def,List.map_replicate]
def nD(h:HL)(e:Nat)(enc:i7->Tn)(l:List i7):HL:=h++[.o (.cells (l.flatMap enc) e true)]
def Qp{h:HL}{e:Nat}{enc:i7->Tn}{l:List i7}:po (h++[.o .dead]) h.length e enc l=nD h e enc l:=by
 unfold po nD
 simp_all
def V6{h:HL}{e cx:Nat}{enc:i7->Tn}(b:∀a,(enc a).length=e){l:List i7}{n:Nat}(c:n=l.length):q9 (nD h e enc l) (.slice (some ⟨h.length,0,le e⟩) n cx) e enc l:=by
 subst c;rw[←Qp];exact WD b c_
def dN{n:Nat}(h:n<=1048576):DX (ofNat n) (ofNat n)=some ():=by
 unfold DX
 grind
end
end Sx
namespace Sx
section
variable [Co] [C7]
variable {C:m'} {Sg:Td} {T:Tv} {i7:Type}
def eN{l:List i7}{i:Nat}{a:i7}(h:l[i]?=some a):l.set i a=l:=by
 apply HA
 grind
end
end Sx
namespace Sx
section
variable [Co] [C7] {C:m'} {T:Tv}
abbrev Ku:=Int×Int
def MR(k:Ku):Value:=.agg ⟨[.int .i64 k.1,.int .u8 k.2]⟩
def HE(a:Tj)(ks:List Ku):Prop:=a.map (·.key)=ks.map MR/\∀e∈a,e.val = .bool true
abbrev SU:TJ:=[.i .i64,.i .u8]
def iK(a b:Int):U5 a b=decide (a=b):=by
 have c:∀m n:Nat,Nat.beq m n=decide (m=n):=λm n=>by
  by_cases h:m=n
  .subst h;simp
  .rw[Fv h];cases d:Nat.beq m n with
   |true=>simp_all
   |false=>rfl
 cases a<;>cases b<;>simp[U5,c];omega
def UP(a b:Ku):x9 SU [.int .i64 a.1,.int .u8 a.2] [.int .i64 b.1,.int .u8 b.2]=some (decide (a=b)):=by
 have c:cY .i64 .i64=true:=rfl;have d:cY .u8 .u8=true:=rfl;obtain⟨e,f⟩:=a;obtain⟨g,h⟩:=b;simp only[x9,c,d,iK,Q7]
 grind
def sZ(k:Ku):∀ {a:Tj} {ks:List Ku} (i:Nat),HE a ks->(k∉ks->jA SU [.int .i64 k.1,.int .u8 k.2] a i=some none)/\(k∈ks->∃j e,jA SU [.int .i64 k.1,.int .u8 k.2] a i=some (some (i+j))/\a[j]?=some e/\e.val = .bool true)
 | [],[],i,_=>⟨λ_=>rfl,λh=>by cases h⟩
 | [],_ :: _,i,h=>by have:=h.1;simp at this
 |_ :: _,[],i,h=>by have:=h.1;simp at this
 |e :: a,q :: ks,i,h=>by
  obtain⟨c,p⟩:=h;simp only[DD,Hz]at c;obtain⟨d,f⟩:=sZ k (i+1) (⟨c.2,λx t=>p x (E7 _ t)⟩ : HE a ks);have s:jA SU [.int .i64 k.1,.int .u8 k.2] (e :: a) i=if k=q then some (some i)else jA SU [.int .i64 k.1,.int .u8 k.2] a (i+1):=by
   simp only[jA,c.1,MR];rw[UP]
   grind
  rw[s];by_cases g:k=q
  .simp_all
  .rw[te g];refine⟨λr=>d λb=>r (E7 _ b),λb=>?_⟩;rcases DB.1 b with b|b
   .exact absurd b g
   .obtain⟨j,l,m,n,o⟩:=f b;exact⟨j+1,l,by rw[m];congr 2;omega,by simpa using n,o⟩
variable {kt:TP}
def PV(h1:A2 C.P kt=some true)(c:CG C.P 10000 kt=some SU)(k:Ku):H5 C.P kt (MR k)=true:=by
 have a:cY .i64 .i64=true:=rfl;have b:cY .u8 .u8=true:=rfl;unfold H5 MR;simp only[h1,c,fF,a,b,iK];simp
def wO(h1:A2 C.P kt=some true)(b:CG C.P 10000 kt=some SU)(k:Ku){a:Tj}{r:Ts}(c:jA SU [.int .i64 k.1,.int .u8 k.2] a 0=some r):uX C.P kt (MR k) a=some r:=by
 unfold uX MR;simp only[h1,b,oe,c]
def Q'(h1:A2 C.P kt=some true)(d:CG C.P 10000 kt=some SU){h:HL}{id c:Nat}{a:Tj}{ks:List Ku}(q:h[id]?=some (.o (.map a c)))(n:HE a ks)(k:Ku) :
  Fb C kt false (.bool false) (.map (some id)) (MR k) false (tf T h)=some [.bool (decide (k∈ks))]:=by
 unfold Fb;rw[PV h1 d];simp only[DP,D7,if_false];have p:Hd (tf T h) id=some (a,c):=by
  unfold Hd;rw[bF q]
 rw[p];simp only;obtain⟨f,g⟩:=sZ k 0 n;by_cases b:k∈ks
 .obtain⟨j,e,i,l,m⟩:=g b;rw[wO h1 d k i];have r:em a (0+j)=some (.bool true):=by
   rw[ER];unfold em;rw[l];simp[m]
  simp only[r,Ds];simp[gp,b]
 .rw[wO h1 d k (f b)];simp[gp,b]
def z9(h1:A2 C.P kt=some true)(b:CG C.P 10000 kt=some SU){h:HL}{id c n:Nat}{a:Tj}{ks:List Ku}(g:h[id]?=some (.o (.map a c)))(d:HE a ks){k:Ku}(f:k∉ks) :
  FO C kt (.map (some id)) (MR k) (.bool true) (tf T h) n=some ([.set id (.map (a++[{ key:=MR k,val:=.bool true,born:=c }]) (c+1))],[]):=by
 unfold FO;simp only;rw[PV h1 b];simp only[DP,D7,if_false];have e:Hd (tf T h) id=some (a,c):=by
  unfold Hd;rw[bF g]
 rw[e];simp only;rw[wO h1 b k ((sZ k 0 d).1 f)]
def HE.push{b:Tj}{ks:List Ku}(d:HE b ks)(k:Ku)(c:Nat):HE (b++[{ key:=MR k,val:=.bool true,born:=c }]) (ks++[k]):=by
 refine⟨by simp[d.1],λe a=>?_⟩;rcases Ek.1 a with a|a
 .exact d.2 e a
 simp_all
end
end Sx
namespace Sx
section
variable [Co] [C7] {C:m'} {T:Tv}
abbrev K3:=Int×Int×Nat
def EV(k:K3):Tn:=[.int .i64 k.1,.int .i64 k.2.1,.int .u8 (ofNat k.2.2)]
abbrev kk3:TJ:=[.i .i64,.i .i64,.i .u8]
def yG(a b:K3):x9 kk3 (EV a) (EV b)=some (decide (a=b)):=by
 have e:cY .i64 .i64=true:=rfl;have f:cY .u8 .u8=true:=rfl;obtain⟨g,i,c⟩:=a;obtain⟨j,k,d⟩:=b;simp only[EV,x9,e,f,iK,Q7];have e3:decide (ofNat c=ofNat d)=decide (c=d):=decide_eq_decide.2 ⟨λh=>Jr h,λh=>by rw[h]⟩
 grind
variable {kt:TP} (h1:A2 C.P kt=some true) (h2:CG C.P 10000 kt=some kk3)
include h1 h2
omit h1 h2 in
theorem oz{h:HL}{id c:Nat}{a:Tj}(b:h[id]?=some (.o (.map a c))):Hd (tf T h) id=some (a,c):=by
 unfold Hd;rw[bF b]
end
section
variable [Co] [C7] {T:Tv}
end
end Sx
namespace Sx
section
variable [Co] [C7] {C:m'} {Sg:Td} {T:Tv}
variable {kt:TP} (h1:A2 C.P kt=some true) (h2:CG C.P 10000 kt=some kk3)
include h1 h2
end
end Sx
end Go.Am
namespace Go.Am
open Sx Go.Proofs
def iA{g:TQ}{sg:GN}{cap:Tn}{ls d:TG}{H H':Tu}{args:Tn}(i:aA cc ac g ls H d H')(j:ac g=some sg)(xs:List S0)(h1:bW xs sg.ps=true)(f:bX xs=ls)(h:aj xs=args++cap) :
  wu cc (.func (.func g) ⟨[]⟩ ⟨cap⟩) args sg.rs H d H':=by
 obtain⟨k,m,n,a,b,e,c⟩:=i;rw[j]at a;cases a;obtain⟨l,_⟩:=cW b.1 h1 (b.2.1.trans f.symm);rw[l,h]at c;exact⟨n,e,.inl ⟨g,⟨[]⟩,⟨cap⟩,rfl,by simpa using c⟩⟩
abbrev ka(b:Nat):Value:=.pointer (some ⟨b,0,none⟩)
def ba{h:HL}{b e:Nat}{cs:Tn}(a:h[b]?=some (.o (.cells cs e true))):Gy h (ka b) cs:=⟨b,0,cs,e,true,rfl,a,Sx.wa rfl⟩
def ar(b:Nat):aF (ka b)=true:=by simp[aF,n_,aS,bB,bi,aO,aH]
def cU{h:HL}{p:TR}{cs:Tn}{K:Tf}{n:Nat}(c:Gy h p cs)(b:cs.length=n)(a:K cs):P1.my (.lg cc n p) h (@i' _ ⟨K⟩):=bT (c.lg b) a
def rL{h:HL}{p:TR}{cs ds:Tn}{K:Tf}{o n:Nat}(f:Gy h p cs)(e:o+n<=cs.length)(c:ds=(cs.drop o).take n)(d:K ds) :
  P1.j_ (Dm o p) (@i' _ ⟨λy=>P1.nC y (@i' _ ⟨P1.my (.lg cc n y) h (@i' _ ⟨K⟩)⟩)⟩):=by
 subst c;obtain⟨q,b,a⟩:=f.fd o n e;refine ae b (ab a.i_ (bT (a.lg ?_) d))
 grind
def bv{h:HL}{b e:Nat}{cs ds:Tn}{K:Tf}{o n:Nat}(a:h[b]?=some (.o (.cells cs e true)))(f:o+n<=cs.length)(c:ds=(cs.drop o).take n)(d:K ds) :
  P1.j_ (C5 (ka b)) (@i' _ ⟨λx=>P1.nC x (@i' _ ⟨P1.j_ (Dm o x) (@i' _ ⟨λy=>P1.nC y (@i' _ ⟨P1.my (.lg cc n y) h (@i' _ ⟨K⟩)⟩)⟩)⟩)⟩):=
 ae (x:=ka b) rfl (ab (ar b) (rL (ba a) f c d))
def gh{h:HL}{b e:Nat}{cs new:Tn}{K:Tb}{o:Nat}(c:h[b]?=some (.o (.cells cs e true)))(f:o+new.length<=cs.length)(d:K [] (h.set b (.o (.cells (cs.take o++new++cs.drop (o+new.length)) e true)))) :
  P1.j_ (C5 (ka b)) (@i' _ ⟨λx=>P1.nC x (@i' _ ⟨P1.j_ (Dm o x) (@i' _ ⟨λy=>P1.nC y (@i' _ ⟨P1.heap (.st y new) h (@i' _ ⟨K⟩)⟩)⟩)⟩)⟩):=by
 refine ae (x:=ka b) rfl (ab (ar b) (ae (x:=.pointer (some ⟨b,0+o,none⟩)) rfl (ab (by simp[aF,n_,aS,bB,bi,aO,aH]) ?_)));have a:(Hp.st (.pointer (some ⟨b,0+o,none⟩)) new).run (tf aa h) h.length=some ([.set b (.cells (cs.take o++new++cs.drop (o+new.length)) e true)],[]):=by
  show JH (.pointer (some ⟨b,0+o,none⟩)) new (tf aa h) h.length=_;unfold JH;simp only;rw[bF c];simp only;unfold s_
  simp_all
 exact bH a d
def lH{h:HL}{b e:Nat}{vs new:Tn}{K:Tb}(c:h[b]?=some (.o (.cells vs e true)))(f:new.length=vs.length)(d:K [] (h.set b (.o (.cells new e true)))):P1.heap (.st (ka b) new) h (@i' _ ⟨K⟩):=by
 have a:(Hp.st (ka b) new).run (tf aa h) h.length=some ([.set b (.cells new e true)],[]):=by
  show JH (ka b) new (tf aa h) h.length=_;unfold JH;simp only;rw[bF c];simp only;unfold s_
  simp_all
 exact bH a d
def cP{b:Te}{m:(TG->HL->Prop)->Prop}(P:Te)(h1:∀l h,P l h->b l h)(a:∀j:TG->HL->Prop,(∀l h,P l h->j l h)->m j):P1.join (@i' _ ⟨b⟩) (@i' _ ⟨m⟩):=a _ h1
def rK{a b:Int}{K:Tp}(h:∀t,t=decide (a=b)->K t):P1.cmp .eql a b (@i' _ ⟨K⟩):=by
 show K (a==b)
 grind
def oF{h:HL}{a b:HO}:(h++[a]).set h.length b=h++[b]:=c_
def aD{h:HL}{a:HO}:(h++[a])[h.length]?=some a:=c_
def cX{h:HL}{a:HO}{i:Nat}{o:HO}(b:h[i]?=some o):(h++[a])[i]?=some o:=v_.get ⟨_,rfl⟩ b
def cH{h:HL}{a:HO}{i j:Nat}{o:HO}(c:h[i]?=some o)(b:j≠i):(h.set j a)[i]?=some o:=by
 simp_all
def du{h:HL}{a b:HO}{i:Nat}(c:h[i]?=some a):(h.set i b)[i]?=some b:=GR (am c)
def Sx.q9.blkLt{i7:Type}{h:HL}{v:TR}{e:Nat}{enc:i7->Tn}{l:List i7}(c:q9 h v e enc l){i:Nat}(a:hY v=some i):i<h.length:=by
 obtain⟨_,_,⟨rfl,_⟩|⟨id,d,g,j,f,rfl,b,_⟩⟩:=c
 .cases a
 .cases a;exact am b
def UD(a:K3):(EV a).length=3:=rfl
def h_{i7:Type}(n0:Nat)(h:HL)(v:Value)(e:Nat)(enc:i7->Tn)(l:List i7):Prop:=
 (v = .slice none 0 0/\l=[])∨∃id cx,v = .slice (some ⟨id,0,le e⟩) l.length cx/\n0<=id/\h[id]?=some (.o (.cells (l.flatMap enc) e true))/\(cx=0∨cx=l.length+1)
section
variable {i7:Type} {n0 e:Nat} {enc:i7->Tn} {l:List i7} {h:HL} {v:Value}
def h_.nil(n0:Nat)(h:HL)(e:Nat)(enc:i7->Tn):h_ n0 h (.slice none 0 0) e enc []:=.inl ⟨rfl,rfl⟩
def h_.ls(b:∀a,(enc a).length=e)(g:h_ n0 h v e enc l):q9 h v e enc l:=by
 have c:=aR (e:=e) (enc:=enc) (l:=l) λa _=>b a;rcases g with⟨rfl,rfl⟩|⟨id,d,rfl,_,f,_⟩
 .exact q9.nil h e enc
 .exact⟨λa _=>b a,c,.inr ⟨id,0,d,_,true,rfl,f,Sx.wa c⟩⟩
def h_.j9{h':HL}(i:h_ n0 h v e enc l)(g:∀(j:Nat) o,h[j]?=some o->hY v=some j->h'[j]?=some o):h_ n0 h' v e enc l:=by
 rcases i with b|⟨id,a,rfl,c,d,f⟩
 .exact .inl b
 .exact .inr ⟨id,a,rfl,c,g _ _ d rfl,f⟩
def h_.Fa(a:h_ n0 h v e enc l)(G:HL):h_ n0 (h++G) v e enc l:=a.j9 λ_ _ h _=>v_.get ⟨_,rfl⟩ h
def h_.hY(b:h_ n0 h v e enc l){j:Nat}(a:hY v=some j):n0<=j/\j<h.length:=by
 rcases b with⟨rfl,_⟩|⟨id,c,rfl,d,f,_⟩
 .cases a
 .cases a
  grind
def h_.i_(b:∀a,(enc a).length=e)(c:h_ n0 h v e enc l):aF v=true:=(c.ls b).i_
def h_.ap{bytes k:Nat}{x:TR}{new:List i7}{K:Tb}(p:∀a,(enc a).length=e)(G:h_ n0 h v e enc l)(q:n0<=h.length)(w:NP cc e (tf aa h) x=some (new.flatMap enc,k))(z:k=new.length)(I:bc (l.length+k) bytes=true)
  (r:∀v' h',h_ n0 h' v' e enc (l++new)->aF v'=true->(∀(j:Nat) o,h[j]?=some o->Sx.hY v≠some j->h'[j]?=some o)->h.length<=h'.length->(Sx.hY v'=Sx.hY v∨∃j,Sx.hY v'=some j/\h.length<=j)->K [v'] h') :
  P1.heap (.ap cc e bytes v x) h (@i' _ ⟨K⟩):=by
 subst z;have u:(l++new).length=l.length+new.length:=Gv;have D:l.flatMap enc++new.flatMap enc=(l++new).flatMap enc:=c_;have s:∀i n c,aF (.slice (some ⟨i,0,le e⟩) n c)=true:=λi n c=>by simp[aF,n_,aS,bB,bi,aO,aH,le]
 rcases G with⟨rfl,rfl⟩|⟨id,H,rfl,A,m,B⟩
 .by_cases g:new.length=0
  .have d:new=[]:=NM.1 g;subst d;have b:(Hp.ap cc e bytes (.slice none 0 0) x).run (tf aa h) h.length=some ([],[.slice none 0 0]):=by
    show Em cc e bytes (.slice none 0 0) x (tf aa h) h.length=_;unfold Em;rw[w];rfl
   exact bH b (r _ _ (.inl ⟨rfl,rfl⟩) rfl (λj o f _=>f) (A9 _) (.inl rfl))
  .have b:(Hp.ap cc e bytes (.slice none 0 0) x).run (tf aa h) h.length=some ([.push (.cells (new.flatMap enc) e true)],[.slice (some ⟨h.length,0,le e⟩) new.length 0]):=by
    show Em cc e bytes (.slice none 0 0) x (tf aa h) h.length=_;unfold Em
    simp_all
   refine bH b (r _ _ (.inr ⟨h.length,0,c_,q,by simp[bG,Cw.onH],.inl rfl⟩) (s _ _ _) (λj o f _=>v_.get ⟨_,rfl⟩ f) (by simp[bG,Cw.onH]) (.inr ⟨h.length,rfl,A9 _⟩))
 .have t:cut (l.flatMap enc) 0 (l.length*e)=some (l.flatMap enc):=Sx.wa (aR λa _=>p a);have F:=am m;rcases B with rfl|rfl
  .by_cases g:new.length=0
   .have d:new=[]:=NM.1 g;subst d;have b:(Hp.ap cc e bytes (.slice (some ⟨id,0,le e⟩) l.length 0) x).run (tf aa h) h.length=some ([],[.slice (some ⟨id,0,le e⟩) l.length 0]):=by
     show Em cc e bytes (.slice (some ⟨id,0,le e⟩) l.length 0) x (tf aa h) h.length=_;unfold Em;rw[w];simp only[ne_eq,not_true_eq_false,if_false];rw[bF m]
     simp_all
    exact bH b (r _ _ (.inr ⟨id,0,c_,A,by simpa[bG]using m,.inl rfl⟩) (s _ _ _) (λj o f _=>f) (A9 _) (.inl rfl))
   .have b:(Hp.ap cc e bytes (.slice (some ⟨id,0,le e⟩) l.length 0) x).run (tf aa h) h.length=some ([.set id .dead,.push (.cells ((l++new).flatMap enc) e true)],[.slice (some ⟨h.length,0,le e⟩) (l.length+new.length) 0]):=by
     show Em cc e bytes (.slice (some ⟨id,0,le e⟩) l.length 0) x (tf aa h) h.length=_;unfold Em;rw[w];simp only[ne_eq,not_true_eq_false,if_false];rw[bF m]
     simp_all
    have y:bG h [.set id .dead,.push (.cells ((l++new).flatMap enc) e true)]=h.set id (.o .dead)++[.o (.cells ((l++new).flatMap enc) e true)]:=rfl;refine bH b ?_;rw[y];refine r _ _ (.inr ⟨h.length,0,by rw[u],q,?_,.inl rfl⟩) (s _ _ _) (λj o f C=>?_) c_ (.inr ⟨h.length,rfl,A9 _⟩)
    .simp_all
    .exact cX (cH f λe=>C (by subst e;rfl))
  .by_cases g:l.length+new.length<=l.length
   .have d:new=[]:=NM.1 a_;subst d;have b:(Hp.ap cc e bytes (.slice (some ⟨id,0,le e⟩) l.length (l.length+1)) x).run (tf aa h) h.length=some ([.set id (.cells (l.flatMap enc) e true)],[.slice (some ⟨id,0,le e⟩) l.length (l.length+1)]):=by
     show Em cc e bytes (.slice (some ⟨id,0,le e⟩) l.length (l.length+1)) x (tf aa h) h.length=_;unfold Em;rw[w];simp only[ne_eq,not_true_eq_false,if_false];rw[bF m];simp only[ne_eq,not_true_eq_false,if_false];rw[t];simp only[hu,r0,A9,if_true];unfold s_;have E:=aR (e:=e) (enc:=enc) (l:=l) λa _=>p a;simp[E]
    have y:bG h [.set id (.cells (l.flatMap enc) e true)]=h:=eN m;refine bH b ?_;rw[y];exact r _ _ (.inr ⟨id,l.length+1,c_,A,by simpa using m,.inr c_⟩) (s _ _ _) (λj o f _=>f) (A9 _) (.inl rfl)
   .have b:(Hp.ap cc e bytes (.slice (some ⟨id,0,le e⟩) l.length (l.length+1)) x).run (tf aa h) h.length=some ([.push (.cells ((l++new).flatMap enc) e true)],[.slice (some ⟨h.length,0,le e⟩) (l.length+new.length) 0]):=by
     show Em cc e bytes (.slice (some ⟨id,0,le e⟩) l.length (l.length+1)) x (tf aa h) h.length=_;unfold Em;rw[w];simp only[ne_eq,not_true_eq_false,if_false];rw[bF m]
     simp_all
    refine bH b (r _ _ (.inr ⟨h.length,0,by rw[u],q,by simp[bG,Cw.onH],.inl rfl⟩) (s _ _ _) (λj o f _=>v_.get ⟨_,rfl⟩ f) (by simp[bG,Cw.onH]) (.inr ⟨h.length,rfl,A9 _⟩))
def h_.G8{bytes m:Nat}{a:i7}{new:Tn}{g:Ts}{K:Tb}(b:∀a,(enc a).length=e)(y:h_ n0 h v e enc l)(x:n0<=h.length)(w:m=h.length)(c:new=enc a)(f:g=some (e+10))(z:bc (l.length+1) bytes=true)
  (u:∀v' h',h_ n0 h' v' e enc (l++[a])->aF v'=true->(∀(j:Nat) o,h[j]?=some o->Sx.hY v≠some j->h'[j]?=some o)->h.length<=h'.length->(Sx.hY v'=Sx.hY v∨∃j,Sx.hY v'=some j/\h.length<=j)->K [v'] h') :
  P1.heap (.ap cc e bytes v (.slice (some ⟨m,0,g⟩) 1 2)) (h++[.o (.cells new e true)]) (@i' _ ⟨K⟩):=by
 subst w c f;have d:h_ n0 (h++[HO.o (.cells (enc a) e true)]) v e enc l:=y.Fa _;refine d.ap (new:=[a]) (k:=1) b ua ?_ rfl z λv' h' i n p q B=>u v' h' i n (λj o t s=>p j o (cX t) s) (by simp at q;omega) ?_
 .have A:F1 (h++[HO.o (.cells (enc a) e true)]) (.slice (some ⟨h.length,0,le e⟩) 1 2) e 1 (enc a):=⟨by rw[b,S9],.inr ⟨h.length,0,2,enc a,true,rfl,aD,Sx.wa (by rw[b,S9])⟩⟩;have r:NP cc e (tf aa (h++[HO.o (.cells (enc a) e true)])) (.slice (some ⟨h.length,0,le e⟩) 1 2)=some ([a].flatMap enc,1):=by
   rw[nz A];simp
  exact r
 grind
end
def kO{e id n cx o k:Nat}{x:Int}(a:x=ofNat k)(b:k<=n):Ex e (.slice (some ⟨id,o,le e⟩) n cx) none (some x) none=some (.slice (some ⟨id,o,le e⟩) k cx):=by
 subst a;unfold Ex;simp only;rw[te c_,rv (by simp[bS];omega)];simp[ew,bK]
def l9{e id n cx o k:Nat}{x:Int}(a:x=ofNat k)(b:k<=n):Ex e (.slice (some ⟨id,o,le e⟩) n cx) (some x) none none=some (.slice (some ⟨id,o+k*e,le e⟩) (n - k) (cx - k)):=by
 subst a;unfold Ex;simp only;rw[te c_,rv (by simp[bS];omega)];simp[ew,bK]
section
variable {i7:Type} {e:Nat} {enc:i7->Tn} {l:List i7} {h:HL} {v:Value}
def re(b:∀a∈l,(enc a).length=e){k:Nat}(d:k<=l.length):(l.flatMap enc).take (k*e)=(l.take k).flatMap enc/\(l.flatMap enc).drop (k*e)=(l.drop k).flatMap enc:=by
 have f:l.flatMap enc=(l.take k).flatMap enc++(l.drop k).flatMap enc:=by rw[←Y1,WM]
 have g:((l.take k).flatMap enc).length=k*e:=by rw[aR (e:=e) λa c=>b a (NO c),C1,zP d]
 simp_all
def KR(s:q9 h v e enc l){k:Nat}(c:k<=l.length):∃x,Ex e v none (some (ofNat k)) none=some x/\q9 h x e enc (l.take k)/\hY x=hY v:=by
 obtain⟨b,q,⟨rfl,m⟩|⟨id,g,j,t,i,rfl,n,o⟩⟩:=s
 .have r:=NM.1 m;subst r;simp at c;subst c;exact⟨.slice none 0 0,rfl,q9.nil h e enc,rfl⟩
 .refine⟨_,kO rfl c,⟨λa d=>b a (NO d),aR λa d=>b a (NO d),.inr ⟨id,g,j,t,i,kb,n,?_⟩⟩,rfl⟩;have f:0+k*e<=l.length*e:=by rw[ER];exact Q9 e c
  have p:=lU o f;rw[C1,zP c,←(re b c).1];simpa using p
def KP(s:q9 h v e enc l){k:Nat}(c:k<=l.length):∃x,Ex e v (some (ofNat k)) none none=some x/\q9 h x e enc (l.drop k)/\hY x=hY v:=by
 obtain⟨b,f,⟨rfl,n⟩|⟨id,i,m,t,j,rfl,o,p⟩⟩:=s
 .have r:=NM.1 n;subst r;simp at c;subst c;exact⟨.slice none 0 0,rfl,q9.nil h e enc,rfl⟩
 .refine⟨_,l9 rfl c,⟨λa d=>b a (gy d),aR λa d=>b a (gy d),.inr ⟨id,i+k*e,m - k,t,j,by rw[eB],o,?_⟩⟩,rfl⟩;have g:k*e+(l.length - k)*e<=l.length*e:=by rw[←Js,Nat.add_sub_cancel' c];omega
  have q:=lU p g;rw[eB,q,←(re b c).2]
  congr 1
  refine Ik ?_;rw[eB,f,Nat.sub_mul];omega
def h_.N_{n0 bytes:Nat}{x:TR}{new:List i7}{K:Tb}(b:∀a,(enc a).length=e)(f:h_ n0 h v e enc l)(c:n0<=h.length)(i:q9 h x e enc new)(k:(l.length+new.length)*bytes<=140737488355328)(g:l.length+new.length<=140737488355328)
  (d:∀v' h',h_ n0 h' v' e enc (l++new)->aF v'=true->(∀(j:Nat) o,h[j]?=some o->Sx.hY v≠some j->h'[j]?=some o)->h.length<=h'.length->(Sx.hY v'=Sx.hY v∨∃j,Sx.hY v'=some j/\h.length<=j)->K [v'] h') :
  P1.heap (.ap cc e bytes v x) h (@i' _ ⟨K⟩):=
 f.ap b c (nz i.2) rfl (by unfold bc;simp_all) d
def h_.emp{n0 m:Nat}(a:h[m]?=some (.o (.cells [] e true)))(b:n0<=m):h_ (i7:=i7) n0 h (.slice (some ⟨m,0,le e⟩) 0 1) e enc []:=.inr ⟨m,1,rfl,b,a,.inr rfl⟩
end
def cZ{u v:TR}{k:Nat}{l:List (Value×Nat×Value)}(h:Cr (Df u) (BN k v)=true)(a:Dp l=some ()):Dp ((u,(k,v)) :: l)=some ():=by
 show(match Cr (Df u) (BN k v)with
  |true=>Dp l
  |false=>none)=_
 rw[h];exact a
def nW{a:TC}:Cr a []=true:=by
 induction a with
 |nil=>rfl
 |cons x a b=>
  show(match Hf x []with
   |true=>false
   |false=>Cr a [])=true
  exact b
def wH{a b:Nat}(h:a≠b):Cr [a] [b]=true:=by
 have:Hf a [b]=false:=by
  unfold Hf;have:Nat.beq a b=false:=by
   cases c:Nat.beq a b with
   |true=>simp_all
   |false=>rfl
  rw[this];rfl
 unfold Cr;rw[this];rfl
def pf{a b:Option Addr}{n c f d:Nat}(h:∀i,hY (.slice a n c)=some i->hY (.slice b f d)≠some i):Cr (Df (.slice a n c)) (BN 0 (.slice b f d))=true:=by
 show Cr (Df (.slice a n c)) (Df (.slice b f d))=true;rcases a with _|a
 .rfl
 rcases b with _|b
 .exact nW
 have g:a.block≠b.block:=λe=>h a.block rfl (by rw[e];rfl);have k:∀(a:Addr) n c,Df (.slice (some a) n c)=[]∨Df (.slice (some a) n c)=[a.block]:=λa n c=>by
  unfold Df
  grind
 rcases k a n c with e|e<;>rcases k b f d with j|j<;>rw[e,j]
 .rfl
 .rfl
 .exact nW
 .exact wH g
def jJ{i7:Type}{h:HL}{v:TR}{e:Nat}{enc:i7->Tn}{l:List i7}(b:q9 h v e enc l):∃a n c,v = .slice a n c:=by
 obtain⟨_,_,⟨rfl,_⟩|⟨id,d,g,i,f,rfl,_⟩⟩:=b
 .simp_all
 simp_all
def uK{u v:TR}(e:∃a n c,u = .slice a n c)(f:∃a n c,v = .slice a n c)(h:∀i,hY u=some i->hY v≠some i):Cr (Df u) (BN 0 v)=true:=by
 obtain⟨a,n,c,rfl⟩:=e;obtain⟨b,m,d,rfl⟩:=f;exact pf h
def OZ{u v:TR}(e:∃a n c,v = .slice a n c):Cr (Df u) (BN 1 v)=true:=by
 obtain⟨b,m,d,rfl⟩:=e;exact nW
def eR:Dp []=some ():=rfl
def zK{a b c d:Int}{K:Tp}(h1:a=c/\b=d->K true)(f:¬(a=c/\b=d)->K false):P1.eqs [(.i a,.i c),(.i b,.i d)] (@i' _ ⟨K⟩):=by
 by_cases h:a=c/\b=d
 .obtain⟨rfl,rfl⟩:=h;show K (cj _);have e:cj [(Lf.i a,Lf.i a),(Lf.i b,Lf.i b)]=true:=by simp[cj,ir]
  simp_all
 .rw[Gf h];exact f h
def xJ{a b:Int}{K:Tp}(h1:a<b->K true)(c:b<=a->K false):P1.cmp .lss a b (@i' _ ⟨K⟩):=by
 rcases Int.lt_or_le a b with h|h
 .rw[ub h];exact h1 h
 .rw[vc h];exact c h
def xU{i7:Type}{e cx len:Nat}{enc:i7->Tn}(b:∀a,(enc a).length=e){h:HL}{id:Nat}{l:List i7}{i o:Nat}{a a':i7}{n:Int}{new:Tn}{K:Tb}(p:h[id]?=some (.o (.cells (l.flatMap enc) e true)))(t:n=ofNat i)(k:l[i]?=some a)(c:l.length=len)(A:o+new.length<=e)
  (f:enc a'=(enc a).take o++new++(enc a).drop (o+new.length)) (r:K [] (po h id e enc (l.set i a'))) :
  P1.j_ (BL e (.slice (some ⟨id,0,le e⟩) len cx) n) (@i' _ ⟨λx=>P1.j_ (Dm o x) (@i' _ ⟨λy=>P1.nC y (@i' _ ⟨P1.heap (.st y new) h (@i' _ ⟨K⟩)⟩)⟩)⟩):=by
 subst t c;have d:=am k;have u:BL e (.slice (some ⟨id,0,le e⟩) l.length cx) (ofNat i)=some (.pointer (some ⟨id,i*e,none⟩)):=by
  rw[rj];have q:0<=ofNat i/\ofNat i<(l.length:Int):=⟨GK i,kb⟩;simp only[rv q];have:¬(le e=some 1):=by simp[le]
  simp_all
 refine ae u ?_;refine ae (x:=.pointer (some ⟨id,i*e+o,none⟩)) rfl ?_;refine ab (by simp[aF,n_,aS,bB,bi,aO,aH]) ?_;have z:=aR (e:=e) (enc:=enc) (l:=l) λa _=>b a;have s:i*e+e<=l.length*e:=by
  have:=Q9 e (show i+1<=l.length by omega)
  grind
 have j:=gQ b (l:=l) (i:=i) a d;rw[eN k]at j;have m:=gQ b (l:=l) (i:=i) a' d;have hA:((l.flatMap enc).take (i*e)).length=i*e:=jn;have w:=b a;have v:(l.flatMap enc).take (i*e+o)++new++(l.flatMap enc).drop (i*e+o+new.length)=(l.set i a').flatMap enc:=by
  rw[←m,f];have B:(l.flatMap enc).take (i*e+o)=(l.flatMap enc).take (i*e)++(enc a).take o:=by
   conv=>lhs;rw[←j,EF]
   rw[qdi,Ik a_,hA,show i*e+o - i*e=o by omega,qdi,show o - (enc a).length=0 by omega,o2,GU]
  have C:(l.flatMap enc).drop (i*e+o+new.length)=(enc a).drop (o+new.length)++(l.flatMap enc).drop (i*e+e):=by
   conv=>lhs;rw[←j,EF]
   rw[bP,BR a_,DA,hA,show i*e+o+new.length - i*e=o+new.length by omega,bP,show o+new.length - (enc a).length=0 by omega,WK]
  simp_all
 have g:(Hp.st (.pointer (some ⟨id,i*e+o,none⟩)) new).run (tf aa h) h.length=some ([.set id (.cells ((l.set i a').flatMap enc) e true)],[]):=by
  show JH (.pointer (some ⟨id,i*e+o,none⟩)) new (tf aa h) h.length=_;unfold JH;simp only;rw[bF p];simp only;unfold s_
  grind
 exact bH g r
def P'{i7 j:Type}{e e':Nat}{enc:i7->Tn}{a:j->Tn}{l:List i7}{l':List j}{h:HL}{v v':TR}(o:q9 h v e enc l)(d:q9 h v' e' a l')(n:e≠e'){b:Nat}(g:hY v=some b):hY v'≠some b:=by
 intro c;obtain⟨_,_,⟨rfl,_⟩|⟨id,p,t,y,q,rfl,x,_⟩⟩:=o
 .cases g
 obtain⟨_,_,⟨rfl,_⟩|⟨f,i,k,s,r,rfl,m,_⟩⟩:=d
 .cases c
 have u:id=b:=by simpa[hY]using g
 have w:f=b:=by simpa[hY]using c
 simp_all
def Qy{i7:Type}{e:Nat}{enc:i7->Tn}(b:∀a,(enc a).length=e){h:HL}{id cx n i o k:Nat}{R:List i7}{a:i7}(q:h[id]?=some (.o (.cells (R.flatMap enc) e true)))(g:R[i]?=some a)(t:n=R.length)(v:o+k<=e) :
  BL e (.slice (some ⟨id,0,le e⟩) n cx) (ofNat i)=some (.pointer (some ⟨id,0+i*e,none⟩))/\Dm o (.pointer (some ⟨id,0+i*e,none⟩))=some (.pointer (some ⟨id,0+i*e+o,none⟩))/\Gy h (.pointer (some ⟨id,0+i*e+o,none⟩)) (((enc a).drop o).take k):=by
 subst t;have s:=am g;have m:BL e (.slice (some ⟨id,0,le e⟩) R.length cx) (ofNat i)=some (.pointer (some ⟨id,0+i*e,none⟩)):=by
  rw[rj];have r:0<=ofNat i/\ofNat i<(R.length:Int):=⟨GK i,kb⟩;simp only[rv r];have:¬(le e=some 1):=by simp[le]
  simp_all
 have d:q9 h (.slice (some ⟨id,0,le e⟩) R.length cx) e enc R:=by
  have j:=aR (e:=e) (enc:=enc) (l:=R) λa _=>b a;exact⟨λa _=>b a,j,.inr ⟨id,0,cx,_,true,rfl,q,Sx.wa j⟩⟩
 obtain⟨p,c,f⟩:=d.at g;rw[m]at c;cases c;obtain⟨w,x,y⟩:=f.fd o k (by rw[b];omega);have u:Dm o (.pointer (some ⟨id,0+i*e,none⟩))=some (.pointer (some ⟨id,0+i*e+o,none⟩)):=rfl
 simp_all
def vV(b o:Nat):aF (.pointer (some ⟨b,o,none⟩))=true:=by simp[aF,n_,aS,bB,bi,aO,aH]
def bR{v:TR}{b o:Nat}(f:∃a n c,v = .slice a n c)(h:∀i,hY v=some i->i≠b):Cr (Df v) (BN 0 (.pointer (some ⟨b,o,none⟩)))=true:=by
 obtain⟨x,n,c,rfl⟩:=f;rcases x with _|x
 .rfl
 have d:x.block≠b:=h x.block rfl;have e:BN 0 (.pointer (some ⟨b,o,none⟩))=[b]:=rfl;rw[e];have g:Df (.slice (some x) n c)=[]∨Df (.slice (some x) n c)=[x.block]:=by
  unfold Df
  grind
 rcases g with e|e<;>rw[e]
 .rfl
 .exact wH d
def qxn:=And.intro @QE (And.intro (@YK _ _ cc ac aa) (And.intro (@YS _ _ cc ac aa) (And.intro (@YR _ _ cc ac aa) (And.intro (@YT _ _ cc ac aa) (And.intro (@YQ _ _ cc ac aa) (And.intro (@YO _ _ cc ac aa) (And.intro (@YN _ _ cc ac aa) (And.intro (@YP _ _ cc ac aa) (And.intro (@YM _ _ cc ac aa) (And.intro (@Ie _ _ cc ac aa) (And.intro (@Ic _ _ cc ac aa) (And.intro (@YL _ _ cc ac aa) (And.intro (@YI _ _ cc ac aa) (And.intro (@K_ _ _ cc ac aa) (And.intro (@K9 _ _ cc ac aa) (@dD))))))))))))))))
def Jn{h1 h':HL}(b:∀(j:Nat) o,h1[j]?=some o->h'[j]?=some o):v_ h1 h':=by
 have a:h1.length<=h'.length:=by
  rcases Gi h'.length h1.length with h|h
  .obtain⟨o,c⟩:=aq h
   grind
  .exact h
 refine⟨h'.drop h1.length,?_⟩;have:h'.take h1.length=h1:=by
  refine HA λi=>?_
  grind
 conv=>lhs;rw[←WM h1.length h',this]
def bO{h1 h h':HL}(c:v_ h1 h)(b:∀(j:Nat) o,j<h1.length->h[j]?=some o->h'[j]?=some o):v_ h1 h':=Jn λj o a=>b j o (am a) (c.get a)
def Ce:=And.intro qxn (And.intro qxc qxa)
end Go.Am
namespace Go.Am
namespace Sx
section
variable [Co] [C7] {C:m'} {Sg:Td} {T:Tv}
variable {j8:Type} [DecidableEq j8] (kc:j8->Tn) {kk:TJ} (hd:∀a b,x9 kk (kc a) (kc b)=some (decide (a=b)))
include hd
theorem HX(k:j8):∀ {a:Tj} {ks:List j8} (i:Nat),a.map (·.key)=ks.map (λk=>.agg ⟨kc k⟩)->jA kk (kc k) a i=some ((ks.idxOf? k).map (i + ·))
 | [],[],i,_=>rfl
 | [],_ :: _,i,h=>by simp at h
 |_ :: _,[],i,h=>by simp at h
 |e :: a,q :: ks,i,h=>by
  simp only[DD,Hz]at h;have d:=HX k (i+1) h.2;have c:jA kk (kc k) (e :: a) i=if k=q then some (some i)else jA kk (kc k) a (i+1):=by
   simp only[jA,h.1]
   grind
  rw[c,List.idxOf?_cons];by_cases b:k=q
  .subst b;simp
  .rw[te b,d,te jn,Option.map_map]
   congr 2
   grind
variable {kt:TP} (h1:A2 C.P kt=some true) (h2:CG C.P 10000 kt=some kk) (h3:∀a,∃r,fF kk (kc a) (kc a)=some r)
include h1 h2 h3
omit hd in
theorem KH(k:j8):H5 C.P kt (.agg ⟨kc k⟩)=true:=by
 obtain⟨r,a⟩:=h3 k;unfold H5;simp only[h1,h2,a]
omit h3 hd in
theorem yR(k:j8){a:Tj}{r:Ts}(b:jA kk (kc k) a 0=some r):uX C.P kt (.agg ⟨kc k⟩) a=some r:=by
 unfold uX;simp only[h1,h2,oe,b]
end
end Sx
end Go.Am
end

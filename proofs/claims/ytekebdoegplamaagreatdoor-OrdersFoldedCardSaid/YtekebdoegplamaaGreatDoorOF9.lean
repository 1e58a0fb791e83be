import Derived.Test.YtekebdoegplamaaGreatDoorOF8
import Derived.SevenTiedAt
import Derived.Test.YtekebdoegplamaaGreatDoorCards
import Derived.Test.YtekebdoegplamaaGreatDoorTie
set_option linter.all false
noncomputable section
set_option maxRecDepth 100000
set_option maxHeartbeats 16000000
open Option renaming some->O,none->Q
open Bool renaming true->J,false->U
open List renaming length->W,range->EW
open Int renaming ofNat->DO
open Go.Value renaming int->EO,slice->DW
open Go.IntKind renaming i64->DQ,u8->DU
open Go renaming Value->FO,DataW->FU
open Go.Am.wa renaming cells->EJ
namespace Go.Am
open Sx Go.Proofs
section
variable {w v:Nat} (hs:Sh w v) {l:TD} {G:TH} (hG:C' w v l G) {r:Mv} (hr:r.1<8) (hk0:∀c∈l,c.2.2≠0) {pn:Ti} {V:Tx}
def pZ{k:K6}{t:Nat}{p:K2}(h:iQ w v l (my G r) (4*w*v) k t p):∃i:Nat,(B2 w v l G r).1[i]?=O k:=by
 let⟨id,e,n,j_,b,_,_,a,_⟩:=h;refine I2.1 (((zF w v l (my G r) (4*w*v)).ks k).2 ⟨G1 w v l (my G r) id e,?_,a⟩);unfold HY
 grind
include hs hG hr hk0
theorem RX:RuC pn (B2 w v l G r) V (W (B2 w v l G r).1)↔∀k,(∀p q,iQ w v l (my G r) (4*w*v) k 0 p->iQ w v l (my G r) (4*w*v) k 0 q->p≠q->Ik pn V p.1 q.1 p.2 q.2)/\
  (∀p o,iQ w v l (my G r) (4*w*v) k 0 p->iQ w v l (my G r) (4*w*v) k 1 o->Ik pn V p.1 o.1 p.1 o.2)/\(∀p o,iQ w v l (my G r) (4*w*v) k 0 p->iQ w v l (my G r) (4*w*v) k 2 o->Ik pn V p.2 o.1 p.2 o.2):=by
 constructor
 .intro h k;refine⟨λp q d s D=>?_,λp o d m=>?_,λp o d m=>?_⟩
  .obtain⟨i,c⟩:=pZ d;let⟨a,g⟩:=I2.1 ((dx c q7).2 d);let⟨b,A⟩:=I2.1 ((dx c q7).2 s);let⟨e,x⟩:=vg hs hG hr hk0 d;let⟨f,y⟩:=vg hs hG hr hk0 s;have I:p.1≠q.1:=λz=>D (pU hs x y (.inl z)).1;have K:p.2≠q.2:=λz=>D (pU hs x y (.inr z)).1;have B:a≠b:=λz=>by simp_all
   rcases v1 B with q1|q1
   .exact(p0 (EC I) (EC K)).1 ((h i (ah c) b (ah A) q A).1 a p q1 g)
   .exact(h i (ah c) a (ah g) p g).1 b q q1 A
  .obtain⟨i,c⟩:=pZ d;let⟨a,g⟩:=I2.1 ((dx c q7).2 d);exact(h i (ah c) a (ah g) p g).2.1 o ((dx c q7).2 m)
  .obtain⟨i,c⟩:=pZ d;let⟨a,g⟩:=I2.1 ((dx c q7).2 d);exact(h i (ah c) a (ah g) p g).2.2 o ((dx c q7).2 m)
 .intro h i c j L p d;let⟨k,u⟩:=ak c;let⟨E,F,H⟩:=h k;have n:=(dx u q7).1 (A9 d);refine⟨λb q A s=>E p q n ((dx u q7).1 (A9 s)) λz=>?_,λo m=>F p o n ((dx u q7).1 m),λo m=>H p o n ((dx u q7).1 m)⟩;rw[←z]at s;have C:=xU (t:=0) hs u q7;have:=(List.getElem?_inj (ah d) C).1 (d.trans s.symm);omega
theorem Pu:MG (Km pn (B2 w v l G r) (W (B2 w v l G r).1)) V↔∀k t o u,(t=1∨t=2)->iQ w v l (my G r) (4*w*v) k t o->iQ w v l (my G r) (4*w*v) k t u->o≠u->Y' V (four pn o u)=U:=by
 have K:∀o u:K2,o.1≠u.1->o.2≠u.1->o.1≠u.2->o.2≠u.2->Y' V (four pn o u)=Y' V (four pn u o):=λo u a b c d=>by unfold Y' four;simp only;rw[ie a,ie b,ie c,ie d];unfold A4;simp only;cases V (Em pn o.1 u.1).1<;>cases V (Em pn o.2 u.1).1<;>cases V (Em pn o.1 u.2).1<;>cases V (Em pn o.2 u.2).1<;>cases (Em pn o.1 u.1).2<;>cases (Em pn o.2 u.1).2<;>cases (Em pn o.1 u.2).2<;>cases (Em pn o.2 u.2).2<;>rfl
 constructor
 .intro h k t o u s A E H;let⟨i,m⟩:=pZ A;have n:t<3:=a_;let⟨a,g⟩:=I2.1 ((dx m n).2 A);let⟨b,j⟩:=I2.1 ((dx m n).2 E);have F:a≠b:=λz=>by simp_all
  have D:∀ {a b:Nat} {o u:K2},b<a->(FC (B2 w v l G r) i t)[a]?=O o->(FC (B2 w v l G r) i t)[b]?=O u->Y' V (four pn o u)=U:=λ{a b o u} q g j=>by
   refine h _ (Gv.2 ⟨i,D2.2 (ah m),?_⟩);rw[F_];have:=yG (pn:=pn).2 ⟨a,b,o,u,q,g,j,rfl⟩
   grind
  let⟨e,B⟩:=uR hs hG hr hk0 s A;let⟨f,C⟩:=uR hs hG hr hk0 s E;have I:∀z:o.1=u.1∨o.1=u.2∨o.2=u.1∨o.2=u.2,False:=λz=>H (mg hs B C z).1
  grind
 .intro h f p;let⟨i,m,p⟩:=Gv.1 p;let⟨k,x⟩:=ak (D2.1 m);have D:∀t,(t=1∨t=2)->f∈HE pn (FC (B2 w v l G r) i t) (W (FC (B2 w v l G r) i t))->Y' V f=U:=λt s p=>by obtain⟨a,b,o,u,q,g,j,rfl⟩:=yG.1 p;refine h k t o u s ((dx x a_).1 (A9 g)) ((dx x a_).1 (A9 j)) λz=>?_;rw[←z]at j;have y:=xU (t:=t) hs x a_;have:=(List.getElem?_inj (ah g) y).1 (g.trans j.symm);omega
  grind
end
def td(w v:Nat)(l:TD)(G:TH)(r:Mv):Xu where
 N:=4*w*v
 nb:=D_ w v
 im:=t_ w (my G r)
 be:=Ek w (my G r)
 kd:=λa e=>match D_ w v a e with
  |O b=>cX l (DO (min a b)) (DO e)
  |Q=>0
 up:=λa=>decide ((my G r a).1<4)
def uV{s t:Nat}(a:s<8)(b:t<8):decide (EL s t<4)=decide (decide (s<4)=decide (t<4)):=by
 obtain rfl|rfl|rfl|rfl|rfl|rfl|rfl|rfl:s=0∨s=1∨s=2∨s=3∨s=4∨s=5∨s=6∨s=7:=a_
 all_goals
  obtain rfl|rfl|rfl|rfl|rfl|rfl|rfl|rfl:t=0∨t=1∨t=2∨t=3∨t=4∨t=5∨t=6∨t=7:=a_
  all_goals rfl
def Z_(l:Ln):decide ((wd l).1<4)=U:=by unfold wd;split<;>rfl
def X_{pn:Ti}{V:Tx}{k:Int}{x y:Nat}{a:Bool}:A4 V (I9 pn k x y a)=xr (A4 V (Em pn x y)) (xr (decide (k=2)) a):=by unfold A4 I9;simp only;cases V (Em pn x y).1<;>cases (Em pn x y).2<;>cases decide (k=2)<;>cases a<;>rfl
section
variable {w v:Nat} (hs:Sh w v) {l:TD} {G:TH} (hG:C' w v l G) {r:Mv} (hr:r.1<8) (hk0:∀c∈l,c.2.2≠0) {a b c d e f:Nat}
def eh(g:D_ w v a e=O b):(td w v l G r).kd a e=cX l (DO (min a b)) (DO e):=by
 show(match D_ w v a e with
  |O b=>cX l (DO (min a b)) (DO e)
  |Q=>0)=_
 rw[g]
include hs hG hr hk0
theorem kV(q:(td w v l G r).Loop a b e):(td w v l G r).Loop b a e/\t_ w (my G r) b=t_ w (my G r) a/\Ek w (my G r) b e=Ek w (my G r) a e/\a≠b/\(td w v l G r).up b = !(td w v l G r).up a/\(td w v l G r).kd b e=(td w v l G r).kd a e:=by
 have j:D_ w v a e=O b:=q.nb;have p:=q.k0;rw[eh j]at p;let⟨z,k,y,x,m⟩:=de hs q.a0 q.e0 j;have i:=(fW hk0).1 p;let⟨s,t⟩:=yn hs hG hr q.a0 q.e0 j i;have o:(td w v l G r).kd b e=(td w v l G r).kd a e:=by rw[eh j,eh k,Nat.min_comm]
 refine⟨⟨q.b0,q.a0,q.e0,k,by rw[o];exact q.k0⟩,s,t,EC m,?_,o⟩;have h:=hG.g a e b q.a0 q.e0 j;unfold Gt at h;rw[rv i]at h;show decide ((ae (G b) r).1<4) = !decide ((ae (G a) r).1<4);have u:(G b).1<8:=(hG.ok b q.b0).1;have n:(G a).1<8:=(hG.ok a q.a0).1;show decide (EL (G b).1 r.1<4) = !decide (EL (G a).1 r.1<4);rw[uV u hr,uV n hr];have:decide ((G b).1<4) = !decide ((G a).1<4):=by
  rw[h];show decide (EL (wd (u_ (ra w (min a b)) e)).1 (G a).1<4)=_;rw[uV (jx _) n,Z_]
  grind
 grind
theorem rV(q:(td w v l G r).EN a b e):(td w v l G r).EN b a e/\t_ w (my G r) b=Ek w (my G r) a e/\Ek w (my G r) b e=t_ w (my G r) a/\a≠b:=by
 have j:D_ w v a e=O b:=q.nb;have m:=q.k0;rw[eh j]at m;let⟨t,g,s,p,k⟩:=de hs q.a0 q.e0 j;have i:Es l (min a b) e=U:=by
  cases h:Es l (min a b) e with
  |false=>rfl
  |true=>exact absurd m ((fW hk0).2 h)
 let⟨_,n,o⟩:=Yq hs hG hr q.a0 q.e0 j i;exact⟨⟨q.b0,q.a0,q.e0,g,by rw[eh g,Nat.min_comm];exact m⟩,n,o,EC k⟩
omit hG hr hk0 in
theorem nk(g:a<4*w*v)(i:e<3)(j:f<3)(h:Ek w (my G r) a e=Ek w (my G r) a f):e=f:=X4 hs g i j h
theorem PC:(∀a b e,(td w v l G r).Loop a b e->a≠b/\(td w v l G r).im a=(td w v l G r).im b)/\
  (∀a b e c d f,(td w v l G r).EN a b e->(td w v l G r).EN c d f->(td w v l G r).im a=(td w v l G r).im c->(td w v l G r).be a e=(td w v l G r).be c f->(td w v l G r).im b=(td w v l G r).im d/\(a≠c->b≠d))/\
  (∀a b e c d f,(td w v l G r).EN a b e->(td w v l G r).Loop c d f->(td w v l G r).be a e=(td w v l G r).be c f->a≠c/\a≠d)/\
  (∀a b e c d f,(td w v l G r).Loop a b e->(td w v l G r).Loop c d f->(td w v l G r).im a=(td w v l G r).im c->(td w v l G r).be a e=(td w v l G r).be c f->a≠c->a≠d->b≠c/\b≠d):=by
 refine⟨λa b e q=>?_,λa b e c d f q u i j=>?_,λa b e c d f q u j=>?_,λa b e c d f q u i j n y=>?_⟩
 .obtain⟨_,t,_,x,_⟩:=kV hs hG hr hk0 q;exact⟨x,t.symm⟩
 .obtain⟨g,o,k,_⟩:=rV hs hG hr hk0 q;let⟨m,p,h,_⟩:=rV hs hG hr hk0 u;refine⟨o.trans (j.trans p.symm),λn z=>n ?_⟩;subst z;have:=nk hs g.a0 g.e0 m.e0 (k.trans (i.trans h.symm));subst this;exact Fm (g.nb.symm.trans m.nb)
 .obtain⟨_,_,h,_,_,s⟩:=kV hs hG hr hk0 u;constructor
  .rintro rfl;have:=nk hs q.a0 q.e0 u.e0 j;subst this;exact u.k0 q.k0
  .rintro rfl;have:=nk hs q.a0 q.e0 u.e0 (j.trans h.symm);subst this;exact u.k0 (s.symm.trans q.k0)
 .obtain⟨g,_,k,_⟩:=kV hs hG hr hk0 q;let⟨m,_,h,_⟩:=kV hs hG hr hk0 u;constructor
  .rintro rfl;have:=nk hs q.b0 q.e0 u.e0 (k.trans j);subst this;exact y (Fm (g.nb.symm.trans u.nb))
  .rintro rfl;have:=nk hs q.b0 q.e0 u.e0 (k.trans (j.trans h.symm));subst this;exact n (Fm (g.nb.symm.trans m.nb))
theorem gT(q:(td w v l G r).EN a b e)(g:Ez (t_ w (my G r) a) (Ek w (my G r) a e)=U):iQ w v l (my G r) (4*w*v) (t_ w (my G r) a,Ek w (my G r) a e) 0 (a,b):=by
 let⟨n,i,j,_⟩:=rV hs hG hr hk0 q;have m:=q.k0;rw[eh q.nb]at m;by_cases h:b<a
 .have k:Ez (t_ w (my G r) b) (Ek w (my G r) b e)=J:=by rw[i,j];exact qK g (EC (N6 hs q.a0 q.e0))
  refine⟨b,e,a,q.b0,q.e0,n.nb,a_,?_,.inl ⟨rfl,?_,?_⟩⟩
  .unfold v9;rw[rv k,i,j]
  .unfold kdP
   grind
  .rw[rv k]
 .refine⟨a,e,b,q.a0,q.e0,q.nb,h,?_,.inl ⟨rfl,m,?_⟩⟩
  .unfold v9
   simp_all
  simp_all
omit hs hG hr hk0 in
theorem qW(q:(td w v l G r).Loop a b e)(h:a<b):iQ w v l (my G r) (4*w*v) (v9 (t_ w (my G r) a) (Ek w (my G r) a e)) (if Ez (t_ w (my G r) a) (Ek w (my G r) a e)then 2 else 1) (a,b):=by have g:=q.k0;rw[eh q.nb]at g;exact⟨a,e,b,q.a0,q.e0,q.nb,a_,rfl,.inr ⟨rfl,g,rfl⟩⟩
theorem pT{k:K6}{p:K2}(h:iQ w v l (my G r) (4*w*v) k 0 p):∃e,Hz w v l G r k p e/\(td w v l G r).EN p.1 p.2 e/\Ek w (my G r) p.1 e=k.2:=by
 let⟨e,q⟩:=vg hs hG hr hk0 h;have g:(td w v l G r).kd p.1 e=0:=by
  rw[eh q.nb];by_cases z:cX l (DO (min p.1 p.2)) (DO e)=0
  .exact z
  .have:=(fW hk0).1 z;rw[q.cr]at this;cases this
 have u:(td w v l G r).EN p.1 p.2 e:=⟨q.n1,q.n2,q.he,q.nb,g⟩;refine⟨e,q,u,?_⟩;rw[←(rV hs hG hr hk0 u).2.1];exact q.i2
theorem pN{k:K6}{t:Nat}{o:K2}(i:t=1∨t=2)(h:iQ w v l (my G r) (4*w*v) k t o):∃e,Hy w v l G r k t o e/\(td w v l G r).Loop o.1 o.2 e/\Ek w (my G r) o.1 e=(if t=1 then k.2 else k.1):=by
 let⟨e,q⟩:=uR hs hG hr hk0 i h;have j:(td w v l G r).kd o.1 e≠0:=by rw[eh q.nb,Xk (qdK q.lt)];exact(fW hk0).2 q.cr
 refine⟨e,q,⟨q.n1,q.n2,q.he,q.nb,j⟩,?_⟩;have g:=q.k1;unfold v9 at g;rcases i with rfl|rfl
 .rw[ts (by rw[q.gt];decide)]at g;rw[rv rfl,←g]
 .rw[rv (by rw[q.gt];decide)]at g
  grind
end
section
variable {w v:Nat} (hs:Sh w v) {l:TD} {G:TH} (hG:C' w v l G) {r:Mv} (hr:r.1<8) (hk0:∀c∈l,c.2.2≠0) {pn:Ti} {V:Tx} {B:Nat->Nat->Bool}
 (hV:∀a b,a<4*w*v->b<4*w*v->a≠b->t_ w (my G r) a=t_ w (my G r) b->A4 V (Em pn a b)=B a b)
include hs hG hr hk0 hV
theorem u5(h1:∀i e,i<4*w*v->e<3->Gy pn w v l (my G r) V i e)(H:RuC pn (B2 w v l G r) V (W (B2 w v l G r).1))(T:MG (Km pn (B2 w v l G r) (W (B2 w v l G r).1)) V):HX (td w v l G r) B:=by
 rw[RX hs hG hr hk0]at H;rw[Pu hs hG hr hk0]at T;let⟨C,o2,o3,Y⟩:=PC hs hG hr hk0;refine⟨λa b e q k=>?_,λa b e c d f q u i j n=>?_,λa b e c d f q u i j=>?_,λa b e c d f q u i j n L=>?_⟩
 .have h:∀ {a b:Nat},(td w v l G r).Loop a b e->(td w v l G r).kd a e≠3->a<b->xr (B a b) (xr (decide ((td w v l G r).kd a e=2)) ((td w v l G r).up a))=J:=λ{a b} q k I=>by let⟨x,A⟩:=C _ _ _ q;have X:=q.k0;have:=h1 a e q.a0 q.e0 b q.nb a_ (by rw[eh q.nb]at X;exact X) (by rw[eh q.nb]at k;exact k);rw[X_,hV a b q.a0 q.b0 x A]at this;rw[eh q.nb];exact this
  let⟨o,_,_,s,g4,g5⟩:=kV hs hG hr hk0 q;rcases v1 s with z|z
  .exact h q k z
  .have:=h o a_ z;rw[g4,g5,←hV b a q.b0 q.a0 (EC s) (C _ _ _ o).2,ie s]at this;rw[←hV a b q.a0 q.b0 s (C _ _ _ q).2];revert this;unfold A4;simp only;cases V (Em pn a b).1<;>cases (Em pn a b).2<;>cases decide ((td w v l G r).kd a e=2)<;>cases (td w v l G r).up a<;>decide
 .obtain⟨z1,z2⟩:=o2 _ _ _ _ _ _ q u i j;let⟨o,E,F,_⟩:=rV hs hG hr hk0 q;let⟨D,R,S,_⟩:=rV hs hG hr hk0 u;rw[←hV a c q.a0 u.a0 n i,←hV b d q.b0 u.b0 (z2 n) z1];change t_ w (my G r) a=t_ w (my G r) c at i;change Ek w (my G r) a e=Ek w (my G r) c f at j;cases g:Ez (t_ w (my G r) a) (Ek w (my G r) a e)with
  |false=>have p:=gT hs hG hr hk0 q g;have m:=gT hs hG hr hk0 u k_;rw[←i,←j]at m;exact(H _).1 _ _ p m λz=>n (congrArg Prod.fst z)
  |true=>have p:=gT hs hG hr hk0 o (by rw[E,F];exact wH g);have m:=gT hs hG hr hk0 D (by rw[R,S,←i,←j];exact wH g);rw[E,F]at p;rw[R,S,←i,←j]at m;exact((H _).1 _ _ p m λz=>n (congrArg Prod.snd z)).symm
 .have h:∀ {c d:Nat},(td w v l G r).Loop c d f->t_ w (my G r) a=t_ w (my G r) c->Ek w (my G r) a e=Ek w (my G r) c f->c<d->B a c=B a d:=λ{c d} u i j t=>by
   let⟨o,E,F,_⟩:=rV hs hG hr hk0 q;let⟨n1,n2⟩:=o3 _ _ _ _ _ _ q u j;have K:=(C _ _ _ u).2;rw[←hV a c q.a0 u.a0 n1 i,←hV a d q.a0 u.b0 n2 (i.trans K)];have m:=qW u t;unfold v9 at m;rw[←i,←j]at m;cases g:Ez (t_ w (my G r) a) (Ek w (my G r) a e)with
   |false=>rw[ts (by rw[g];decide),ts (by rw[g];decide)]at m;exact(H _).2.1 _ _ (gT hs hG hr hk0 q g) m
   |true=>rw[rv g,rv g]at m;have p:=gT hs hG hr hk0 o (by rw[E,F];exact wH g);rw[E,F]at p;exact(H _).2.2 _ _ p m
  let⟨D,x,A,s,_⟩:=kV hs hG hr hk0 u;rcases v1 s with z|z
  .exact h u i j z
  .exact(h D (i.trans x.symm) (j.trans A.symm) z).symm
 .have h:∀ {a b c d:Nat},(td w v l G r).Loop a b e->(td w v l G r).Loop c d f->t_ w (my G r) a=t_ w (my G r) c->Ek w (my G r) a e=Ek w (my G r) c f->a≠c->a≠d->a<b->c<d->xr (xr (B a c) (B b c)) (xr (B a d) (B b d))=U:=λ{a b c d} q u i j n L I t=>by let⟨M,N⟩:=Y _ _ _ _ _ _ q u i j n L;have P:=(C _ _ _ q).2;have K:=(C _ _ _ u).2;change t_ w (my G r) a=t_ w (my G r) b at P;change t_ w (my G r) c=t_ w (my G r) d at K;rw[←hV a c q.a0 u.a0 n i,←hV b c q.b0 u.a0 M (P.symm.trans i),←hV a d q.a0 u.b0 L (i.trans K),←hV b d q.b0 u.b0 N (P.symm.trans (i.trans K))];have p:=qW q I;have m:=qW u t;rw[←i,←j]at m;exact T _ _ _ _ k_ p m λz=>n (congrArg Prod.fst z)
  let⟨o,Z,p2,p3,_⟩:=kV hs hG hr hk0 q;let⟨D,x,A,s,_⟩:=kV hs hG hr hk0 u;let⟨M,N⟩:=Y _ _ _ _ _ _ q u i j n L;change t_ w (my G r) a=t_ w (my G r) c at i;change Ek w (my G r) a e=Ek w (my G r) c f at j;rcases v1 p3 with y|y<;>rcases v1 s with z|z
  .simp_all
  .have:=h q D (i.trans x.symm) (j.trans A.symm) L n y z;revert this;cases B a c<;>cases B b c<;>cases B a d<;>cases B b d<;>decide
  .have:=h o u (Z.trans i) (p2.trans j) M N y z;revert this;cases B a c<;>cases B b c<;>cases B a d<;>cases B b d<;>decide
  .have:=h o D (Z.trans (i.trans x.symm)) (p2.trans (j.trans A.symm)) N M y z;revert this;cases B a c<;>cases B b c<;>cases B a d<;>cases B b d<;>decide
theorem u7(h:HX (td w v l G r) B):(∀i e,i<4*w*v->e<3->Gy pn w v l (my G r) V i e)/\RuC pn (B2 w v l G r) V (W (B2 w v l G r).1)/\MG (Km pn (B2 w v l G r) (W (B2 w v l G r).1)) V:=by
 rw[RX hs hG hr hk0,Pu hs hG hr hk0];let⟨o1,o2,o3,o4⟩:=PC hs hG hr hk0;refine⟨λa e K L b s S Y Z=>?_,λk=>⟨λp q D T s=>?_,λp o D C=>?_,λp o D C=>?_⟩,λk t o u M C X s=>?_⟩
 .have q:(td w v l G r).Loop a b e:=⟨K,(de hs K L s).1,L,s,by rw[eh s];exact Y⟩;have:=h.kd a b e q (by rw[eh s];exact Z);let⟨P,R⟩:=o1 _ _ _ q;rw[X_,hV a b q.a0 q.b0 P R];rw[eh s]at this;exact this
 .obtain⟨e,c,d,A⟩:=pT hs hG hr hk0 D;let⟨f,m,g,x⟩:=pT hs hG hr hk0 T;have I:p.1≠q.1:=λz=>s (pU hs c m (.inl z)).1;have i:=c.i1.trans m.i1.symm;have j:=A.trans x.symm;let⟨z1,z2⟩:=o2 _ _ _ _ _ _ d g i j;unfold Ik;rw[hV _ _ d.a0 g.a0 I i,hV _ _ d.b0 g.b0 (z2 I) z1];exact h.pp _ _ _ _ _ _ d g i j I
 .obtain⟨e,c,d,A⟩:=pT hs hG hr hk0 D;let⟨f,m,g,x⟩:=pN hs hG hr hk0 (.inl rfl) C;rw[rv rfl]at x;have y:=m.im;rw[rv rfl]at y;let⟨E,F,_,_⟩:=xC hs c m;unfold Ik;rw[hV _ _ d.a0 g.a0 E (c.i1.trans y.1.symm),hV _ _ d.a0 g.b0 F (c.i1.trans y.2.symm)];exact h.pl _ _ _ _ _ _ d g (c.i1.trans y.1.symm) (A.trans x.symm)
 .obtain⟨e,c,d,A⟩:=pT hs hG hr hk0 D;let⟨f,m,g,x⟩:=pN hs hG hr hk0 (.inr rfl) C;rw[ts q7]at x;have y:=m.im;rw[ts q7]at y;let⟨_,_,E,F⟩:=xC hs c m;let⟨p',a1,N,_⟩:=rV hs hG hr hk0 d;unfold Ik;rw[hV _ _ d.b0 g.a0 E (c.i2.trans y.1.symm),hV _ _ d.b0 g.b0 F (c.i2.trans y.2.symm)];exact h.pl _ _ _ _ _ _ p' g (c.i2.trans y.1.symm) (N.trans (c.i1.trans x.symm))
 .obtain⟨e,c,d,A⟩:=pN hs hG hr hk0 M C;let⟨f,m,g,x⟩:=pN hs hG hr hk0 M X;have i:=c.im.1.trans m.im.1.symm;have j:=A.trans x.symm;have n:o.1≠u.1:=λz=>s (mg hs c m (.inl z)).1;have H:o.1≠u.2:=λz=>s (mg hs c m (.inr (.inl z))).1;let⟨E,F⟩:=o4 _ _ _ _ _ _ d g i j n H;unfold Y' four;simp only;rw[hV _ _ d.a0 g.a0 n i,hV _ _ d.b0 g.a0 E (c.im.2.trans m.im.1.symm),hV _ _ d.a0 g.b0 H (c.im.1.trans m.im.2.symm),hV _ _ d.b0 g.b0 F (c.im.2.trans m.im.2.symm)];exact h.ll _ _ _ _ _ _ d g i j n H
end
def Xh(x:List (TC))(a b:Nat):Bool:=x.any λq=>decide (a∈q)&&(decide (b∈q)&&decide (q.idxOf a<q.idxOf b))
def dY:∀ {IDS x:List (TC)},x∈Ec IDS↔x.length=W IDS/\∀(i:Nat) l q,IDS[i]?=O l->x[i]?=O q->q.Perm l
 | [],x=>by
  unfold Ec
  simp_all
 |l::R,x=>by
  unfold Ec;cases x with
  |nil=>simp
  |cons y x=>
   rw[Gv];constructor
   .rintro⟨p,g,j⟩;let⟨t,h,e⟩:=Ed.1 j;cases e;let⟨d,a⟩:=dY.1 h;refine⟨by simp[d],λi f q b c=>?_⟩;cases i with
    |zero=>cases b;cases c;exact pX rfl g
    |succ i=>exact a i f q b c
   .rintro⟨d,a⟩;refine⟨y,Rc rfl (a 0 l y rfl rfl),Ed.2 ⟨x,dY.2 ⟨by simpa using d,λi f q b c=>a (i+1) f q b c⟩,rfl⟩⟩
section
variable {IDS:List (TC)} {N:Nat} (g:Gl IDS N) {x:List (TC)} (hx:x∈Ec IDS)
include g
theorem gl_one{i j:Nat}{l m:TC}{a:Nat}(d:IDS[i]?=O l)(e:IDS[j]?=O m)(b:a∈l)(c:a∈m):i=j:=by
 have h:=g.dj;rw[Ki]at h
 grind
include hx
theorem l0{q q':TC}{a:Nat}(o:q∈x)(b:q'∈x)(f:a∈q)(h:a∈q'):q=q':=by
 let⟨p,c⟩:=dY.1 hx;let⟨i,k⟩:=I2.1 o;let⟨j,n⟩:=I2.1 b;let⟨l,d⟩:=ak (l:=IDS) (i:=i) jw;let⟨m,e⟩:=ak (l:=IDS) (i:=j) jw;have:=gl_one g d e ((c i l q d k).mem_iff.1 f) ((c j m q' e n).mem_iff.1 h)
 simp_all
theorem zt{q:TC}(d:q∈x):q.Nodup:=by let⟨e,b⟩:=dY.1 hx;let⟨i,c⟩:=I2.1 d;let⟨l,a⟩:=ak (l:=IDS) (i:=i) jw;exact(b i l q a c).symm.nodup (g.nd l (A9 a))
theorem vU{q:TC}{a b:Nat}(e:q∈x)(c:a∈q)(f:b∈q):Xh x a b=decide (q.idxOf a<q.idxOf b):=by
 unfold Xh;rw[h9,qcn];constructor
 .rintro⟨p,d,h⟩;rw[y_,y_,Gp]at h;have:=l0 g hx d e h.1 c
  simp_all
 grind
theorem wO{q:TC}{i j a b:Nat}(c:q∈x)(d:q[i]?=O a)(e:q[j]?=O b):q.idxOf a<q.idxOf b↔i<j:=by
 have f:=zt g hx c
 grind
theorem bfL_as{q:TC}{a b:Nat}(c:q∈x)(d:a∈q)(e:b∈q)(k:a≠b):Xh x b a = !Xh x a b:=by
 rw[vU g hx c d e,vU g hx c e d];let⟨i,f⟩:=I2.1 d;let⟨j,h⟩:=I2.1 e;have l:i≠j:=λz=>by simp_all
 have m:=wO g hx c f h;have n:=wO g hx c h f
 grind
theorem agr_bf{pn:Ti}{V:Tx}{q:TC}(h:Xo pn V q){a b:Nat}(o:q∈x)(m:a∈q)(n:b∈q)(f:a≠b):A4 V (Em pn a b)=Xh x a b:=by
 rw[vU g hx o m n];let⟨i,c⟩:=I2.1 m;let⟨j,d⟩:=I2.1 n;unfold Xo at h;rw[Ki]at h;have k:=Gn (ah c);have l:=Gn (ah d);rw[c]at k;rw[d]at l;have p:=wO g hx o c d;rcases qcP i j with q|q|q
 .simp_all
 .simp_all
 .have e:=h j i (ah d) (ah c) q;rw[←Fm k,←Fm l]at e;rw[Ga λz=>a_];rw[ie f]at e;revert e;unfold A4;simp only;cases V (Em pn a b).1<;>cases (Em pn a b).2<;>decide
end
section
variable {L:TL} {x:List (TC)} (hx:x∈Ec (s7 L))
def bfV(L:TL)(x:List (TC))(i:Nat):Bool:=match (F9 (s7 L))[i]? with
 |O p=>Xh x p.1 p.2
 |Q=>U
include hx
theorem X7{a b:Nat}{c:Cl}(d:L[a]?=O c)(f:L[b]?=O c)(e:a≠b):A4 (bfV L x) (Em (Fu (F9 (s7 L))) a b)=Xh x a b:=by
 have g:∀ {a b:Nat},L[a]?=O c->L[b]?=O c->a<b->bfV L x (Fu (F9 (s7 L)) a b)=Xh x a b:=λ{a b} d f s=>by
  let⟨l,k,m,n⟩:=gQ d f;have u:((a,b):K2)∈F9 (s7 L):=by
   let⟨j,r⟩:=I2.1 m;let⟨i,p⟩:=I2.1 n;refine vn.2 ⟨l,k,j,i,?_,r,p⟩;have h:=uH k;rw[Ki]at h
   grind
  unfold bfV Fu
  grind
 let⟨l,k,m,n⟩:=gQ d f;let⟨q,t,o⟩:=vm hx l k;unfold Em A4;rcases v1 e with z|z
 .rw[rv z];simp only;rw[g d f z];cases Xh x a b<;>rfl
 .rw[ts a_];simp only;rw[g f d z,bfL_as (gJ L) hx t (o.mem_iff.2 m) (o.mem_iff.2 n) e];cases Xh x a b<;>rfl
theorem hY{q:TC}(a:q∈x):Xo (Fu (F9 (s7 L))) (bfV L x) q:=by
 unfold Xo;rw[Ki];intro i j r s f;have b:=Gn r;have c:=Gn s;let⟨v,p⟩:=dY.1 hx;let⟨k,t⟩:=I2.1 a;let⟨l,h⟩:=ak (l:=s7 L) (i:=k) jw;have m:=p k l q h t;have n:=A9 b;have o:=A9 c;let⟨e,u⟩:=AL (A9 h) (m.mem_iff.1 n) (m.mem_iff.1 o);have d:q[i]≠q[j]:=λz=>by have:=Bj (zt (gJ L) hx a) b (c.trans (congrArg O z.symm));omega
 have g:L[q[i]]?=O L[q[i]]:=Gn u;rw[X7 hx g (e▸g) d,vU (gJ L) hx a n o,Gp];exact(wO (gJ L) hx a b c).2 f
end
def iX{w v:Nat}(u:Sh w v){l:TD}{G:TH}(s:C' w v l G){r:Mv}(t:r.1<8)(f:∀c∈l,c.2.2≠0){x:List (TC)}(i:x∈Ec (s7 (C6 w v G r))) :
  E6 (Fu (F9 (s7 (C6 w v G r)))) (SvC w v l G r (Fu (F9 (s7 (C6 w v G r))))) (Km (Fu (F9 (s7 (C6 w v G r)))) (B2 w v l G r) (W (B2 w v l G r).1)) x=J↔HX (td w v l G r) (Xh x):=by
 rw[Bm];constructor
 .rintro⟨V,⟨j,k⟩,n,y⟩;refine u5 u s t f (λa b o p d e=>?_) j k n;obtain⟨q,g,A,B⟩ : ∃q∈x,a∈q/\b∈q:=by
   let⟨m,z,D,E⟩:=gQ (dv (w:=w) (v:=v) (G:=G) (r:=r) o) ((dv p).trans (congrArg O e.symm));let⟨q,g,C⟩:=vm i m z
   grind
  exact agr_bf (gJ _) i (y q g) g A B d
 .intro h;let⟨j,k,n⟩:=u7 u s t f (V:=bfV (C6 w v G r) x) (pn:=Fu (F9 (s7 (C6 w v G r)))) (λa b o p d e=>X7 i (dv o) ((dv p).trans (congrArg O e.symm)) d) h;exact⟨_,⟨j,k⟩,n,λq g=>hY i g⟩
def B5(L:List (Cl×List Nat))(c:Cl):TC:=match L.find? λs=>decide (s.1=c)with
 |O s=>s.2
 |Q=>[]
def sB{L:List (Cl×List Nat)}{c:Cl}:∀ {i:Nat} {s:Cl×List Nat},L[i]?=O s->s.1=c->(∀j,j<i->∀t,L[j]?=O t->t.1≠c)->L.find? (λs=>decide (s.1=c))=O s:=by
 induction L with
 |nil=>intro i s h;simp at h
 |cons a L e=>
  intro i s h d b;rw[List.find?_cons];cases i with
  |zero=>simp_all
  |succ i=>
   rw[Ga (b 0 a_ a rfl)]
   grind
def Va{L:List (Cl×List Nat)}{c:Cl}(a:∀(j:Nat) t,L[j]?=O t->t.1≠c):L.find? (λs=>decide (s.1=c))=Q:=by rw[qdf];intro s d;let⟨j,b⟩:=E4 d;simpa using a j s b
def Vm{H:HL}{x:TV}{L:List (Cl×List Nat)}(w:XB H x L)(C:W L<=1000)(c:Cl) :
  ∃y,aD cc ac 61 ([.v x]++EB c) (h_ aa H) [.v y] (h_ aa H)/\aH y=J/\q_ H y 1 l_ (B5 L c):=by
 let⟨M,f,m,u⟩:=w;have z:=x61 (ls:=[.v x,.i c.1,.i c.2.1,.i (DO c.2.2)]) (K:=λA s=>∃y,A=[.v y]/\s=H/\aH y=J/\q_ H y 1 l_ (B5 L c)) (H:=H) (o_ f.g_ (mc (mc (mc vc)))) (by
  unfold f61;simp only[w7];refine c_ ?_;apply bY (W L) (λj=>∀n,n<j->∀t,L[n]?=O t->t.1≠c) (j0:=0) rfl (Eg _) (λn h=>a_);intro i B e r o;refine c_ ?_;apply aO f;rw[m];by_cases k:i<W L
  case neg=>obtain rfl:i=W L:=a_;rw[aw (B7 _)];refine c_ ?_;refine⟨_,by first|rfl|trivial,by first|rfl|trivial,rfl,?_⟩;unfold B5;rw[Va λj t q=>e j (ah q) t q];exact .nil _ _ _
  rw[aB k];refine c_ ?_;let⟨⟨a,y⟩,p⟩:=ak (l:=M) (i:=i) a_;let⟨D,d,b⟩:=u i _ p;simp only at d b;refine bz (cs:=[EO DQ a.1,EO DQ a.2.1,EO DU (DO a.2.2)]) f rfl p rfl a_ (c_ ?_);rw[kC];by_cases g:a=c
  .rw[FX g];refine c_ ?_;refine bz (cs:=[y]) f rfl p rfl a_ (c_ ?_);refine ab b.g_ (m9 ?_);refine⟨y,by first|rfl|trivial,by first|rfl|trivial,b.g_,?_⟩;unfold B5;rw[sB d g e];exact b
  .rw[Ga g];refine c_ ?_;rw[aI a_]
   grind)
 grind
abbrev Wg:=Nat×Int×Int
def KH(x:Wg):Tn:=[EO DQ (DO x.1),EO DQ x.2.1,EO DU x.2.2]
def Vx(w v:Nat)(l:TD)(P:TH)(d:Cl)(n k:Nat):Option Wg:=
 if aq (P n) (E5 (ra w n) (eK (n%4) k))=d then O (n,Ke w v n k,Ka w v l n k)else Q
def IC(w v:Nat)(l:TD)(P:TH)(d:Cl)(n:Nat):List Wg:=(EW 3).filterMap (Vx w v l P d n)
def H8(w v:Nat)(l:TD)(P:TH)(L:List (Cl×List Nat))(c d:Cl):List Wg:=(B5 L c).flatMap (IC w v l P d)
def Be{w v:Nat}{l:TD}{P:TH}{d:Cl}{n k:Nat}:W ((EW k).filterMap (Vx w v l P d n))<=k:=VP (qdp _ _) d_
def yU{w v:Nat}{l:TD}{P:TH}{d:Cl}:∀ {Y:TC},W (Y.flatMap (IC w v l P d))<=3*W Y
 | []=>d_
 |n::Y=>by rw[kD,IL,j1];have a:=yU (w:=w) (v:=v) (l:=l) (P:=P) (d:=d) (Y:=Y);have b:W (IC w v l P d n)<=3:=Be;omega
def Rb{w v:Nat}(u:S3 w v){l:TD}{H:HL}{x Z X xp:TV}{L:List (Cl×List Nat)}(hx:XB H x L)(D:W L<=1000)(G:aH Z=J)(hk:q_ H X 1 H3 (Eu w v l)){Pl:TR}(hp:q_ H xp 3 u9 Pl){P:TH}(hP:∀n,n<4*w*v->Pl[n]?=O (P n))(F:∀n,n<4*w*v->Ew 30000 (P n))
  (c d:Cl) (j_:∀n∈B5 L c,n<4*w*v) (an:W (B5 L c)<=1000) :
  ∃z h',aD cc ac 26 ([.i (.ofNat w),.i (.ofNat v),.v Z,.v X,.v xp,.v x]++EB c++EB d) (h_ aa H) [.v z] (h_ aa h')/\xk H h'/\aH z=J/\q_ h' z 3 KH (H8 w v l P L c d):=by
 have hs:=u.sh;let⟨b1,b2,b3,b4⟩:=u.n;have hN:=GK hs;let⟨y,hy,av,hY⟩:=Vm hx D c;let⟨M,hM,_,_⟩:=hx;have T:H8 w v l P L c d=(B5 L c).flatMap (IC w v l P d):=rfl;rw[T];generalize B5 L c=Y at *;have ax:=x26 (ls:=[.i (.ofNat w),.i (.ofNat v),.v Z,.v X,.v xp,.v x,.i c.1,.i c.2.1,.i (DO c.2.2),.i d.1,.i d.2.1,.i (DO d.2.2)]) (K:=λrs h'=>∃z,rs=[.v z]/\xk H h'/\aH z=J/\q_ h' z 3 KH (Y.flatMap (IC w v l P d))) (H:=H) (mc (mc (o_ G (o_ hk.g_ (o_ hp.g_ (o_ hM.g_ (mc (mc (mc (mc (mc (mc vc)))))))))))) (by
  unfold f26;simp only[w7];refine c_ ?_;simp only[EB,Fe,E7]at hy;refine ai hy (c_ ?_);apply bo (g9:=HL×FO) (W Y) (λj s=>[.v s.2,.i (DO j)]) (λ_ s=>s.1) (λj s=>xk H s.1/\aH s.2=J/\Xw (W H) s.1 s.2 3 KH ((Y.take j).flatMap (IC w v l P d))) (j0:=0) (s0:=(H,DW Q 0 0)) rfl rfl (Eg _) ⟨.refl _,rfl,.nil _ _ _ _⟩;rintro j ⟨h,z⟩ hj ⟨b,e,o⟩ ad t;simp only at b o e ⊢;refine c_ ?_;apply aO (hY.pre b);by_cases p:j<W Y
  case neg=>rw[aw a_];refine c_ ?_;rw[K5 a_]at o;exact⟨z,rfl,b,e,o.ls⟩
  rw[aB p];refine c_ ?_;let⟨n,r⟩:=ak p;have q:=j_ n (A9 r);have S:(Y.take (j+1)).flatMap (IC w v l P d)=(Y.take j).flatMap (IC w v l P d)++IC w v l P d n:=by rw[Kx,r,nC];simp
  have N:=yU (w:=w) (v:=v) (l:=l) (P:=P) (d:=d) (Y:=Y.take j);rw[qb6]at N;apply aJ (hY.pre b) rfl r;rw[show l_ n=[EO DQ (DO n)]from rfl];refine c_ ?_;have hr:=cg hs q;have B:=F n q;apply bo (g9:=HL×FO) 3 (λk s=>[.v s.2,.i (DO k)]) (λ_ s=>s.1) (λk s=>xk H s.1/\aH s.2=J/\Xw (W H) s.1 s.2 3 KH ((Y.take j).flatMap (IC w v l P d)++(EW k).filterMap (Vx w v l P d n))) (j0:=0) (s0:=(h,z)) rfl rfl (Eg _) ⟨b,e,by simpa using o⟩;clear b o e;rintro k ⟨h,z⟩ ag ⟨b,e,o⟩ V f;simp only at b o e ⊢;refine c_ ?_;by_cases g:k<3
  case neg=>obtain rfl:k=3:=a_;rw[s_ (show(3:Int)<=DO 3 from L_ _)];refine c_ ?_;rw[aI a_];exact t (h,z) p ⟨b,e,by rw[S];exact o⟩
  rw[r_ (show DO k<3 by grind)];refine c_ ?_;have I:=gm (n%4) k;have hq:=L1 (c:=ra w n) hr.2.2.2.2 I;have c1:=ii u q;have c2:=Cs u q g;have c3:=jr (m:=P n) (c:=E5 (ra w n) (eK (n%4) k)) B.1 (by let⟨_,g1,g2,g3,g4,_⟩:=B;omega) hq.1 a_;have c4:=xm u q g;have A:Vx w v l P d n k=if aq (P n) (E5 (ra w n) (eK (n%4) k))=d then O (n,Ke w v n k,Ka w v l n k)else Q:=rfl
  generalize E5 (ra w n) (eK (n%4) k)=be at *;generalize ap:aq (P n) be=mb at *;simp only[EB,EG,Fe,E7]at c1 c2 c3;apply aJ (hp.pre b) rfl (hP n q);rw[show u9 (P n)=[EO DU (DO (P n).1),EO DQ (P n).2.1,EO DQ (P n).2.2]from rfl];refine c_ ?_;refine am c1 (c_ ?_);refine am c2 (c_ ?_);refine am c3 (c_ ?_);rw[kC];by_cases C:mb=d
  case neg=>rw[Ga C];simp(disch:=omega)only[↓qb,GG];rw[aI a_];exact f (h,z) g ⟨b,e,by rw[lT,A,ts C];simpa using o⟩
  rw[FX C];simp(disch:=omega)only[↓qb,Fv];refine am c4 (c_ ?_);rw[LZ a_];refine m9 ?_;rw[vS a_];refine m9 ?_;apply aJ (hk.pre b) rfl (mO q g);rw[show H3 (Ka w v l n k)=[EO DU (Ka w v l n k)]from rfl];refine c_ ?_;have al:=Be (w:=w) (v:=v) (l:=l) (P:=P) (d:=d) (n:=n) (k:=k);refine DF (h0:=H) (a:=((n,Ke w v n k,Ka w v l n k):Wg)) b o rfl rfl rfl rfl (by unfold aY;rw[IL,FE a_,FE a_];rfl) ?_
  intro z' h' R E hg _ _;refine c_ ?_;refine ab hg (m9 ?_);rw[aI a_];exact f (h',z') g ⟨R,hg,by rw[lT,A,rv C,←Gu];exact E⟩)
 grind
def Ff(l:List Wg)(id:Int):Int:=match l.findIdx? λa=>decide (DO a.1=id)with
 |O i=>DO i
 |Q=>-1
def zW{H:HL}{x:TV}{l:List Wg}(e:q_ H x 3 KH l)(k:W l<=1000000)(id:Int):aD cc ac 62 [.v x,.i id] (h_ aa H) [.i (Ff l id)] (h_ aa H):=by
 exact xK x62 (o_ e.g_ (mc vc)) (by
  unfold f62;simp only[w7];refine c_ ?_;apply bY (W l) (λj=>∀n,n<j->∀a,l[n]?=O a->DO a.1≠id) (j0:=0) rfl (Eg _) (λn h=>a_);intro i o m g d;refine c_ ?_;apply aO e;by_cases b:i<W l
  case neg=>
   rw[aw a_];refine c_ ?_;have:l.findIdx? (λa=>decide (DO a.1=id))=Q:=by
    rw[List.findIdx?_eq_none_iff];intro a c;let⟨n,k⟩:=E4 c
    grind
   unfold Ff
   grind
  rw[aB b];refine c_ ?_;let⟨a,c⟩:=ak b;refine bz (cs:=[EO DQ (DO a.1)]) e rfl c rfl a_ (c_ ?_);by_cases f:DO a.1=id
  .rw[ub f];refine c_ ?_;have:l.findIdx? (λa=>decide (DO a.1=id))=O i:=by
    rw[qb8]
    grind
   unfold Ff
   simp_all
  .rw[tx f];refine c_ ?_;rw[aI a_]
   grind)
def mt{H:HL}{x:TV}{l:List Wg}(b:q_ H x 3 KH l)(d:W l<=1000000){i:Nat}{a:Wg}(c:l[i]?=O a):aD cc ac 28 [.v x,.i (DO i)] (h_ aa H) [.i (Ff l a.2.1)] (h_ aa H):=by
 exact xK x28 (o_ b.g_ (mc vc)) (by
  unfold f28;simp only[w7];refine c_ ?_;refine bz (cs:=[EO DQ a.2.1]) b rfl c rfl a_ (c_ ?_);refine ai (zW b d a.2.1) (c_ ?_)
  simp_all)
theorem ce{l:List Wg}{id:Int}:Ff l id<DO (W l)/\-1<=Ff l id:=by
 unfold Ff;split
 next i h=>
  let⟨a,_⟩:=qb8.1 h
  simp_all
 grind
def oE(l:List Wg)(i:Nat)(x y:Wg):Prop:=(0<=y.2.1/\y.2.2=0)∨(y.2.2≠0/\(Ff l y.2.1<DO i∨Ff l x.2.1<Ff l y.2.1))
def Zx(l:List Wg):Prop:=∃(i k:Nat) (x y:Wg),l[i]?=O x/\l[k]?=O y/\x.2.2≠0/\i<k/\DO k<Ff l x.2.1/\oE l i x y
def psP(b:List Wg)(x y:Wg):Prop:=x.2.2=0/\y.2.2=0/\0<=x.2.1/\0<=y.2.1/\Ff b y.2.1<Ff b x.2.1
def psX(a b:List Wg):Prop:=∃(i k:Nat) (x y:Wg),a[i]?=O x/\a[k]?=O y/\i<k/\psP b x y
def z1(a b:List Wg):Prop:=Zx a∨Zx b∨psX a b
def S9{H:HL}{x y:TV}{A B:List Wg}(q:q_ H x 3 KH A)(hy:q_ H y 3 KH B)(hA:W A<=100000)(hB:W B<=100000) :
  ∃e,aD cc ac 27 [.v x,.v y] (h_ aa H) [.i e] (h_ aa H)/\((e=1/\z1 A B)∨(e=0/\¬z1 A B)):=by
 have a8:=x27 (ls:=[.v x,.v y]) (K:=λrs h'=>∃e:Int,rs=[.i e]/\h'=H/\((e=1/\z1 A B)∨(e=0/\¬z1 A B))) (H:=H) (o_ q.g_ (o_ hy.g_ vc)) (by
  unfold f27;simp only[w7];refine c_ ?_;refine bY 2 (λj=>(0<j->¬Zx A)/\(1<j->¬Zx B)) (j0:=0) rfl (Eg _) ⟨λh=>a_,λh=>a_⟩ ?_;rintro s hs ⟨V,ap⟩ ag P;refine c_ ?_;by_cases a6:s<2
  case neg=>
   obtain rfl:s=2:=a_;rw[s_ (show(2:Int)<=DO 2 from L_ _)];refine c_ ?_;have ay:=V a_;have aE:=ap a_;apply bY (W A) (λi=>∀(g k:Nat) u w,g<i->A[g]?=O u->A[k]?=O w->g<k->¬psP B u w) (j0:=0) rfl (Eg _) (λg k u w h=>a_);intro i hi Y ag P;refine c_ ?_;apply aO q;by_cases m:i<W A
   case neg=>
    rw[aw a_];refine c_ ?_;refine⟨0,rfl,Ei,.inr ⟨rfl,?_⟩⟩;rintro(h|h|⟨g,k,u,w,G,I,L,T⟩)
    .exact ay h
    .exact aE h
    grind
   rw[aB m];refine c_ ?_;rw[aI a_];refine bY (W A) (λk=>i<k/\∀(o:Nat) u w,o<k->A[i]?=O u->A[o]?=O w->i<o->¬psP B u w) (j0:=i+1) rfl a_ ⟨a_,λo u w G I L T=>a_⟩ ?_;rintro k hk ⟨M,ad⟩ f c;refine c_ ?_;apply aO q;by_cases p:k<W A
   case neg=>
    rw[aw a_];refine c_ ?_;rw[aI a_]
    grind
   rw[aB p];refine c_ ?_;let⟨u,D⟩:=ak m;let⟨t,n⟩:=ak p;have a:¬psP B u t->f [.i (DO k+1)] H:=λhn=>c p ⟨a_,λo u' w' G I L T=>by grind⟩
   refine bz (cs:=[EO DU u.2.2]) q rfl D rfl a_ (c_ ?_);by_cases k1:u.2.2=0
   case neg=>rw[B3 k1];refine c_ ?_;rw[aI a_];exact a λh=>k1 h.1
   rw[A7 k1];refine c_ ?_;refine bz (cs:=[EO DU t.2.2]) q rfl n rfl a_ (c_ ?_);by_cases d:t.2.2=0
   case neg=>rw[B3 d];refine c_ ?_;rw[aI a_];exact a λh=>d h.2.1
   rw[A7 d];refine c_ ?_;refine bz (cs:=[EO DQ u.2.1]) q rfl D rfl a_ (c_ ?_);by_cases k3:u.2.1<0
   case pos=>rw[r_ k3];refine c_ ?_;rw[aI a_];exact a λh=>by have:=h.2.2.1;omega
   rw[s_ a_];refine c_ ?_;refine bz (cs:=[EO DQ t.2.1]) q rfl n rfl a_ (c_ ?_);by_cases k4:t.2.1<0
   case pos=>rw[r_ k4];refine c_ ?_;rw[aI a_];exact a λh=>by have:=h.2.2.2.1;omega
   rw[s_ a_];refine c_ ?_;refine bz (cs:=[EO DQ u.2.1]) q rfl D rfl a_ (c_ ?_);refine ai (zW hy a_ u.2.1) (c_ ?_);refine bz (cs:=[EO DQ t.2.1]) q rfl n rfl a_ (c_ ?_);refine ai (zW hy a_ t.2.1) (c_ ?_);by_cases k5:Ff B t.2.1<Ff B u.2.1
   case pos=>rw[DY k5];refine c_ ?_;exact⟨1,rfl,Ei,.inl ⟨rfl,.inr (.inr ⟨i,k,u,t,D,n,M,k1,d,a_,a_,k5⟩)⟩⟩
   rw[A6 a_];refine c_ ?_;rw[aI a_];exact a λh=>k5 h.2.2.2.2
  obtain⟨z,Z,av,a0,C,hZ,an,a7⟩ : ∃z Z,G4 2 (DO s)=O ()/\jz [.v x,.v y] 0 [(DO s,1)] 1=O [.v z]/\q_ H z 3 KH Z/\Z.length<=100000/\(Zx Z->z1 A B)/\(¬Zx Z->(0<s+1->¬Zx A)/\(1<s+1->¬Zx B)):=by
   obtain rfl|rfl:s=0∨s=1:=a_
   .exact⟨x,A,rfl,rfl,q,hA,.inl,λh=>⟨λ_=>h,λh=>a_⟩⟩
   .exact⟨y,B,rfl,rfl,hy,hB,λh=>.inr (.inl h),λh=>⟨λ_=>V a_,λ_=>h⟩⟩
  rw[r_ (show DO s<2 by grind)];refine c_ ?_;apply af av;refine af a0 (c_ ?_);apply bY (W Z) (λi=>∀(g k:Nat) u w,g<i->Z[g]?=O u->Z[k]?=O w->u.2.2≠0->g<k->DO k<Ff Z u.2.1->¬oE Z g u w) (j0:=0) rfl (Eg _) (λg k u w h=>a_);intro i hi Y R r;refine c_ ?_;apply aO C;by_cases m:i<W Z
  case neg=>
   rw[aw a_];refine c_ ?_;rw[aI a_];have a5:¬Zx Z:=λ⟨g,k,u,w,G,I,L,T,h5,h6⟩=>Y g k u w jw G I L T h5 h6
   simp_all
  rw[aB m];refine c_ ?_;let⟨u,D⟩:=ak m;have N:(∀(k:Nat) w,Z[k]?=O w->u.2.2≠0->i<k->DO k<Ff Z u.2.1->¬oE Z i u w)->R [.i (DO i+1)] H:=λhn=>r m λg o u' w' G I L T h5 h6=>by grind
  refine bz (cs:=[EO DU u.2.2]) C rfl D rfl a_ (c_ ?_);by_cases k0:u.2.2=0
  case pos=>
   rw[ub k0];refine c_ ?_;rw[aI a_]
   simp_all
  rw[tx k0];refine c_ ?_;refine ai (mt C a_ D) (c_ ?_);rw[aI a_];have hE:=@ce Z u.2.1;obtain⟨E,al⟩ : ∃E,Ff Z u.2.1=E:=⟨_,rfl⟩;rw[al]at hE N ⊢;refine bY (max (i+1) E.toNat) (λk=>i<k/\∀(o:Nat) w,o<k->Z[o]?=O w->i<o->¬oE Z i u w) (j0:=i+1) rfl (qcf _ _) ⟨a_,λo w G I L=>a_⟩ ?_;rintro k hk ⟨M,ad⟩ f c;refine c_ ?_;by_cases X:DO k<E
  case neg=>
   rw[s_ a_];refine c_ ?_;rw[aI a_]
   grind
  rw[r_ X];refine c_ ?_;have a3:(k:Int)<E:=X;have a4:E<(W Z:Int):=hE.1;have ax:k<max (i+1) E.toNat:=a_;let⟨t,n⟩:=ak (l:=Z) (i:=k) a_;have a:¬oE Z i u t->f [.i (DO k+1)] H:=λhn=>c ax ⟨a_,λo w' G I L=>by grind⟩
  have b:oE Z i u t->z1 A B:=λh=>an ⟨i,k,u,t,D,n,k0,M,a_,h⟩;refine bz (cs:=[EO DQ t.2.1]) C rfl n rfl a_ (c_ ?_);by_cases kT:0<=t.2.1
  case pos=>
   rw[Ho kT];refine c_ ?_;refine bz (cs:=[EO DU t.2.2]) C rfl n rfl a_ (c_ ?_);by_cases d:t.2.2=0
   case pos=>rw[ub d];refine c_ ?_;exact⟨1,rfl,Ei,.inl ⟨rfl,b (.inl ⟨kT,d⟩)⟩⟩
   rw[tx d];refine c_ ?_;refine bz (cs:=[EO DU t.2.2]) C rfl n rfl a_ (c_ ?_);refine ai (mt C a_ n) (c_ ?_);by_cases F:Ff Z t.2.1<DO i
   case pos=>rw[r_ F];refine c_ ?_;exact⟨1,rfl,Ei,.inl ⟨rfl,b (.inr ⟨d,.inl F⟩)⟩⟩
   rw[s_ a_];refine c_ ?_;by_cases S:E<Ff Z t.2.1
   case pos=>rw[DY S];refine c_ ?_;exact⟨1,rfl,Ei,.inl ⟨rfl,b (.inr ⟨d,.inr a_⟩)⟩⟩
   rw[A6 a_];refine c_ ?_;rw[aI a_];exact a λh=>h.elim (λh=>d h.2) λh=>h.2.elim F λh=>S a_
  rw[FL a_];refine c_ ?_;refine bz (cs:=[EO DU t.2.2]) C rfl n rfl a_ (c_ ?_);by_cases d:t.2.2=0
  case pos=>rw[A7 d];refine c_ ?_;rw[aI a_];exact a λh=>h.elim (λh=>kT h.1) λh=>h.1 d
  rw[B3 d];refine c_ ?_;refine ai (mt C a_ n) (c_ ?_);by_cases F:Ff Z t.2.1<DO i
  case pos=>rw[r_ F];refine c_ ?_;exact⟨1,rfl,Ei,.inl ⟨rfl,b (.inr ⟨d,.inl F⟩)⟩⟩
  rw[s_ a_];refine c_ ?_;by_cases S:E<Ff Z t.2.1
  case pos=>rw[DY S];refine c_ ?_;exact⟨1,rfl,Ei,.inl ⟨rfl,b (.inr ⟨d,.inr a_⟩)⟩⟩
  rw[A6 a_];refine c_ ?_;rw[aI a_];exact a λh=>h.elim (λh=>kT h.1) λh=>h.2.elim F λh=>S a_)
 grind
abbrev ed(L:List B_):TC:=L.flatMap Prod.snd
structure NT(N:Nat)(L:List B_):Prop where
 rg:∀s∈L,s.1.2.2<4/\-4096<=s.1.1/\s.1.1<=4096/\-4096<=s.1.2.1/\s.1.2.1<=4096
 ne:∀s∈L,s.2≠[]
 sr:L.Pairwise λa b=>Ez b.1 a.1=J
 pm:(ed L).Perm (EW N)
def NT.nd{N:Nat}{L:List B_}(g:NT N L):(ed L).Nodup:=g.pm.nodup_iff.2 qcA
def NT.lt{N:Nat}{L:List B_}(g:NT N L){s:B_}(b:s∈L){n:Nat}(a:n∈s.2):n<N:=D2.1 (g.pm.mem_iff.1 (Gv.2 ⟨s,b,a⟩))
def NT.tot{N:Nat}{L:List B_}(g:NT N L):W (ed L)=N:=by rw[g.pm.length_eq,lD]
def mr{L:List B_}{s:B_}(h:s∈L):W s.2<=W (ed L):=(qct (qc7 h)).length_le
def NT.len{N:Nat}{L:List B_}(g:NT N L):W L<=N:=by
 rw[←g.tot];have:∀ {L:List B_},(∀s∈L,s.2≠[])->W L<=W (ed L):=λ{L} h=>by
  induction L with
  |nil=>simp
  |cons a L c=>
   have b:=qbG.2 (h a MA)
   grind
 exact this g.ne
def wD{L:List B_}{i:Nat}{a:B_}(h:L[i]?=O a):ed (L.take (i+1))=ed (L.take i)++a.2:=by unfold ed;rw[Kx,h,nC];simp
def qH{L:List B_}{i k:Nat}{a:B_}(h:L[i]?=O a):ed L=(ed (L.take i)++a.2.take k)++(a.2.drop k++ed (L.drop (i+1))):=by
 have e:ed L=ed (L.take (i+1))++ed (L.drop (i+1)):=by unfold ed;rw[←nC,Xi]
 rw[e,wD h,Gu,Gu]
 congr 1
 rw[←Gu,Xi]
def SH{a b:Cl}(h:Ez b a=J):Cc 56 (EB a++EB b) [.i 1]:=by
 let⟨x,y,q⟩:=a;let⟨c,d,g⟩:=b;have h:=wJ.1 h;simp only at h;apply q56 rfl;unfold f56;simp only[w7];simp only[EB,Fe,E7];refine c_ ?_;by_cases e:y<d
 .rw[r_ e];simp(disch:=omega)only[↓qb]
 rw[s_ (show d<=y by omega)];refine c_ ?_;by_cases f:x<c
 .rw[r_ f];simp(disch:=omega)only[↓qb]
 rw[s_ (show c<=x by omega)];refine c_ ?_;rw[r_ (show DO q<DO g from Lk.2 a_)];simp(disch:=omega)only[↓qb]
def G7(N:Nat)(S:TC):TC:=(EW N).map λc=>if c∈S then 1 else 0
def pR{N c:Nat}{S:TC}(h:c<N):(G7 N S)[c]?=O (if c∈S then 1 else 0):=by
 unfold G7
 simp_all
def iu{N:Nat}{S:TC}:W (G7 N S)=N:=by simp[G7]
def Z'{N c:Nat}{S:TC}(h:c<N):(G7 N S).set c 1=G7 N (S++[c]):=by
 refine Kj λi=>?_;by_cases a:i<N
 .rw[Kk,iu,pR a,pR a]
  grind
 .rw[Ig (by rw[HP,iu];omega),Ig (by rw[iu];omega)]
def CN{w v:Nat}(h3:S3 w v){H:HL}{x:TV}{L:List B_}(hx:XB H x L)(g:NT (4*w*v) L) :
  ∃h',aD cc ac 21 [.v x,.i (.ofNat (4*w*v))] (h_ aa H) [.i 0] (h_ aa h')/\xk H h':=by
 have hs:=h3.sh;let⟨b1,b2,b3,b4⟩:=h3.n;have hN:=GK hs;have hL:=g.len;have av:=g.nd;have Z:=g.tot;let⟨M,hM,Y,hm⟩:=hx;have a0:=x21 (ls:=[.v x,.i (.ofNat (4*w*v))]) (K:=λrs h'=>rs=[.i 0]/\xk H h') (H:=H) (o_ hM.g_ (mc vc)) (by
  unfold f21;simp only[w7];refine c_ ?_;refine af (dG a_) (c_ ?_);rw[show(DO (4*w*v)).toNat=4*w*v from rfl];have z0:HO.o (EJ (aQ [EO DQ 0] (4*w*v)) 1 J)=HO.o (EJ ((G7 (4*w*v) []).flatMap l_) 1 J):=by
   have:G7 (4*w*v) []=List.replicate (4*w*v) 0:=by rw[List.eq_replicate_iff];refine⟨iu,λx hx=>?_⟩;obtain⟨i,_,rfl⟩:=Ed.1 hx;rw[ts d_]
   rw[this,←cP (enc:=l_) (z:=0) (n:=4*w*v)];rfl
  rw[z0];have A:∀S:List Nat,q_ (H++[HO.o (EJ (S.flatMap l_) 1 J)]) x 4 Ey M:=λS=>hM.pre ⟨_,rfl⟩;have G:∀(S:TC) (y:TV) (d:TC),q_ H y 1 l_ d->q_ (H++[HO.o (EJ (S.flatMap l_) 1 J)]) y 1 l_ d:=λS y i h=>h.pre ⟨_,rfl⟩;apply bY (W L) (λi=>True) (j0:=0) rfl (Eg _) trivial;intro i hi _ ag p;refine c_ ?_;have u:=A (G7 (4*w*v) []);have R:=G (G7 (4*w*v) []);apply aO u;rw[Y];by_cases s:i<W L
  case neg=>
   obtain rfl:i=W L:=a_;rw[aw (B7 _)];refine c_ ?_;clear p s;refine bo (g9:=Unit) (W L) (λj _=>[.i (DO (W (ed (L.take j)))),.i (DO j)]) (λj _=>H++[HO.o (EJ ((G7 (4*w*v) (ed (L.take j))).flatMap l_) 1 J)]) (λj _=>True) (j0:=0) (s0:=()) rfl rfl (Eg _) trivial ?_;intro i _ hi _ ag p;refine c_ ?_;apply aO (A (G7 (4*w*v) (ed (L.take i))));rw[Y];by_cases s:i<W L
   case neg=>obtain rfl:i=W L:=a_;rw[aw (B7 _)];refine c_ ?_;rw[y0,aw a_];refine c_ ?_;exact⟨Ei,⟨_,rfl⟩⟩
   rw[aB s];refine c_ ?_;let⟨⟨c,y⟩,D⟩:=ak (l:=M) (i:=i) a_;let⟨d,q,f⟩:=hm i _ D;simp only at q f;have r:=A9 q;have E:=mr r;rw[Z]at E;simp only at E;have t:=f.g_;have ax:∀k,W (ed (L.take i)++d.take k)<=1000:=λk=>by
    have:=congrArg List.length (qH (k:=k) q)
    grind
   refine bo (g9:=Unit) (W d) (λk _=>[.i (DO (W (ed (L.take i)++d.take k))),.i (DO k)]) (λk _=>H++[HO.o (EJ ((G7 (4*w*v) (ed (L.take i)++d.take k)).flatMap l_) 1 J)]) (λk _=>True) (j0:=0) (s0:=()) d_ d_ (Eg _) trivial ?_;intro k _ hk _ T F;have aE:=ax k;refine c_ ?_;refine bz (cs:=[y]) (A _) rfl D rfl a_ (c_ ?_);refine ab t (c_ ?_);apply aO (G (G7 (4*w*v) (ed (L.take i)++d.take k)) _ _ f);by_cases B:k<W d
   case neg=>obtain rfl:k=W d:=a_;rw[aw (B7 _)];refine c_ ?_;rw[aI a_];rw[y0];have:=p () s trivial;rw[wD q]at this;exact this
   rw[aB B];refine c_ ?_;let⟨n,P⟩:=ak B;have C:=g.lt r (A9 P);have ay:d.take (k+1)=d.take k++[n]:=by rw[Kx,P];rfl
   have al:n∉ed (L.take i)++d.take k:=λz=>by
    rw[qH (k:=k+1) q]at av
    grind
   refine bz (cs:=[y]) (A _) rfl D rfl a_ (c_ ?_);refine ab t (c_ ?_);apply aJ (G _ _ _ f) rfl P;rw[show l_ n=[EO DQ (DO n)]from rfl];refine c_ ?_;have I:∀S:List Nat,W S=4*w*v->q_ (H++[HO.o (EJ (S.flatMap l_) 1 J)]) (DW (O ⟨W H,0,le 1⟩) (4*w*v) (4*w*v+1)) 1 l_ S:=λS h=>dd bc aG h.symm;have g0:=pR (N:=4*w*v) (c:=n) (S:=ed (L.take i)++d.take k) C;apply aJ (I _ iu) rfl g0;rw[show ∀m:Nat,l_ m=[EO DQ (DO m)]from λ_=>rfl];refine c_ ?_;rw[ts al,aI a_];refine m9 ?_;apply du (enc:=l_) (l:=G7 (4*w*v) (ed (L.take i)++d.take k)) (i:=n) (a:=1) bc aG rfl jw iu rfl;rw[Z' C];unfold sd;rw[mJ];refine m9 ?_;refine bz (cs:=[y]) (A _) rfl D rfl a_ (c_ ?_);refine ab t (c_ ?_);apply aJ (G _ _ _ f) rfl P;rw[show l_ n=[EO DQ (DO n)]from rfl];refine c_ ?_;have g1:=pR (N:=4*w*v) (c:=n) (S:=ed (L.take i)++d.take k++[n]) C;rw[rv d_]at g1;apply aJ (I _ iu) rfl g1;rw[show l_ 1=[EO DQ 1]from rfl];refine c_ ?_;have ap:DO (W (ed (L.take i)++d.take k))+1=DO (W (ed (L.take i)++d.take (k+1))):=by grind
   rw[aI a_];refine m9 ?_;rw[aI a_,ap]
   simp_all
  rw[aB s];refine c_ ?_;let⟨⟨c,y⟩,D⟩:=ak (l:=M) (i:=i) a_;let⟨d,q,f⟩:=hm i _ D;simp only at q f;have r:=A9 q;let⟨o1,o2⟩:=g.rg _ r;simp only at o1 o2;have E:=mr r;simp only at E;have hq:(0:Int)<=DO c.2.2/\DO c.2.2<=3:=⟨IK _,jw⟩;refine bz (cs:=[EO DQ c.1,EO DQ c.2.1,EO DU (DO c.2.2)]) u rfl D rfl a_ (c_ ?_);have t:=f.g_;have an:W d≠0:=λe=>g.ne _ r (VM.1 e);by_cases h0:0<i
  case' pos=>
   rw[DY (show(0:Int)<DO i by simp_all)];refine c_ ?_;rw[ko a_ a_];refine m9 ?_;let⟨⟨V,y'⟩,ad⟩:=ak (l:=M) (i:=i-1) a_;let⟨a1,X,_⟩:=hm (i-1) _ ad;simp only at X;refine bz (cs:=[EO DQ V.1,EO DQ V.2.1,EO DU (DO V.2.2)]) u rfl ad rfl a_ (c_ ?_);have hg:Ez c V=J:=by
    have:=Ki.1 g.sr (i-1) i a_ s a_
    grind
   have c1:=SH (a:=V) (b:=c) hg;simp only[EB,Fe,E7]at c1;apply am c1;simp(disch:=omega)only[↓qb]
  case' neg=>
   obtain rfl:i=0:=a_;rw[A6 (show DO 0<=0 from L_ _)];simp(disch:=omega)only[↓qb]
  all_goals
   refine bz (cs:=[y]) u rfl D rfl a_ (c_ ?_);refine ab t (c_ ?_);apply aO (R _ _ f);rw[tx (show ¬DO (W d)=0 from λe=>an (Ky e))];refine c_ ?_;apply bY (W d) (λ_=>True) (j0:=0) rfl (Eg _) trivial;intro k hk _ T F;refine c_ ?_;refine bz (cs:=[y]) u rfl D rfl a_ (c_ ?_);refine ab t (c_ ?_);apply aO (R _ _ f);by_cases B:k<W d
   .rw[aB B];refine c_ ?_;let⟨n,P⟩:=ak B;have C:=g.lt r (A9 P);refine bz (cs:=[y]) u rfl D rfl a_ (c_ ?_);refine ab t (c_ ?_);apply aJ (R _ _ f) rfl P;rw[show l_ n=[EO DQ (DO n)]from rfl];refine c_ ?_;rw[s_ (show(0:Int)<=DO n from IK _)];refine c_ ?_;rw[FL (show DO n<DO (4*w*v)from Lk.2 C)];refine c_ ?_;rw[aI a_]
    simp_all
   .obtain rfl:k=W d:=a_;rw[aw (B7 _)];refine c_ ?_;rw[aI a_];exact p s trivial)
 grind
def qR{l:TD}(n:(l.map bD).Nodup)(u e:Nat):cX l (.ofNat u) (.ofNat e)=Lh l u e:=by
 have p:∀(l:TD) (a:Int),(l.map bD).Nodup->l.foldl (λa c=>if bD c=((DO u,DO e):Ku)then c.2.2 else a) a=(match l.find? (Kq (.ofNat u) (.ofNat e))with|some c=>c.2.2|none=>a):=by
  intro l
  induction l with
  |nil=>intro a _;rfl
  |cons c l o=>
   intro a h;rw[Fx,o7]at h;rw[y6,o _ h.2,List.find?_cons];by_cases f:bD c=((DO u,DO e):Ku)
   .have i:=congrArg Prod.fst f;have j:=congrArg Prod.snd f;simp only[bD]at i j;have g:Kq (.ofNat u) (.ofNat e) c=J:=by simp[Kq,i,j]
    have m:l.find? (Kq (.ofNat u) (.ofNat e))=Q:=qdf.2 λd k b=>by simp only[Kq,y_,Gp]at b;refine h.1 (Ed.2 ⟨d,k,?_⟩);rw[f];exact Xl b.1 b.2
    rw[g,m,rv f]
   .have g:Kq (.ofNat u) (.ofNat e) c=U:=by rw[←Ii];intro b;simp only[Kq,y_,Gp]at b;exact f (Xl b.1 b.2)
    rw[g,ts f]
 unfold cX Lh
 grind
structure Lys(N:Nat)(img:Nat->Cl)(L:List B_)(hg:TF):Prop where
 mem:∀c n,n∈B5 L c↔n<N/\img n=c
 hgt:∀c (i:Nat) n,(B5 L c)[i]?=O n->hg n=i
def Lys.KA{N:Nat}{e:Nat->Cl}{L:List B_}{d:TF}(h:Lys N e L d)(c:Cl):(B5 L c).Pairwise λa b=>d a<d b:=by rw[Ki];intro i j f k g;have l:=h.hgt c i _ (Gn f);have m:=h.hgt c j _ (Gn k);omega
theorem Lys.inj{N:Nat}{a:Nat->Cl}{L:List B_}{b:TF}(h:Lys N a L b){n m:Nat}(g:n<N)(f:m<N)(e:a n=a m)(o:b n=b m):n=m:=by
 let⟨i,c⟩:=E4 ((h.mem (a m) n).2 ⟨g,e⟩);let⟨j,d⟩:=E4 ((h.mem (a m) m).2 ⟨f,rfl⟩);have k:=h.hgt _ _ _ c;have l:=h.hgt _ _ _ d
 simp_all
def Zr{N:Nat}{L:List B_}(g:NT N L){s:B_}(f:s∈L):B5 L s.1=s.2:=by let⟨i,a⟩:=E4 f;unfold B5;rw[sB a rfl λj d t b e=>?_];have c:=Ki.1 g.sr j i (ah b) (ah a) d;rw[Gn (ah b)]at b;rw[Gn (ah a)]at a;rw[Fm b,Fm a,e,kW]at c;cases c
def Zt{L:List B_}{c:Cl}{n:Nat}(h:n∈B5 L c):∃s∈L,s.1=c/\B5 L c=s.2:=by
 unfold B5 at h ⊢
 grind
def Y7(a:Nat->Cl)(L:List B_)(n:Nat):Nat:=(B5 L (a n)).idxOf n
def ZR{N:Nat}{b:Nat->Cl}{L:List B_}(g:NT N L)(j:∀s∈L,∀n∈s.2,b n=s.1):Lys N b L (Y7 b L):=by
 have h:∀c n,n∈B5 L c↔n<N/\b n=c:=λc n=>⟨λa=>by
  obtain⟨s,d,rfl,e⟩:=Zt a;rw[e]at a;exact⟨g.lt d a,j s d n a⟩,λ⟨a,f⟩=>by
  let⟨s,d,k⟩:=Gv.1 (g.pm.mem_iff.2 (D2.2 a));rw[←f,j s d n k,Zr g d];exact k⟩
 refine⟨h,λc i n f=>?_⟩;have a:=A9 f;obtain⟨s,d,rfl,e⟩:=Zt a;have l:=((h _ n).1 a).2;unfold Y7;rw[l];have m:(B5 L s.1).Nodup:=by rw[e];exact List.Sublist.nodup (qct (qc7 d)) g.nd
 grind
def edK(w:Nat)(P:TH)(d:Cl)(n k:Nat):Option (Nat×Nat):=if Ek w P n (eK (n%4) k)=d then O (n,eK (n%4) k)else Q
def edA(w:Nat)(P:TH)(d:Cl)(n:Nat):List (Nat×Nat):=(EW 3).filterMap (edK w P d n)
def Iu(w:Nat)(P:TH)(L:List B_)(c d:Cl):List (Nat×Nat):=(B5 L c).flatMap (edA w P d)
def FR(w v:Nat)(l:TD)(p:Nat×Nat):Wg:=(p.1,(match D_ w v p.1 p.2 with
 |O m=>DO m
 |Q=>-1),match D_ w v p.1 p.2 with
 |O m=>Lh l (min p.1 m) p.2
 |Q=>0)
def Rd{w v:Nat}{l:TD}{P:TH}{L:List B_}{c d:Cl}:H8 w v l P L c d=(Iu w P L c d).map (FR w v l):=by
 unfold H8 Iu;rw[List.map_flatMap]
 congr 1
 funext n
 unfold IC edA;rw[List.map_filterMap]
 congr 1
 funext k
 unfold Vx edK;by_cases h:aq (P n) (E5 (ra w n) (eK (n%4) k))=d
 .rw[rv h,rv (show Ek w P n (eK (n%4) k)=d from h)];rfl
 .rw[ts h,ts (show ¬Ek w P n (eK (n%4) k)=d from h)];rfl
section
variable {w v:Nat} (hs:Sh w v) {G:TH} {r:Mv} {L:List B_} {hg:TF} (hL:Lys (4*w*v) (t_ w (my G r)) L hg)
include hL in
theorem dw{c d:Cl}{p:Nat×Nat}:p∈Iu w (my G r) L c d↔p.1<4*w*v/\p.2<3/\t_ w (my G r) p.1=c/\Ek w (my G r) p.1 p.2=d:=by
 unfold Iu;rw[Gv];constructor
 .rintro⟨n,m,o⟩;let⟨k,f,h⟩:=Np.1 o;unfold edK at h;split at h
  .cases h;let⟨a,b⟩:=(hL.mem c n).1 m;exact⟨a,gm _ _,b,by assumption⟩
  .cases h
 .rintro⟨g,i,j,l⟩;refine⟨p.1,(hL.mem c p.1).2 ⟨g,j⟩,?_⟩;let⟨k,f,e⟩:=MX (q:=p.1%4) p.2 i;refine Np.2 ⟨k,D2.2 f,?_⟩;unfold edK;rw[e,rv l]
include hs hL in
theorem cm{c d:Cl}:(Iu w (my G r) L c d).Pairwise λp q=>hg p.1<hg q.1:=by
 unfold Iu;rw[qbU];constructor
 .intro n s;unfold edA;rw[qcK];refine qcG ?_ (qbt (n:=3));intro a b i o g p e q f;exfalso;unfold edK at e f;split at e<;>split at f
  next l m=>have:=nk hs ((hL.mem c n).1 s).1 (gm _ _) (gm _ _) (l.trans m.symm);have j:=congrArg (eK (n%4)) this;rw[oU (D2.1 i),oU (D2.1 o)]at j;omega
  .cases f
  .cases e
  .cases e
 .refine(hL.KA c).imp ?_;intro a b g p e q f;have i:∀ {n:Nat} {p:Nat×Nat},p∈edA w (my G r) d n->p.1=n:=λ{n p} e=>by
   let⟨k,t,h⟩:=Np.1 e;unfold edK at h
   grind
  grind
end
def oT(w v:Nat)(l:TD)(p:Nat×Nat)(m:Nat):Prop:=D_ w v p.1 p.2=O m/\Lh l (min p.1 m) p.2≠0
def uv(w v:Nat)(l:TD)(p:Nat×Nat)(m:Nat):Prop:=D_ w v p.1 p.2=O m/\Lh l (min p.1 m) p.2=0
structure Sid(w v:Nat)(l:TD)(hg:TF)(N:List (Nat×Nat)):Prop where
 KA:N.Pairwise λp q=>hg p.1<hg q.1
 cl:∀ {p m},p∈N->oT w v l p m->(m,p.2)∈N/\oT w v l (m,p.2) p.1/\hg p.1≠hg m
section
variable {w v:Nat} {l:TD} {hg:TF} {N:List (Nat×Nat)} (hN:Sid w v l hg N)
include hN
theorem Sid.lt{i j:Nat}{p q:Nat×Nat}(a:N[i]?=O p)(b:N[j]?=O q):i<j↔hg p.1<hg q.1:=by
 have c:∀ {i j:Nat} {p q:Nat×Nat},N[i]?=O p->N[j]?=O q->i<j->hg p.1<hg q.1:=λ{i j p q} a b h=>by
  have:=Ki.1 hN.KA i j (ah a) (ah b) h
  grind
 grind
theorem Sid.whe{i:Nat}{p:Nat×Nat}(b:N[i]?=O p):Ff (N.map (FR w v l)) (DO p.1)=DO i:=by
 unfold Ff;have:(N.map (FR w v l)).findIdx? (λa=>decide (DO a.1=DO p.1))=O i:=by
  rw[qb8];have c:=ah b;refine⟨k_,?_,λj d=>?_⟩
  .rw[List.getElem_map];rw[Gn c]at b;rw[Fm b];exact FX rfl
  .rw[List.getElem_map];have f:=(hN.lt (Gn (show j<W N by omega)) b).1 d;simp only[Gp];intro e;have e:(N[j]'(by omega)).1=p.1:=Ky e
   simp_all
 rw[this]
end
def CE{w v:Nat}{l:TD}{p:Nat×Nat}:(FR w v l p).2.2≠0↔∃m,oT w v l p m:=by
 unfold FR oT
 grind
def CD{w v:Nat}{l:TD}{p:Nat×Nat}:(0<=(FR w v l p).2.1/\(FR w v l p).2.2=0)↔∃m,uv w v l p m:=by
 unfold FR uv
 grind
def jf{w v:Nat}{l:TD}{p:Nat×Nat}{m:Nat}(h:D_ w v p.1 p.2=O m):(FR w v l p).2.1=DO m:=by unfold FR;simp only[h]
def ldE(w v:Nat)(l:TD)(a:TF)(N:List (Nat×Nat)):Prop:=∃p m q,p∈N/\oT w v l p m/\q∈N/\a p.1<a q.1/\a q.1<a m/\((∃n,uv w v l q n)∨∃n,oT w v l q n/\(a n<a p.1∨a m<a n))
def P0{w v:Nat}{l:TD}{D:TF}{N:List (Nat×Nat)}(a:Sid w v l D N):Zx (N.map (FR w v l))↔ldE w v l D N:=by
 unfold Zx ldE oE;constructor
 .rintro⟨i,k,x,y,s,t,u,B,o,e⟩;rw[GL]at s t;cases j:N[i]? with
  |none=>rw[j]at s;cases s
  |some p=>
  cases f:N[k]? with
  |none=>rw[f]at t;cases t
  |some q=>
  rw[j]at s;rw[f]at t;cases s;cases t;let⟨m,g⟩:=CE.1 u;have r:=A9 j;let⟨z,F,G⟩:=a.cl r g;let⟨M,b⟩:=E4 z;rw[jf g.1,show DO m=DO ((m,p.2):Nat×Nat).1 from rfl,a.whe b]at o e;refine⟨p,m,q,r,g,A9 f,(a.lt j f).1 B,(a.lt f b).1 (Lk.1 o),?_⟩;rcases e with e|⟨C,e⟩
  .exact .inl (CD.1 e)
  .obtain⟨n,c⟩:=CE.1 C;let⟨A,H,I⟩:=a.cl (A9 f) c;let⟨P,d⟩:=E4 A;rw[jf c.1,show DO n=DO ((n,q.2):Nat×Nat).1 from rfl,a.whe d]at e;refine .inr ⟨n,c,e.imp (λh=>(a.lt d j).1 (Lk.1 h)) λh=>(a.lt b d).1 (Lk.1 h)⟩
 .rintro⟨p,m,q,j,g,f,K,L,e⟩;let⟨i,E⟩:=E4 j;let⟨k,u⟩:=E4 f;let⟨z,F,G⟩:=a.cl j g;let⟨M,b⟩:=E4 z;refine⟨i,k,FR w v l p,FR w v l q,k_,k_,CE.2 ⟨m,g⟩,(a.lt E u).2 K,?_,?_⟩
  .rw[jf g.1,show DO m=DO ((m,p.2):Nat×Nat).1 from rfl,a.whe b];exact Lk.2 ((a.lt u b).2 L)
  .rw[jf g.1,show DO m=DO ((m,p.2):Nat×Nat).1 from rfl,a.whe b];rcases e with e|⟨n,c,e⟩
   .exact .inl (CD.2 e)
   .obtain⟨A,H,I⟩:=a.cl f c;let⟨P,d⟩:=E4 A;rw[jf c.1,show DO n=DO ((n,q.2):Nat×Nat).1 from rfl,a.whe d];exact .inr ⟨CE.2 ⟨n,c⟩,e.imp (λh=>Lk.2 ((a.lt d E).2 h)) λh=>Lk.2 ((a.lt b d).2 h)⟩
def psE(w v:Nat)(l:TD)(a:TF)(N:List (Nat×Nat)):Prop:=∃p m q n,p∈N/\uv w v l p m/\q∈N/\uv w v l q n/\a p.1<a q.1/\a n<a m
def lB{w v:Nat}{l:TD}{s:TF}{M r:List (Nat×Nat)}(A:Sid w v l s M)(a:Sid w v l s r)(o:∀ {p m},p∈M->uv w v l p m->(m,p.2)∈r):psX (M.map (FR w v l)) (r.map (FR w v l))↔psE w v l s M:=by
 unfold psX psE psP;constructor
 .rintro⟨i,k,x,y,h,j,t,I,K,L,N,B⟩;rw[GL]at h j;cases d:M[i]? with
  |none=>rw[d]at h;cases h
  |some p=>
  cases e:M[k]? with
  |none=>rw[e]at j;cases j
  |some q=>
  rw[d]at h;rw[e]at j;cases h;cases j;let⟨m,f⟩:=CD.1 ⟨L,I⟩;let⟨n,g⟩:=CD.1 ⟨N,K⟩;let⟨G,b⟩:=E4 (o (A9 d) f);let⟨H,c⟩:=E4 (o (A9 e) g);rw[jf f.1,jf g.1,show DO m=DO ((m,p.2):Nat×Nat).1 from rfl,show DO n=DO ((n,q.2):Nat×Nat).1 from rfl,a.whe b,a.whe c]at B;exact⟨p,m,q,n,A9 d,f,A9 e,g,(A.lt d e).1 t,(a.lt c b).1 (Lk.1 B)⟩
 .rintro⟨p,m,q,n,d,f,e,g,C,D⟩;let⟨i,E⟩:=E4 d;let⟨k,F⟩:=E4 e;let⟨G,b⟩:=E4 (o d f);let⟨H,c⟩:=E4 (o e g);have u:=CD.2 ⟨m,f⟩;have z:=CD.2 ⟨n,g⟩;refine⟨i,k,FR w v l p,FR w v l q,k_,k_,(A.lt E F).2 C,u.2,z.2,u.1,z.1,?_⟩;rw[jf f.1,jf g.1,show DO m=DO ((m,p.2):Nat×Nat).1 from rfl,show DO n=DO ((n,q.2):Nat×Nat).1 from rfl,a.whe b,a.whe c];exact Lk.2 ((a.lt c b).2 D)
def yf(k:Int)(a:Bool):Prop:=k=3∨decide (k=2) = !a
def BadX(P:TH)(DJ:List Wg):Prop:=∃(j:Nat) (a:Wg),DJ[j]?=O a/\a.2.2≠0/\Ff DJ a.2.1<DO j/\¬yf a.2.2 (decide ((P a.1).1<4))
def X3{w v:Nat}{l:TD}{P:TH}{o:TF}{N:List (Nat×Nat)}(e:Sid w v l o N):BadX P (N.map (FR w v l))↔∃p m,p∈N/\oT w v l p m/\o m<o p.1/\¬yf (Lh l (min p.1 m) p.2) (decide ((P p.1).1<4)):=by
 have q:∀ {p:Nat×Nat} {m:Nat},D_ w v p.1 p.2=O m->(FR w v l p).2.2=Lh l (min p.1 m) p.2:=λ{p m} h=>by unfold FR;simp only[h]
 constructor
 .rintro⟨j,a,c,u,r,k⟩;rw[GL]at c;cases d:N[j]? with
  |none=>rw[d]at c;cases c
  |some p=>
  rw[d]at c;cases c;let⟨m,b⟩:=CE.1 u;have g:=A9 d;let⟨n,s,t⟩:=e.cl g b;let⟨i,f⟩:=E4 n;rw[jf b.1,show DO m=DO ((m,p.2):Nat×Nat).1 from rfl,e.whe f]at r;rw[q b.1]at k;exact⟨p,m,g,b,(e.lt f d).1 (Lk.1 r),k⟩
 .rintro⟨p,m,d,b,x,k⟩;let⟨j,c⟩:=E4 d;let⟨n,s,t⟩:=e.cl d b;let⟨i,f⟩:=E4 n;refine⟨j,FR w v l p,k_,CE.2 ⟨m,b⟩,?_,by rw[q b.1];exact k⟩;rw[jf b.1,show DO m=DO ((m,p.2):Nat×Nat).1 from rfl,e.whe f];exact Lk.2 ((e.lt f c).2 x)
def Cn(w v:Nat)(l:TD)(P:TH)(L:List B_)(c d:Cl):Prop:=¬z1 (H8 w v l P L c d) (H8 w v l P L d c)/\¬BadX P (H8 w v l P L c d)
def NP(w v:Nat)(l:TD)(P:TH)(L:List B_):Prop:=∀s∈L,∀k,k<3->Cn w v l P L s.1 (E5 s.1 (eK s.1.2.2 k))
section
variable {w v:Nat} (hs:Sh w v) {l:TD} {G:TH} (hG:C' w v l G) {r:Mv} (hr:r.1<8) (hk0:∀c∈l,c.2.2≠0) (hnd:(l.map bD).Nodup) {L:List B_} {hg:TF} (hL:Lys (4*w*v) (t_ w (my G r)) L hg)
include hs hnd in
theorem dh{p:Nat×Nat}{m:Nat}(h1:p.1<4*w*v)(c:p.2<3):oT w v l p m↔(td w v l G r).Loop p.1 m p.2:=by unfold oT;rw[←qR hnd];exact⟨λ⟨a,b⟩=>⟨h1,(de hs h1 c a).1,c,a,by rw[eh a];exact b⟩,λq=>⟨q.nb,by have:=q.k0;rw[eh q.nb]at this;exact this⟩⟩
include hs hnd in
theorem iy{p:Nat×Nat}{m:Nat}(h1:p.1<4*w*v)(c:p.2<3):uv w v l p m↔(td w v l G r).EN p.1 m p.2:=by unfold uv;rw[←qR hnd];exact⟨λ⟨a,b⟩=>⟨h1,(de hs h1 c a).1,c,a,by rw[eh a];exact b⟩,λq=>⟨q.nb,by have:=q.k0;rw[eh q.nb]at this;exact this⟩⟩
include hs hG hr hk0 hnd hL
theorem H2(c d:Cl):Sid w v l hg (Iu w (my G r) L c d):=by refine⟨cm hs hL,λ{p m} o n=>?_⟩;let⟨g,b,j,k⟩:=(dw hL).1 o;let⟨a,f,h,i,_⟩:=kV hs hG hr hk0 ((dh (G:=G) (r:=r) hs hnd g b).1 n);exact⟨(dw hL).2 ⟨a.a0,b,f.trans j,h.trans k⟩,(dh (p:=(m,p.2)) hs hnd a.a0 b).2 a,λe=>i (hL.inj g a.a0 f.symm e)⟩
theorem sC(c d:Cl):Cn w v l (my G r) L c d↔¬ldE w v l hg (Iu w (my G r) L c d)/\¬ldE w v l hg (Iu w (my G r) L d c)/\¬psE w v l hg (Iu w (my G r) L c d)/\∀p m,p∈Iu w (my G r) L c d->oT w v l p m->hg m<hg p.1->yf (Lh l (min p.1 m) p.2) (decide ((my G r p.1).1<4)):=by
 have a:=H2 hs hG hr hk0 hnd hL c d;have e:=H2 hs hG hr hk0 hnd hL d c;have n:∀ {p:Nat×Nat} {m},p∈Iu w (my G r) L c d->uv w v l p m->(m,p.2)∈Iu w (my G r) L d c:=λ{p m} o k=>by let⟨h,b,i,j⟩:=(dw hL).1 o;let⟨q,f,g,s⟩:=rV hs hG hr hk0 ((iy (G:=G) (r:=r) hs hnd h b).1 k);exact(dw hL).2 ⟨q.a0,b,f.trans j,g.trans i⟩
 unfold Cn z1;rw[Rd,Rd,P0 a,P0 e,lB a e n,X3 a]
 grind
theorem YS(an:∀c,(∃n,n<4*w*v/\t_ w (my G r) n=c)↔c∈L.map Prod.fst):NP w v l (my G r) L↔HX (td w v l G r) λa b=>decide (hg a<hg b):=by
 let⟨o1,o2,o3,o4⟩:=PC hs hG hr hk0;have g:∀ {a b:Nat},a<4*w*v->b<4*w*v->t_ w (my G r) a=t_ w (my G r) b->a≠b->hg a≠hg b:=λT V hi h e=>h (hL.inj T V hi e);constructor
 .intro h;have hA:∀ {a e:Nat},a<4*w*v->e<3->Cn w v l (my G r) L (t_ w (my G r) a) (Ek w (my G r) a e):=λ{a e} T he=>by
   let⟨s,ad,av⟩:=Ed.1 ((an _).1 ⟨a,T,rfl⟩);have V:Ek w (my G r) a e=E5 (t_ w (my G r) a) (eT (my G r a).1 e):=Cr hs T he;let⟨k,B,e2⟩:=MX (q:=s.1.2.2) _ (jY (t:=(my G r a).1) he);have:=h s ad k B
   simp_all
  have o:∀ {a e:Nat},a<4*w*v->e<3->(a,e)∈Iu w (my G r) L (t_ w (my G r) a) (Ek w (my G r) a e):=λT he=>(dw hL).2 ⟨T,he,rfl,rfl⟩;refine⟨λa b e q k3=>?_,λa b e c d f q u i j n=>?_,λa b e c d f q u i j=>?_,λa b e c d f q u i j n n'=>?_⟩
  .obtain⟨A,C,a2,a3,a4,a5⟩:=kV hs hG hr hk0 q;have ag:cX l (DO (min a b)) (DO e)≠3:=by rw[←eh q.nb];exact k3
   show xr (decide (hg a<hg b)) (xr (decide ((td w v l G r).kd a e=2)) ((td w v l G r).up a))=J;rw[eh q.nb];rcases v1 (g q.a0 q.b0 C.symm a3)with z|z
   .have I:=((sC hs hG hr hk0 hnd hL _ _).1 (hA A.a0 A.e0)).2.2.2 (b,e) a (o A.a0 A.e0) ((dh (p:=(b,e)) hs hnd A.a0 A.e0).2 A) z;rw[←qR hnd,Nat.min_comm]at I;have M:=I.resolve_left ag;have N:(td w v l G r).up b=decide ((my G r b).1<4):=rfl;rw[←N,a4]at M;rw[FX z,M];cases (td w v l G r).up a<;>rfl
   .have I:=((sC hs hG hr hk0 hnd hL _ _).1 (hA q.a0 q.e0)).2.2.2 (a,e) b (o q.a0 q.e0) ((dh (p:=(a,e)) hs hnd q.a0 q.e0).2 q) z;rw[←qR hnd]at I;have M:=I.resolve_left ag;have N:(td w v l G r).up a=decide ((my G r a).1<4):=rfl;rw[←N]at M;rw[Ga (show ¬hg a<hg b by omega),M];cases (td w v l G r).up a<;>rfl
  .have B:=(sC hs hG hr hk0 hnd hL _ _).1 (hA q.a0 q.e0);have E:=o q.a0 q.e0;have P:(c,f)∈Iu w (my G r) L (t_ w (my G r) a) (Ek w (my G r) a e):=(dw hL).2 ⟨u.a0,u.e0,i.symm,j.symm⟩;have D:=(iy (p:=(a,e)) hs hnd q.a0 q.e0).2 q;have H:=(iy (p:=(c,f)) hs hnd u.a0 u.e0).2 u;let⟨x1,x2⟩:=o2 a b e c d f q u i j;have n1:=g q.a0 u.a0 i n;have n2:=g q.b0 u.b0 x1 (x2 n);rw[decide_eq_decide];constructor
   .intro z;exact Classical.byContradiction λy=>B.2.2.1 ⟨_,_,_,_,E,D,P,H,z,a_⟩
   .intro z;exact Classical.byContradiction λy=>B.2.2.1 ⟨_,_,_,_,P,H,E,D,by show hg c<hg a;omega,z⟩
  .have B:=(sC hs hG hr hk0 hnd hL _ _).1 (hA q.a0 q.e0);have E:=o q.a0 q.e0;let⟨R,C,a2,a3,_⟩:=kV hs hG hr hk0 u;have P:(c,f)∈Iu w (my G r) L (t_ w (my G r) a) (Ek w (my G r) a e):=(dw hL).2 ⟨u.a0,u.e0,i.symm,j.symm⟩;have m3:(d,f)∈Iu w (my G r) L (t_ w (my G r) a) (Ek w (my G r) a e):=(dw hL).2 ⟨u.b0,u.e0,C.trans i.symm,a2.trans j.symm⟩;have D:=(iy (p:=(a,e)) hs hnd q.a0 q.e0).2 q;have H:=(dh (p:=(c,f)) hs hnd u.a0 u.e0).2 u;have f3:=(dh (p:=(d,f)) hs hnd R.a0 R.e0).2 R;let⟨x1,x2⟩:=o3 a b e c d f q u j;have n1:=g q.a0 u.a0 i x1;have n2:=g q.a0 u.b0 (i.trans C.symm) x2;rw[decide_eq_decide];constructor
   .intro z;exact Classical.byContradiction λy=>B.1 ⟨(d,f),c,(a,e),m3,f3,E,by show hg d<hg a;omega,z,.inl ⟨_,D⟩⟩
   .intro z;exact Classical.byContradiction λy=>B.1 ⟨(c,f),d,(a,e),P,H,E,by show hg c<hg a;omega,z,.inl ⟨_,D⟩⟩
  .have B:=(sC hs hG hr hk0 hnd hL _ _).1 (hA q.a0 q.e0);let⟨A,b1,b2,b3,_⟩:=kV hs hG hr hk0 q;let⟨R,C,a2,a3,_⟩:=kV hs hG hr hk0 u;have E:=o q.a0 q.e0;have al:(b,e)∈Iu w (my G r) L (t_ w (my G r) a) (Ek w (my G r) a e):=(dw hL).2 ⟨q.b0,q.e0,b1,b2⟩;have P:(c,f)∈Iu w (my G r) L (t_ w (my G r) a) (Ek w (my G r) a e):=(dw hL).2 ⟨u.a0,u.e0,i.symm,j.symm⟩;have m3:(d,f)∈Iu w (my G r) L (t_ w (my G r) a) (Ek w (my G r) a e):=(dw hL).2 ⟨u.b0,u.e0,C.trans i.symm,a2.trans j.symm⟩;have D:=(dh (p:=(a,e)) hs hnd q.a0 q.e0).2 q;have Y:=(dh (p:=(b,e)) hs hnd A.a0 A.e0).2 A;have H:=(dh (p:=(c,f)) hs hnd u.a0 u.e0).2 u;have f3:=(dh (p:=(d,f)) hs hnd R.a0 R.e0).2 R;let⟨x1,x2⟩:=o4 a b e c d f q u i j n n';have n1:=g q.a0 u.a0 i n;have n2:=g q.a0 u.b0 (i.trans C.symm) n';have n3:=g q.b0 u.a0 (b1.trans i) x1;have n4:=g q.b0 u.b0 (b1.trans (i.trans C.symm)) x2;have n5:=g q.a0 q.b0 b1.symm b3
   have K:∀ {x y X y' s t:Nat},(x,s)∈Iu w (my G r) L (t_ w (my G r) a) (Ek w (my G r) a e)->oT w v l (x,s) y->(X,t)∈Iu w (my G r) L (t_ w (my G r) a) (Ek w (my G r) a e)->oT w v l (X,t) y'->¬(hg x<hg X/\hg X<hg y/\(hg y'<hg x∨hg y<hg y')):=λ{x y X y' s t} S h2 h3 I ⟨M,N,h7⟩=>B.1 ⟨(x,s),y,(X,t),S,h2,h3,M,N,.inr ⟨y',I,h7⟩⟩;have K1:=@K a b c d e f E D P H;have K2:=@K a b d c e f E D m3 f3;have K3:=@K b a c d e f al Y P H;have K4:=@K b a d c e f al Y m3 f3;by_cases z1:hg a<hg c<;>by_cases z2:hg b<hg c<;>by_cases z3:hg a<hg d<;>by_cases z4:hg b<hg d<;>simp only[z1,z2,z3,z4,decide_true,decide_false]<;>first|rfl|omega
 .intro h s ad k B;refine(sC hs hG hr hk0 hnd hL _ _).2 ?_;have Z:∀c d,¬ldE w v l hg (Iu w (my G r) L c d):=by
   rintro c d ⟨p,m,q,hp,V,hq,S,h2,h3⟩;let⟨p1,p2,p3,p4⟩:=(dw hL).1 hp;let⟨q1,q2,q3,q4⟩:=(dw hL).1 hq;have F:=(dh (G:=G) (r:=r) hs hnd p1 p2).1 V;rcases h3 with⟨n,hn⟩|⟨n,hn,h3⟩
   .have pl:=(iy (G:=G) (r:=r) hs hnd q1 q2).1 hn;have:=h.pl _ _ _ _ _ _ pl F (q3.trans p3.symm) (q4.trans p4.symm)
    grind
   .have ql:=(dh (G:=G) (r:=r) hs hnd q1 q2).1 hn;let⟨_,_,_,e1,_⟩:=kV hs hG hr hk0 F;have:=h.ll _ _ _ _ _ _ F ql (p3.trans q3.symm) (p4.trans q4.symm) (λz=>by rw[z]at S;omega) (λz=>by rw[←z]at h3;omega);rw[FX S,Ga (show ¬hg m<hg q.1 by omega)]at this;rcases h3 with h3|h3
    .rw[Ga (show ¬hg p.1<hg n by omega),Ga (show ¬hg m<hg n by omega)]at this;cases this
    .rw[FX (show hg p.1<hg n by omega),FX h3]at this;cases this
  refine⟨Z _ _,Z _ _,?_,λp m hp V ap=>?_⟩
  .rintro⟨p,m,q,n,hp,hm,hq,hn,S,h2⟩;let⟨p1,p2,p3,p4⟩:=(dw hL).1 hp;let⟨q1,q2,q3,q4⟩:=(dw hL).1 hq;have pa:=(iy (G:=G) (r:=r) hs hnd p1 p2).1 hm;have pb:=(iy (G:=G) (r:=r) hs hnd q1 q2).1 hn;have:=h.pp _ _ _ _ _ _ pa pb (p3.trans q3.symm) (p4.trans q4.symm) λz=>by rw[z]at S;omega
   grind
  .obtain⟨p1,p2,p3,p4⟩:=(dw hL).1 hp;have F:=(dh (G:=G) (r:=r) hs hnd p1 p2).1 V;rw[←qR hnd];by_cases k3:cX l (DO (min p.1 m)) (DO p.2)=3
   .exact .inl k3
   .have:=h.kd _ _ _ F (by rw[eh F.nb];exact k3);rw[Ga (show ¬hg p.1<hg m by omega),eh F.nb]at this;right;have N:(td w v l G r).up p.1=decide ((my G r p.1).1<4):=rfl;rw[←N];generalize decide (cX l (DO (min p.1 m)) (DO p.2)=2)=x at *;generalize (td w v l G r).up p.1=y at *;revert this;cases x<;>cases y<;>decide
end
def xr_s(a:Bool):xr U a=a:=by cases a<;>rfl
def xr_tl(a:Bool):xr J a = !a:=by cases a<;>rfl
def dU{x:B_}{S:List B_}{c:Cl}:B5 (x::S) c=if x.1=c then x.2 else B5 S c:=by
 unfold B5
 grind
def yP{A:List B_}{c:Cl}(h:c∉A.map Prod.fst):B5 A c=[]:=by
 unfold B5
 grind
def Mu(o:Bool)(a b:TC):TC:=if o then a++b else b++a
def PY{o:Bool}{a:B_}{c:Cl}:∀ {S:List B_},B5 (GS o S a) c=if a.1=c then Mu o (B5 S c) a.2 else B5 S c
 | []=>by
  unfold GS;rw[dU];by_cases h:a.1=c
  .rw[rv h,rv h];cases o<;>simp[Mu,B5]
  simp_all
 |x::S=>by
  unfold GS;by_cases h:x.1=a.1
  .rw[rv h,dU,dU];simp only;by_cases b:x.1=c
   .rw[rv b,rv (h.symm.trans b),rv b];rfl
   simp_all
  .rw[ts h,dU,dU,PY]
   grind
def AR{o:Bool}{c:Cl}:∀ {A S:List B_},(A.map Prod.fst).Nodup->B5 (A.foldl (GS o) S) c=Mu o (B5 S c) (B5 A c)
 | [],S,_=>by cases o<;>simp[Mu,B5]
 |a::A,S,h=>by
  rw[Fx,o7]at h;rw[y6,AR h.2,PY,dU];by_cases e:a.1=c
  .rw[rv e,rv e,yP (A:=A) (by rw[←e];exact h.1)];cases o<;>simp[Mu]
  simp_all
def Zw{ln:Ln}{s:Bool}{c:Cl}:∀ {L:List B_},B5 (Mh ln s L) c=if aV ln c=s then []else B5 L c
 | []=>by split<;>rfl
 |x::L=>by
  have a:=Zw (ln:=ln) (s:=s) (c:=c) (L:=L);unfold Mh at a ⊢;rw[qcZ,dU (x:=x)];by_cases h:aV ln x.1=s
  .grind
  .rw[rv (by simp[h]),dU,a]
   grind
def ju{ln:Ln}{c:Cl}(a:c.2.2<4):aq (wd ln) (aq (wd ln) c)=c:=by rw[←ny (jx _) (jx _) a,xz];exact pP a
def mj{ln:Ln}{c:Cl}(d:1<=ln.1/\ln.1<=4)(a:c.2.2<4):aV ln (aq (wd ln) c) = !aV ln c:=by
 let⟨k,n⟩:=ln;let⟨x,y,q⟩:=c;simp only at d a;have b:k=1∨k=2∨k=3∨k=4:=a_;rcases b with rfl|rfl|rfl|rfl<;>rcases Gq a with rfl|rfl|rfl|rfl
 all_goals
  simp[aV,wd,aq,mA,mB,mC,mD,qT]
  grind
def Zs{ln:Ln}{s:Bool}{d:Cl}(b:d.2.2<4):∀ {L:List B_},(∀x∈L,x.1.2.2<4)->B5 (HZ ln s L) (aq (wd ln) d)=if aV ln d=s then(B5 L d).reverse else []
 | [],_=>by split<;>rfl
 |x::L,c=>by
  have f:=Zs (ln:=ln) (s:=s) b (L:=L) λy g=>c y (G_ _ g);unfold HZ at f ⊢;rw[qcZ,dU (x:=x)];by_cases h:aV ln x.1=s
  .rw[rv (by simp[h]),Fx,dU,f];simp only;by_cases a:x.1=d
   .simp_all
   .rw[ts (λe=>a (by rw[←ju (ln:=ln) (c x MA),e,ju b])),ts a]
  grind
def uL{L:List B_}(a:(L.map Prod.fst).Nodup){s:B_}(b:s∈L):B5 L s.1=s.2:=by
 induction L with
 |nil=>cases b
 |cons x L c=>
  rw[Fx,o7]at a;rw[dU]
  grind
def Zv{L L':List B_}(d:(L.map Prod.fst).Nodup)(b:L'.Perm L)(c:Cl):B5 L' c=B5 L c:=by
 have a:(L'.map Prod.fst).Nodup:=(b.map _).nodup_iff.2 d;by_cases h:c∈L.map Prod.fst
 .obtain⟨s,e,rfl⟩:=Ed.1 h;rw[uL d e,uL a (b.mem_iff.2 e)]
 .rw[yP h,yP λz=>h ((b.map _).mem_iff.1 z)]
def Zu{L L':List B_}{ln:Ln}{s o:Bool}(l:1<=ln.1/\ln.1<=4)(m:(L.map Prod.fst).Nodup)(f:∀x∈L,x.1.2.2<4)(a:((Iv ln s o L).map Prod.fst).Nodup)(n:L'.Perm (Iv ln s o L)){c:Cl}(k:c.2.2<4)(p:aV ln c≠s):B5 L' c=Mu o (B5 L c) (B5 L (aq (wd ln) c)).reverse:=by
 have g:(aq (wd ln) c).2.2<4:=fi;have b:((HZ ln s L).map Prod.fst).Nodup:=by unfold HZ;rw[y5];have i:((L.filter λx=>decide (aV ln x.1=s)).map Prod.fst).Nodup:=m.sublist (List.filter_sublist.map _);rw[List.Nodup,KZ]at i ⊢;refine qcG (λ{x y} q r h e=>h ?_) i;have e:aq (wd ln) x.1=aq (wd ln) y.1:=e;rw[←ju (ln:=ln) (f x (Hs.1 q).1),e,ju (f y (Hs.1 r).1)]
 rw[Zv a n];unfold Iv;rw[AR b,Zw,ts p];have j:=Zs (ln:=ln) (s:=s) (d:=aq (wd ln) c) g f;rw[ju k,mj l k,rv (by cases h:aV ln c<;>cases s<;>simp_all)]at j;rw[j]
def PK{T:TC}(h:T.Nodup){a:Nat}(d:a∈T):T.reverse.idxOf a+T.idxOf a+1=W T:=by
 have f:=qbJ d;have e:W T-1-T.idxOf a<W T.reverse:=jw;have b:T.reverse[W T-1-T.idxOf a]'e=a:=by
  rw[List.getElem_reverse];simp only[show W T-1-(W T-1-T.idxOf a)=T.idxOf a by omega]
  simp_all
 have c:=((List.reverse_perm T).nodup_iff.2 h).idxOf_getElem (W T-1-T.idxOf a) e;rw[b]at c;omega
def ee{o:Bool}{S T:TC}(t:T.Nodup)(r:∀a∈S,a∉T){a b:Nat}(q:a≠b){i s:Bool}(c:if i then a∈T else a∈S)(d:if s then b∈T else b∈S) :
  decide ((Mu o S T.reverse).idxOf a<(Mu o S T.reverse).idxOf b)=if i=s then xr i (if i then decide (T.idxOf a<T.idxOf b)else decide (S.idxOf a<S.idxOf b))else xr o i:=by
 have j:∀ {x},x∈T->x∈T.reverse:=λh=>qdx.2 h;have u:∀x∈T.reverse,x∉S:=λx h k=>r x k (qdx.1 h);have f:∀x∈T,x∉S:=λx h k=>r x k h;have g:∀x∈S,x∉T.reverse:=λx h k=>r x h (qdx.1 k);have m:∀ {x},x∈S->S.idxOf x<W S:=λh=>qbJ h;have l:∀ {x},x∈T->T.reverse.idxOf x<W T.reverse:=λh=>qbJ (j h);cases i<;>cases s<;>simp only[FG,if_true,if_false]at c d
 .have n:=m c;have p:=m d;simp only[if_true,xr_s,FG,if_false];cases o
  .simp only[Mu,FG,if_false,a7,ts (g a c),ts (g b d)]
   simp_all
  .simp only[Mu,if_true,a7,rv c,rv d]
 .have n:=m c;have p:=l d;rw[ts q7];cases o
  .simp only[Mu,FG,if_false,a7,ts (g a c),rv (j d)];rw[Ga a_];rfl
  .simp only[Mu,if_true,a7,rv c,ts (f b d)];rw[FX a_];rfl
 .have n:=m d;have p:=l c;rw[ts q7];cases o
  .simp only[Mu,FG,if_false,a7,rv (j c),ts (g b d)];rw[FX a_];rfl
  .simp only[Mu,if_true,a7,ts (f a c),rv d];rw[Ga a_];rfl
 .have n:=PK t c;have p:=PK t d;have v:T.idxOf a≠T.idxOf b:=λe=>q (by rw[←List.getElem_idxOf (qbJ c),←List.getElem_idxOf (qbJ d)];simp only[e])
  simp only[if_true];have e:decide (T.reverse.idxOf a<T.reverse.idxOf b)=xr J (decide (T.idxOf a<T.idxOf b)):=by rw[xr_tl,←decide_not,decide_eq_decide];omega
  cases o
  .simp only[Mu,FG,if_false,a7,rv (j c),rv (j d)];exact e
  .simp only[Mu,if_true,a7,ts (f a c),ts (f b d)]
   simp_all
structure GeoS(g:Xu):Prop where
 lo:∀a b e,g.Loop a b e->g.Loop b a e/\g.im b=g.im a/\g.be b e=g.be a e/\a≠b
 pa:∀a b e,g.EN a b e->g.EN b a e/\g.im b=g.be a e/\g.be b e=g.im a
 pp:∀a b e c d f,g.EN a b e->g.EN c d f->g.im a=g.im c->g.be a e=g.be c f->g.im b=g.im d/\(a≠c->b≠d)
 pl:∀a b e c d f,g.EN a b e->g.Loop c d f->g.be a e=g.be c f->a≠c/\a≠d
 ll:∀a b e c d f,g.Loop a b e->g.Loop c d f->g.im a=g.im c->g.be a e=g.be c f->a≠c->a≠d->b≠c/\b≠d
structure FoldG(g g':Xu)(mv:Tx)(o:Bool):Prop where
 N:g'.N=g.N
 up:∀a,g'.up a=xr (mv a) (g.up a)
 ps:∀a b e,g'.EN a b e->g.EN a b e/\mv a=mv b
 lp:∀a b e,g'.Loop a b e->g.Loop a b e/\g'.kd a e=g.kd a e∨g.EN a b e/\mv a≠mv b/\xr (decide (g'.kd a e=2)) (g.up a) = !o
 ml:∀a b e,g.Loop a b e->mv a=mv b
 im:∀a c,a<g.N->c<g.N->mv a=mv c->g'.im a=g'.im c->g.im a=g.im c
 be:∀a e c f,a<g.N->e<3->c<g.N->f<3->mv a=mv c->g'.be a e=g'.be c f->g.be a e=g.be c f
 ns:∀a b e c d f,g'.EN a b e->g.EN c d f->mv c≠mv d->g'.be a e=g'.be c f->False
theorem HX.fold{g K:Xu}{p:Tx}{o:Bool}(F:FoldG g K p o)(S:GeoS g)(V:GeoS K){B B':Nat->Nat->Bool}(hs:∀a b,a<g.N->b<g.N->a≠b->g.im a=g.im b->B b a = !B a b)
  (hB:∀a b,a<g.N->b<g.N->a≠b->K.im a=K.im b->B' a b=if p a=p b then xr (p a) (B a b)else xr o (p a)) (h:HX g B):HX K B':=by
 have E:∀ {a b},a<g.N->b<g.N->a≠b->K.im a=K.im b->p a=p b->B' a b=xr (p a) (B a b):=λha hb A hi v=>k_;have D:∀ {a b},a<g.N->b<g.N->a≠b->K.im a=K.im b->p a≠p b->B' a b=xr o (p a):=λha hb A hi v=>k_;have nm:∀ {a b c:Bool},a≠b->c≠a->c=b:=λ{a b c} h1 h2=>by cases a<;>cases b<;>cases c<;>simp_all
 have aE:∀ {x y z t:Bool},x=y->z=t->xr (xr x y) (xr z t)=U:=λ{x y z t} h1 h2=>by rw[h1,h2,Sw,Sw];rfl
 have av:∀ {x y z t:Bool},x=z->y=t->xr (xr x y) (xr z t)=U:=λ{x y z t} h1 h2=>by rw[h1,h2,Sw]
 refine⟨λa b e q k=>?_,λa b e c d f q u i j n=>?_,λa b e c d f q u i j=>?_,λa b e c d f q u i j n n'=>?_⟩
 .obtain⟨_,R,_,n1⟩:=V.lo _ _ _ q;rcases F.lp _ _ _ q with⟨r,hk⟩|⟨r,v,hk⟩
  .rw[E r.a0 r.b0 n1 R.symm (F.ml _ _ _ r),F.up,hk];rw[hk]at k;have:=h.kd _ _ _ r k;generalize B a b=x at *;generalize decide (g.kd a e=2)=y at *;generalize g.up a=z at *;generalize p a=m at *;revert this;cases x<;>cases y<;>cases z<;>cases m<;>decide
  .rw[D r.a0 r.b0 n1 R.symm v,F.up];generalize decide (K.kd a e=2)=y at *;generalize g.up a=z at *;generalize p a=m at *;revert hk;cases o<;>cases y<;>cases z<;>cases m<;>decide
 .obtain⟨r,v⟩:=F.ps _ _ _ q;let⟨s,A⟩:=F.ps _ _ _ u;let⟨i2,n2⟩:=V.pp _ _ _ _ _ _ q u i j;by_cases l:p a=p c
  .rw[E r.a0 s.a0 n i l,E r.b0 s.b0 (n2 n) i2 (v.symm.trans (l.trans A)),h.pp _ _ _ _ _ _ r s (F.im _ _ r.a0 s.a0 l i) (F.be _ _ _ _ r.a0 r.e0 s.a0 s.e0 l j) n,v]
  .rw[D r.a0 s.a0 n i l,D r.b0 s.b0 (n2 n) i2 (λz=>l (v.trans (z.trans A.symm))),v]
 .obtain⟨r,v⟩:=F.ps _ _ _ q;let⟨_,R,_,_⟩:=V.lo _ _ _ u;let⟨n1,n2⟩:=V.pl _ _ _ _ _ _ q u j;rcases F.lp _ _ _ u with⟨s,_⟩|⟨s,A,_⟩
  .have A:=F.ml _ _ _ s;by_cases l:p a=p c
   .rw[E r.a0 s.a0 n1 i l,E r.a0 s.b0 n2 (i.trans R.symm) (l.trans A),h.pl _ _ _ _ _ _ r s (F.im _ _ r.a0 s.a0 l i) (F.be _ _ _ _ r.a0 r.e0 s.a0 s.e0 l j)]
   .rw[D r.a0 s.a0 n1 i l,D r.a0 s.b0 n2 (i.trans R.symm) λz=>l (z.trans A.symm)]
  .exact(F.ns _ _ _ _ _ _ q s A j).elim
 .obtain⟨q',R,j1,a2⟩:=V.lo _ _ _ q;let⟨u',i2,j2,a3⟩:=V.lo _ _ _ u;let⟨x1,x2⟩:=V.ll _ _ _ _ _ _ q u i j n n';have H:=i.trans i2.symm;have M:=R.trans i;have ad:=R.trans H;have ag:=j.trans j2.symm;have ap:=j1.trans j;have a1:=j1.trans ag;have w:a<g.N:=F.N▸q.a0;have P:b<g.N:=F.N▸q.b0;have C:c<g.N:=F.N▸u.a0;have I:d<g.N:=F.N▸u.b0;have X:=q.e0;have Y:=u.e0;rcases F.lp _ _ _ q with⟨r,_⟩|⟨r,v,_⟩<;>rcases F.lp _ _ _ u with⟨s,_⟩|⟨s,A,_⟩
  .have v:=F.ml _ _ _ r;have A:=F.ml _ _ _ s;by_cases l:p a=p c
   .have:=h.ll _ _ _ _ _ _ r s (F.im _ _ w C l i) (F.be _ _ _ _ w X C Y l j) n n';rw[E w C n i l,E P C x1 M (v.symm.trans l),E w I n' H (l.trans A),E P I x2 ad (v.symm.trans (l.trans A)),←v];generalize B a c=y1 at *;generalize B b c=y2 at *;generalize B a d=y3 at *;generalize B b d=y4 at *;generalize p a=m at *;revert this;cases y1<;>cases y2<;>cases y3<;>cases y4<;>cases m<;>decide
   grind
  .have v:=F.ml _ _ _ r;by_cases l:p a=p c
   .have al:=F.im _ _ w C l i;have Z:=h.pl _ _ _ _ _ _ s r al.symm (F.be _ _ _ _ w X C Y l j).symm;have ax:=(S.lo _ _ _ r).2.1.trans al
    grind
   .have G:p a=p d:=nm A l;have T:=F.im _ _ w I G H;have Z:=h.pl _ _ _ _ _ _ (S.pa _ _ _ s).1 r T.symm (F.be _ _ _ _ w X I Y G ag).symm;have ay:=(S.lo _ _ _ r).2.1.trans T
    grind
  .have A:=F.ml _ _ _ s;by_cases l:p a=p c
   .have Z:=h.pl _ _ _ _ _ _ r s (F.im _ _ w C l i) (F.be _ _ _ _ w X C Y l j)
    grind
   .have L:p b=p c:=(nm v (EC l)).symm;have Z:=h.pl _ _ _ _ _ _ (S.pa _ _ _ r).1 s (F.im _ _ P C L M) (F.be _ _ _ _ P X C Y L ap)
    grind
  .by_cases l:p a=p c
   .have an:p b=p d:=(nm v λz=>A (l.symm.trans z.symm)).symm;have Z:=h.pp _ _ _ _ _ _ r s (F.im _ _ w C l i) (F.be _ _ _ _ w X C Y l j) n;rw[E w C n i l,E P I x2 ad an,D P C x1 M (λz=>v (l.trans z.symm)),D w I n' H (λz=>A (l.symm.trans z)),Z];generalize B b d=y at *;generalize p a=m at *;generalize p b=m' at *;revert v;cases o<;>cases y<;>cases m<;>cases m'<;>decide
   .have G:p a=p d:=nm A l;have L:p b=p c:=(nm v λz=>l z.symm).symm;have Z:=h.pp _ _ _ _ _ _ r (S.pa _ _ _ s).1 (F.im _ _ w I G H) (F.be _ _ _ _ w X I Y G ag) n';rw[D w C n i l,E w I n' H G,E P C x1 M L,D P I x2 ad (λz=>v (G.trans z.symm)),Z];generalize B b c=y at *;generalize p a=m at *;generalize p b=m' at *;revert v;cases o<;>cases y<;>cases m<;>cases m'<;>decide
def Sz.fst{w v:Nat}(b:S3 w v){n:Nat}{l:TD}{r:Mv}{G:TH}{L:List B_}(h:Sz w v n l r G L):n<=5->Hb w v (kB n) l r G L:=by
 induction h with
 |flat=>exact λ_=>AF b
 |fold h a e f c d g=>exact λi=>(g a_).fold b (yL a_).1 a e f c d
def Y2{w v:Nat}(k:Sh w v){l:TD}{G:TH}(i:C' w v l G){r:Mv}(j:r.1<8)(d:∀c∈l,c.2.2≠0):GeoS (td w v l G r):=by
 let⟨p,n,o3,o⟩:=PC k i j d;exact⟨λa b e q=>by
  let⟨f,g,h,m,_⟩:=kV k i j d q;exact⟨f,g,h,m⟩,λa b e q=>by
  let⟨f,g,h,_⟩:=rV k i j d q;exact⟨f,g,h⟩,n,o3,o⟩
def yO{l:TD}(f:(l.map bD).Nodup){u e:Nat}{c:Gs}(n:c∈l)(b:bD c=((DO u,DO e):Ku)):cX l (DO u) (DO e)=c.2.2:=by
 have g:=congrArg Prod.fst b;have h:=congrArg Prod.snd b;simp only[bD]at g h;have r:Kq (.ofNat u) (.ofNat e) c=J:=by simp[Kq,g,h]
 unfold cX;cases k:l.find? (Kq (.ofNat u) (.ofNat e))with
 |none=>grind
 |some d=>
  have o:=qcc k;have a:=qdE k;simp only[Kq,y_,Gp]at a;have p:bD d=bD c:=by rw[b];exact Xl a.1 a.2
  have:d=c:=by
   have m:=KZ.1 f;let⟨i,s⟩:=E4 o;let⟨j,t⟩:=E4 n;have q:=Ki.1 m
   grind
  rw[this]
section
variable {w v:Nat} (h3:S3 w v) {k k':Int} {l:TD} {r:Mv} {G:TH} {L:List B_} (h:Hb w v k l r G L) {ln:Ln} {s o:Bool} (hl:1<=ln.1/\ln.1<=4)
 {l':TD} (hp:l'.Perm (l++FA w v (λa=>ae (G a) r) o ln (ES w v l G r (4*w*v)))) {L':List B_} (h':Hb w v k' l' (bT ln s L r (W L)) (Gj w ln s G r) L')
include h3 h
theorem Pw(n:Nat):my (Gj w ln s G r) (bT ln s L r (W L)) n=Iw ln s (my G r n) (ra w n):=by show ae (Gj w ln s G r n) (bT ln s L r (W L))=_;rw[h.root h3,Az]
theorem uy{c:Cl}(b:c.2.2<4){n:Nat}:aq (my (Gj w ln s G r) (bT ln s L r (W L)) n) c=if aV ln (t_ w (my G r) n)=s then aq (wd ln) (aq (my G r n) c)else aq (my G r n) c:=by
 rw[Pw h3 h];unfold Iw;show aq (if aV ln (t_ w (my G r) n)=s then _ else _) c=_;split
 .exact ny eH (jx _) b
 .rfl
include hp h'
theorem Pv{u e n:Nat}(F:u<4*w*v)(D:e<3)(E:D_ w v u e=O n)(t:u<n) :
  (cX l (DO u) (DO e)≠0->cX l' (DO u) (DO e)=cX l (DO u) (DO e))/\
  (cX l (DO u) (DO e)=0->u_ (t_ w (my G r) u) (eT (my G r u).1 e)≠ln->cX l' (DO u) (DO e)=0)/\
  (cX l (DO u) (DO e)=0->u_ (t_ w (my G r) u) (eT (my G r u).1 e)=ln->cX l' (DO u) (DO e)=if decide ((my G r u).1<4)=o then 2 else 1):=by
 have j:∀c∈l,c.2.2≠0:=λc b=>(h.vk c b).k0;have m:∀c∈l',c.2.2≠0:=λc b=>(h'.vk c b).k0;have A:=gS h.so;have f:=gS h'.so;have d:=h.keys h3 (ln:=ln) (o:=o) F D E t;have i:∀ {l:TD},Es l u e=J↔((DO u,DO e):Ku)∈l.map bD:=decide_eq_true_iff;have C:cX l (DO u) (DO e)=0->Es l u e=U:=λz=>by
  cases q:Es l u e with
  |false=>rfl
  |true=>exact absurd z ((fW j).2 q)
 refine⟨λz=>?_,λz y=>?_,λz y=>?_⟩
 .obtain⟨c,b,g⟩:=Ed.1 (i.1 ((fW j).1 z));rw[yO A b g,yO f (hp.mem_iff.2 (F_.2 (.inl b))) g]
 .refine Classical.byContradiction λx=>?_;let⟨c,b,g⟩:=Ed.1 (i.1 ((fW m).1 x));rcases F_.1 (hp.mem_iff.1 b)with b|b
  .grind
  .exact y (d.1 (Ed.2 ⟨c,b,g⟩)).2
 .obtain⟨c,b,g⟩:=Ed.1 (d.2 ⟨C z,y⟩);rw[yO f (hp.mem_iff.2 (F_.2 (.inr b))) g];unfold FA at b;obtain⟨p,_,rfl⟩:=Ed.1 b;have B:p.1=u:=Ky (congrArg Prod.fst g);show(if decide ((ae (G p.1) r).1<4)=o then(2:Int)else 1)=_;rw[B]
include hl
theorem YZ:FoldG (td w v l G r) (td w v l' (Gj w ln s G r) (bT ln s L r (W L))) (λn=>decide (aV ln (t_ w (my G r) n)=s)) o:=by
 have hs:=h3.sh;have Z:∀c∈l,c.2.2≠0:=λc X=>(h.vk c X).k0;have hr:=h.rk.1;have hq:∀n,n<4*w*v->(ra w n).2.2<4:=λn A=>(cg hs A).2.2.2.2;have S:=Y2 hs h.co hr Z;have C:∀ {x y:Bool},(decide (x=s)≠decide (y=s))↔x≠y:=λ{x y}=>by cases x<;>cases y<;>cases s<;>decide
 have p:∀ {x y:Bool},(decide (x=s)=decide (y=s))↔x=y:=λ{x y}=>by cases x<;>cases y<;>cases s<;>decide
 have Y:∀n,n<4*w*v->t_ w (my (Gj w ln s G r) (bT ln s L r (W L))) n=if aV ln (t_ w (my G r) n)=s then aq (wd ln) (t_ w (my G r) n)else t_ w (my G r) n:=λn A=>uy h3 h (hq n A)
 have D:∀n e,n<4*w*v->e<3->Ek w (my (Gj w ln s G r) (bT ln s L r (W L))) n e=if aV ln (t_ w (my G r) n)=s then aq (wd ln) (Ek w (my G r) n e)else Ek w (my G r) n e:=λn e A I=>uy h3 h (L1 (hq n A) I).1
 have H:∀n,(t_ w (my G r) n).2.2<4:=λn=>fi;have F:∀n e,(Ek w (my G r) n e).2.2<4:=λn e=>fi;have ag:∀ {x y:Cl},x.2.2<4->y.2.2<4->aq (wd ln) x=aq (wd ln) y->x=y:=λ{x y} hx hy e=>by rw[←ju (ln:=ln) hx,e,ju hy]
 have m:∀ {a b e:Nat},(td w v l G r).EN a b e->(u_ (t_ w (my G r) a) (eT (my G r a).1 e)=ln↔aV ln (t_ w (my G r) a)≠aV ln (t_ w (my G r) b)):=λ{a b e} q=>by
  have e1:t_ w (my G r) b=E5 (t_ w (my G r) a) (eT (my G r a).1 e):=(S.pa _ _ _ q).2.1.trans (Cr hs q.a0 q.e0);rw[e1];constructor
  .intro z;have:=zK (c:=t_ w (my G r) a) (e:=eT (my G r a).1 e) (H a) (jY q.e0)
   simp_all
  .intro z;exact(vf hl (H a) (jY q.e0) z).symm
 have ad:∀ {a b e:Nat},a<4*w*v->e<3->D_ w v a e=O b->((td w v l G r).kd a e≠0->(td w v l' (Gj w ln s G r) (bT ln s L r (W L))).kd a e=(td w v l G r).kd a e)/\
   ((td w v l G r).EN a b e->aV ln (t_ w (my G r) a)=aV ln (t_ w (my G r) b)->(td w v l' (Gj w ln s G r) (bT ln s L r (W L))).kd a e=0)/\
   ((td w v l G r).EN a b e->aV ln (t_ w (my G r) a)≠aV ln (t_ w (my G r) b)->(td w v l' (Gj w ln s G r) (bT ln s L r (W L))).kd a e=if (td w v l G r).up a=o then 2 else 1):=λ{a b e} K I A=>by
  let⟨ap,al,_,_,E⟩:=de hs K I A;rw[eh A,eh A];rcases v1 E with z|z
  .rw[qdz a_];let⟨N,T,P⟩:=Pv h3 h hp h' ap I al z;have t:∀q:(td w v l G r).EN a b e,(td w v l G r).EN b a e:=λq=>(S.pa _ _ _ q).1;have V:(td w v l G r).EN a b e->cX l (DO b) (DO e)=0:=λq=>by
    have:=(t q).k0
    rwa [eh al,Xk a_]at this
   refine⟨N,λq y=>T (V q) λx=>(m (t q)).1 x y.symm,λq y=>?_⟩;rw[P (V q) ((m (t q)).2 (EC y))];have hG:G b=G a:=by
    have h1:=h.co.g a e b K I A;unfold Gt at h1
    rwa [ts λz'=>(fW Z).2 z' jw]at h1
   show(if decide ((ae (G b) r).1<4)=o then(2:Int)else 1)=if decide ((ae (G a) r).1<4)=o then 2 else 1
   rw[hG]
  .rw[Xk a_];let⟨N,T,P⟩:=Pv h3 h hp h' K I A z;have V:(td w v l G r).EN a b e->cX l (DO a) (DO e)=0:=λq=>by
    have:=q.k0
    rwa [eh A,Xk a_]at this
   exact⟨N,λq y=>T (V q) λx=>(m q).1 x y,λq y=>P (V q) ((m q).2 y)⟩
 have av:∀a b e,(td w v l G r).Loop a b e->decide (aV ln (t_ w (my G r) a)=s)=decide (aV ln (t_ w (my G r) b)=s):=λa b e q=>by rw[show t_ w (my G r) b=t_ w (my G r) a from(S.lo _ _ _ q).2.1]
 have an:∀a b e,(td w v l' (Gj w ln s G r) (bT ln s L r (W L))).EN a b e->(td w v l G r).EN a b e/\decide (aV ln (t_ w (my G r) a)=s)=decide (aV ln (t_ w (my G r) b)=s):=λa b e q=>by let⟨N,T,P⟩:=ad q.a0 q.e0 q.nb;have R:(td w v l G r).EN a b e:=⟨q.a0,q.b0,q.e0,q.nb,Classical.byContradiction λz=>z ((N z).symm.trans q.k0)⟩;refine⟨R,p.2 (Classical.byContradiction λz=>?_)⟩;have:=P R z;rw[q.k0]at this;omega
 refine⟨rfl,λa=>?_,an,λa b e q=>?_,av,λa c K X hm i=>?_,λa e c f K I X hf hm j=>?_,λa b e c d f q u A j=>?_⟩
 .show decide ((my (Gj w ln s G r) (bT ln s L r (W L)) a).1<4)=xr (decide (aV ln (t_ w (my G r) a)=s)) (decide ((my G r a).1<4));rw[Pw h3 h];unfold Iw;show decide ((if aV ln (t_ w (my G r) a)=s then ae (my G r a) (wd ln)else my G r a).1<4)=_;split
  next z=>
   rw[FX z,xr_tl];show decide (EL _ _<4)=_;rw[uV (show(my G r a).1<8 from eH) (jx _),Z_]
   grind
  next z=>rw[Ga z,xr_s]
 .obtain⟨N,T,P⟩:=ad q.a0 q.e0 q.nb;by_cases z:(td w v l G r).kd a e=0
  .have R:(td w v l G r).EN a b e:=⟨q.a0,q.b0,q.e0,q.nb,z⟩;have E:aV ln (t_ w (my G r) a)≠aV ln (t_ w (my G r) b):=λy=>q.k0 (T R y);refine .inr ⟨R,C.2 E,?_⟩;rw[P R E];generalize (td w v l G r).up a=x;cases x<;>cases o<;>rfl
  .exact .inl ⟨⟨q.a0,q.b0,q.e0,q.nb,z⟩,N z⟩
 .have B:=p.1 hm;have i:t_ w (my (Gj w ln s G r) (bT ln s L r (W L))) a=t_ w (my (Gj w ln s G r) (bT ln s L r (W L))) c:=i;rw[Y a K,Y c X,←B]at i;split at i
  .exact ag (H a) (H c) i
  .exact i
 .have B:=p.1 hm;have j:Ek w (my (Gj w ln s G r) (bT ln s L r (W L))) a e=Ek w (my (Gj w ln s G r) (bT ln s L r (W L))) c f:=j;rw[D a e K I,D c f X hf,←B]at j;split at j
  .exact ag (F a e) (F c f) j
  .exact j
 · -- what is folded lies on one side
  have ay:∀ {x:Cl} {n:Nat},x.2.2<4->aV ln x=aV ln (t_ w (my G r) n)->aV ln (if aV ln (t_ w (my G r) n)=s then aq (wd ln) x else x)≠s:=λ{x n} hx M z=>by
   split at z
   .rw[mj hl hx,M]at z
    grind
   grind
  have ax:∀ {x:Cl} {n:Nat},x.2.2<4->aV ln x≠aV ln (t_ w (my G r) n)->aV ln (if aV ln (t_ w (my G r) n)=s then aq (wd ln) x else x)=s:=λ{x n} hx M=>by
   split
   next y=>rw[mj hl hx];rw[y]at M;cases h1:aV ln x<;>cases s<;>simp_all
   next y=>cases h1:aV ln x<;>cases h2:aV ln (t_ w (my G r) n)<;>cases s<;>simp_all
  let⟨q1,hm⟩:=an _ _ _ q;have B:=p.1 hm;have aE:=C.1 A;have j:Ek w (my (Gj w ln s G r) (bT ln s L r (W L))) a e=Ek w (my (Gj w ln s G r) (bT ln s L r (W L))) c f:=j;rw[D a e q1.a0 q1.e0,D c f u.a0 u.e0]at j;have e1:Ek w (my G r) a e=t_ w (my G r) b:=(S.pa _ _ _ q1).2.1.symm;have e2:Ek w (my G r) c f=t_ w (my G r) d:=(S.pa _ _ _ u).2.1.symm;have t1:=ay (x:=Ek w (my G r) a e) (n:=a) (F a e) (by rw[e1];exact B.symm);have t2:=ax (x:=Ek w (my G r) c f) (n:=c) (F c f) jw
  grind
end
def Hb.stg{w v:Nat}(a:S3 w v){k:Int}{l:TD}{r:Mv}{G:TH}{L:List B_}(h:Hb w v k l r G L)(c:k<=4000):NT (4*w*v) L:=
 ⟨λs b=>by have:=h.cell a b;omega,h.st.ne,h.ss,h.st.pm⟩
def Hb.lys{w v:Nat}(a:S3 w v){k:Int}{l:TD}{r:Mv}{G:TH}{L:List B_}(h:Hb w v k l r G L)(b:k<=4000):Lys (4*w*v) (t_ w (my G r)) L (Y7 (t_ w (my G r)) L):=ZR (h.stg a b) h.st.at'
def Sz.sem{w v:Nat}(g:S3 w v){n:Nat}{l:TD}{r:Mv}{G:TH}{L:List B_}(h:Sz w v n l r G L):n<=5->HX (td w v l G r) λa b=>decide (Y7 (t_ w (my G r)) L a<Y7 (t_ w (my G r)) L b):=by
 have N:=g.sh
 induction h with
 |flat=>
  intro _;have t:∀ {a b e},¬(td w v [] (λ_=>ET) ET).Loop a b e:=λq=>by have:=q.k0;rw[eh q.nb]at this;exact this rfl
  refine⟨λa b e q=>(t q).elim,λa b e c d f q u i j k=>(k ?_).elim,λa b e c d f q u=>(t u).elim,λa b e c d f q=>(t q).elim⟩;have S:aq ET (ra w a)=aq ET (ra w c):=i;rw[pP (cg N q.a0).2.2.2.2,pP (cg N u.a0).2.2.2.2]at S;rcases qcP a c with z|z|z
  .have:=C9 g z u.a0;rw[S,kW]at this;cases this
  .exact z
  .have:=C9 g z q.a0;rw[S,kW]at this;cases this
 | @fold n l l' r G L L' ln s o h K hp ap T hS ih=>
  intro hn;have F:=h.fst g a_;have kb:=yL (show n+1<=5 by omega);have av:=yL (show n<=5 by omega);have D:Hb w v (kB (n+1)) l' (bT ln s L r (W L)) (Gj w ln s G r) L':=F.fold g av.1 K hp ap T hS;have R:1<=ln.1/\ln.1<=4:=by obtain⟨p0,ag,rfl⟩:=K;exact(ZE g F.co F.rk ag).1
  have Y:=F.lys g a_;have Y':=D.lys g a_;have X:∀c∈l,c.2.2≠0:=λc E=>(F.vk c E).k0;have I:∀c∈l',c.2.2≠0:=λc E=>(D.vk c E).k0;have ad:(L.map Prod.fst).Nodup:=F.st.nd;have M:((Iv ln s o L).map Prod.fst).Nodup:=((T.map Prod.fst).nodup_iff).1 D.st.nd;have V:∀x∈L,x.1.2.2<4:=λx hx=>(F.cell g hx).1;have Z:∀c,(B5 L c).Nodup:=λc=>(Y.KA c).imp λ{a b} q e=>by rw[e]at q;omega
  have hq:∀n,n<4*w*v->(ra w n).2.2<4:=λn hn=>(cg N hn).2.2.2.2;refine HX.fold (YZ g F R hp D) (Y2 N F.co F.rk.1 X) (Y2 N D.co D.rk.1 I) (λa b m p k H=>?_) (λa b m p k H=>?_) (ih a_)
  .have ax:Y7 (t_ w (my G r)) L a≠Y7 (t_ w (my G r)) L b:=λe=>k (Y.inj m p H e)
   grind
  .have m:a<4*w*v:=m;have p:b<4*w*v:=p;have H:t_ w (my (Gj w ln s G r) (bT ln s L r (W L))) a=t_ w (my (Gj w ln s G r) (bT ln s L r (W L))) b:=H;have P:=uy g F (ln:=ln) (s:=s) (hq a m) (n:=a);have eb:=uy g F (ln:=ln) (s:=s) (hq b p) (n:=b);rw[show aq (my (Gj w ln s G r) (bT ln s L r (W L)) a) (ra w a)=t_ w (my (Gj w ln s G r) (bT ln s L r (W L))) a from rfl,show aq (my G r a) (ra w a)=t_ w (my G r) a from rfl]at P;rw[show aq (my (Gj w ln s G r) (bT ln s L r (W L)) b) (ra w b)=t_ w (my (Gj w ln s G r) (bT ln s L r (W L))) b from rfl,show aq (my G r b) (ra w b)=t_ w (my G r) b from rfl,←H]at eb;unfold Y7;rw[←H];generalize t_ w (my (Gj w ln s G r) (bT ln s L r (W L))) a=c at *;have B:(t_ w (my G r) a).2.2<4:=fi;have al:(t_ w (my G r) b).2.2<4:=fi;have E:c.2.2<4:=by
    rw[P];split
    .exact fi
    .exact B
   have C:aV ln c≠s:=by
    rw[P];split
    next z=>rw[mj R B,z];cases s<;>decide
    .assumption
   rw[Zu R ad V M T E C];have hd:∀x∈B5 L c,x∉B5 L (aq (wd ln) c):=λx h1 h2=>by
    have e:=((Y.mem _ _).1 h1).2.symm.trans ((Y.mem _ _).1 h2).2;have:=mj (ln:=ln) R E
    grind
   have A:∀ {x:Nat},x<4*w*v->(t_ w (my G r) x).2.2<4->c=(if aV ln (t_ w (my G r) x)=s then aq (wd ln) (t_ w (my G r) x)else t_ w (my G r) x)->(aV ln (t_ w (my G r) x)=s->t_ w (my G r) x=aq (wd ln) c)/\(aV ln (t_ w (my G r) x)≠s->t_ w (my G r) x=c):=λ{x} hx an e=>by
    refine⟨λz=>?_,λz=>?_⟩
    .rw[rv z]at e;rw[e,ju an]
    simp_all
   let⟨a1,a2⟩:=A m B P;let⟨b1,b2⟩:=A p al eb;have ma:if decide (aV ln (t_ w (my G r) a)=s)=J then a∈B5 L (aq (wd ln) c)else a∈B5 L c:=by
    split
    next z=>exact(Y.mem _ _).2 ⟨m,a1 (of_decide_eq_true z)⟩
    next z=>exact(Y.mem _ _).2 ⟨m,a2 λy=>z (FX y)⟩
   have mb:if decide (aV ln (t_ w (my G r) b)=s)=J then b∈B5 L (aq (wd ln) c)else b∈B5 L c:=by
    split
    next z=>exact(Y.mem _ _).2 ⟨p,b1 (of_decide_eq_true z)⟩
    next z=>exact(Y.mem _ _).2 ⟨p,b2 λy=>z (FX y)⟩
   rw[ee (Z _) hd k ma mb]
   grind
def Ha(w v:Nat)(G:TH)(r:Mv)(x:List (TC)):List B_:=(E3 (C6 w v G r)).zip x
def HX.congr{g:Xu}(S:GeoS g){B B':Nat->Nat->Bool}(h:∀a b,a<g.N->b<g.N->g.im a=g.im b->B a b=B' a b)(k:HX g B):HX g B':=by
 refine⟨λa b e q u=>?_,λa b e c d f q u i j n=>?_,λa b e c d f q u i j=>?_,λa b e c d f q u i j n o=>?_⟩
 .rw[←h a b q.a0 q.b0 (S.lo _ _ _ q).2.1.symm];exact k.kd _ _ _ q u
 .rw[←h a c q.a0 u.a0 i,←h b d q.b0 u.b0 (S.pp _ _ _ _ _ _ q u i j).1];exact k.pp _ _ _ _ _ _ q u i j n
 .rw[←h a c q.a0 u.a0 i,←h a d q.a0 u.b0 (i.trans (S.lo _ _ _ u).2.1.symm)];exact k.pl _ _ _ _ _ _ q u i j
 .have l:=(S.lo _ _ _ q).2.1;have m:=i.trans (S.lo _ _ _ u).2.1.symm;rw[←h a c q.a0 u.a0 i,←h b c q.b0 u.a0 (l.trans i),←h a d q.a0 u.b0 m,←h b d q.b0 u.b0 (l.trans m)];exact k.ll _ _ _ _ _ _ q u i j n o
section
variable {w v:Nat} {G:TH} {r:Mv} {x:List (TC)} (hx:x∈Ec (s7 (C6 w v G r)))
def lY{n:Nat}{c:Cl}:(C6 w v G r)[n]?=O c↔n<4*w*v/\t_ w (my G r) n=c:=by
 constructor
 .intro h;have a:n<4*w*v:=by have:=ah h;simpa[C6]using this
  rw[dv a]at h;exact⟨a,Fm h⟩
 .rintro⟨a,rfl⟩;exact dv a
include hx
theorem Ac:W x=W (E3 (C6 w v G r)):=by rw[(dY.1 hx).1];simp[s7]
theorem Ab:(Ha w v G r x).map Prod.fst=E3 (C6 w v G r):=List.map_fst_zip (by rw[Ac hx];omega)
theorem jX{s:B_}(d:s∈Ha w v G r x):s.1∈E3 (C6 w v G r)/\s.2∈x/\s.2.Perm (Y_ (C6 w v G r) s.1):=by
 let⟨i,c⟩:=E4 d;let⟨b,a⟩:=qbB.1 c;refine⟨A9 b,A9 a,(dY.1 hx).2 i _ _ ?_ a⟩;unfold s7
 simp_all
theorem oe{s:B_}(a:s∈Ha w v G r x){n:Nat}:n∈s.2↔n<4*w*v/\t_ w (my G r) n=s.1:=by rw[(jX hx a).2.2.mem_iff,dR];exact lY
theorem vP(i:S3 w v){l:TD}(j:C' w v l G){k:Int}(t:Ew k r)(u:k<=4000):NT (4*w*v) (Ha w v G r x):=by
 have f:(Ha w v G r x).Pairwise λa b=>Ez b.1 a.1=J:=by have:=mV (C6 w v G r);rw[←Ab hx]at this;exact KZ.1 this
 refine⟨λs d=>?_,λs d e=>?_,f,(qdc ?_ qcA).2 λn=>?_⟩
 .obtain⟨n,c⟩:=I2.1 (gZ.1 (jX hx d).1);let⟨c,e⟩:=lY.1 c;have g:=qN i j t c;have e:aq (ae (G n) r) (ra w n)=s.1:=e;rw[e]at g;refine⟨?_,a_,a_,a_,a_⟩;rw[←e];exact fi
 .have:=(jX hx d).2.2;rw[e]at this;let⟨n,c⟩:=I2.1 (gZ.1 (jX hx d).1);have:=this.mem_iff.2 (dR.2 c);cases this
 .show List.Pairwise _ _;rw[qbU];refine⟨λs d=>zt (gJ _) hx (jX hx d).2.1,qcG (λ{a b} o p h n c m q e=>?_) f⟩;subst e;have e:=((oe hx o).1 c).2.symm.trans ((oe hx p).1 q).2;rw[e,kW]at h;cases h
 .rw[Gv,D2];constructor
  .rintro⟨s,d,c⟩;exact((oe hx d).1 c).1
  .intro c;have g:t_ w (my G r) n∈(Ha w v G r x).map Prod.fst:=by rw[Ab hx];exact gZ.2 (A9 (lY.2 ⟨c,rfl⟩))
   let⟨s,d,e⟩:=Ed.1 g;exact⟨s,d,(oe hx d).2 ⟨c,e.symm⟩⟩
theorem vO:∀s∈Ha w v G r x,∀n∈s.2,t_ w (my G r) n=s.1:=λ_ b _ a=>((oe hx b).1 a).2
theorem X8(i:S3 w v){l:TD}(j:C' w v l G){k:Int}(p:Ew k r)(o:k<=4000){a b:Nat}(m:a<4*w*v)(n:b<4*w*v)(h:t_ w (my G r) a=t_ w (my G r) b) :
  Xh x a b=decide (Y7 (t_ w (my G r)) (Ha w v G r x) a<Y7 (t_ w (my G r)) (Ha w v G r x) b):=by
 have g:=vP hx i j p o;let⟨s,d,c⟩:=Gv.1 (g.pm.mem_iff.2 (D2.2 m));have e:=vO hx s d a c;have f:b∈s.2:=(oe hx d).2 ⟨n,h.symm.trans e⟩;rw[vU (gJ _) hx (jX hx d).2.1 c f];unfold Y7;rw[←h,e,Zr g d]
theorem YT(g:S3 w v){l:TD}(e:C' w v l G){k:Int}(f:Ew k r)(o:k<=4000)(d:∀c∈l,c.2.2≠0)(p:(l.map bD).Nodup):NP w v l (my G r) (Ha w v G r x)↔x∈Hl w v l G r:=by
 have q:=g.sh;have S:=Y2 q e f.1 d;have Y:=ZR (vP hx g e f o) (vO hx);rw[YS q e f.1 d p Y λc=>?_]
 .unfold Hl;rw[Hs,iX q e f.1 d hx];exact⟨λh=>⟨hx,h.congr S λa b i j m=>(X8 hx g e f o i j m).symm⟩,λh=>h.2.congr S λa b i j m=>X8 hx g e f o i j m⟩
 .rw[Ab hx,gZ,I2];exact⟨λ⟨n,s,t⟩=>⟨n,lY.2 ⟨s,t⟩⟩,λ⟨n,h⟩=>⟨n,lY.1 h⟩⟩
end
def PZ{w v:Nat}{k:Int}{l:TD}{r:Mv}{G:TH}{L:List B_}(h:Hb w v k l r G L):L=Ha w v G r (L.map Prod.snd)/\L.map Prod.snd∈Ec (s7 (C6 w v G r)):=by
 have y:∀s∈L,∀n,n∈s.2↔n<4*w*v/\t_ w (my G r) n=s.1:=λs b n=>by refine⟨λa=>⟨D2.1 (h.st.pm.mem_iff.1 (Gv.2 ⟨s,b,a⟩)),h.st.at' s b n a⟩,λ⟨j,u⟩=>?_⟩;let⟨t,m,a⟩:=Gv.1 (h.st.pm.mem_iff.2 (D2.2 j));have e:t.1=s.1:=(h.st.at' t m n a).symm.trans u;have x:=uL h.st.nd m;rw[e,uL h.st.nd b]at x;rw[x];exact a
 have o:L.map Prod.fst=E3 (C6 w v G r):=by
  refine tP (KZ.2 h.ss) (mV _) λc=>?_;rw[gZ,Ed,I2];constructor
  .rintro⟨s,b,rfl⟩;let⟨n,a⟩:=qdl _ (h.st.ne s b);exact⟨n,lY.2 ((y s b n).1 a)⟩
  .rintro⟨n,a⟩;let⟨j,u⟩:=lY.1 a;let⟨t,m,a⟩:=Gv.1 (h.st.pm.mem_iff.2 (D2.2 j))
   grind
 refine⟨List.zip_of_prod o rfl,dY.2 ⟨?_,λi q p g d=>?_⟩⟩
 .unfold s7
  grind
 .unfold s7 at g;rw[GL,←o,GL]at g;rw[GL]at d;cases b:L[i]? with
  |none=>rw[b]at d;cases d
  |some s=>
   rw[b]at d g;cases d;cases g;have f:=A9 b;refine(qdc ?_ ?_).2 λn=>?_
   .exact List.Sublist.nodup (qct (qc7 f)) (h.st.pm.nodup_iff.2 qcA)
   .exact AM.imp λh=>a_
   .rw[y s f n,dR];exact lY.symm
def Sz.lys{w v:Nat}(d:S3 w v){n:Nat}{l:TD}{r:Mv}{G:TH}{L:List B_}(h:Sz w v n l r G L)(g:n<=5):L.map Prod.snd∈Hl w v l G r:=by have F:=h.fst d g;have p:=yL g;let⟨e,i⟩:=PZ F;have f:∀c∈l,c.2.2≠0:=λc m=>(F.vk c m).k0;unfold Hl;rw[Hs,iX d.sh F.co F.rk.1 f i];refine⟨i,(h.sem d g).congr (Y2 d.sh F.co F.rk.1 f) λa b j k o=>?_⟩;rw[X8 i d F.co F.rk a_ j k o,←e]
def Fz:TC->TC->Int
 | [],[]=>0
 | [],_::_=>-1
 |_::_,[]=>1
 |a::l,b::m=>if a=b then Fz l m else if a<b then -1 else 1
def GC:List (TC)->List (TC)->Int
 | [],[]=>0
 | [],_::_=>-1
 |_::_,[]=>1
 |p::l,q::m=>if Fz p q=0 then GC l m else Fz p q
def qS:∀l:List Nat,Fz l l=0
 | []=>rfl
 |a::l=>by unfold Fz;rw[rv rfl,qS l]
def wV:∀l:List (TC),GC l l=0
 | []=>rfl
 |a::l=>by unfold GC;rw[rv (qS a),wV l]
def RE:∀ {n:Nat} {l:TC},l.Pairwise (· < ·)->(KY n l).Pairwise λp q=>Fz p q<0
 |0,l,_=>by simp[KY]
 |n+1,l,h=>by
  unfold KY;rw[qbU];refine⟨λa _=>KZ.2 ((RE (h.erase a)).imp λ{p q} d=>?_),h.imp λ{a b} c x e y f=>?_⟩
  .unfold Fz;omega
  .obtain⟨p,_,rfl⟩:=Ed.1 e;obtain⟨q,_,rfl⟩:=Ed.1 f;unfold Fz;omega
def BL:∀ {IDS:List (TC)},(∀l∈IDS,l.Pairwise (· < ·))->(Ec IDS).Pairwise λp q=>GC p q<0
 | [],_=>by simp[Ec]
 |l::R,h=>by
  unfold Ec;rw[qbU];refine⟨λa _=>KZ.2 ((BL λm e=>h m (G_ _ e)).imp λ{p q} c=>?_),(RE (h l MA)).imp λ{a b} d x f y g=>?_⟩
  .unfold GC;rw[rv (qS a)];exact c
  .obtain⟨p,_,rfl⟩:=Ed.1 f;obtain⟨q,_,rfl⟩:=Ed.1 g;unfold GC;omega
def P_{w v:Nat}{l:TD}{G:TH}{r:Mv}:(Hl w v l G r).Pairwise λp q=>GC p q<0:=(BL λ_ a=>uH a).filter _
def hR{l:List (List (TC))}(h:l.Pairwise λp q=>GC p q<0){y x:List (TC)}(c:l.head? = O y)(b:x∈l):GC y x<=0:=by
 cases l with
 |nil=>cases b
 |cons a l=>
  cases c;rcases Fy.1 b with rfl|b
  .rw[wV];omega
  .have:=(MB.1 h).1 x b;omega
def eqC_c{h:HL}{x y:TV}{l:TD}(e:q_ h x 3 q9 l)(f:q_ h y 3 q9 l)(m:W l<=1000):aD cc ac 30 [.v x,.v y] (h_ aa h) [.b J] (h_ aa h):=
 xK x30 (o_ e.g_ (o_ f.g_ vc)) (by
  unfold f30;simp only[w7];refine c_ ?_;refine aO e (aO f ?_);rw[A7 rfl];refine c_ ?_;apply aO e;apply bY (W l) (λ_=>True) (j0:=0) rfl (Eg _) trivial;intro j k _ i d;refine c_ ?_;by_cases a:j<W l
  .rw[aB a];refine c_ ?_;let⟨c,g⟩:=ak a;apply aJ e rfl g;rw[show q9 c=[EO DQ c.1,EO DU c.2.1,EO DU c.2.2]from rfl];refine c_ ?_;apply aJ f rfl g;rw[show q9 c=[EO DQ c.1,EO DU c.2.1,EO DU c.2.2]from rfl];refine c_ ?_;rw[Fv];refine c_ ?_;rw[aI a_];exact d a trivial
  .obtain rfl:j=W l:=a_;rw[aw (B7 _)];refine c_ ?_
   simp_all)
def RG{h:HL}{x y:TV}{l:TD}(c:q_ h x 3 q9 l)(d:q_ h y 3 q9 l)(e:W l<=1000)(a b:Int):aD cc ac 8 [.i a,.i b,.v x,.i a,.i b,.v y] (h_ aa h) [.b J] (h_ aa h):=
 xK x8 (mc (mc (o_ c.g_ (mc (mc (o_ d.g_ vc)))))) (by
  unfold f8;simp only[w7];refine c_ ?_;refine ai (eqC_c c d e) (c_ ?_)
  simp_all)
def eqN_c{h:HL}{x y:TV}{p q:TC}(d:q_ h x 1 l_ p)(k:q_ h y 1 l_ q)(t:W p<=1000):aD cc ac 67 [.v x,.v y] (h_ aa h) [.b (decide (p=q))] (h_ aa h):=
 xK x67 (o_ d.g_ (o_ k.g_ vc)) (by
  unfold f67;simp only[w7];refine c_ ?_;refine aO d (aO k ?_);by_cases f:W p=W q
  case neg=>
   rw[B3 (λe=>f (Ky e))];refine c_ ?_;rw[Ga λe=>f (congrArg List.length e)]
   simp_all
  rw[A7 (by rw[f])];refine c_ ?_;apply aO d;apply bY (W p) (λj=>∀i,i<j->p[i]?=q[i]?) (j0:=0) rfl (Eg _) (λi h=>a_);intro j s m n g;refine c_ ?_;by_cases c:j<W p
  .rw[aB c];refine c_ ?_;let⟨a,o⟩:=ak c;let⟨b,r⟩:=ak (l:=q) (i:=j) a_;apply aJ d rfl o;rw[show l_ a=[EO DQ (DO a)]from rfl];refine c_ ?_;apply aJ k rfl r;rw[show l_ b=[EO DQ (DO b)]from rfl];refine c_ ?_;by_cases e:a=b
   .rw[A7 (by rw[e])];refine c_ ?_;rw[aI a_]
    grind
   .rw[B3 (λz=>e (Ky z))];refine c_ ?_;rw[Ga λz=>e k_]
    simp_all
  .obtain rfl:j=W p:=a_;rw[aw (B7 _)];refine c_ ?_;rw[FX (Kj λi=>by grind)]
   simp_all)
def n'{h:HL}{x y:TV}{p q:TC}(d:q_ h x 1 l_ p)(e:q_ h y 1 l_ q)(f:W p<=1000)(a b c:Int):aD cc ac 66 [.i a,.i b,.i c,.v x,.i a,.i b,.i c,.v y] (h_ aa h) [.b (decide (p=q))] (h_ aa h):=
 xK x66 (mc (mc (mc (o_ d.g_ (mc (mc (mc (o_ e.g_ vc)))))))) (by
  unfold f66;simp only[w7];refine c_ ?_;refine ai (eqN_c d e f) (c_ ?_)
  simp_all)
def XB.pre{h g:HL}{x:FO}{L:List (Cl×List Nat)}(s:XB h x L)(p:xk h g):XB g x L:=by let⟨M,a,b,c⟩:=s;exact⟨M,a.pre p,b,λi m d=>(c i m d).elim λl e=>⟨l,e.1,e.2.pre p⟩⟩
structure Two(h:HL)(x y:FO)(A:TL)(p q:List (TC)):Prop where
 a:XB h x (A.zip p)
 b:XB h y (A.zip q)
 lp:p.length=A.length
 lq:q.length=A.length
 n:A.length<=1000
 np:∀l∈p,l.length<=1000
 k4:∀c∈A,c.2.2<4
def Two.pre{h h':HL}{x y:TV}{A:TL}{p q:List (TC)}(t:Two h x y A p q)(c:xk h h'):Two h' x y A p q:=⟨t.a.pre c,t.b.pre c,t.lp,t.lq,t.n,t.np,t.k4⟩
def Two.at{h:HL}{x y:TV}{A:TL}{p q:List (TC)}(t:Two h x y A p q):∃M N,q_ h x 4 Ey M/\q_ h y 4 Ey N/\M.length=W A/\N.length=W A/\∀i,i<W A->∃c u v a b,A[i]?=O c/\M[i]?=O (c,u)/\N[i]?=O (c,v)/\p[i]?=O a/\q[i]?=O b/\q_ h u 1 l_ a/\q_ h v 1 l_ b/\a.length<=1000/\c.2.2<4:=by let⟨M,C,g,D⟩:=t.a;let⟨N,E,m,F⟩:=t.b;have o:=t.lp;have r:=t.lq;rw[List.length_zip,o,Nat.min_self]at g;rw[List.length_zip,r,Nat.min_self]at m;refine⟨M,N,C,E,g,m,λi H=>?_⟩;let⟨⟨c,u⟩,j⟩:=ak (l:=M) (i:=i) a_;let⟨⟨G,v⟩,k⟩:=ak (l:=N) (i:=i) a_;let⟨a,s,w⟩:=D i _ j;let⟨b,z,B⟩:=F i _ k;let⟨d,e⟩:=qbB.1 s;let⟨f,n⟩:=qbB.1 z;simp only at d e f n;rw[d]at f;cases f;exact⟨c,u,v,a,b,d,j,k,e,n,w,B,t.np a (A9 e),t.k4 c (A9 d)⟩
abbrev cloS1:FO:=.func (.func 66) ⟨[]⟩ ⟨[]⟩
def f1{h:HL}{x y:TV}{A:TL}{p q:List (TC)}(t:Two h x y A p q):aD cc ac 37 [.v x,.v y] (h_ aa h) [.b (decide (p=q))] (h_ aa h):=by
 let⟨M,N,d,g,r,B,l⟩:=t.at;have hA:=t.n;have F:=t.lp;have G:=t.lq;have k:aD cc ac 65 [.v x,.v y,.v cloS1] (h_ aa h) [.b (decide (p=q))] (h_ aa h):=xK x65 (o_ d.g_ (o_ g.g_ (o_ rfl vc))) (by
  unfold f65;simp only[w7];refine c_ ?_;refine aO d (aO g ?_);rw[A7 (by rw[r,B])];refine c_ ?_;apply aO d;rw[r];apply bY (W A) (λj=>∀i,i<j->p[i]?=q[i]?) (j0:=0) rfl (Eg _) (λi h=>a_);intro j H o s m;refine c_ ?_;by_cases f:j<W A
  .rw[aB f];refine c_ ?_;let⟨c,u,v,a,b,I,C,D,K,L,w,z7,E,_⟩:=l j f;apply aJ d rfl C;rw[show Ey (c,u)=[EO DQ c.1,EO DQ c.2.1,EO DU (DO c.2.2),u]from rfl];refine c_ ?_;refine ab w.g_ (c_ ?_);apply aJ g rfl D;rw[show Ey (c,v)=[EO DQ c.1,EO DQ c.2.1,EO DU (DO c.2.2),v]from rfl];refine c_ ?_;refine ab z7.g_ (c_ ?_);refine gK (lJ (n' w z7 E c.1 c.2.1 (DO c.2.2)) rfl [.agg [.i DQ c.1,.i DQ c.2.1,.i DU (DO c.2.2),.v u],.agg [.i DQ c.1,.i DQ c.2.1,.i DU (DO c.2.2),.v v]] rfl rfl) (c_ ?_);by_cases e:a=b
   .rw[FX e];simp(disch:=omega)only[↓qb,Fv];rw[aI a_]
    grind
   .rw[Ga e];simp(disch:=omega)only[↓qb,GG];rw[Ga λz=>e k_]
    simp_all
  .obtain rfl:j=W A:=a_;rw[aw (B7 _)];refine c_ ?_;rw[FX (Kj λi=>by grind)]
   simp_all)
 exact xK x37 (o_ d.g_ (o_ g.g_ vc)) (by
  unfold f37;simp only[w7];refine c_ ?_;refine ai k (c_ ?_)
  simp_all)
def same_c{h:HL}{x y u v:TV}{l:TD}{A:TL}{p q:List (TC)}(t:Two h x y A p q)(f:q_ h u 3 q9 l)(g:q_ h v 3 q9 l)(m:W l<=1000)(a b c d e:Int) :
  aD cc ac 11 [.i a,.i b,.v u,.i c,.i d,.i e,.v x,.i a,.i b,.v v,.i c,.i d,.i e,.v y] (h_ aa h) [.b (decide (p=q))] (h_ aa h):=by
 let⟨M,N,j,k,_⟩:=t.at;exact xK x11 (mc (mc (o_ f.g_ (mc (mc (mc (o_ j.g_ (mc (mc (o_ g.g_ (mc (mc (mc (o_ k.g_ vc)))))))))))))) (by
  unfold f11;simp only[w7];refine c_ ?_;refine ai (RG f g m a b) (c_ ?_);refine ai (f1 t) (c_ ?_)
  simp_all)
def Vn{p q:TC}{j:Nat}{a b:Nat}(c:p[j]?=O a)(d:q[j]?=O b):Fz (p.drop j) (q.drop j)=if a=b then Fz (p.drop (j+1)) (q.drop (j+1))else if a<b then -1 else 1:=by rw[RK (ah c),RK (ah d)];rw[Gn (ah c)]at c;rw[Gn (ah d)]at d;rw[Fm c,Fm d];rfl
def slcN_c{h:HL}{x y:TV}{p q:TC}(d:q_ h x 1 l_ p)(f:q_ h y 1 l_ q)(u:W p<=1000)(s:W p=W q):aD cc ac 35 [.v x,.v y] (h_ aa h) [.i (Fz p q)] (h_ aa h):=
 xK x35 (o_ d.g_ (o_ f.g_ vc)) (by
  unfold f35;simp only[w7];refine c_ ?_;apply aO d;apply bY (W p) (λj=>Fz p q=Fz (p.drop j) (q.drop j)) (j0:=0) rfl (Eg _) rfl;intro j t g r k;refine c_ ?_;by_cases c:j<W p
  .rw[aB c];refine c_ ?_;let⟨a,n⟩:=ak c;let⟨b,o⟩:=ak (l:=q) (i:=j) a_;apply aJ d rfl n;rw[show l_ a=[EO DQ (DO a)]from rfl];refine c_ ?_;apply aO f;rw[FL (show DO j<DO (W q) from Lk.2 a_)];refine c_ ?_;apply aJ f rfl o;rw[show l_ b=[EO DQ (DO b)]from rfl];refine c_ ?_;refine am (hB (DO a) (DO b)) (c_ ?_);rw[Vn n o]at g;rw[cmpN];by_cases e:a=b
   .rw[ts a_,ts a_,A7 rfl];refine c_ ?_;rw[aI a_]
    simp_all
   .rw[ts e]at g;by_cases m:a<b
    .rw[rv m,B3 q7];refine c_ ?_
     simp_all
    .rw[ts m,rv a_,B3 q7];refine c_ ?_
     simp_all
  .obtain rfl:j=W p:=a_;rw[aw (B7 _)];refine c_ ?_;refine aO d (aO f ?_);rw[aw a_];refine c_ ?_;rw[g,qdw,s,qdw];trivial)
def cmp1_c{h:HL}{x y:TV}{p q:TC}(g:q_ h x 1 l_ p)(j:q_ h y 1 l_ q)(o:W p<=1000)(n:W p=W q){c:Cl}(f:c.2.2<4) :
  aD cc ac 32 [.i c.1,.i c.2.1,.i (DO c.2.2),.v x,.i c.1,.i c.2.1,.i (DO c.2.2),.v y] (h_ aa h) [.i (Fz p q)] (h_ aa (Nh h 1 yw [0,Fz p q])):=by
 have m:Lx c c=0:=by
  have d:=Yj c c;have r:=Yi c c
  grind
 have a:=qo f f;rw[m]at a;simp only[EB,Fe,E7]at a;obtain⟨k,b,d,rfl,rfl⟩:=x32 (ls:=[.i c.1,.i c.2.1,.i (DO c.2.2),.v x,.i c.1,.i c.2.1,.i (DO c.2.2),.v y]) (K:=λk b=>k=[.i (Fz p q)]/\b=Nh h 1 yw [0,Fz p q]) (H:=h) (mc (mc (mc (o_ g.g_ (mc (mc (mc (o_ j.g_ vc)))))))) (by
  unfold f32;simp only[w7];refine c_ ?_;refine am a (c_ ?_);refine ai (slcN_c g j o n) (c_ ?_);show P1.call 33 [.v (DW (O ⟨W h,0,O 11⟩) 2 3)] (Nh h 1 yw [0,Fz p q]) _;refine ai (or_c (l:=[0,Fz p q]) (Ri (cx:=3) (h:=h) (e:=1) (enc:=yw) (λ_=>rfl) rfl) d_) (c_ ?_);refine⟨?_,Ei⟩;simp only[Rr]
  simp_all)
 exact d
abbrev cloC1:FO:=.func (.func 32) ⟨[]⟩ ⟨[]⟩
def Vo{p q:List (TC)}{j:Nat}{a b:TC}(c:p[j]?=O a)(d:q[j]?=O b):GC (p.drop j) (q.drop j)=if Fz a b=0 then GC (p.drop (j+1)) (q.drop (j+1))else Fz a b:=by rw[RK (ah c),RK (ah d)];rw[Gn (ah c)]at c;rw[Gn (ah d)]at d;rw[Fm c,Fm d];rfl
def wi{h:HL}{x y u v:TV}(T:aH u=J)(V:aH v=J){A:TL}{p q:List (TC)}(t:Two h x y A p q)(w:∀(i:Nat) a b,p[i]?=O a->q[i]?=O b->W a=W b)(a b c d e a' B C D e':Int) :
  ∃h',aD cc ac 9 [.i a,.i b,.v u,.i c,.i d,.i e,.v x,.i a',.i B,.v v,.i C,.i D,.i e',.v y] (h_ aa h) [.i (GC p q)] (h_ aa h')/\xk h h':=by
 let⟨M,N,l,m,Y,lN,s⟩:=t.at;have hA:=t.n;have e1:=t.lp;have e2:=t.lq;obtain⟨r,h',k,rfl,S⟩:=x31 (ls:=[.v x,.v y,.v cloC1]) (K:=λr h'=>r=[.i (GC p q)]/\xk h h') (H:=h) (o_ l.g_ (o_ m.g_ (o_ rfl vc))) (by
  unfold f31;simp only[w7];refine c_ ?_;apply aO l;rw[Y];apply bo (g9:=HL) (W A) (λj _=>[.i (DO j)]) (λ_ g=>g) (λj g=>xk h g/\GC p q=GC (p.drop j) (q.drop j)) (j0:=0) (s0:=h) rfl rfl (Eg _) ⟨.refl _,rfl⟩;rintro j g hj ⟨f,E⟩ F z;refine c_ ?_;by_cases o:j<W A
  .rw[aB o];refine c_ ?_;let⟨c,u,v,a,b,z1,Z,z3,G,I,L,z7,z8,z9⟩:=s j o;apply aJ (l.pre f) rfl Z;rw[show Ey (c,u)=[EO DQ c.1,EO DQ c.2.1,EO DU (DO c.2.2),u]from rfl];refine c_ ?_;refine ab L.g_ (c_ ?_);apply aO (m.pre f);rw[FL (show DO j<DO (W N) from Lk.2 a_)];refine c_ ?_;apply aJ (m.pre f) rfl z3;rw[show Ey (c,v)=[EO DQ c.1,EO DQ c.2.1,EO DU (DO c.2.2),v]from rfl];refine c_ ?_;refine ab z7.g_ (c_ ?_);refine gK (lJ (cmp1_c (L.pre f) (z7.pre f) z8 (w j a b G I) z9) rfl [.agg [.i DQ c.1,.i DQ c.2.1,.i DU (DO c.2.2),.v u],.agg [.i DQ c.1,.i DQ c.2.1,.i DU (DO c.2.2),.v v]] rfl rfl) (c_ ?_);rw[Vo G I]at E;have R:=f.trans (Z3 g 1 yw [0,Fz a b]);by_cases e:Fz a b=0
   .rw[A7 e];refine c_ ?_;rw[aI a_]
    simp_all
   .rw[B3 e];refine c_ ?_
    simp_all
  .obtain rfl:j=W A:=a_;rw[aw (B7 _)];refine c_ ?_;refine aO (l.pre f) (aO (m.pre f) ?_);rw[aw a_];refine c_ ?_;refine⟨?_,f⟩;rw[E,u1 a_,u1 a_];rfl)
 obtain⟨r,P,X,rfl,rfl⟩:=x9 (ls:=[.i a,.i b,.v u,.i c,.i d,.i e,.v x,.i a',.i B,.v v,.i C,.i D,.i e',.v y]) (K:=λr g=>r=[.i (GC p q)]/\g=h') (H:=h) (mc (mc (o_ T (mc (mc (mc (o_ l.g_ (mc (mc (o_ V (mc (mc (mc (o_ m.g_ vc)))))))))))))) (by
  unfold f9;simp only[w7];refine c_ ?_;refine ai k (c_ ?_)
  simp_all)
 exact⟨_,X,S⟩
def hz{a b:Bool}{K:Tp}:P1.eqs [(.b a,.b b)] (@j_ _ ⟨K⟩)=K (decide (a=b)):=by cases a<;>cases b<;>rfl
def SM{c:Cl}{k:Nat}(a:c.2.2<4)(e:k<3)(d:-100000<=c.1/\c.1<=100000/\-100000<=c.2.1/\c.2.1<=100000):Cc 25 (EB c++[.i (DO k)]) (EB (E5 c (eK c.2.2 k))):=by
 let⟨x,y,q⟩:=c;simp only at a d;have b:k=0∨k=1∨k=2:=a_;rcases Gq a with rfl|rfl|rfl|rfl<;>rcases b with rfl|rfl|rfl
 all_goals
  apply q25 rfl;unfold f25;simp only[w7];simp only[EB,Fe,E7,show DO 0=(0:Int)from rfl,show DO 1=(1:Int)from rfl,show DO 2=(2:Int)from rfl,show DO 3=(3:Int)from rfl];simp(disch:=omega)only[↓qb]
  first
   |rfl
   |(simp[E5,eK];done)
   |(simp[E5,eK];omega)
def X6(k:Int)(t:Bool):∃e,Cc 29 [.i k,.b t] [.i e]/\(e=0↔¬yf k t):=by
 by_cases c:k=3
 .subst c;refine⟨1,?_,by simp[yf]⟩;apply q29 rfl;unfold f29;simp only[w7];simp(disch:=omega)only[↓qb]
 refine⟨if decide (decide (k=2) = !t)=J then 1 else 0,?_,by unfold yf;split<;>simp_all⟩;apply q29 rfl;unfold f29;simp only[w7];simp(disch:=omega)only[↓qb]
 try rw[tx c]
 refine m9 ?_;by_cases a:k=2
 .subst a
  try rw[ub rfl]
  rw[hz];cases t
  .rw[show decide (J = !U)=J from rfl];refine c_ ?_;rfl
  .rw[show decide (J = !J)=U from rfl];refine c_ ?_;rfl
 .try rw[tx a]
  rw[hz,Ga a];cases t
  .rw[show decide (U = !U)=U from rfl];refine c_ ?_;rfl
  .rw[show decide (U = !J)=J from rfl];refine c_ ?_;rfl
def l4{w v:Nat}{l:TD}{P:TH}{L:List B_}{c d:Cl}{a:Wg}(h:a∈H8 w v l P L c d):a.1∈B5 L c:=by
 let⟨n,b,h⟩:=Gv.1 h;let⟨k,_,h⟩:=Np.1 h;unfold Vx at h
 grind
def YM{w v:Nat}(h3:S3 w v){l:TD}{H:HL}{xl x:TV}(hl:q_ H xl 3 q9 l)(hv:∀c∈l,VC w v c)(b0:∀c∈l,c.2.2≠0)(R:W l<=1000){r:Mv}{k:Int}(hr:Ew k r)(hk:k<=4000){G:TH}(hG:C' w v l G){L:List B_}(hx:XB H x L)(g:NT (4*w*v) L)(b7:∀s∈L,∀n∈s.2,aq (ae (G n) r) (ra w n)=s.1) :
  ∃e h',aD cc ac 7 ([.i (.ofNat w),.i (.ofNat v),.v xl]++EG r++[.v x]) (h_ aa H) [.i e] (h_ aa h')/\xk H h'/\(e=0↔NP w v l (λn=>ae (G n) r) L):=by
 have hs:=h3.sh;let⟨b1,b2,b3,b4⟩:=h3.n;have hN:=GK hs;have hL:=g.len;let⟨M,hM,a7,hm⟩:=id hx;let⟨ce,h1,c1,ca,a8⟩:=nO h3 hl hv b0 R (r:=r) (aU hr a_);obtain⟨rfl,T,B,rfl⟩ : ce=[.v (DW (O ⟨W H,0,le 3⟩) (4*w*v) (4*w*v+1)),.i 1]/\∃T B,h1=o3 H (Fi w v G r) B T:=by
  rcases ca with⟨rfl,b6⟩|⟨G',T,bs,e1,B,e2⟩
  .exact absurd ⟨G,hG.g,hG.z⟩ b6
  .have e:Fi w v G' r=Fi w v G r:=p' λc hc=>by rw[BS hs bs hG (D2.1 hc)]
   grind
 have C:∀c,(∀n∈B5 L c,n<4*w*v)/\(B5 L c).length<=200:=λc=>by
  unfold B5;split
  next s hs=>have hm:=qcc hs;have:=mr hm;rw[g.tot]at this;exact⟨λn R=>g.lt hm R,a_⟩
  simp_all
 have ci:=x7 (ls:=[.i (.ofNat w),.i (.ofNat v),.v xl,.i (DO r.1),.i r.2.1,.i r.2.2,.v x]) (K:=λrs h'=>∃e:Int,rs=[.i e]/\xk H h'/\(e=0↔NP w v l (λn=>ae (G n) r) L)) (H:=H) (mc (mc (o_ hl.g_ (mc (mc (mc (o_ hM.g_ vc))))))) (by
  unfold f7;simp only[w7];refine c_ ?_;simp only[EG,Fe,E7]at c1;refine ai c1 (c_ ?_);have a5:q_ (o3 H (Fi w v G r) B T) (DW (O ⟨W H,0,le 3⟩) (4*w*v) (4*w*v+1)) 3 u9 (Fi w v G r):=dd cZ Z9 (by simp[Fi]);apply aO a5;rw[show(Fi w v G r).length=4*w*v by simp[Fi]];let⟨h2,c2,a9⟩:=CN h3 (hx.pre a8) g;refine ai c2 (c_ ?_);have D:=a8.trans a9;have F:=hM.pre D;have b5:=hl.pre D;have A:=a5.pre a9;have ay:∀n,n<4*w*v->Ew 30000 (ae (G n) r):=λn R=>aU (dX (hG.ok n R) hr) a_;apply bY (W L) (λ_=>True) (j0:=0) rfl (Eg _) trivial;intro i hi _ bm f;refine c_ ?_;apply aO F;rw[a7];by_cases S:i<W L
  case pos=>
   rw[aB S];refine c_ ?_;let⟨⟨c,y⟩,hy⟩:=ak (l:=M) (i:=i) a_;let⟨ly,o,V⟩:=hm i _ hy;simp only at o V;have av:=A9 o;have a6:=mr av;rw[g.tot]at a6;simp only at a6;have be:=V.g_;have bd:=V.pre D;apply bY (W ly) (λ_=>True) (j0:=0) rfl (Eg _) trivial;intro k hk _ aE E;refine c_ ?_;refine bz (cs:=[y]) F rfl hy rfl a_ (c_ ?_);refine ab be (c_ ?_);apply aO bd;by_cases I:k<W ly
   case neg=>obtain rfl:k=W ly:=a_;rw[aw (B7 _)];refine c_ ?_;rw[aI a_];exact f S trivial
   rw[aB I];refine c_ ?_;let⟨n,R⟩:=ak I;have Z:=g.lt av (A9 R);have cd:=cg hs Z;have b9:=iA (G:=G) (r:=r) Z;have bl:=ay n Z;refine bz (cs:=[y]) F rfl hy rfl a_ (c_ ?_);refine ab be (c_ ?_);apply aJ bd rfl R;rw[show l_ n=[EO DQ (DO n)]from rfl];refine c_ ?_;have k1:=ii h3 Z;have k2:=jr (m:=ae (G n) r) (c:=ra w n) bl.1 (by let⟨_,g1,g2,g3,g4,_⟩:=bl;omega) cd.2.2.2.2 a_;simp only[EB,EG,Fe,E7]at k1 k2;apply aJ A rfl b9;rw[show u9 (ae (G n) r)=[EO DU (DO (ae (G n) r).1),EO DQ (ae (G n) r).2.1,EO DQ (ae (G n) r).2.2]from rfl];refine c_ ?_;refine am k1 (c_ ?_);refine am k2 (c_ ?_);refine bz (cs:=[EO DQ c.1,EO DQ c.2.1,EO DU (DO c.2.2)]) F rfl hy rfl a_ (c_ ?_);rw[kC];rw[FX (b7 _ av n (A9 R))];simp(disch:=omega)only[↓qb,Fv];rw[aI a_]
   simp_all
  obtain rfl:i=W L:=a_;rw[aw (B7 _)];refine c_ ?_;clear f;have c3:=rG h3 b5 hv R;refine ai c3 (c_ ?_);have a4:q_ (h2++[FH (Eu w v l)]) (DW (O ⟨W h2,0,le 1⟩) (12*w*v) (12*w*v+1)) 1 H3 (Eu w v l):=dd lQ aG (by simp[Eu]);have N:xk h2 (h2++[FH (Eu w v l)]):=⟨_,rfl⟩;generalize h2++[FH (Eu w v l)]=h4 at *;have hP:∀n,n<4*w*v->(Fi w v G r)[n]?=O (ae (G n) r):=λn R=>iA R;have ad:=D.trans N
  let a0:Nat->Prop:=λj=>∀(i:Nat) s,i<j->L[i]?=O s->∀k,k<3->Cn w v l (λn=>ae (G n) r) L s.1 (E5 s.1 (eK s.1.2.2 k))
  refine bo (g9:=HL×Int) (W L) (λj t=>[.i t.2,.i (DO j)]) (λ_ t=>t.1) (λj t=>xk h4 t.1/\(t.2=0↔a0 j)) (j0:=0) (s0:=(h4,0)) rfl rfl (Eg _) ⟨.refl _,⟨λ_ i s h=>a_,λ_=>rfl⟩⟩ ?_;rintro i ⟨h,e⟩ hi ⟨b,X⟩ bm f;simp only at b X ⊢;refine c_ ?_;apply aO (F.pre (N.trans b));rw[a7];by_cases S:i<W L
  case neg=>
   obtain rfl:i=W L:=a_;rw[aw (B7 _)];refine c_ ?_;refine⟨e,rfl,ad.trans b,X.trans ⟨λhO s hs=>?_,λhF i s _ hi k hk=>hF s (A9 hi) k hk⟩⟩;let⟨i,hi⟩:=E4 hs
   grind
  rw[aB S];refine c_ ?_;let⟨⟨c,y⟩,hy⟩:=ak (l:=M) (i:=i) a_;let⟨ly,o,V⟩:=hm i _ hy;simp only at o V;let⟨o1,o2⟩:=g.rg _ (A9 o);simp only at o1 o2;refine bz (cs:=[EO DQ c.1,EO DQ c.2.1,EO DU (DO c.2.2)]) (F.pre (N.trans b)) rfl hy rfl a_ (c_ ?_);refine bo (g9:=HL×Int) 3 (λk t=>[.i t.2,.i (DO k)]) (λ_ t=>t.1) (λk t=>xk h4 t.1/\(t.2=0↔a0 i/\∀k',k'<k->Cn w v l (λn=>ae (G n) r) L c (E5 c (eK c.2.2 k')))) (j0:=0) (s0:=(h,e)) rfl rfl (Eg _) ⟨b,X.trans ⟨λh=>⟨h,λk' hk=>a_⟩,λh=>h.1⟩⟩ ?_;clear b X;rintro k ⟨h,e⟩ hk ⟨b,X⟩ aE E;simp only at b X ⊢;refine c_ ?_;by_cases I:k<3
  case neg=>
   obtain rfl:k=3:=a_;rw[s_ (show(3:Int)<=DO 3 from L_ _)];refine c_ ?_;rw[aI a_];refine f (h,e) S ⟨b,X.trans ⟨λhO j s hj hs k hk=>?_,λhO=>⟨λj s hj=>hO j s a_,λk' hk=>hO i _ a_ o k' hk⟩⟩⟩
   grind
  rw[r_ (show DO k<3 by grind)];refine c_ ?_;have c4:=SM o1 I a_;obtain⟨d,hd⟩ : ∃d,d=E5 c (eK c.2.2 k):=⟨_,rfl⟩;rw[←hd]at c4;simp only[EB,Fe,E7]at c4;refine am c4 (c_ ?_);have b8:=ad.trans b;let⟨z1,h5,m1,cb,g1,w1⟩:=Rb h3 (hx.pre b8) a_ hl.g_ (a4.pre b) (A.pre (N.trans b)) hP ay c d (C _).1 jw;have ag:=b.trans cb;let⟨z2,h6,m2,bb,g2,w2⟩:=Rb h3 (hx.pre (ad.trans ag)) a_ hl.g_ (a4.pre ag) (A.pre (N.trans ag)) hP ay d c (C _).1 jw;have p:=w1.pre bb;have bk:∀c d,W (H8 w v l (λn=>ae (G n) r) L c d)<=600:=λc d=>by have h1:=yU (w:=w) (v:=v) (l:=l) (P:=λn=>ae (G n) r) (d:=d) (Y:=B5 L c);have h2:=(C c).2;unfold H8;omega
  have l1:=bk c d;have l2:=bk d c;let⟨eX,c5,bC⟩:=S9 p w2 a_ a_;simp only[EB,Fe,E7]at m1 m2;refine ai m1 (c_ ?_);refine ai m2 (c_ ?_);refine ai c5 (c_ ?_);have ax:=ag.trans bb;rcases bC with⟨rfl,an⟩|⟨rfl,an⟩
  .rw[ub rfl];refine c_ ?_;refine⟨12,rfl,ad.trans ax,⟨λz=>a_,λhF=>absurd an ?_⟩⟩;rw[hd];exact(hF _ (A9 o) k I).1
  rw[tx q7];refine c_ ?_;have a1:∀a∈H8 w v l (λn=>ae (G n) r) L c d,a.1<4*w*v:=λa ha=>(C _).1 _ (l4 ha);obtain⟨W1,hW⟩ : ∃W1,W1=H8 w v l (λn=>ae (G n) r) L c d:=⟨_,rfl⟩;rw[←hW]at p l1 a1
  let Bd:Nat->Prop:=λj=>∃a,W1[j]?=O a/\a.2.2≠0/\Ff W1 a.2.1<DO j/\¬yf a.2.2 (decide ((ae (G a.1) r).1<4))
  refine bo (g9:=Int) (W W1) (λj t=>[.i t,.i (DO j)]) (λ_ _=>h6) (λj t=>t=0↔e=0/\∀u,u<j->¬Bd u) (j0:=0) (s0:=e) rfl rfl (Eg _) ⟨λh=>⟨h,λu h=>a_⟩,λh=>h.1⟩ ?_;intro j e' hj a2 cf al;have ck:¬Bd j->(e'=0↔e=0/\∀u,u<j+1->¬Bd u):=λhb=>a2.trans ⟨λh=>⟨h.1,λu a3=>by
   by_cases e:u=j
   .rw[e];exact hb
   .exact h.2 u a_⟩,λh=>⟨h.1,λu a3=>h.2 u a_⟩⟩
  refine c_ ?_;apply aO p;by_cases ap:j<W W1
  case neg=>
   rw[aw a_];refine c_ ?_;rw[aI a_];refine E (h6,e') I ⟨ax,a2.trans ⟨λh=>?_,λh=>⟨X.2 ⟨h.1,λk' bP=>h.2 k' a_⟩,λu a3 ⟨a,q⟩=>?_⟩⟩⟩
   .obtain⟨g1,g2⟩:=X.1 h.1;refine⟨g1,λk' bP=>?_⟩;by_cases ek:k'=k
    .rw[ek,←hd];refine⟨an,λ⟨u,a,q⟩=>h.2 u ?_ ⟨a,?_⟩⟩
     .grind
     simp_all
    grind
   .refine(h.2 k a_).2 ⟨u,a,?_⟩
    simp_all
  rw[aB ap];refine c_ ?_;let⟨a,ha⟩:=ak ap;have bt:=a1 a (A9 ha);refine bz (cs:=[EO DU a.2.2]) p rfl ha rfl a_ (c_ ?_);by_cases k0:a.2.2=0
  .rw[A7 k0];refine c_ ?_;rw[aI a_]
   grind
  rw[B3 k0];refine c_ ?_;refine ai (mt p a_ ha) (c_ ?_);by_cases kl:Ff W1 a.2.1<DO j
  case neg=>
   rw[s_ a_];refine c_ ?_;rw[aI a_]
   grind
  rw[r_ kl];refine c_ ?_;refine bz (cs:=[EO DU a.2.2]) p rfl ha rfl a_ (c_ ?_);refine bz (cs:=[EO DQ (DO a.1)]) p rfl ha rfl a_ (c_ ?_);refine bz (cs:=[EO DU (DO (ae (G a.1) r).1)]) (A.pre (N.trans ax)) rfl (hP a.1 bt) rfl a_ (c_ ?_);by_cases ht:DO (ae (G a.1) r).1<4
  case' pos=>
   rw[r_ ht];let⟨eB,cB,bn⟩:=X6 a.2.2 J;have bx:decide ((ae (G a.1) r).1<4)=J:=FX (Lk.1 ht)
  case' neg=>
   rw[s_ a_];let⟨eB,cB,bn⟩:=X6 a.2.2 U;have bx:decide ((ae (G a.1) r).1<4)=U:=Ga λz=>ht (Lk.2 z)
  all_goals
   refine am cB (c_ ?_);by_cases hB:eB=0
   .rw[ub hB];refine c_ ?_;rw[aI a_];exact al 13 ap ⟨λz=>a_,λh=>absurd ⟨a,ha,k0,kl,jw⟩ (h.2 j a_)⟩
   .rw[tx hB];refine c_ ?_;rw[aI a_]
    grind)
 grind
def Zo{h h':HL}(k:Kp h h'):xk h h':=by
 refine⟨h'.drop (W h),?_⟩;have:h'.take (W h)=h:=Kj λi=>by grind
 conv=>lhs;rw[←Xi (W h) h',this]
def zR{CR:TD}{AT:List K3}{C:Tz}{h:HL}{xc c:TV}{x:List (TC)}(g:I6 CR AT C h xc c x):XB h c (AT.zip x):=by
 let⟨L,d,_,e,f⟩:=g.st;rw[←f];refine⟨L.map λs=>(s.1,s.2.1),ls45 (Ms:=L) (i'.ls (λ_=>rfl) d),d_,λi m a=>?_⟩;rw[GL]at a;cases b:L[i]? with
 |none=>rw[b]at a;cases a
 |some s=>rw[b]at a;cases a;exact⟨s.2.2,jw,(e s (A9 b)).1.ls bc⟩
section
variable {w v:Nat} (h3:S3 w v) {l:TD} {G:TH} (hG:C' w v l G) {r:Mv} {k:Int} (hr:Ew k r) (hk:k<=4000)
include h3 hG hr hk
theorem NG{h:HL}{x y:TV}{p q:List (TC)}(e:p∈Ec (s7 (C6 w v G r)))(m:q∈Ec (s7 (C6 w v G r)))(C:XB h x (Ha w v G r p))(D:XB h y (Ha w v G r q)) :
  Two h x y (E3 (C6 w v G r)) p q/\∀(i:Nat) a b,p[i]?=O a->q[i]?=O b->W a=W b:=by
 have g:=vP e h3 hG hr hk;let⟨E,F,H,I⟩:=h3.n;have s:=Ac e;have t:=Ac m;have j:W (E3 (C6 w v G r))<=36:=by
  have:=g.len;unfold Ha at this
  grind
 refine⟨⟨C,D,s,t,a_,λa d=>?_,λc f=>?_⟩,λi a b d u=>?_⟩
 .obtain⟨i,A⟩:=E4 d;let⟨c,f⟩:=ak (l:=E3 (C6 w v G r)) (i:=i) jw;have B:(c,a)∈Ha w v G r p:=A9 (qbB.2 ⟨f,A⟩);have:=mr B;rw[g.tot]at this
  grind
 .obtain⟨n,j⟩:=I2.1 (gZ.1 f);obtain⟨_,rfl⟩:=lY.1 j;exact fi
 .obtain⟨z,o⟩:=ak (l:=s7 (C6 w v G r)) (i:=i) (by have:=ah d;have:=(dY.1 e).1;omega);rw[((dY.1 e).2 i z a o d).length_eq,((dY.1 m).2 i z b o u).length_eq]
end
def x_3:XG 3 (f3 (hA P1)):=xx i3 e3
def oX{w8 v8:Int}(b2:0<=w8/\w8<=255)(b1:0<=v8/\v8<=255){H:HL}{xf:TV}{Fl:List o1}(hF:q_ H xf 3 yr Fl)(a5:∀a∈Fl,hZ a) :
  ∃h',aD cc ac 3 [.i w8,.i v8,.v xf] (h_ aa H) [.b J] (h_ aa h'):=by
 obtain⟨w,v,rs,h1,_,C,c1,z,r,zs,l,G,Ms,j,rfl,bd,an,a8,bP,A,a4,hO⟩:=l1 (w8:=w8%3) (v8:=v8%3) ⟨a_,a_,a_⟩ ⟨a_,a_,a_⟩ hF a5;have b4:=x_3 (ls:=[.i w8,.i v8,.v xf]) (K:=λrs g=>rs=[.b J]) (H:=H) (mc (mc (o_ hF.g_ vc))) (by
  unfold f3;simp only[w7];simp(disch:=omega)only[↓DT];apply ai c1;simp(disch:=omega)only[↓DT];apply aO (hF.pre bd);by_cases h4:4<W Fl
  .rw[DY (show(4:Int)<DO (W Fl) by grind)];simp(disch:=omega)only[↓DT];apply am P4;simp(disch:=omega)only[↓DT]
  rw[A6 (show DO (W Fl)<=(4:Int)by grind)];simp(disch:=omega)only[↓DT];have F:=A.st;have kb:=Zl (show j<=4 by omega);have b3:=yL an;have I:Ew 4000 r:=aU F.rk a_;have ap:∀c∈l,c.2.2≠0:=λc hc=>(F.vk c hc).k0;have bb:=gS F.so;have x:W l<=1000:=a_;have pt:PtI w v l G:=pt_of C F.vk F.so x F.co;have f:=A.cr;have X:=t3 A.ss A.pc;let⟨ez,a0⟩:=PZ F;have a1:=a4.lys C an;generalize (Ms.map HR).map Prod.snd=x0 at *;rw[ez]at X;have u:∀ {p},p∈Hl w v l G r->p∈Ec (s7 (C6 w v G r)):=λh=>(Hs.1 h).1;let⟨b5,h2,c2,hS,bm⟩:=zS pt I f;obtain⟨y0,Y⟩ : ∃y0,(Hl w v l G r).head? = O y0:=by
   cases he:Hl w v l G r with
   |nil=>simp_all
   |cons a _=>exact⟨a,rfl⟩
  rw[Y]at hS;obtain⟨xc,sv,rfl,ho⟩:=hS;have a2:y0∈Hl w v l G r:=List.mem_of_mem_head? Y;have B:=u a2;apply ai c2;simp(disch:=omega)only[↓DT];have be:=Zo bm;have Z:=i'.ls (e:=3) (enc:=q9) (λ_=>rfl) ho.xo;have a3:=zR ho;let⟨e,h5,c3,S,he⟩:=YM C Z (λc hc=>(F.vk c hc).1) ap x I (L_ _) F.co a3 (vP B C F.co I (L_ _)) (vO B);obtain rfl:e=0:=he.2 ((YT B C F.co I (L_ _) ap bb).2 a2);simp only[EG,Fe,E7]at c3;apply ai c3;simp(disch:=omega)only[↓DT,Fv];have n:=be.trans S;apply ai (RG (Z.pre S) (f.pre n) x _ _);simp(disch:=omega)only[↓DT,Fv];let⟨t1,t2⟩:=NG C F.co I (L_ _) B a0 (a3.pre S) (X.pre n);let⟨h6,c4,bk⟩:=wi (Z.g_) (f.g_) t1 t2 (DO w) (DO v) (DO r.1) r.2.1 r.2.2 (DO w) (DO v) (DO r.1) r.2.1 r.2.2;apply ai c4;simp(disch:=omega)only[↓DT];have a9:=hR P_ Y a1;rw[A6 a9];simp(disch:=omega)only[↓DT];have E:=n.trans bk;let⟨b6,h7,c5,_,hA,bn⟩:=allP_c pt I 50 (f.pre E);obtain⟨xo,T,rfl,a6,_,hT,ad⟩:=hA ⟨a_,a_⟩;apply ai c5;simp(disch:=omega)only[↓DT]
  have av:=E.trans (Zo bn);have R:=i'.ls (e:=7) (enc:=yu w v r.1 r.2.1 r.2.2) (λ_=>rfl) a6;rw[show(50:Int).toNat=50 from rfl]at hT;have bC:W T=W ((Hl w v l G r).take 50):=jw;have bs:0<W T:=by grind
  have bx:W T<=50:=jw;apply aO R;rw[tx (show ¬DO (W T)=0 by grind)];simp(disch:=omega)only[↓DT];apply aO R;have al:∀K:Bool->Prop,K (decide (W T=50))->P1.cmp .eql (DO (W T)) 50 (@j_ _ ⟨K⟩):=λK hK=>by
   by_cases e:W T=50
   .rw[ub (show DO (W T)=50 by rw[e];rfl),←FX e];exact hK
   .rw[tx (show ¬DO (W T)=50 by grind),←Ga e];exact hK
  apply al _;have D:∀ {i:Nat} {t:T7},T[i]?=O t->t.2.2∈Hl w v l G r:=λ{i t} ht=>by
   have:t.2.2∈T.map λt=>t.2.2:=Ed.2 ⟨t,A9 ht,rfl⟩
   grind
  refine bo (g9:=HL×Bool) (W T) (λj t=>[.b t.2,.i (DO j)]) (λ_ t=>t.1) (λj t=>xk h7 t.1/\(t.2=J↔T.length=50∨∃(i:Nat) (s:T7),i<j/\T[i]?=O s/\s.2.2=x0)) (j0:=0) (s0:=(h7,decide (W T=50))) rfl rfl (Eg _) ⟨.refl _,⟨λh=>.inl (of_decide_eq_true h),λh=>h.elim (λe=>FX e) λ⟨i,s,hi,_⟩=>a_⟩⟩ ?_;rintro i ⟨g,b⟩ hi ⟨q,hb⟩ bt o;simp only at q hb ⊢;simp(disch:=omega)only[↓DT];have hX:=R.pre q;apply aO hX;by_cases m:i<W T
  case neg=>
   obtain rfl:i=W T:=a_;rw[aw (B7 _)];simp(disch:=omega)only[↓DT];have a7:b=J:=hb.2 (by
    by_cases e:W T=50
    .exact .inl e
    .have hm:x0∈T.map λt=>t.2.2:=by
      rw[hT,K5]
      .exact a1
      grind
     let⟨s,hs,e2⟩:=Ed.1 hm;let⟨i,hi⟩:=E4 hs
     grind)
   subst a7;refine c_ ?_;apply am P4;simp(disch:=omega)only[↓qb]
  rw[aB m];simp(disch:=omega)only[↓DT];let⟨s,hs⟩:=ak m;have ax:=D hs;have aE:=ad s (A9 hs);have y:=(i'.ls (e:=3) (enc:=q9) (λ_=>rfl) aE.xo);have d:=zR aE;refine di (λls g'=>∃b',ls=[.b b']/\g'=g/\(b'=J↔T.length=50∨∃(k:Nat) (s:T7),k<i+1/\T[k]?=O s/\s.2.2=x0)) ?_ ?_
  case _=>
   rintro ls g' ⟨b',rfl,rfl,ag⟩;simp(disch:=omega)only[↓DT];by_cases h0:0<i
   case neg=>obtain rfl:i=0:=a_;rw[A6 (show DO 0<=0 from L_ _)];simp(disch:=omega)only[↓DT];rw[aI a_];exact o (g',b') m ⟨q,ag⟩
   rw[DY (show(0:Int)<DO i from Lk.2 h0)];simp(disch:=omega)only[↓DT];rw[ko a_ a_]
   try simp(disch:=omega)only[↓DT]
   let⟨s',V⟩:=ak (l:=T) (i:=i-1) a_;have N:=ad s' (A9 V);have L:=(i'.ls (e:=3) (enc:=q9) (λ_=>rfl) N.xo);have P:=zR N;have ay:=D V;apply aJ hX rfl V;rw[show yu w v r.1 r.2.1 r.2.2 s'=[EO DQ (DO w),EO DQ (DO v),s'.1,EO DU (DO r.1),EO DQ r.2.1,EO DQ r.2.2,s'.2.1]from rfl];simp(disch:=omega)only[↓DT];apply ab L.g_;simp(disch:=omega)only[↓DT];refine ab (by let⟨M,hM,_⟩:=P;exact hM.g_) ?_;simp(disch:=omega)only[↓DT];apply aJ hX rfl hs;rw[show yu w v r.1 r.2.1 r.2.2 s=[EO DQ (DO w),EO DQ (DO v),s.1,EO DU (DO r.1),EO DQ r.2.1,EO DQ r.2.2,s.2.1]from rfl];simp(disch:=omega)only[↓DT];apply ab y.g_;simp(disch:=omega)only[↓DT];refine ab (by let⟨M,hM,_⟩:=d;exact hM.g_) ?_;simp(disch:=omega)only[↓DT];let⟨u1,u2⟩:=NG C F.co I (L_ _) (u ay) (u ax) (P.pre q) (d.pre q);let⟨h8,c6,bl⟩:=wi L.g_ y.g_ u1 u2 (DO w) (DO v) (DO r.1) r.2.1 r.2.2 (DO w) (DO v) (DO r.1) r.2.1 r.2.2;have b0:GC s'.2.2 s.2.2<0:=by
    have h1:=P_ (w:=w) (v:=v) (l:=l) (G:=G) (r:=r);have h2:=h1.sublist (List.take_sublist 50 (Hl w v l G r));rw[←hT,KZ]at h2;have:=Ki.1 h2 (i-1) i a_ m a_
    grind
   refine ai c6 (c_ ?_);rw[aI a_];exact o (h8,b') m ⟨q.trans bl,ag⟩
  intro jn a8;cases b with
  |true=>
   simp(disch:=omega)only[↓DT]
   grind
  |false=>
   simp(disch:=omega)only[↓DT];apply aJ hX rfl hs;rw[show yu w v r.1 r.2.1 r.2.2 s=[EO DQ (DO w),EO DQ (DO v),s.1,EO DU (DO r.1),EO DQ r.2.1,EO DQ r.2.2,s.2.1]from rfl];simp(disch:=omega)only[↓DT];apply ab y.g_;simp(disch:=omega)only[↓DT];refine ab (by let⟨M,hM,_⟩:=d;exact hM.g_) ?_;simp(disch:=omega)only[↓DT];let⟨u1,_⟩:=NG C F.co I (L_ _) (u ax) a0 (d.pre q) (X.pre (av.trans q));apply ai (same_c u1 (y.pre q) (f.pre (av.trans q)) x _ _ _ _ _);simp(disch:=omega)only[↓DT]
   grind)
 simp_all
end Go.Am
namespace Go.Am
namespace Sx
def vZ{j7:Type}{ks:TK}{enc:j7->Tn}{ok:j7->Prop}(d:∀cs,EI ks cs->∃a,enc a=cs/\ok a):∀(n:Nat) (c:Tn),W c=n*W ks->(∀i,i<n->EI ks ((c.drop (i*W ks)).take (W ks)))->∃l:List j7,W l=n/\l.flatMap enc=c/\∀a∈l,ok a
 |0,c,g,_=>⟨[],rfl,by simp_all,λ_ h=>by cases h⟩
 |n+1,c,g,e=>by
  obtain⟨a,h1,j⟩:=d _ (by have:=e 0 a_;rw[ag,an]at this;exact this);obtain⟨l,f,k,m⟩:=vZ d n (c.drop (W ks)) jw (λi p=>by
   have:=e (i+1) a_;rw[qco]
   grind)
  refine⟨a::l,by simp[f],?_,λb o=>?_⟩
  .simp_all
  grind
def ls_of{j7:Type}{ks:TK}{enc:j7->Tn}{ok:j7->Prop}(c:∀a,W (enc a)=W ks)(d:∀cs,EI ks cs->∃a,enc a=cs/\ok a){h:HL}{x:TV}{n:Nat}{b:Tn}(f:Ip h x (W ks) n b)(k:∀i,i<n->EI ks ((b.drop (i*W ks)).take (W ks))) :
  ∃l:List j7,q_ h x (W ks) enc l/\l.length=n/\∀a∈l,ok a:=by
 let⟨l,e,g,j⟩:=vZ d n b f.1 k;refine⟨l,⟨λa _=>c a,?_⟩,e,j⟩;rw[e,g];exact f
def bH.i{h:HL}{k:TN}{ks:List GX}{ls:TG}(a:bH h (.i k::ks) ls):∃n r,ls = .i n::r/\(Lit.int k n).wf=J/\bH h ks r:=by
 match ls,a with
 | .i n::r,a=>exact⟨n,r,rfl,a.1,a.2⟩
def bH.s{h:HL}{b:TK}{ks:List GX}{ls:TG}(c:bH h (.s b::ks) ls):∃x r n a,ls = .v x::r/\Ip h x (W b) n a/\n<=maxLen/\(∀i,i<n->EI b ((a.drop (i*W b)).take (W b)))/\bH h ks r:=by
 match ls,c with
 | .v x::r,⟨⟨n,a,d,e,f⟩,g⟩=>grind
def bH.nil{h:HL}{ls:TG}(a:bH h [] ls):ls=[]:=by
 match ls,a with
 | [],_=>rfl
def hp_at(a:List Hf):zv (a.map λb=>HO.o b.1) 0 a:=λi b c=>by simp_all
def absH_bl(T:Tv)(a:List Hf):h_ T (a.map λb=>HO.o b.1)=a.map (·.1):=by
 induction a with
 |nil=>rfl
 |cons b l c=>show G0 T (.o b.1)::h_ T (l.map λb=>HO.o b.1)=_;rw[c];rfl
end Sx
end Go.Am
namespace Go.Am
open Sx Go.Proofs
def dec8F(cs:Tn)(h:EI [.i DU,.i DU,.i DU] cs):∃a:o1,yr a=cs/\hZ a:=by
 obtain⟨d,e,f,rfl⟩ : ∃d e f,cs=[d,e,f]:=by
  have o:=EI.len h
  match cs,o with
  | [d,e,f],_=>simp_all
 obtain⟨⟨a,rfl,l⟩,⟨b,rfl,m⟩,⟨c,rfl,n⟩,_⟩:=h;have g:=xT l;have j:=xT m;have k:=xT n;exact⟨(a,b,c),rfl,g.1,g.2,j.1,j.2,k.1,k.2⟩
def lm(ls:TG)(h:HL)(a:bH h [.i DU,.i DU,.s [.i DU,.i DU,.i DU]] ls):∃h',aD cc ac 3 ls (h_ aa h) [.b J] (h_ aa h'):=by obtain⟨w,ls,rfl,k,a⟩:=a.i;obtain⟨v,ls,rfl,j,a⟩:=a.i;obtain⟨s,ls,n,c,rfl,d,_,e,a⟩:=a.s;obtain rfl:=a.nil;let⟨l,g,_,f⟩:=ls_of (enc:=yr) (ok:=hZ) (λ_=>rfl) dec8F d e;exact oX (xT k) (xT j) g f
end Go.Am
namespace Go.Proofs.YtekebdoegplamaaGreatDoor
open Go Go.Am Go.Am.Sx
open Go.ChangeShapes Go.WideShapes Go.ChangeAt Go.WideMaps Go.WideElems Go.RowKit
abbrev LS:List (String×FU Unit):= [("crimp/moves.turns",Rows.laid_crimp_moves_turns), ("crimp/cells.quarters",Rows.laid_crimp_cells_quarters)]
def name1 : Tryz.prog.globalNamed "crimp/moves.turns" = O 1:=e_
def name0 : Tryz.prog.globalNamed "crimp/cells.quarters" = O 0:=e_
def of_laid{DJ:TX}(h:laidMetH Tryz.prog LS DJ):∃_:Unit,∀(g:Nat) (vs:Tn),cc.G g=O vs->
  GA g<DJ.heap.size/\vs.all bj=J/\∃c e fr,DJ.heap[GA g]?=O (.cells c e fr)/\cF (λ_=>Q) vs c (H4 g):=by
 rw[MakeChecks.laidMetH_plain _ _ _ e_]at h;let⟨d,h,_,_⟩:=h;refine⟨(),λg vs b=>?_⟩;have a:=A0 g vs b;unfold cc at b;simp only at b;split at b
 .cases b;exact wF e_ a e_ (sM h "crimp/moves.turns" Rows.laid_crimp_moves_turns MA 1 229 8 gl1 name1 e_ e_)
 .cases b;exact wF e_ a e_ (sM h "crimp/cells.quarters" Rows.laid_crimp_cells_quarters (G_ _ MA) 0 204 8 gl0 name0 e_ e_)
 .cases b
def own:ownKnob Tryz.prog.godebug=Q:=e_
def Yx(os:Os)(args:Tl):laidMetH Tryz.prog LS ((World.doorLaid Tryz.prog 400 os).forCall (λ_ _=>0) ⟨#[],args,[]⟩).memory:=
 laidMetH_of_parts3 (fuel:=8) (laidMet_of_run' 8 e_ e_) e_ e_
end Go.Proofs.YtekebdoegplamaaGreatDoor
end

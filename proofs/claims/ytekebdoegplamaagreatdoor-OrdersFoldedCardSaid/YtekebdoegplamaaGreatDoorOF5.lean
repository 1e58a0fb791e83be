import Derived.Test.YtekebdoegplamaaGreatDoorOF4
import Derived.LaidMore
import Derived.MakeChecks
import Derived.OpenShut
import Derived.ProofKit
import Derived.Stop.Joined
import Derived.Test.YtekebdoegplamaaGreatDoorRows
import GoSem.ClaimJoined
set_option linter.all false
noncomputable section
set_option maxRecDepth 100000
set_option maxHeartbeats 16000000
open Option renaming some->O,none->Q
open Bool renaming true->J,false->U
open List renaming length->W,range->EW
open Int renaming ofNat->DO
open Go.Value renaming int->EO,slice->DW,pointer->EQ,agg->EU
open Go.IntKind renaming i64->DQ,u8->DU
open Go renaming Value->FO,Oper->FQ,DataW->FU,BinOp->GO,MemPlace->GW
open Go.Am.wa renaming cells->EJ
namespace Go.Am
theorem q7{p:Prop}(h:p:=by decide):p:=h
theorem e_{p:Prop}(h:p:=by kernel_rfl):p:=h
namespace Sx
def Hh(b_:TC)(a:Tg)(o:FQ):TC:=(dz b_ o).1.flatMap λx=>D9 (dz b_ o).2 (a x)
def NM(b_:TC)(a:Tg)(o:FQ):TC:=(fD b_ o).flatMap λx=>E' (a x)
def pB(N:Tc)(b_:TC)(o:FQ):Bool:=
 match aC N b_ o with
 |O .hw=>(match o.op with
  | .call c=>(match c.callee with
   | .builtin _=>J
   |_=>U)
  |_=>J)
 |O .hr=>(match o.op with
  | .call c=>(match c.callee with
   | .builtin _=>J
   |_=>U)
  |_=>J)
 |O _=>J
 |Q=>U
def dO{C:p_}{a:Tg}{o:FQ}{e:FY}(h:cN C a o=O e):∃v,e = .val v:=by
 unfold cN at h
 grind
def dW{x:Tk}{e:FY}(h:x.map FY.val=O e):∃v,e = .val v:=by obtain⟨v,_,rfl⟩:=FD.1 h;exact⟨v,rfl⟩
def Z6{a:Tk}{b:Option FY}{e:FY}(c:b=O e->∃v,e = .val v)(h:rj a b=O e):∃v,e = .val v:=by
 unfold rj at h
 grind
def LocE(li a:Prop)(F DJ:TC):FY->Prop
 | .Iy f=>∀H,Im a F DJ f H
 | .Hj f=>∀H,LocG F f H
 | .call _ _=>li
 | .yield _ _=>li
 |_=>True
def ch{li a:Prop}{F DJ:TC}{e:FY}(h:∃v,e = .val v):LocE li a F DJ e:=by obtain⟨v,rfl⟩:=h;trivial
def kX{v:TV}{p:Nat×Nat}(h:jq v=O p):E' v=[p.1]:=by
 unfold jq at h;split at h
 next a=>
  split at h
  next c=>
   cases h;cases b:a.spot with
   |none=>simp[E',b]
   |some k=>simp_all
  .cases h
 .cases h
def AS{li c:Prop}{C:p_}{b_:TC}{d:Tq}{t:TS}{v:TV}{e:FY}{F DJ:TC}(a:∀x,d=O x->b_.getD x 0≠x+2->c)(h:cM C b_ d t v=O e):LocE li c F DJ e:=by
 unfold cM at h;split at h
 .cases h
 .split at h
  .cases h
  .split at h
   .cases h
   .split at h
    .cases h;trivial
    next b=>cases h;exact λH=>yR (a _ rfl b) (.cells v.cells.toList (nV C.P t) J) (λn=>EQ (O ⟨n,0,Q⟩)) rfl .ptr
def TY{C:p_}{b_:TC}{u:Tg}{o:FQ}{e:FY}(g:aA C b_ u o=O e):LocE (∃c f,o.op = .call c/\c.callee = .value f) (dJ b_ o=J) (Hh b_ u o) (NM b_ u o) e:=by
 unfold aA at g;split at g
 .cases g;trivial
 .cases g;trivial
 .split at g
  .cases g;trivial
  .cases g
 next t h=>
  let⟨z,_,g⟩:=GY.1 g;exact AS (λx F D=>by simp only[dJ,h,F];cases R:Nat.beq (b_.getD x 0) (x+2)with
   |false=>rfl
   |true=>simp_all) g
 next t x h=>
  exact AS (λx F D=>by simp only[dJ,h,F];cases R:Nat.beq (b_.getD x 0) (x+2)with
   |false=>rfl
   |true=>simp_all) g
 .split at g
  .exact ch (dW g)
  .cases g
 next t n ps h=>
  split at g
  .obtain⟨r,_,rfl⟩:=FD.1 g;exact λH=>yR (by simp only[dJ,h]) (.cells r.2 r.1 J) (λk=>DW (O ⟨k,0,le r.1⟩) n (n+1)) rfl (.slice _ _ _)
  .cases g
 next t a h=>
  unfold ey at g;split at g
  next G=>
   split at g
   next p D=>
    cases g;intro H v E N K;let⟨S,B,L⟩:=GY.1 E;have M:p.1∈Hh b_ u o:=by simp[Hh,dz,D9,h,G,kX D]
    refine GY.2 ⟨S,?_,L⟩;unfold gw at B ⊢;split at B
    next j_=>cases B;rw[gX K M j_]
    .cases B
   .obtain⟨p,_,rfl⟩:=FD.1 g;exact λH v E N _=>E
  .obtain⟨p,_,g⟩:=GY.1 g;exact ch (dW g)
  .obtain⟨p,_,rfl⟩:=FD.1 g;trivial
 next t a x h=>
  unfold fC at g;split at g
  .cases g
  .split at g
   next G=>obtain⟨p,D,rfl⟩:=FD.1 g;exact λH=>Vu (by simp[Hh,dz,D9,h,G,kX D]) (by simp[NM,fD,h,G,kX D])
   .cases g
   .obtain⟨p,_,rfl⟩:=FD.1 g;trivial
 .split at g<;>cases g<;>trivial
 .split at g
  .split at g
   .split at g
    .cases g;trivial
    .cases g
   .exact ch (dO g)
  .split at g
   .split at g
    .cases g;trivial
    .cases g
   .exact ch (dO g)
  .exact ch (dO g)
 .split at g
  .cases g
  .cases g;trivial
 next t r h=>
  split at g
  .cases g;exact λH=>yR (by simp only[dJ,h]) (.map [] 0) (λn=>.map (O n)) rfl .map
  .cases g
 next t l c h=>cases g;exact λH=>ZI (by simp only[dJ,h])
 next t x X T Y h=>
  split at g
  next a F=>
   split at g
   .exact ch (dW g)
   .cases g;exact λH=>gv λr i=>by simp[Hh,dz,D9,adrP,h,F];exact i
  .exact ch (Z6 dO g)
 .exact ch (dW g)
 .exact ch (dW g)
 .exact ch (dW g)
 .exact ch (dW g)
 next t m k Z h=>
  split at g
  .exact ch (dW g)
  .cases g;exact λH=>CT λr i=>by simp[Hh,dz,D9,h];exact i
 next t m k v h=>cases g;exact λH=>sO λr i=>⟨by simp[Hh,dz,D9,h];exact i,by simp[NM,fD,h];exact i⟩
 next t m k v h=>cases g;exact λH=>sO λr i=>⟨by simp[Hh,dz,D9,h];exact i,by simp[NM,fD,h];exact i⟩
 next t m k h=>cases g;exact λH=>Vt λr i=>⟨by simp[Hh,dz,D9,h];exact i,by simp[NM,fD,h];exact i⟩
 next t m s v h=>cases g;exact λH=>CS λr i=>⟨by simp[Hh,dz,D9,h];exact i,by simp[NM,fD,h];exact i⟩
 .split at g
  .split at g
   .cases g
   .exact ch (dW g)
  .cases g
 next c h=>
  unfold ig at g;simp only at g;cases j:c.callee with
  |invoke r m=>simp_all
  |builtin b=>
   simp only[j]at g;unfold ba at g;split at g
   next s x t y I=>
    split at g
    .cases g
    .cases g;have w:∃a b,c.args.toList=[a,b]/\u a=s/\u b=x:=by
      match c.args.toList,y with
      | [a,b],y=>grind
     obtain⟨a,b,q,rfl,rfl⟩:=w;exact λH=>CP (by simp only[dJ,h,j]) (λr i=>⟨by simp[Hh,dz,D9,h,j,q,i],by simp[NM,fD,h,j,q,i]⟩) λr i=>by simp[Hh,dz,D9,h,j,q,i]
   next x t y I=>
    split at g
    .cases g;trivial
    next id V=>
     cases g;have A:∃a,c.args.toList=[a]/\u a = .map (O id):=by simp_all
     let⟨a,q,P⟩:=A;intro H v E N K;let⟨p,B,L⟩:=FD.1 E;have M:id∈Hh b_ u o:=by simp[Hh,dz,D9,adrM,h,j,q,P]
     exact FD.2 ⟨p,(iR K M B).2,L⟩
    .cases g;trivial
    .exact ch (dO g)
   .split at g
    .cases g;trivial
    .cases g;trivial
    .cases g;trivial
    .cases g
   next d x t y I=>
    cases g;have w:∃a b,c.args.toList=[a,b]/\u a=d/\u b=x:=by
     match c.args.toList,y with
     | [a,b],y=>grind
    obtain⟨a,b,q,rfl,rfl⟩:=w;exact λH=>ZH (λr i=>⟨by simp[Hh,dz,D9,h,j,q,i],by simp[NM,fD,h,j,q,i]⟩) λr i=>by simp[Hh,dz,D9,h,j,q,i]
   next m k t y I=>
    cases g;have w:∃a b,c.args.toList=[a,b]/\u a=m/\u b=k:=by
     match c.args.toList,y with
     | [a,b],y=>grind
    obtain⟨a,b,q,rfl,rfl⟩:=w;exact λH=>CQ λr i=>⟨by simp[Hh,dz,D9,h,j,q,i],by simp[NM,fD,h,j,q,i]⟩
   next x t y I=>
    cases g;have A:∃a,c.args.toList=[a]/\u a=x:=by simp_all
    obtain⟨a,q,rfl⟩:=A;exact λH=>Vs λr i=>⟨by simp[Hh,dz,D9,h,j,q,i],by simp[NM,fD,h,j,q,i]⟩
   .exact ch (dO g)
  |value f=>
   simp only[j]at g;split at g
   .cases g
   .split at g
    .split at g
     .cases g;exact⟨c,f,h,j⟩
     .cases g
    .split at g
     .cases g;exact⟨c,f,h,j⟩
     .cases g
    .cases g
 .exact ch (dO g)
 .exact ch (dO g)
 .cases g
section
variable [El] {C:p_} {B:Below} {N:Tc} {b_:TC} {ops:To}
def tJ(N:Tc)(b_:TC)(ops:To)(o:FQ)(g9 j8:St):Prop:=
 (∀t∈bq ops o,j8.tmps[t]?=g9.tmps[t]?)/\(match aC N b_ o with
 |O (.row s _)=>j8.loc[s]?=g9.loc[s]?
 |_=>True)/\kQ (Hh b_ (ka g9.tmps) o) g9.heap j8.heap
def fR(dst:Tq)(e:EX)(rw:Option (Nat×Option (Tn)))(k:Ts)(j8:St):St:=
 ({ tmps:=j8.tmps,loc:=(match rw with|O p=>j8.loc.set p.1 p.2|Q=>j8.loc),heap:=(match k with
  |Q=>e.heap j8.heap
  |O k=>match e.push with
   |O p=>(e.put j8.heap).set k p.1
   |Q=>e.put j8.heap) }:St).put dst (match k with
  |Q=>e.val (W j8.heap)
  |O k=>e.val k)
def Vv(Z:FM N B){i:Nat}{o:FQ}(P:ops[i]?=O o)(y:pB N b_ o=J){g9 F:St}(t:ar C B b_ ops i g9 F) :
  ∃(e:EX) (rw:Option (Nat×Option (Tn))),F=fR o.dst e rw Q g9/\(∀p,rw=O p->aC N b_ o=O (.row p.1 J))/\(e.push≠Q->aC N b_ o=O .hw)/\
   (∀p,e.set=O p->p.1∈NM b_ (ka g9.tmps) o/\∃x,g9.heap[p.1]?=O x/\x.alive=J)/\(∀p,e.push=O p->dJ b_ o=J/\Fp p.2/\p.1.alive=J)/\
   ∀j8,tJ N b_ ops o g9 j8->∀n:Nat->Option Nat,
    (e.push=Q->n i=Q->eN C B b_ ops n i j8 (fR o.dst e rw Q j8))/\
    (∀p k,e.push=O p->n i=O k->(e.put j8.heap)[k]?=O .dead->eN C B b_ ops n i j8 (fR o.dst e rw (O k) j8)):=by
 have E:aC N b_ o≠Q:=by intro h;unfold pB at y;rw[h]at y;cases y
 by_cases M:aC N b_ o=O .hr∨aC N b_ o=O .hw
 case neg=>
  let⟨e,I,K,L⟩:=jM Z P E t;have hh:e.hp=Q:=by
   cases z:e.hp with
   |none=>rfl
   |some x=>exact absurd (.inr (K.2 (by rw[z];simp))) M
  have A:∀j8,e.on o.dst j8=fR o.dst ⟨Q,Q,e.v⟩ e.rw Q j8:=λj8=>by unfold Ef.on fR;rw[hh];rfl
  refine⟨⟨Q,Q,e.v⟩,e.rw,by rw[I,A],K.1,λh=>absurd rfl h,λp b=>(by cases b),λp b=>(by cases b),λj8 d n=>⟨λ_ m=>?_,λp k b=>(by cases b)⟩⟩;unfold eN;rw[m];rw[←A];refine L j8 ⟨d.1,?_⟩;have:=d.2.1
  grind
 case pos=>
  unfold ar at t;simp only[P]at t;have DP:∀j8,tJ N b_ ops o g9 j8->cE ops j8.tmps o=cE ops g9.tmps o:=λj8 d=>zV d.1;have val:∀v:FO,F=g9.put o.dst v->(∀j8,tJ N b_ ops o g9 j8->ar C B b_ ops i j8 (j8.put o.dst v))->
    ∃(e:EX) (rw:Option (Nat×Option (Tn))),F=fR o.dst e rw Q g9/\(∀p,rw=O p->aC N b_ o=O (.row p.1 J))/\(e.push≠Q->aC N b_ o=O .hw)/\
     (∀p,e.set=O p->p.1∈NM b_ (ka g9.tmps) o/\∃x,g9.heap[p.1]?=O x/\x.alive=J)/\(∀p,e.push=O p->dJ b_ o=J/\Fp p.2/\p.1.alive=J)/\
     ∀j8,tJ N b_ ops o g9 j8->∀n:Nat->Option Nat,
      (e.push=Q->n i=Q->eN C B b_ ops n i j8 (fR o.dst e rw Q j8))/\
      (∀p k,e.push=O p->n i=O k->(e.put j8.heap)[k]?=O .dead->eN C B b_ ops n i j8 (fR o.dst e rw (O k) j8)):=by
   intro v u h;refine⟨⟨Q,Q,v⟩,Q,u,λp b=>(by cases b),λh=>absurd rfl h,λp b=>(by cases b),λp b=>(by cases b),λj8 d n=>⟨λ_ m=>?_,λp k b=>(by cases b)⟩⟩;unfold eN;rw[m];exact h j8 d
  split at t
  .exact t.elim
  next hw=>
   refine val undef t λj8 d=>?_;unfold ar
   simp_all
  next hw=>
   have step:∀ {j8 G:St},tJ N b_ ops o g9 j8->((∃e,aA C b_ (ka j8.tmps) o=O e/\oz B e o.dst j8 G)∨(∃v,oP C j8.tmps o v/\G=j8.put o.dst v))->ar C B b_ ops i j8 G:=by
    intro j8 G d h;unfold ar
    simp_all
   rcases t with⟨e,z,R⟩|⟨v,u,rfl⟩
   .have H:∀j8,tJ N b_ ops o g9 j8->aA C b_ (ka j8.tmps) o=O e:=λj8 d=>by rw[qy N b_ E (Bs d.1)];exact z
    have a:=jp (N:=N) (λ_=>rfl) E z;have j:=TY z;cases e with
    |val v=>obtain⟨p,b,rfl⟩:=R;cases b;exact val v rfl λj8 d=>step d (.inl ⟨_,H j8 d,_,rfl,rfl⟩)
    |H6 s vs=>
     have a:aC N b_ o=O (.row s J):=a
     simp_all
    |KR s f=>
     have a:aC N b_ o=O (.row s U):=a
     simp_all
    |H7 s f=>
     have a:aC N b_ o=O (.row s J):=a
     simp_all
    |Hj f=>obtain⟨p,b,rfl⟩:=R;simp only[aZ]at b;obtain⟨v,u,rfl⟩:=FD.1 b;refine val v rfl λj8 d=>step d (.inl ⟨_,H j8 d,(j8,v),?_,rfl⟩);simp only[aZ,j _ _ u _ d.2.2,G9]
    |Iy f=>
     obtain⟨p,b,rfl⟩:=R;simp only[aZ]at b;obtain⟨q,u,rfl⟩:=FD.1 b;let⟨e,l1,l2,l3,S,T⟩:=j g9.heap q.1 q.2 u;refine⟨e,Q,?_,λp b=>(by cases b),λ_=>a,l3,S,λj8 d n=>⟨λb m=>?_,λp k b m hd=>?_⟩⟩
     .unfold fR;rw[l1,l2]
     .unfold eN;rw[m];exact step d (.inl ⟨_,H j8 d,({ j8 with heap:=e.heap j8.heap },e.val (W j8.heap)),by simp only[aZ,T _ d.2.2,G9],rfl⟩)
     .unfold eN;rw[m];refine⟨o,f,e.put j8.heap,p.1,p.2,P,k_,H j8 d,?_,?_,hd,(S p b).2.1,?_⟩
      .rw[T _ d.2.2];unfold EX.heap EX.val;rw[b]
      .unfold EX.put;split<;>simp
      .unfold fR EX.val;rw[b]
    |call f r=>
     exfalso;have a:(aC N b_ o=O (.neu f)/\N f=O (2*W r))∨(aC N b_ o=O .hr/\N f=O (2*W r+1))∨aC N b_ o=O .hw:=a;rcases a with⟨h,_⟩|⟨h,_⟩|h
     .simp_all
     .obtain⟨c,g,V,X⟩:=j;unfold pB at y
      simp_all
     .obtain⟨c,g,V,X⟩:=j;unfold pB at y
      simp_all
    |yield l r=>
     exfalso;have a:aC N b_ o=O .hw:=a;let⟨c,g,V,X⟩:=j;unfold pB at y
     simp_all
   .refine val v rfl λj8 d=>step d (.inr ⟨v,?_,rfl⟩);let⟨I,K,L,Y⟩:=u;have D:=Bs d.1;refine⟨I,?_,L,λw=>?_⟩
    .simp_all
    .rw[execOp_congr N b_ E (u0:=λx=>GE (ka g9.tmps x)) λx hx=>by rw[D x hx]];exact Y w
end
end Sx
namespace Sx
section
variable [El] {C:p_} {B:Below} {N:Tc} {b_:TC} {ops:To}
def GH(S:Nat->St->St->Prop):TC->St->St->Prop
 | [],g9,a=>a=g9
 |i::l,g9,a=>∃j9,S i g9 j9/\GH S l j9 a
def qY{S:Nat->St->St->Prop}{i:Nat}{post:TC}:∀(pre:TC),(∀k∈pre,∀g9 j9 a:St,S k g9 j9->S i j9 a->∃j8,S i g9 j8/\S k j8 a)->
  ∀g9 a:St,GH S (pre++i::post) g9 a->GH S (i::(pre++post)) g9 a
 | [],_,g9,a,h=>h
 |k::pre,b,g9,a,⟨j9,h1,d⟩=>by let⟨c,e,f⟩:=qY pre (λk l=>b k (by simp[l])) j9 a d;let⟨j8,g,j⟩:=b k d_ g9 j9 c h1 e;exact⟨j8,g,c,j,f⟩
def AG{S:Nat->St->St->Prop}(b:∀(i:Nat) o,ops[i]?=O o->∀e∈o.after.toList,Region.binds .any e=J->e.on<i)
  (d:∀i k:Nat,i<ops.size->k<i->MF ops k i∨∀g9 j9 f:St,S k g9 j9->S i j9 f->∃j8,S i g9 j8/\S k j8 f):∀(fuel t:Nat) (a:Array Bool),a.size=ops.size->W (GZ ops.size a)=fuel->
  (∀(x:Nat) o,a.getD x J=J->ops[x]?=O o->∀e∈o.after.toList,Region.binds .any e=J->a.getD e.on U=J)->
  ∀g9 f:St,GH S (GZ ops.size a) g9 f->GH S (Region.linearise.go .any ops fuel t a []) g9 f/\(Region.linearise.go .any ops fuel t a []).Nodup/\∀x∈Region.linearise.go .any ops fuel t a [],a.getD x J=U
 |0,t,a,_,hl,_,g9,f,h=>by have:GZ ops.size a=[]:=VM.1 hl;rw[this]at h;simpa[Region.linearise.go]using h
 |fuel+1,t,a,ad,hl,w,g9,f,h=>by
  simp only[Region.linearise.go];generalize E:((EW ops.size).filter λi=>!a.getD i J&&((ops[i]?).map (·.after.all λe=>!Region.binds .any e||a.getD e.on U)).getD U)=rs;have l:∀i∈rs,i<ops.size/\a.getD i J=U/\∀o,ops[i]?=O o->∀e∈o.after.toList,Region.binds .any e=J->a.getD e.on U=J:=by
   intro i T;rw[←E,Hs,D2]at T;let⟨h1,M⟩:=T;simp only[y_,qb4]at M;refine⟨h1,M.1,λo u e I H=>?_⟩;have P:=M.2;rw[u]at P;simp only[G9,jn]at P;rw[qcI]at P
   grind
  have Z:rs≠[]:=by
   have hu:GZ ops.size a≠[]:=jw;let⟨F,tl,q⟩:=qdb hu;have V:F∈GZ ops.size a:=by rw[q];simp
   have g:=V;rw[GZ,Hs,D2]at g;have n:F∈rs:=by
    rw[←E,Hs,D2];refine⟨g.1,?_⟩;simp only[y_];refine⟨g.2,?_⟩;have u:ops[F]?=O ops[F]:=by simp[g.1]
    rw[u];simp only[G9,jn];rw[qcI];intro e I;cases H:Region.binds .any e with
    |false=>simp
    |true=>
     have al:=b F _ u e (by simpa using I) H;simp only[Fv,qcv];by_cases ag:a.getD e.on J=J
     .grind
     .exfalso;have s:e.on∈GZ ops.size a:=by
       rw[GZ,Hs,D2]
       grind
      rw[q]at s;rcases Fy.1 s with s|s
      .omega
      .have hs:(GZ ops.size a).Pairwise (· < ·):=qc2 _ qbt;rw[q,MB]at hs
       grind
   grind
  have c:0<W rs:=qbG.2 Z;have z:rs[t%rs.length]?=O (rs[t%rs.length]'(VN _ c)):=Gn (VN _ c);rw[z];simp only;generalize T:rs[t%rs.length]'(VN _ c)=i;have n:i∈rs:=jw;let⟨i1,i2,i3⟩:=l i n;rw[linearise_go_acc,List.reverse_singleton,List.singleton_append];have X:i∈(EW ops.size).filter λj=>!a.getD j J:=by simp_all
  let⟨r,post,L,e2,e3⟩:=ji qcA X;have A:=oB L;have p:GZ ops.size (a.setIfInBounds i J)=r++post:=by
   rw[←e2];unfold GZ;refine qdo λj hj=>?_;rw[h7,h7,aE]
   grind
  have Y:=qY (S:=S) (i:=i) (post:=post) r (λk hk g9 j9 f s1 s2=>by
   let⟨m1,m2⟩:=e3 k hk;rw[Hs,D2]at m1;rcases d i k i1 (A k hk)with v|R
   .exfalso;have:=se w v i3
    grind
   .exact R _ _ _ s1 s2) g9 f
  let⟨j9,s1,s2⟩:=Y (by rw[←L];exact h);let⟨r1,r2,r3⟩:=AG b d fuel (t / W rs) (a.setIfInBounds i J) (by simp[ad]) (by
    rw[p];have:W (GZ ops.size a)=W (r++post)+1:=by show(List.filter _ _).length=_;rw[L];simp;omega
    omega) (by
    intro x o K u e I H;have G:∀y,a.getD y U=J->(a.setIfInBounds i J).getD y U=J:=by
     intro y hy;rw[h7]at hy ⊢;rw[aE]
     grind
    by_cases m:x=i
    .simp_all
    .refine G _ (w x o ?_ u e I H);rw[h7,aE,ts (λe=>m e.symm)]at K
     simp_all) j9 f (by rw[p];exact s2)
  have D:∀x∈Region.linearise.go .any ops fuel (t / W rs) (a.setIfInBounds i J) [],x≠i/\a.getD x J=U:=by
   intro x K;have:=r3 x K;rw[h7,aE]at this;by_cases m:i=x
   .simp_all
   .rw[ts m]at this;exact⟨EC m,k_⟩
  refine⟨⟨j9,s1,r1⟩,o7.2 ⟨λs=>(D i s).1 rfl,r2⟩,λx K=>?_⟩
  grind
end
end Sx
namespace Sx
def fz(a:List (Nat×wa))(H:Tu):Tu:=a.foldl (λH p=>H.set p.1 p.2) H
def jC:∀(a:List (Nat×wa)) (H:Tu),W (fz a H)=W H
 | [],H=>rfl
 |p::a,H=>by show(fz a (H.set p.1 p.2)).length=_;rw[jC a];simp
def mL{r:Nat}:∀ {a:List (Nat×wa)} {H:Tu},(∀p∈a,p.1≠r)->(fz a H)[r]?=H[r]?
 | [],H,_=>rfl
 |p::a,H,h=>by show(fz a (H.set p.1 p.2))[r]?=_;rw[mL λq b=>h q (G_ _ b),K7 (h p d_)]
def xQ{i:Nat}{x:wa}:∀ {a:List (Nat×wa)} {H:Tu},(∀p∈a,p.1≠i)->fz a (H.set i x)=(fz a H).set i x
 | [],H,_=>rfl
 |p::a,H,h=>by show fz a ((H.set i x).set p.1 p.2)=(fz a (H.set p.1 p.2)).set i x;rw[List.set_comm _ _ (EC (h p d_)),xQ λq b=>h q (G_ _ b)]
def jR:∀ {a b:List (Nat×wa)} {H:Tu},(∀p∈a,∀q∈b,p.1≠q.1)->fz a (fz b H)=fz b (fz a H)
 | [],b,H,_=>rfl
 |p::a,b,H,h=>by show fz a ((fz b H).set p.1 p.2)=fz b (fz a (H.set p.1 p.2));rw[←xQ λq c=>EC (h p d_ q c)];exact jR λq c=>h q (G_ _ c)
section
variable [El] {C:p_} {B:Below} {N:Tc} {b_:TC} {ops:To}
structure Rec where
 g9:St
 e:EX
 rw:Option (Nat×Option (Tn))
 k:Option Nat
def Rec.on(r:Rec)(o:FQ)(j8:St):St:=fR o.dst r.e r.rw r.k j8
def Rec.Nu(N:Tc)(b_:TC)(ops:To)(r:Rec)(o:FQ)(j8:St):Prop:=
 tJ N b_ ops o r.g9 j8/\∀k,r.k=O k->(r.e.put j8.heap)[k]?=O .dead
def Rec.slot(r:Rec):List (Nat×wa):=match r.k,r.e.push with
 |O k,O p=>[(k,p.1)]
 |_,_=>[]
def Rec.ws(r:Rec):List (Nat×wa):=r.e.set.toList++r.slot
structure Rec.Ok(C:p_)(B:Below)(N:Tc)(b_:TC)(ops:To)(i:Nat)(o:Oper)(r:Rec):Prop where
 row:∀p,r.rw=some p->aC N b_ o=some (.row p.1 true)
 wr:∀p,r.e.set=some p->p.1∈NM b_ (ka r.g9.tmps) o
 kp:r.k=none↔r.e.push=none
 fr:∀p,r.e.push=some p->Fp p.2/\aC N b_ o=some .hw/\dJ b_ o=true
 step:∀j8,r.Nu N b_ ops o j8->∀sl:Nat->Option Nat,sl i=r.k->eN C B b_ ops sl i j8 (r.on o j8)
def fy(e:EX)(H:Tu):e.put H=fz e.set.toList H:=by unfold EX.put;cases e.set<;>rfl
def ir{r:Rec}{o:FQ}{j8:St}(h:r.k=Q↔r.e.push=Q):(r.on o j8).heap=fz r.ws j8.heap:=by
 unfold Rec.on fR;rw[mE];unfold Rec.ws Rec.slot;cases a:r.k with
 |none=>simp only[EX.heap,h.1 a,fy,Kv]
 |some k=>
  cases b:r.e.push with
  |none=>simp_all
  |some p=>
   simp only[fy];show(fz r.e.set.toList j8.heap).set k p.1=_;unfold fz
   simp_all
def ri{r:Rec}{o:FQ}{j8:St}:(r.on o j8).loc=(match r.rw with|O p=>j8.loc.set p.1 p.2|Q=>j8.loc):=by
 unfold Rec.on fR;rw[vq]
 all_goals grind
def Rec.val(r:Rec):FO:=match r.k with
 |O k=>r.e.val k
 |Q=>r.e.v
def pQ{r:Rec}{o:FQ}{j8:St}(h:r.k=Q↔r.e.push=Q):(r.on o j8).tmps=(match o.dst with|some d=>j8.tmps.set d r.val|none=>j8.tmps):=by
 unfold Rec.on fR;rw[vr];unfold Rec.val;cases a:r.k with
 |none=>simp only[EX.val,h.1 a];all_goals grind
 |some k=>cases o.dst<;>rfl
def Mb:MC->MC->Bool
 | .row s w,.row a w'=>!Nat.beq s a||(!w && !w')
 |_,_=>J
def ki(N:Tc)(b_:TC)(ops:To)(a b:FQ):Bool:=
 match aC N b_ a,aC N b_ b with
 |O m,O n=>Mb m n&&bB a.dst (bq ops b)&&bB b.dst (bq ops a)&&bi a.dst b.dst
 |_,_=>U
def sx{d:Tq}{l:TC}(a:bB d l=J):∀t∈l,∀x,d=O x->x≠t:=by intro t c x e b;subst e b;simp only[bB,qb4,qcx,decide_eq_false_iff_not]at a;exact a c
def Su{a b:FQ}{m n:MC}{f rb:Rec}{G:Nat}(z:aC N b_ a=O m)(A:aC N b_ b=O n)(j:f.Ok C B N b_ ops G a)(g:Mb m n=J∨Mb n m=J)(D:bB a.dst (bq ops b)=J)
  (y:∀p∈f.ws,p.1∉Hh b_ (ka rb.g9.tmps) b) {j8:St}:tJ N b_ ops b rb.g9 (f.on a j8)↔tJ N b_ ops b rb.g9 j8:=by
 have v:∀t∈bq ops b,(f.on a j8).tmps[t]?=j8.tmps[t]?:=λt v=>by unfold Rec.on fR;exact vp λx i=>sx D t v x i
 have K:∀s w,aC N b_ b=O (.row s w)->(f.on a j8).loc[s]?=j8.loc[s]?:=λs w u=>by
  rw[ri];cases k:f.rw with
  |none=>rfl
  |some p=>
   have o:=j.row p k;rw[z]at o;rw[A]at u;cases o;cases u;have:p.1≠s:=by intro E;subst E;rcases g with h|h<;>simp[Mb]at h
   simp_all
 have q:∀r∈Hh b_ (ka rb.g9.tmps) b,(f.on a j8).heap[r]?=j8.heap[r]?:=λr d=>by rw[ir j.kp];exact mL λp F e=>y p F (e▸d)
 constructor
 .rintro⟨H,I,l⟩;refine⟨λt h=>k_,?_,λr d x i c=>by rw[←q r d];exact l r d x i c⟩
  grind
 .rintro⟨H,I,l⟩;refine⟨λt h=>k_,?_,λr d x i c=>by rw[q r d];exact l r d x i c⟩
  grind
def swapR{a b:FQ}{c rb:Rec}{S T:Nat}(d:c.Ok C B N b_ ops S a)(f:rb.Ok C B N b_ ops T b)(i:ki N b_ ops a b=J)
  (P:∀p∈c.ws,p.1∉Hh b_ (ka rb.g9.tmps) b) (R:∀p∈rb.ws,p.1∉Hh b_ (ka c.g9.tmps) a) (r:∀p∈c.ws,∀q∈rb.ws,p.1≠q.1) {j8:St} (I:c.Nu N b_ ops a j8) (K:rb.Nu N b_ ops b (c.on a j8)) :
  rb.Nu N b_ ops b j8/\c.Nu N b_ ops a (rb.on b j8)/\rb.on b (c.on a j8)=c.on a (rb.on b j8):=by
 unfold ki at i;split at i
 case h_2=>cases i
 rename_i m n z A
 simp only[y_]at i;let⟨⟨⟨t,L⟩,M⟩,F⟩:=i;have X:=Su (rb:=rb) z A d (.inl t) L P (j8:=j8);have V:=Su (rb:=c) A z f (.inr t) M R (j8:=j8);refine⟨⟨X.1 K.1,λk h=>?_⟩,⟨V.2 I.1,λk h=>?_⟩,?_⟩
 .have o:=K.2 k h;have w:∃p,rb.e.push=O p:=by
   cases j:rb.e.push with
   |none=>rw[f.kp.2 j]at h;cases h
   |some p=>exact⟨p,rfl⟩
  let⟨p,j⟩:=w;have g:(k,p.1)∈rb.ws:=by simp[Rec.ws,Rec.slot,h,j]
  rw[ir d.kp,fy,←jR (λq l s i e=>r q l s (Nn _ i) e),mL (λq l e=>r q l _ g e)]at o;rw[fy];exact o
 .have o:=I.2 k h;have v:∃p,c.e.push=O p:=by
   cases j:c.e.push with
   |none=>rw[d.kp.2 j]at h;cases h
   |some p=>exact⟨p,rfl⟩
  let⟨p,j⟩:=v;have g:(k,p.1)∈c.ws:=by simp[Rec.ws,Rec.slot,h,j]
  rw[ir f.kp,fy,jR (λq l s i e=>r q (Nn _ l) s i e),mL (λq l e=>r _ g q l e.symm)];rw[fy]at o;exact o
 .have o:(rb.on b (c.on a j8)).tmps=(c.on a (rb.on b j8)).tmps:=by
   rw[pQ f.kp,pQ d.kp,pQ d.kp,pQ f.kp];cases D:a.dst with
   |none=>rfl
   |some x=>
    cases E:b.dst with
    |none=>rfl
    |some y=>
     rw[D,E]at F;have:x≠y:=by intro u;subst u;simp[bi]at F
     exact set_comm _ _ _ this
  have Y:(rb.on b (c.on a j8)).loc=(c.on a (rb.on b j8)).loc:=by
   rw[ri,ri,ri,ri];cases D:c.rw with
   |none=>rfl
   |some p=>
    cases E:rb.rw with
    |none=>rfl
    |some q=>
     have G:=d.row p D;have H:=f.row q E;rw[z]at G;rw[A]at H;cases G;cases H;have:p.1≠q.1:=by intro u;rw[u]at t;simp[Mb]at t
     exact set_comm _ _ _ this
  have Z:(rb.on b (c.on a j8)).heap=(c.on a (rb.on b j8)).heap:=by rw[ir f.kp,ir d.kp,ir d.kp,ir f.kp];exact(jR r).symm
  generalize rb.on b (c.on a j8)=x at *;generalize c.on a (rb.on b j8)=y at *;cases x;simp_all
end
end Sx
namespace Sx
section
variable [El] {C:p_} {B:Below} {N:Tc} {b_:TC} {ops:To}
def St.Fg(g9:St)(m:Nat):St:=g9.pad (m-W g9.heap)
def VS(N:Tc)(b_:TC)(ops:To)(a:Nat->Rec)(i:Nat)(j8 b:St):Prop:=∃o,ops[i]?=O o/\(a i).Nu N b_ ops o j8/\b=(a i).on o j8
def mK{D:Tu}:∀ {a:List (Nat×wa)} {H:Tu},(∀p∈a,p.1<W H)->fz a (H++D)=fz a H++D
 | [],H,_=>rfl
 |p::a,H,h=>by
  show fz a ((H++D).set p.1 p.2)=fz a (H.set p.1 p.2)++D;rw[qc5 _ _ (h p d_),mK λq b=>by grind]
structure RunOk(C:p_)(B:Below)(N:Tc)(b_:TC)(ops:To)(l:TC)(g9 j6:St)(rc:Nat->Rec):Prop where
 len:g9.heap.length<=j6.heap.length
 ok:∀i∈l,∀o,ops[i]?=some o->(rc i).Ok C B N b_ ops i o
 slot:∀i∈l,∀k,(rc i).k=some k->g9.heap.length<=k/\k<j6.heap.length
 inj:∀i∈l,∀j∈l,∀k,(rc i).k=some k->(rc j).k=some k->i=j
 ke:∀t,(∀j∈l,∀o,ops[j]?=some o->o.dst≠some t)->j6.tmps[t]?=g9.tmps[t]?
 args:∀i∈l,∀t,(∀j∈l,i<=j->∀o,ops[j]?=some o->o.dst≠some t)->j6.tmps[t]?=(rc i).g9.tmps[t]?
 res:∀i∈l,∀o d v,ops[i]?=some o->o.dst=some d->(∀j∈l,i<j->∀o,ops[j]?=some o->o.dst≠some d)->j6.tmps[d]?=some v->v=(rc i).val
 run:∀m,j6.heap.length<=m->GH (VS N b_ ops rc) l (St.Fg g9 m) (St.Fg j6 m)
def TZ{dst:Tq}{e:EX}{rw:Option (Nat×Option (Tn))}{g9:St}:W (fR dst e rw Q g9).heap=W g9.heap+(match e.push with|O _=>1|Q=>0):=by
 unfold fR;rw[mE];simp only[EX.heap,EX.put]
 grind
def mZ{dst:Tq}{e:EX}{rw:Option (Nat×Option (Tn))}{k:Ts}{g9:St}:(fR dst e rw k g9).tmps=(match dst with|O d=>g9.tmps.set d (match k with|Q=>e.val (W g9.heap)|O k=>e.val k)|Q=>g9.tmps):=by
 unfold fR;rw[vr]
 all_goals grind
def y1(F:FM N B){i:Nat}{o:FQ}(I:ops[i]?=O o)(G:pB N b_ o=J){g9 j9:St}(L:ar C B b_ ops i g9 j9) :
  ∃r:Rec,r.g9=g9/\r.Ok C B N b_ ops i o/\g9.heap.length<=W j9.heap/\(∀k,r.k=O k->k=W g9.heap/\k<W j9.heap)/\
   (∀t,o.dst≠O t->j9.tmps[t]?=g9.tmps[t]?)/\(∀d v,o.dst=O d->j9.tmps[d]?=O v->v=r.val)/\
   ∀m,W j9.heap<=m->r.Nu N b_ ops o (St.Fg g9 m)/\St.Fg j9 m=r.on o (St.Fg g9 m):=by
 let⟨e,rw,g,A,D,E,q,s⟩:=Vv (N:=N) F I G L;have b:W j9.heap=W g9.heap+(match e.push with|some _=>1|none=>0):=by rw[g];exact TZ
 refine⟨⟨g9,e,rw,match e.push with|some _=>O (W g9.heap)|none=>Q⟩,rfl,⟨A,λp a=>(E p a).1,?_,λp a=>⟨(q p a).2.1,D k_,(q p a).1⟩,?_⟩,a_,?_,?_,?_,?_⟩
 .grind
 .intro y n z f;unfold Rec.on;simp only at f ⊢;cases a:e.push with
  |none=>rw[a]at f;exact(s y n.1 z).1 a f
  |some p=>rw[a]at f;refine(s y n.1 z).2 p _ a f (n.2 _ ?_);simp only[a]
 .grind
 .intro t M;rw[g];unfold fR;exact vp λx w e=>M (by rw[w,e])
 .intro d v H h;rw[g,mZ,H]at h;simp only[Kk]at h;split at h
  .split at h
   .cases h;unfold Rec.val;simp only[EX.val]
    grind
   .cases h
  simp_all
 .intro m V;have u:(St.Fg g9 m).heap=g9.heap++List.replicate (m-W g9.heap) .dead:=rfl;have c:∀p∈e.set.toList,p.1<W g9.heap:=λp a=>by grind
  refine⟨⟨⟨λt _=>rfl,?_,λr _ x w _=>?_⟩,λk j=>?_⟩,?_⟩
  .cases aC N b_ o with
   |none=>trivial
   |some P=>cases P<;>first|trivial|rfl
  .grind
  .simp only at j;cases a:e.push with
   |none=>rw[a]at j;cases j
   |some p=>rw[a]at j b;cases j;simp only at b ⊢;rw[fy,u,mK c,K0 (by rw[jC];omega),jC,v2,ay,rv a_]
  · -- the same state
   have R:(St.Fg j9 m).tmps=((⟨g9,e,rw,match e.push with|some _=>O (W g9.heap)|none=>Q⟩ : Rec).on o (St.Fg g9 m)).tmps:=by
    show j9.tmps=_;unfold Rec.on;rw[g,mZ,mZ];show _=(match o.dst with|some d=>g9.tmps.set d _|none=>g9.tmps);cases o.dst with
    |none=>rfl
    |some d=>
     simp only[EX.val]
     grind
   have S:(St.Fg j9 m).loc=((⟨g9,e,rw,match e.push with|some _=>O (W g9.heap)|none=>Q⟩ : Rec).on o (St.Fg g9 m)).loc:=by show j9.loc=_;unfold Rec.on;rw[g];unfold fR;rw[vq,vq];rfl
   have e3:(St.Fg j9 m).heap=((⟨g9,e,rw,match e.push with|some _=>O (W g9.heap)|none=>Q⟩ : Rec).on o (St.Fg g9 m)).heap:=by
    show j9.heap++List.replicate (m-W j9.heap) .dead=_;unfold Rec.on;have l:j9.heap=e.heap g9.heap:=by rw[g];unfold fR;rw[mE]
    unfold fR;rw[mE,u];cases a:e.push with
    |none=>rw[a]at b;simp only[a,EX.heap,fy]at l ⊢;rw[mK c,l];simp only[jC]
    |some p=>
     rw[a]at b;simp only at b;simp only[a,EX.heap,fy]at l ⊢;rw[mK c,l];have K:m-W g9.heap=(m-W g9.heap-1)+1:=a_;rw[K,qck];rw[qcW _ _ jw,jC,v2,List.set_cons_zero]
     grind
   generalize T:(⟨g9,e,rw,match e.push with|some _=>O (W g9.heap)|none=>Q⟩ : Rec).on o (St.Fg g9 m)=X at *;generalize St.Fg j9 m=Y at *;cases X;cases Y
   simp_all
def tu{S b:Nat->St->St->Prop}:∀ {l:TC},(∀i∈l,∀g9 a,S i g9 a->b i g9 a)->∀ {g9 a:St},GH S l g9 a->GH b l g9 a
 | [],_,_,_,h=>h
 |i::l,c,g9,a,⟨j9,h1,d⟩=>⟨j9,c i d_ _ _ h1,tu (λj e=>c j (G_ _ e)) d⟩
def RN(K:FM N B):∀(l:TC) (g9 u:St),l.Pairwise (· < ·)->(∀i∈l,∃o,ops[i]?=O o/\pB N b_ o=J)->bw C B b_ ops l g9 u->∃z:Nat->Rec,RunOk C B N b_ ops l g9 u z
 | [],g9,u,_,_,h=>by have:u=g9:=h;subst this;exact⟨λ_=>⟨u,⟨Q,Q,undef⟩,Q,Q⟩,B7 _,λ_ h=>(by cases h),λ_ h=>(by cases h),λ_ h=>(by cases h),λ_ _=>rfl,λ_ h=>(by cases h),λ_ h=>(by cases h),λ_ _=>rfl⟩
 |i::l,g9,u,A,y,⟨S,T,V⟩=>by
  let⟨o,E,X⟩:=y i d_;obtain⟨r,rfl,r1,Y,G,r4,Z,r6⟩:=y1 K E X T;rw[MB]at A;let⟨z,R⟩:=RN K l S u A.2 (λj a=>y j (G_ _ a)) V;have F:∀j∈l,j≠i:=λj a e=>jw;have c:∀j∈l,(if j=i then r else z j)=z j:=λj a=>ts (F j a);refine⟨λj=>if j=i then r else z j,VP Y R.len,?_,?_,?_,?_,?_,?_,?_⟩
  .intro j a q p;rcases Fy.1 a with rfl|a
   .simp_all
   .simp only[c j a];exact R.ok j a q p
  .intro j a k n;rcases Fy.1 a with rfl|a
   .simp only[if_true]at n;let⟨H,I⟩:=G k n;have:=R.len;omega
   .simp only[c j a]at n;have:=R.slot j a k n;omega
  .intro j a f b k n g;rcases Fy.1 a with q1|q1<;>rcases Fy.1 b with s|s
   .rw[q1,s]
   .simp only[q1,if_true]at n;simp only[c f s]at g;have H:=G k n;have I:=R.slot f s k g;omega
   .simp only[s,if_true]at g;simp only[c j q1]at n;have H:=G k g;have I:=R.slot j q1 k n;omega
   .simp only[c j q1]at n;simp only[c f s]at g;exact R.inj j q1 f s k n g
  .intro t D;rw[R.ke t λj a=>D j (G_ _ a)]
   simp_all
  .intro j a t D;rcases Fy.1 a with rfl|a
   .simp only[if_true];have w:∀f∈l,∀q,ops[f]?=O q->q.dst≠O t:=λf b=>D f (G_ _ b) (qdK (A.1 f b));rw[R.ke t w]
    simp_all
   .simp only[c j a];exact R.args j a t λf b=>D f (G_ _ b)
  .intro j a q d v p L x P;rcases Fy.1 a with rfl|a
   .simp only[if_true];rw[E]at p;cases p;apply Z d v L;rw[←R.ke d λf b=>x f (G_ _ b) (A.1 f b)];exact P
   .simp only[c j a];exact R.res j a q d v p L (λf b=>x f (G_ _ b)) P
  .intro m M;let⟨s1,s2⟩:=r6 m (VP R.len M);refine⟨St.Fg S m,⟨o,E,?_,?_⟩,?_⟩
   .simp_all
   .simp_all
   .refine tu (λj a j8 o9 h=>?_) (R.run m M);let⟨q,q1,s,q3⟩:=h;exact⟨q,q1,k_,k_⟩
end
end Sx
namespace Sx
section
variable [El] {C:p_} {B:Below} {N:Tc} {b_:TC} {ops:To}
def xP(o:FQ)(g9:St):EP N b_ ops o g9 g9:=by
 refine⟨λ_ _=>rfl,?_⟩
 grind
def VV{o:FQ}{g9 j8:St}(h:EP N b_ ops o g9 j8):EP N b_ ops o j8 g9:=by
 refine⟨λt a=>(h.1 t a).symm,?_⟩;have h:=h.2
 grind
def fM{o:FQ}{g9 j8 b:St}(h:EP N b_ ops o g9 j8)(h':EP N b_ ops o j8 b):EP N b_ ops o g9 b:=by
 refine⟨λt a=>(h'.1 t a).trans (h.1 t a),?_⟩;have h:=h.2;have h':=h'.2;cases c:aC N b_ o with
 |none=>trivial
 |some m=>rw[c]at h h';cases m<;>first|trivial|exact h'.trans h
structure Loc(C:p_)(B:Below)(N:Tc)(b_:TC)(ops:To)(j:Nat)(b:Oper)(f:Ef)(j8 o9:St):Prop where
 is:o9=f.on b.dst j8
 tc:vQ (aC N b_ b) f
 st:∀m7,EP N b_ ops b j8 m7->ar C B b_ ops j m7 (f.on b.dst m7)
def rS(N:Tc)(b_:TC)(ops:To)(a b:FQ):Bool:=
 match aC N b_ a,aC N b_ b with
 |O m,O n=>m.ok2 n&&bB a.dst (bq ops b)&&bB b.dst (bq ops a)&&bi a.dst b.dst
 |_,_=>U
def Ca{i j:Nat}{a b:FQ}{e f:Ef}(d:rS N b_ ops a b=J){j8 g q:St}(h1:Loc C B N b_ ops i a e j8 g)(c:Loc C B N b_ ops j b f g q) :
  Loc C B N b_ ops j b f j8 (f.on b.dst j8)/\Loc C B N b_ ops i a e (f.on b.dst j8) q/\EP N b_ ops b g j8:=by
 unfold rS at d;split at d
 next m n k l=>
  simp only[y_]at d;let⟨⟨⟨h,s⟩,t⟩,u⟩:=d;have r:EP N b_ ops b g j8:=by rw[h1.is];exact VV (Cj k l (.inl h) s h1.tc j8)
  have v:EP N b_ ops a j8 (f.on b.dst j8):=Cj l k (.inr h) t c.tc j8;refine⟨⟨rfl,c.tc,λo p=>c.st o (fM r p)⟩,⟨?_,h1.tc,λo p=>h1.st o (fM v p)⟩,r⟩;rw[c.is,h1.is];exact Rl k l h u h1.tc c.tc j8
 .cases d
def H_(N:Tc)(b_:TC)(ops:To)(a b:FQ):Bool:=
 (match aC N b_ a with
 |O .hr=>J
 |_=>U)&&((match aC N b_ b with
 |O .hw=>J
 |_=>U)&&(bB a.dst (bq ops b)&&(bB b.dst (bq ops a)&&(bB a.dst (bq ops a)&&bi a.dst b.dst))))
def jd{o:FQ}(b:aC N b_ o=O .hr){e:Ef}(a:vQ (aC N b_ o) e):e.rw=Q/\e.hp=Q:=by
 rw[b]at a;constructor
 .cases h:e.rw with
  |none=>rfl
  |some p=>have:=a.1 p h;cases this
 .cases h:e.hp with
  |none=>rfl
  |some p=>have:=a.2 (by rw[h];simp);cases this
def iM{e:Ef}{d:Tq}{g9:St}{t:Nat}(h:∀x,d=O x->x≠t):(e.on d g9).tmps[t]?=g9.tmps[t]?:=by unfold Ef.on;exact vp h
def bO{d:Tq}{l:TC}(h:bB d l=J){t:Nat}(a:t∈l):∀x,d=O x->x≠t:=by intro x b e;subst e;rw[b]at h;simp only[bB,qb4,qcx,decide_eq_false_iff_not]at h;exact h a
def Se{k i:Nat}{a b:FQ}{e f:Ef}(n:H_ N b_ ops a b=J){j8 j d:St}(h1:Loc C B N b_ ops k a e j8 j)(m:Loc C B N b_ ops i b f j d)(z:∀c,EP N b_ ops a d c->ar C B b_ ops k c (e.on a.dst c)) :
  Loc C B N b_ ops i b f j8 (f.on b.dst j8)/\Loc C B N b_ ops k a e (f.on b.dst j8) d/\EP N b_ ops a d (f.on b.dst j8):=by
 unfold H_ at n;simp only[y_]at n;let⟨H,I,u,K,v,q⟩:=n;have D:aC N b_ a=O .hr:=by grind
 have E:aC N b_ b=O .hw:=by grind
 let⟨w,r⟩:=jd D h1.tc;have g:∀l:St,(e.on a.dst l).heap=l.heap:=λl=>by rw[eI,r];rfl
 have G:EP N b_ ops b j j8:=by
  refine⟨λt o=>?_,?_⟩
  .rw[h1.is];exact(iM (bO u o)).symm
  .rw[E];show j8.heap=j.heap;rw[h1.is,g]
 have h:d=e.on a.dst (f.on b.dst j8):=by
  rw[m.is,h1.is];have L:(f.on b.dst (e.on a.dst j8)).tmps=(e.on a.dst (f.on b.dst j8)).tmps:=by
   simp only[nE];cases h:a.dst with
   |none=>rfl
   |some x=>
    cases F:b.dst with
    |none=>rfl
    |some y=>
     rw[h,F]at q;have:x≠y:=by intro A;subst A;simp[bi]at q
     exact set_comm _ _ _ this
  have M:(f.on b.dst (e.on a.dst j8)).loc=(e.on a.dst (f.on b.dst j8)).loc:=by simp only[Bo,w]
  have P:(f.on b.dst (e.on a.dst j8)).heap=(e.on a.dst (f.on b.dst j8)).heap:=by simp only[eI,r,qdA]
  generalize f.on b.dst (e.on a.dst j8)=x at *;generalize e.on a.dst (f.on b.dst j8)=y at *;cases x;simp_all
 have s:EP N b_ ops a d (f.on b.dst j8):=by
  rw[h];refine⟨λt o=>(iM (bO v o)).symm,?_⟩
  simp_all
 exact⟨⟨rfl,m.tc,λc p=>m.st c (fM G p)⟩,⟨h,h1.tc,λc p=>z c (fM s p)⟩,s⟩
def hO(q:Nat->Nat->FQ->FQ->Bool)(j:Nat)(b:FQ)(m:Nat):TA->Nat->Bool
 | [],_=>J
 |a::l,n=>(Nat.testBit m n||q n j a b)&&hO q j b m l (n+1)
def zn(q:Nat->Nat->FQ->FQ->Bool)(ms:TC):TA->TA->Nat->Bool
 |_,[],_=>J
 |pre,b::l,i=>hO q i b (ms.getD i 0) pre 0&&zn q ms (pre++[b]) l (i+1)
def RV{q:Nat->Nat->FQ->FQ->Bool}{i:Nat}{b:FQ}{m:Nat}:∀ {l:TA} {k:Nat},hO q i b m l k=J->∀(j:Nat) a,l[j]?=O a->m.testBit (k+j)=J∨q (k+j) i a b=J
 | [],k,_,j,a,h=>by simp at h
 |a::l,k,h,j,c,d=>by
  simp only[hO,y_,IP]at h;cases j with
  |zero=>simp_all
  |succ j=>
   have:=RV h.2 j c (by simpa using d)
   grind
def uZ{q:Nat->Nat->FQ->FQ->Bool}{ms:TC}:∀ {l pre:TA} {i:Nat},W pre=i->zn q ms pre l i=J->∀(j:Nat) b,l[j]?=O b->∀(k:Nat) a,k<i+j->(pre++l)[k]?=O a->(ms.getD (i+j) 0).testBit k=J∨q k (i+j) a b=J
 | [],pre,i,_,_,j,b,h,_,_,_,_=>by simp at h
 |b::l,pre,i,f,h,j,c,e,k,a,g,d=>by
  simp only[zn,y_]at h;cases j with
  |zero=>simp at e;subst e;rw[Kh a_]at d;have:=RV h.1 k a d;simpa using this
  |succ j=>
   have:=uZ (pre:=pre++[b]) (i:=i+1) (by simp[f]) h.2 j c (by simpa using e) k a a_ (by simpa using d)
   grind
def i0(q:Nat->FQ->Bool):TA->Nat->Bool
 | [],_=>J
 |b::l,i=>q i b&&i0 q l (i+1)
def NZ{q:Nat->FQ->Bool}:∀ {l:TA} {i:Nat},i0 q l i=J->∀(j:Nat) b,l[j]?=O b->q (i+j) b=J
 | [],i,_,j,b,h=>by simp at h
 |a::l,i,h,j,b,c=>by
  simp only[i0,y_]at h;cases j with
  |zero=>simp_all
  |succ j=>
   have:=NZ h.2 j b (by simpa using c)
   grind
def splQ(N:Tc)(b_:TC)(ops:To)(k i n j:Nat)(a b:FQ):Bool:=
 match Nat.beq j i,Nat.beq n i with
 |J,_=>Nat.beq n k
 |_,J=>U
 |_,_=>rS N b_ ops a b
def xV(N:Tc)(b_:TC)(ops:To)(k i:Nat):Bool:=
 fQ ops.toList 0&&(Nat.blt k i&&(ops.toList.all (λo=>(aC N b_ o).isSome)&&(zn (splQ N b_ ops k i) (HC ops.toList []) [] ops.toList 0 &&
  match ops[k]?,ops[i]? with
  |O a,O b=>H_ N b_ ops a b&&(a.dst.isSome&&i0 (λj o=>Nat.beq j k||bB o.dst a.dst.toList) ops.toList 0)
  |_,_=>U)))
def oF(k:FM N B)(a:∀(j:Nat) b,ops[j]?=O b->aC N b_ b≠Q){j:Nat}{b:FQ}(c:ops[j]?=O b){j8 d:St}(h:ar C B b_ ops j j8 d):∃f,Loc C B N b_ ops j b f j8 d:=by let⟨f,e,g,i⟩:=jM k c (a j b c) h;exact⟨f,e,g,i⟩
def NB(C:p_)(B:Below)(N:Tc)(b_:TC)(ops:To)(k i:Nat)(a:FQ)(e:Ef)(j:Nat)(j8 d:St):Prop:=
 ∃b f,ops[j]?=O b/\Loc C B N b_ ops j b f j8 d/\(j=k->f=e)/\(j=i->∀c,EP N b_ ops a d c->ar C B b_ ops k c (e.on a.dst c))
def hH{k i:Nat}{a b:FQ}{e:Ef}(H:ops[k]?=O a)(I:ops[i]?=O b)(r:H_ N b_ ops a b=J)(M:zn (splQ N b_ ops k i) (HC ops.toList []) [] ops.toList 0=J)(j n:Nat)(L:j<ops.size)(T:n<j) :
  MF ops n j∨∀j8 t s:St,NB C B N b_ ops k i a e n j8 t->NB C B N b_ ops k i a e j t s->∃p,NB C B N b_ ops k i a e j j8 p/\NB C B N b_ ops k i a e n p s:=by
 have m:ops[j]?=O ops[j]:=by simp[L]
 have o:ops[n]?=O (ops[n]'(by omega)):=k_;generalize ops[j]=y at m;generalize ops[n]'(by omega)=x at o;have d:=uZ (pre:=[]) (i:=0) rfl M j y (by simpa using m) n x a_ (by simpa using o);rw[Hd]at d;rcases d with d|d
 .exact .inl (qg ops.toList [] rfl (λi k h=>by simp at h) j n d)
 right;rintro j8 t s ⟨V,f,w,z,A,S⟩ ⟨X,g,D,E,F,G⟩;rw[o]at w;cases w;rw[m]at D;cases D;unfold splQ at d;cases c:Nat.beq j i with
 |true=>rw[c]at d;have c:=Fs c;have q:=Fs d;subst c q;rw[H]at o;cases o;rw[I]at m;cases m;obtain rfl:=A rfl;let⟨u,v,R⟩:=Se r z E (G rfl);exact⟨_,⟨_,g,I,u,F,λ_ p P=>G rfl p (fM R P)⟩,_,f,H,v,λ_=>rfl,λK=>absurd K a_⟩
 |false=>
  rw[c]at d;cases l:Nat.beq n i with
  |true=>simp_all
  |false=>rw[l]at d;have d:rS N b_ ops x y=J:=d;have c:j≠i:=λh=>k_;have l:n≠i:=λh=>k_;let⟨u,v,_⟩:=Ca d z E;exact⟨_,⟨y,g,m,u,F,λh=>absurd h c⟩,x,f,o,v,A,λh=>absurd h l⟩
def Rq{b c:TC}:∀ {g9 a:St},bw C B b_ ops (b++c) g9 a->∃j9,bw C B b_ ops b g9 j9/\bw C B b_ ops c j9 a:=by
 induction b with
 |nil=>intro g9 a h;exact⟨g9,rfl,h⟩
 |cons x l i=>rintro g9 a ⟨j9,d,e⟩;let⟨j,f,g⟩:=i e;exact⟨j,⟨j9,d,f⟩,g⟩
def zA{S:Nat->St->St->Prop}{b e:TC}:∀ {g9 j9 a:St},GH S b g9 j9->GH S e j9 a->GH S (b++e) g9 a:=by
 induction b with
 |nil=>intro g9 j9 a c d;cases c;exact d
 |cons x l g=>rintro g9 j9 a ⟨h,c,f⟩ d;exact⟨h,c,g f d⟩
def nI{S:Nat->St->St->Prop}(b:∀i g9 a,S i g9 a->ar C B b_ ops i g9 a):∀ {l:TC} {g9 a:St},GH S l g9 a->bw C B b_ ops l g9 a
 | [],_,_,h=>h
 |_::_,_,_,⟨j9,h1,c⟩=>⟨j9,b _ _ _ h1,nI b c⟩
def jP{S:Nat->St->St->Prop}:∀ {l:TC},(∀i∈l,∀g9 a,ar C B b_ ops i g9 a->S i g9 a)->∀ {g9 a:St},bw C B b_ ops l g9 a->GH S l g9 a
 | [],_,_,_,h=>h
 |_::_,b,_,_,⟨j9,h1,c⟩=>⟨j9,b _ d_ _ _ h1,jP (λi d=>b i (G_ _ d)) c⟩
def Br(g:FM N B)(a:∀(j:Nat) b,ops[j]?=O b->aC N b_ b≠Q){d:Nat}:∀ {l:TC},(∀j∈l,∀b,ops[j]?=O b->∀x,b.dst=O x->x≠d)->∀ {g9 e:St},bw C B b_ ops l g9 e->e.tmps[d]?=g9.tmps[d]?
 | [],_,_,_,h=>by cases h;rfl
 |j::l,k,g9,e,⟨j9,h1,m⟩=>by
  rw[Br g a (λi o=>k i (G_ _ o)) m];cases c:ops[j]? with
  |none=>
   have:j9=g9:=by simpa[ar,c]using h1
   rw[this]
  |some b=>let⟨f,n⟩:=oF g a c h1;rw[n.is];exact iM (k j d_ b c)
def o'(D:FM N B){k i:Nat}(q:xV N b_ ops k i=J){g9 j9 s8 P:St}(h1:bw C B b_ ops (List.range' 0 (W (ops.toList.take (i+1)))) g9 j9)(h2:ar C B b_ ops k j9 s8)(hs:KD ops k j9 s8)
  (h3:bw C B b_ ops (List.range' (i+1) (W (ops.toList.drop (i+1)))) j9 P):eS C B b_ ops g9 P:=by
 unfold xV at q;simp only[y_]at q;let⟨g1,g2,g3,g4,L⟩:=q;have an:k<i:=k_;have c:∀(j:Nat) b,ops[j]?=O b->aC N b_ b≠Q:=by grind
 split at L
 case h_2=>cases L
 rename_i a b E y
 simp only[y_]at L;let⟨u,V,g6⟩:=L;let⟨d,M⟩:=s9.1 V;have hi:i<ops.size:=(MD.1 y).1;have ht:W (ops.toList.take (i+1))=i+1:=z_;rw[ht]at h1;have I:List.range' 0 (i+1)=List.range' 0 k++(k::(List.range' (k+1) (i-k-1)++[i])):=by
  have e1:List.range' 0 (i+1)=List.range' 0 k++List.range' (0+k) (i+1-k):=by rw[qc4];congr 1;omega
  have e2:List.range' (0+k) (i+1-k)=k::List.range' (k+1) (i-k):=by rw[show i+1-k=(i-k)+1 by omega,qcB,Hd]
  have e3:List.range' (k+1) (i-k)=List.range' (k+1) (i-k-1)++[i]:=by
   have:List.range' (k+1) (i-k)=List.range' (k+1) (i-k-1)++List.range' (k+1+(i-k-1)) 1:=by rw[qc4];congr 1;omega
   grind
  rw[e1,e2,e3]
 rw[I]at h1;let⟨DM,p1,T,p2,p3⟩:=Rq h1;let⟨DN,p4,DR,p5,p6⟩:=Rq p3;cases p6;let⟨e,F⟩:=oF D c E p2;have hm:aC N b_ a=O .hr:=by
  have u:=u;unfold H_ at u
  grind
 let⟨e1,e2⟩:=jd hm F.tc;have r:∀j,j≠k->∀b,ops[j]?=O b->∀x,b.dst=O x->x≠d:=by
  intro j al b p x hx;have:=NZ g6 j b (by simpa using p);rw[Hd]at this;cases ad:Nat.beq j k with
  |true=>simp_all
  |false=>rw[ad,qcv,M]at this;exact bO this d_ x hx
 have w:j9.tmps[d]?=T.tmps[d]?:=by
  have:bw C B b_ ops (List.range' (k+1) (i-k-1)++[i]) T j9:=p3;refine Br D c (λj p=>r j ?_) this
  grind
 let⟨g,Y⟩:=oF D c E h2;let⟨f1,f2⟩:=jd hm Y.tc;have Z:g=e:=by
  let⟨a',d',x,q1,K,A,q4⟩:=hs;rw[E]at q1;cases q1;rw[M]at K;cases K;rw[Y.is,nE,M]at q4;simp only[Kk]at q4;rw[rv trivial,rv (qbS.1 A).1]at q4;rw[w,F.is,nE,M]at A;simp only[Kk]at A;rw[rv trivial]at A;split at A
  .cases g;cases e
   simp_all
  .cases A
 subst Z;have l:∀j,j≠k->j≠i->j<ops.size->∀z R,ar C B b_ ops j z R->NB C B N b_ ops k i a g j z R:=by
  intro j hk ag p z R h;have G:ops[j]?=O ops[j]:=by simp[p]
  let⟨f,X⟩:=oF D c G h;exact⟨_,f,G,X,λh=>absurd h hk,λh=>absurd h ag⟩
 have H:GH (NB C B N b_ ops k i a g) (EW ops.size) g9 P:=by
  have e0:EW ops.size=List.range' 0 (i+1)++List.range' (i+1) (W (ops.toList.drop (i+1))):=by
   have:W (ops.toList.drop (i+1))=ops.size-(i+1):=d_;rw[this,qby];have:=qc4 (s:=0) (m:=i+1) (n:=ops.size-(i+1))
   grind
  rw[e0,I];refine zA (zA (j9:=DM) (jP (λj p=>?_) p1) ⟨T,⟨a,g,E,F,λ_=>rfl,λh=>absurd h a_⟩,zA (j9:=DN) (jP (λj p=>?_) p4) ⟨j9,?_,rfl⟩⟩) (jP (λj p=>?_) h3)
  .rw[qdq]at p;exact l j a_ a_ a_
  .rw[qdq]at p;exact l j a_ a_ a_
  .obtain⟨f,X⟩:=oF D c y p5;exact⟨b,f,y,X,λh=>absurd h a_,λ_=>Y.st⟩
  .rw[qdq]at p;have:W (ops.toList.drop (i+1))=ops.size-(i+1):=d_;exact l j a_ a_ a_
 have v:∀(i:Nat) o,ops[i]?=O o->∀e∈o.after.toList,Region.binds .any e=J->e.on<i:=by intro i o ho e F y;have:=eU g1 i o (by simpa using ho) e F y;omega
 have hz:GZ ops.size (Array.replicate ops.size U)=EW ops.size:=by
  unfold GZ
  simp_all
 refine .inl λt=>?_;let⟨r1,_,_⟩:=AG (S:=NB C B N b_ ops k i a g) v (λj n p hn=>hH E y u g4 j n p hn) ops.size t (Array.replicate ops.size U) d_ (by rw[hz];simp) (λx o hx ho=>by
  have ap:x<ops.size:=(MD.1 ho).1
  simp_all) g9 P (by rw[hz];exact H)
 refine nI (λj z R hS=>?_) r1;let⟨b',f,q1,K,_,_⟩:=hS;rw[K.is];exact K.st z (xP b' z)
end
end Sx
namespace Sx
section
variable [El] {C:p_} {B:Below} {N:Tc} {b_:TC} {ops:To}
def CZ{a b:Tq}(i:bi a b=J){e f:Ef}(h:e.rw=Q)(d:e.hp=Q)(j8:St):f.on b (e.on a j8)=e.on a (f.on b j8):=by
 have g:∀c:St,(e.on a c).heap=c.heap:=λc=>by rw[eI,d];rfl
 have k:(f.on b (e.on a j8)).tmps=(e.on a (f.on b j8)).tmps:=by
  simp only[nE];cases a with
  |none=>rfl
  |some x=>
   cases b with
   |none=>rfl
   |some y=>
    have:x≠y:=by intro j;subst j;simp[bi]at i
    exact set_comm _ _ _ this
 have l:(f.on b (e.on a j8)).loc=(e.on a (f.on b j8)).loc:=by simp only[Bo,h]
 have m:(f.on b (e.on a j8)).heap=(e.on a (f.on b j8)).heap:=by simp only[eI,d,qdA]
 generalize f.on b (e.on a j8)=x at *;generalize e.on a (f.on b j8)=y at *;cases x;simp_all
def zu{a b:FQ}(c:H_ N b_ ops a b=J):aC N b_ a=O .hr/\aC N b_ b=O .hw/\bB a.dst (bq ops b)=J/\bB b.dst (bq ops a)=J/\bB a.dst (bq ops a)=J/\bi a.dst b.dst=J:=by
 unfold H_ at c
 grind
def gx{k i:Nat}{a b:FQ}{e f:Ef}(p:H_ N b_ ops b a=J){j8 j h:St}(h1:Loc C B N b_ ops k a e j8 j)(d:Loc C B N b_ ops i b f j h)(o:∀c,EP N b_ ops b j8 c->ar C B b_ ops i c (f.on b.dst c)) :
  Loc C B N b_ ops i b f j8 (f.on b.dst j8)/\Loc C B N b_ ops k a e (f.on b.dst j8) h:=by
 let⟨q,r,l,v,w,m⟩:=zu p;let⟨n,g⟩:=jd q d.tc;refine⟨⟨rfl,d.tc,o⟩,⟨?_,h1.tc,λc u=>h1.st c (fM ⟨λt s=>iM (bO l s),?_⟩ u)⟩⟩
 .rw[d.is,h1.is];exact(CZ m n g j8).symm
 .rw[r];show(f.on b.dst j8).heap=j8.heap;rw[eI,g];rfl
def LY(k i:Nat):List (Nat×Nat)->Bool
 | []=>U
 |p::l=>match Nat.beq p.1 k,Nat.beq p.2 i with
  |J,J=>J
  |_,_=>LY k i l
def uT{k i:Nat}:∀ {l:List (Nat×Nat)},LY k i l=J->(k,i)∈l
 | [],h=>by cases h
 |p::l,h=>by
  unfold LY at h;split at h
  next h1 a=>
   rw[←Fs h1,←Fs a]
   grind
  .exact G_ _ (uT h)
def manQ(N:Tc)(b_:TC)(ops:To)(c:List (Nat×Nat))(n j:Nat)(a b:FQ):Bool:=
 rS N b_ ops a b||((H_ N b_ ops a b&&LY n j c)||(H_ N b_ ops b a&&LY j n c))
def r3(ops:To):TA->Bool
 | []=>J
 |b::l=>bB b.dst (bq ops b)&&((l.all λa=>bB a.dst (bq ops b)&&bi a.dst b.dst)&&r3 ops l)
def AX(N:Tc)(b_:TC)(ops:To)(a:List (Nat×Nat)):Bool:=
 fQ ops.toList 0&&(ops.toList.all (λo=>(aC N b_ o).isSome)&&(r3 ops ops.toList&&zn (manQ N b_ ops a) (HC ops.toList []) [] ops.toList 0))
def zO:∀ {l:TA},r3 ops l=J->∀(j:Nat) b,l[j]?=O b->∀(n:Nat) a,l[n]?=O a->(j<=n->bB a.dst (bq ops b)=J)/\(j<n->bi a.dst b.dst=J)
 | [],_,j,b,h,_,_,_=>by simp at h
 |c::l,h,j,b,e,n,a,f=>by
  simp only[r3,y_,D7]at h;let⟨h1,g,d⟩:=h;cases j with
  |zero=>grind
  |succ j=>
   cases n with
   |zero=>omega
   |succ n=>
    have:=zO d j b (by simpa using e) n a (by simpa using f)
    simp_all
def tr_st{c:St}:∀(m i:Nat) (j8:St) (a:List (Tu)),HM C B b_ ops (List.range' i m) j8 a c->
  ∃st:Nat->St,st i=j8/\st (i+m)=c/\(∀j,i<=j->j<i+m->ar C B b_ ops j (st j) (st (j+1)))/\∀j,j<m->a[j]?=O (st (i+j+1)).heap
 |0,i,j8,a,h=>by obtain⟨_,rfl⟩:=h;exact⟨λ_=>c,rfl,rfl,λj _ _=>absurd (show j<i+0 by assumption) a_,λj d=>absurd d a_⟩
 |m+1,i,j8,a,h=>by
  rw[qcB]at h;let⟨l,b,n,e,g⟩:=h;subst e;let⟨st,o,p,q,r⟩:=tr_st m (i+1) l b g;refine⟨λj=>if j=i then j8 else st j,d_,?_,λj f k=>?_,λj d=>?_⟩
  .grind
  .grind
  grind
def Na(C:p_)(B:Below)(N:Tc)(b_:TC)(ops:To)(e:Nat->Ef)(st:Nat->St)(c:St)(j:Nat)(j8 a:St):Prop:=
 ∃b,ops[j]?=O b/\Loc C B N b_ ops j b (e j) j8 a/\(∀t∈bq ops b,j8.tmps[t]?=c.tmps[t]?)/\(aC N b_ b=O .hw->j8.heap=(st j).heap/\a.heap=(st (j+1)).heap)
def PG{o:FQ}{e:Ef}(b:vQ (aC N b_ o) e)(a:aC N b_ o≠O .hw):e.hp=Q:=by
 cases h:e.hp with
 |none=>rfl
 |some p=>exact absurd (b.2 (by rw[h];simp)) a
def Ak{a b:FQ}(c:rS N b_ ops a b=J):aC N b_ a≠O .hw∨aC N b_ b≠O .hw:=by
 unfold rS at c;split at c
 next m n f g=>
  simp only[y_]at c;by_cases d:aC N b_ a=O .hw
  .by_cases e:aC N b_ b=O .hw
   .rw[d]at f;rw[e]at g;cases f;cases g;exact absurd c.1.1.1 q7
   .exact .inr e
  .exact .inl d
 .cases c
def Cz{a b:FQ}(c:rS N b_ ops a b=J):bB b.dst (bq ops a)=J:=by
 unfold rS at c
 grind
def ZS{ps:List (Nat×Nat)}{e:Nat->Ef}{st:Nat->St}{o:St}(Z:∀k i,(k,i)∈ps->i<ops.size->∀a,ops[k]?=O a->aC N b_ a=O .hr->∀c,EP N b_ ops a { o with heap:=(if k<=i then(st (i+1)).heap else(st i).heap) } c->ar C B b_ ops k c ((e k).on a.dst c))
  (hp:zn (manQ N b_ ops ps) (HC ops.toList []) [] ops.toList 0=J) (j n:Nat) (hj:j<ops.size) (hn:n<j) :
  MF ops n j∨∀j8 u v:St,Na C B N b_ ops e st o n j8 u->Na C B N b_ ops e st o j u v->∃c,Na C B N b_ ops e st o j j8 c/\Na C B N b_ ops e st o n c v:=by
 have p:ops[j]?=O ops[j]:=by simp[hj]
 have q:ops[n]?=O (ops[n]'(by omega)):=k_;generalize ops[j]=y at p;generalize ops[n]'(by omega)=x at q;have d:=uZ (pre:=[]) (i:=0) rfl hp j y (by simpa using p) n x a_ (by simpa using q);rw[Hd]at d;rcases d with d|d
 .exact .inl (qg ops.toList [] rfl (λi k h=>by simp at h) j n d)
 right;rintro j8 u v ⟨x',V,g,D,h4⟩ ⟨y',X,r,K,h8⟩;rw[q]at V;cases V;rw[p]at X;cases X;unfold manQ at d;simp only[IP,y_]at d;have E:u.heap=(e n).hp.getD j8.heap:=by rw[g.is,eI]
 have F:v.heap=(e j).hp.getD u.heap:=by rw[r.is,eI]
 have G:((e j).on y.dst j8).heap=(e j).hp.getD j8.heap:=eI;rcases d with d|⟨d,L⟩|⟨d,L⟩
 .obtain⟨w,z,w3⟩:=Ca d g r;refine⟨_,⟨y,p,w,λt b=>(w3.1 t b).trans (K t b),λs=>?_⟩,x,q,z,λt b=>(iM (bO (Cz d) b)).trans (D t b),λs=>?_⟩
  .have M:aC N b_ x≠O .hw:=(Ak d).resolve_right λh=>h s;rw[PG g.tc M]at E
   grind
  .have P:aC N b_ y≠O .hw:=(Ak d).resolve_left λh=>h s;rw[PG r.tc P]at F G
   grind
 .obtain⟨m,H,I,A,T,c6⟩:=zu d;let⟨R,S⟩:=h8 H;have M:(e n).hp=Q:=(jd m g.tc).2;rw[M]at E;have E:u.heap=j8.heap:=E;have f:∀c,EP N b_ ops x v c->EP N b_ ops x { o with heap:=(if n<=j then(st (j+1)).heap else(st j).heap) } c:=by
   intro c l;refine⟨λt b=>?_,?_⟩
   .rw[l.1 t b,r.is,iM (bO A b),g.is,iM (bO T b)];exact D t b
   .rw[m];show c.heap=if n<=j then(st (j+1)).heap else(st j).heap
    rw[rv a_,←S];have:=l.2
    simp_all
  let⟨w,z,_⟩:=Se d g r λc l=>Z n j (uT L) hj x q m c (f c l);refine⟨_,⟨y,p,w,λt b=>?_,λ_=>?_⟩,x,q,z,λt b=>(iM (bO A b)).trans (D t b),λs=>?_⟩
  .rw[←K t b,g.is];exact(iM (bO I b)).symm
  .simp_all
  simp_all
 .obtain⟨m,H,I,A,T,c6⟩:=zu d;let⟨R,S⟩:=h4 H;have P:(e j).hp=Q:=(jd m r.tc).2;rw[P]at F G;have F:v.heap=u.heap:=F;have G:((e j).on y.dst j8).heap=j8.heap:=G;have Y:∀t∈bq ops y,j8.tmps[t]?=o.tmps[t]?:=λt b=>by rw[←K t b,g.is];exact(iM (bO A b)).symm
  have f:∀c,EP N b_ ops y j8 c->EP N b_ ops y { o with heap:=(if j<=n then(st (n+1)).heap else(st n).heap) } c:=by
   intro c l;refine⟨λt b=>?_,?_⟩
   .rw[l.1 t b];exact Y t b
   .rw[m];show c.heap=if j<=n then(st (n+1)).heap else(st n).heap
    rw[ts a_,←R];have:=l.2
    simp_all
  let⟨w,z⟩:=gx d g r λc l=>Z j n (uT L) a_ y p m c (f c l);refine⟨_,⟨y,p,w,Y,λs=>?_⟩,x,q,z,λt b=>(iM (bO I b)).trans (D t b),λ_=>?_⟩
  .rw[m]at s;cases s
  simp_all
def Sa(e:FM N B)(a:∀(j:Nat) b,ops[j]?=O b->aC N b_ b≠Q){st:Nat->St}{t i:Nat}:∀(m:Nat),(∀j,i<=j->j<i+m->ar C B b_ ops j (st j) (st (j+1))/\∀b,ops[j]?=O b->∀x,b.dst=O x->x≠t)->(st (i+m)).tmps[t]?=(st i).tmps[t]?
 |0,_=>rfl
 |m+1,h=>by
  let⟨h1,g⟩:=h (i+m) a_ a_;rw[←Sa e a m λj c k=>h j c a_,show i+(m+1)=i+m+1 by omega];cases d:ops[i+m]? with
  |none=>
   have:st (i+m+1)=st (i+m):=by simpa[ar,d]using h1
   rw[this]
  |some b=>let⟨f,c⟩:=oF e a d h1;rw[c.is];exact iM (g b d)
def om{S:Nat->St->St->Prop}{st:Nat->St}:∀(m i:Nat),(∀j,i<=j->j<i+m->S j (st j) (st (j+1)))->GH S (List.range' i m) (st i) (st (i+m))
 |0,i,_=>rfl
 |m+1,i,h=>by
  rw[qcB];refine⟨st (i+1),h i a_ a_,?_⟩;have:=om m (i+1) λj a b=>h j a_ a_
  grind
def N5(T:FM N B){ps:List (Nat×Nat)}(q:AX N b_ ops ps=J){g9 l:St}{A:List (Tu)}(h1:HM C B b_ ops (EW ops.size) g9 A l)(h2:He C B b_ ops g9 A l ps):eS C B b_ ops g9 l:=by
 unfold AX at q;simp only[y_]at q;let⟨g1,g2,g3,g4⟩:=q;have m:∀(j:Nat) b,ops[j]?=O b->aC N b_ b≠Q:=by grind
 have w:∀ {i:Nat} {o:FQ},ops[i]?=O o->i<ops.size:=λD=>(MD.1 D).1;rw[qby]at h1;let⟨st,s1,s2,R,s4⟩:=tr_st ops.size 0 g9 A h1;rw[Hd]at s2;have R:∀j,j<ops.size->ar C B b_ ops j (st j) (st (j+1)):=λj c=>R j a_ a_;have s4:∀j,j<ops.size->A[j]?=O (st (j+1)).heap:=λj c=>k_;have X:∀j,∃f,∀b,ops[j]?=O b->Loc C B N b_ ops j b f (st j) (st (j+1)):=by
  intro j;cases c:ops[j]? with
  |none=>exact⟨⟨.nilFunc,Q,Q⟩,λb h=>by cases h⟩
  |some b=>let⟨f,Y⟩:=oF T m c (R j (w c));exact⟨f,λb' h=>by cases h;exact Y⟩
 let⟨e,L⟩:=Classical.axiomOfChoice X;have p:∀(j:Nat) (t:Nat),j<=ops.size->(∀n,j<=n->∀a,ops[n]?=O a->∀x,a.dst=O x->x≠t)->l.tmps[t]?=(st j).tmps[t]?:=by
  intro j t c h;have:=Sa (t:=t) (i:=j) T m (ops.size-j) λn h3 h4=>⟨R n a_,h n h3⟩
  simp_all
 have r:∀(j:Nat) b,ops[j]?=O b->∀t∈bq ops b,(st j).tmps[t]?=l.tmps[t]?:=by intro j b c t ht;refine(p j t (qdK (w c)) λn M a s x hx=>?_).symm;exact bO ((zO g3 j b (by simpa using c) n a (by simpa using s)).1 M) ht x hx
 have V:∀k i,i<ops.size->atM g9.heap A (k,i)=if k<=i then(st (i+1)).heap else(st i).heap:=by
  intro k i D;unfold atM;show List.getD (g9.heap::A) (match Nat.ble k i with|true=>i+1|false=>i) g9.heap=_;by_cases E:k<=i
  .rw[FE E,rv E,List.getD_eq_getElem?_getD,qb0,s4 i D];rfl
  .rw[show Nat.ble k i=U by rw[←Ii];simp_all,ts E,List.getD_eq_getElem?_getD]
   grind
 have Y:∀k i,(k,i)∈ps->i<ops.size->∀a,ops[k]?=O a->aC N b_ a=O .hr->∀m7,EP N b_ ops a { l with heap:=(if k<=i then(st (i+1)).heap else(st i).heap) } m7->ar C B b_ ops k m7 ((e k).on a.dst m7):=by
  intro k i hm D a s hr;let⟨s8,P,o,d,x,G,H,q3,q4⟩:=h2 (k,i) hm;have G:ops[k]?=O o:=G;rw[s]at G;cases G;rw[V k i D]at P;let⟨g,Z⟩:=oF T m s P;have hl:=L k a s;let⟨f1,f2⟩:=jd hr Z.tc;let⟨f3,f4⟩:=jd hr hl.tc;have ad:g=e k:=by
   have E:l.tmps[d]?=(st (k+1)).tmps[d]?:=p (k+1) d (w s) λn M b u y hy=>by have:=(zO g3 k a (by simpa using s) n b (by simpa using u)).2 a_;intro h;subst h;rw[hy,H]at this;simp[bi]at this
   have I:(g.on a.dst { l with heap:=(if k<=i then(st (i+1)).heap else(st i).heap) }).tmps[d]?=O x:=by rw[←Z.is];exact q4
   have K:((e k).on a.dst (st k)).tmps[d]?=O x:=by rw[←hl.is,←E];exact q3
   rw[nE,H]at I K;simp only[Kk]at I K;rw[rv trivial]at I K;split at I
   .split at K
    .generalize e k=z at *;cases g;cases z
     grind
    .cases K
   .cases I
  subst ad;exact Z.st
 have F:GH (Na C B N b_ ops e st l) (EW ops.size) g9 l:=by
  rw[qby];have:=om (S:=Na C B N b_ ops e st l) (st:=st) ops.size 0 λj _ c=>by
   rw[Hd]at c;have u:ops[j]?=O ops[j]:=by simp[c]
   exact⟨_,u,L j _ u,r j _ u,λ_=>⟨rfl,rfl⟩⟩
  simp_all
 have v:∀(i:Nat) o,ops[i]?=O o->∀e∈o.after.toList,Region.binds .any e=J->e.on<i:=by intro i o ho e L u;have:=eU g1 i o (by simpa using ho) e L u;omega
 have hz:GZ ops.size (Array.replicate ops.size U)=EW ops.size:=by
  unfold GZ
  simp_all
 refine .inl λt=>?_;let⟨P,_,_⟩:=AG (S:=Na C B N b_ ops e st l) v (λj n c M=>ZS Y g4 j n c M) ops.size t (Array.replicate ops.size U) d_ (by rw[hz];simp) (λx o hx ho=>by simp_all) g9 l (by rw[hz];exact F)
 refine nI (λj j8 o9 hS=>?_) P;let⟨b',G,H,_,_⟩:=hS;rw[H.is];exact H.st j8 (xP b' j8)
end
end Sx
namespace Sx
section
variable [El] {C:p_} {B:Below} {N:Tc} {b_:TC} {ops:To}
def BQ(q:FQ->FQ->Bool)(b:FQ)(m:Nat):TA->Nat->Bool
 | [],_=>J
 |a::l,k=>(Nat.testBit m k||q a b)&&BQ q b m l (k+1)
def uY(q:FQ->FQ->Bool)(ms:TC):TA->TA->Nat->Bool
 |_,[],_=>J
 |pre,b::l,i=>BQ q b (ms.getD i 0) pre 0&&uY q ms (pre++[b]) l (i+1)
def xL{q:FQ->FQ->Bool}{b:FQ}{m:Nat}:∀ {l:TA} {k:Nat},BQ q b m l k=J->∀(j:Nat) a,l[j]?=O a->m.testBit (k+j)=J∨q a b=J
 | [],k,_,j,a,h=>by simp at h
 |a::l,k,h,j,c,d=>by
  simp only[BQ,y_,IP]at h;cases j with
  |zero=>simp_all
  |succ j=>
   have:=xL h.2 j c (by simpa using d)
   grind
def tg{q:FQ->FQ->Bool}{ms:TC}:∀ {l pre:TA} {i:Nat},W pre=i->uY q ms pre l i=J->∀(j:Nat) b,l[j]?=O b->∀(k:Nat) a,k<i+j->(pre++l)[k]?=O a->(ms.getD (i+j) 0).testBit k=J∨q a b=J
 | [],pre,i,_,_,j,b,h,_,_,_,_=>by simp at h
 |b::l,pre,i,f,h,j,c,e,k,a,g,d=>by
  simp only[uY,y_]at h;cases j with
  |zero=>simp at e;subst e;rw[Kh a_]at d;have:=xL h.1 k a d;simpa using this
  |succ j=>
   have:=tg (pre:=pre++[b]) (i:=i+1) (by simp[f]) h.2 j c (by simpa using e) k a a_ (by simpa using d)
   grind
def wo{b:FQ}{m i:Nat}:∀ {l:TA} {k:Nat} (j:Nat) a,l[j]?=O a->m.testBit (k+j)=U->Ym b_ a b=J->(k+j,i)∈wn b_ b m i l k
 | [],k,j,a,h,_,_=>by simp at h
 |a::l,k,j,c,e,f,d=>by
  unfold wn;cases j with
  |zero=>simp_all
  |succ j=>
   have:=wo (i:=i) (k:=k+1) j c (by simpa using e) (by rwa [show k+1+j=k+(j+1)by omega]) d
   grind
def wm{ms:TC}:∀ {l pre:TA} {i:Nat},W pre=i->∀(j:Nat) b,l[j]?=O b->∀(k:Nat) a,k<i+j->(pre++l)[k]?=O a->(ms.getD (i+j) 0).testBit k=U->Ym b_ a b=J->(k,i+j)∈Ar b_ ms pre l i
 | [],pre,i,_,j,b,h,_,_,_,_,_,_=>by simp at h
 |b::l,pre,i,g,j,c,e,k,a,n,d,m,f=>by
  unfold Ar;rw[F_];cases j with
  |zero=>
   simp at e;subst e;rw[Kh a_]at d;have:=wo (b_:=b_) (i:=i) (k:=0) k a d (by simpa using m) f
   simp_all
  |succ j=>
   right;have:=wm (pre:=pre++[b]) (i:=i+1) (by simp[g]) j c (by simpa using e) k a a_ (by simpa using d) (by rwa [show i+1+j=i+(j+1)by omega]) f
   grind
def opT(b_:TC)(o:FQ):TC:=((dz b_ o).1++fD b_ o).filterMap λx=>match x with
 | .tmp t=>O t
 |_=>Q
def eB(b_:TC):TA->TA->Bool
 |_,[]=>J
 |pre,b::l=>bB b.dst (opT b_ b)&&(pre.all λa=>bB b.dst (opT b_ a)&&bi a.dst b.dst)&&eB b_ (pre++[b]) l
def zN:∀ {l pre:TA},eB b_ pre l=J->∀(j:Nat) b,l[j]?=O b->∀(k:Nat) a,(pre++l)[k]?=O a->(k<=W pre+j->bB b.dst (opT b_ a)=J)/\(k<W pre+j->bi a.dst b.dst=J)
 | [],pre,_,j,b,h,_,_,_=>by simp at h
 |b::l,pre,h,j,c,f,k,a,e=>by
  simp only[eB,y_,D7]at h;let⟨⟨h1,g⟩,d⟩:=h;cases j with
  |zero=>grind
  |succ j=>
   have:=zN d j c (by simpa using f) k a (by simpa using e)
   grind
def Nx(N:Tc)(b_:TC)(ops:To):Bool:=
 fQ ops.toList 0&&(ops.toList.all (pB N b_)&&(ops.toList.any (dJ b_)&&(ops.toList.all (λo=>!dJ b_ o||o.dst.isSome)&&(eB b_ [] ops.toList&&uY (λa b=>ki N b_ ops a b && !lR a b) (HC ops.toList []) [] ops.toList 0))))
def cq(N:Tc)(b_:TC)(ops:To)(i:Nat):Nat->Option Nat
 |0=>Q
 |k+1=>match ops[k]?,ops[i]? with
  |O a,O b=>match H_ N b_ ops a b&&xV N b_ ops k i with
   |J=>O k
   |U=>cq N b_ ops i k
  |_,_=>Q
def cy(N:Tc)(b_:TC)(ops:To):Nat->Option (List (Nat×Nat))
 |0=>Q
 |i+1=>match cq N b_ ops i i with
  |O k=>O [(k+1000,i)]
  |Q=>cy N b_ ops i
def AY(N:Tc)(b_:TC)(ops:To)(j:Nat)(b:FQ)(m:Nat):TA->Nat->List (Nat×Nat)
 | [],_=>[]
 |a::l,n=>match Nat.testBit m n||rS N b_ ops a b,H_ N b_ ops a b with
  |J,_=>AY N b_ ops j b m l (n+1)
  |U,J=>(n,j)::AY N b_ ops j b m l (n+1)
  |U,U=>(j,n)::AY N b_ ops j b m l (n+1)
def M'(N:Tc)(b_:TC)(ops:To)(ms:TC):TA->TA->Nat->List (Nat×Nat)
 |_,[],_=>[]
 |pre,b::l,i=>AY N b_ ops i b (ms.getD i 0) pre 0++M' N b_ ops ms (pre++[b]) l (i+1)
def d6(N:Tc)(b_:TC)(ops:To):Option (List (Nat×Nat)):=
 match AX N b_ ops (M' N b_ ops (HC ops.toList []) [] ops.toList 0)with
 |J=>O ((5000,0)::M' N b_ ops (HC ops.toList []) [] ops.toList 0)
 |U=>Q
def drOf(N:Tc):Dr:=λb_ ops=>match As b_ ops with
 | []=>match xJ N b_ ops with
  |J=>O []
  |U=>match cy N b_ ops ops.size with
   |O a=>match HG a with
    |Q=>O a
    |O _=>Q
   |Q=>d6 N b_ ops
 |p::a=>match HG (p::a),IY (p::a),Nx N b_ ops with
  |Q,Q,J=>O (p::a)
  |_,_,_=>d6 N b_ ops
def R_{i:Nat}:∀ {n k:Nat},cq N b_ ops i n=O k->xV N b_ ops k i=J
 |0,k,h=>by cases h
 |n+1,k,h=>by
  unfold cq at h;split at h
  .split at h
   .simp_all
   .exact R_ h
  .cases h
def R9:∀ {n:Nat} {a:List (Nat×Nat)},cy N b_ ops n=O a->∃k i,a=[(k+1000,i)]/\xV N b_ ops k i=J
 |0,a,h=>by cases h
 |n+1,a,h=>by
  unfold cy at h;split at h
  next k b=>cases h;exact⟨k,n,rfl,R_ b⟩
  .exact R9 h
def Y5{o:FQ}(h:F2 b_ o=0):(dz b_ o).1=[]/\fD b_ o=[]/\dJ b_ o=U:=by
 let⟨dst,k,i,pos,d,guard⟩:=o;cases k<;>simp only[F2]at h<;>first|(exact⟨rfl,rfl,rfl⟩)|(exact absurd h q7)|skip
 case alloc t=>cases g:dJ b_ ⟨dst,.alloc t,i,pos,d,guard⟩with
  |true=>rw[g]at h;cases h
  |false=>exact⟨rfl,rfl,rfl⟩
 case box t x=>cases g:dJ b_ ⟨dst,.box t x,i,pos,d,guard⟩with
  |true=>rw[g]at h;cases h
  |false=>exact⟨rfl,rfl,rfl⟩
 case load t a=>
  split at h
  .cases h
  next j=>refine⟨?_,rfl,rfl⟩;simp only[dz]
 case store t a x=>
  split at h
  .cases h
  next j=>
   refine⟨?_,?_,rfl⟩
   .simp only[dz]
   .simp only[fD]
 case call c=>
  cases e:c.callee with
  |builtin b=>
   rw[e]at h;simp only[dz,fD,dJ,e]
   grind
  |value f=>simp only[dz,fD,dJ,e];simp_all
  |invoke r m=>simp only[dz,fD,dJ,e];simp_all
def bC{o:FQ}(h:F2 b_ o=1):fD b_ o=[]/\dJ b_ o=U:=by
 let⟨dst,j,i,pos,d,guard⟩:=o;cases j<;>simp only[F2]at h<;>first|(exact⟨rfl,rfl⟩)|(exact absurd h q7)|skip
 case alloc t=>cases g:dJ b_ ⟨dst,.alloc t,i,pos,d,guard⟩with
  |true=>rw[g]at h;cases h
  |false=>exact⟨rfl,rfl⟩
 case box t x=>cases g:dJ b_ ⟨dst,.box t x,i,pos,d,guard⟩with
  |true=>rw[g]at h;cases h
  |false=>exact⟨rfl,rfl⟩
 case store t a x=>split at h<;>cases h
 case call c=>
  cases e:c.callee with
  |builtin b=>rw[e]at h;simp only[fD,dJ,e];cases b<;>first|(exact⟨rfl,rfl⟩)|(exact absurd h d_)
  |value f=>simp only[fD,dJ,e];exact⟨trivial,trivial⟩
  |invoke r m=>simp only[fD,dJ,e];exact⟨trivial,trivial⟩
def uG(o:FQ):F2 b_ o=0∨F2 b_ o=1∨F2 b_ o=2:=by
 let⟨dst,d,e,pos,b,guard⟩:=o;cases d<;>simp only[F2]<;>first|(exact .inl trivial)|(exact .inr (.inl trivial))|(exact .inr (.inr trivial))|skip
 case alloc t=>split<;>simp
 case box t x=>split<;>simp
 case load t a=>split<;>simp
 case store t a x=>split<;>simp
 case call c=>split<;>first|(split<;>simp)|simp
end
end Sx
namespace Sx
section
variable [El] {C:p_} {B:Below} {N:Tc} {b_:TC} {ops:To}
def Ve{mk:Nat->TV}(h:Fp mk)(k:Nat):E' (mk k)=[k]:=by cases h<;>simp[E',le]
def BX{S:Nat->St->St->Prop}{d:Nat->Ts}(c:∀i g9 a,S i g9 a->eN C B b_ ops d i g9 a):∀ {l:TC},l.Nodup->∀ {g9 a:St},GH S l g9 a->jS C B b_ ops d l g9 a
 | [],_,_,_,h=>h
 |i::l,b,g9,a,⟨j9,h1,e⟩=>by rw[o7]at b;exact⟨b.1,j9,c i _ _ h1,BX c b.2 e⟩
def z'{o:FQ}{t:Nat}(h:Operand.tmp t∈(dz b_ o).1++fD b_ o):t∈opT b_ o:=by
 unfold opT
 grind
def gl [E_](hN:FM N B)(A:Nx N b_ ops=J){g9 m:St}(h:bw C B b_ ops (EW ops.size) g9 m)(T:NR b_ ops m.tmps (As b_ ops)):eS C B b_ ops g9 m:=by
 simp only[Nx,y_]at A;obtain⟨g1,g2,g3,g4,g5,g6⟩:=A;have ap:∀i∈EW ops.size,∃o,ops[i]?=O o/\pB N b_ o=J:=by simp_all
 obtain⟨f,R⟩:=RN hN (EW ops.size) g9 m qbt ap h;have ax:∀ {i:Nat} {o:FQ},ops[i]?=O o->i<ops.size:=λc=>(MD.1 c).1;have g:∀ {i:Nat} {o:FQ},ops[i]?=O o->i∈EW ops.size:=λc=>D2.2 (ax c);have hl:∀ {i:Nat} {o:FQ},ops[i]?=O o->ops.toList[i]?=O o:=λc=>by simpa using c
 have av:∀ {i:Nat} {o:FQ},ops[i]?=O o->∀x∈(dz b_ o).1++fD b_ o,ka m.tmps x=ka (f i).g9.tmps x:=by intro i o c x Y;refine nK λt ht=>?_;subst ht;refine R.args i (g c) t λj hj an o' G I=>?_;have:=(zN g5 j o' (hl G) i o (by simpa using c)).1 a_;exact sx this t (z' Y) t I rfl
 have hF:∀ {i:Nat} {o:FQ},ops[i]?=O o->∀r∈Hh b_ (ka (f i).g9.tmps) o,r∈fAt b_ m.tmps o:=by
  intro i o c r hr;unfold Hh at hr;unfold fAt
  grind
 have hW:∀ {i:Nat} {o:FQ},ops[i]?=O o->LB b_ m.tmps o->∀p∈(f i).ws,p.1∈A5 b_ m.tmps o:=by
  intro i o c ag p hp;have K:=R.ok i (g c) o c;unfold Rec.ws at hp;unfold A5;rw[Gv];rcases F_.1 hp with hp|hp
  .have:=K.wr p (by simpa using hp);unfold NM at this;obtain⟨x,Y,hr⟩:=Gv.1 this;exact⟨x,Nn _ Y,by rw[av c x (t7 _ Y)];exact hr⟩
  .unfold Rec.slot at hp;split at hp
   next k q s z=>
    have hp:p=(k,q.1):=by simpa using hp
    subst hp;obtain⟨f1,f2,f3⟩:=K.fr q z;have M:F2 b_ o=2:=by
     rcases uG (b_:=b_) o with u|u|u
     .rw[(Y5 u).2.2]at f3;cases f3
     .rw[(bC u).2]at f3;cases f3
     .exact u
    have al:o.dst.isSome=J:=by grind
    obtain⟨d,I⟩:=s9.1 al;obtain⟨v,hv⟩:=ag d I M;have X:=R.res i (g c) o d v c I (λj hj an o' G ad=>by have:=(zN g5 j o' (hl G) i o (by simpa using c)).2 a_;rw[I,ad]at this;simp[bi]at this) hv
    refine⟨.tmp d,vL I M,?_⟩;have ho:ka m.tmps (.tmp d)=v:=by simp[ka,List.getD_eq_getElem?_getD,hv]
    rw[ho,X];unfold Rec.val EX.val;rw[s];simp only[z];rw[Ve f1]
    simp_all
   .cases hp
 have a2:∀ {i:Nat} {o:FQ},ops[i]?=O o->F2 b_ o≠2->(f i).ws=[]:=by
  intro i o c hc;have K:=R.ok i (g c) o c;have hw:fD b_ o=[]/\dJ b_ o=U:=by
   rcases uG (b_:=b_) o with u|u|u
   .exact(Y5 u).2
   .exact bC u
   omega
  have e1:(f i).e.set=Q:=by
   cases hs:(f i).e.set with
   |none=>rfl
   |some p=>
    have:=K.wr p hs;unfold NM at this
    simp_all
  have e2:(f i).e.push=Q:=by
   cases hs:(f i).e.push with
   |none=>rfl
   |some p=>have:=(K.fr p hs).2.2;simp_all
  unfold Rec.ws Rec.slot
  simp_all
 have ay:∀ {i:Nat} {o:FQ},F2 b_ o=0->Hh b_ (ka (f i).g9.tmps) o=[]:=by intro i o hc;unfold Hh;rw[(Y5 hc).1];rfl
 refine .inr ⟨λi=>if i<ops.size then(f i).k else Q,W m.heap-W g9.heap,g3,?_,?_,λt=>?_⟩
 .intro i k s;simp only at s;split at s
  next c=>have:=R.slot i (D2.2 c) k s;omega
  .cases s
 .intro i j k s y;simp only at s y;split at s
  next c=>
   split at y
   next hj=>exact R.inj i (D2.2 c) j (D2.2 hj) k s y
   .cases y
  .cases s
 have F:∀(i:Nat) o,ops[i]?=O o->∀e∈o.after.toList,Region.binds .any e=J->e.on<i:=by intro i o ho e he w;have:=eU g1 i o (by simpa using ho) e he w;omega
 have H:∀i k:Nat,i<ops.size->k<i->MF ops k i∨∀Z uc o9:St,VS N b_ ops f k Z uc->VS N b_ ops f i uc o9->∃m7,VS N b_ ops f i Z m7/\VS N b_ ops f k m7 o9:=by
  intro i k c aE;have w:ops[i]?=O ops[i]:=by simp[c]
  have E:ops[k]?=O (ops[k]'(by omega)):=k_;generalize ops[i]=b at w;generalize ops[k]'(by omega)=a at E;have z:=tg (pre:=[]) (i:=0) rfl g6 i b (by simpa using w) k a a_ (by simpa using E);rw[Hd]at z;cases V:(List.getD (HC ops.toList []) i 0).testBit k with
  |true=>exact .inl (qg ops.toList [] rfl (λi k h=>by simp at h) i k V)
  |false=>
   right;rw[V]at z;have z:=z.resolve_left d_;simp only[y_]at z;obtain⟨q1,q2⟩:=z;have d:(∀p∈(f k).ws,p.1∉Hh b_ (ka (f i).g9.tmps) b)/\(∀p∈(f i).ws,p.1∉Hh b_ (ka (f k).g9.tmps) a)/\(∀p∈(f k).ws,∀q∈(f i).ws,p.1≠q.1):=by
    cases n:Ym b_ a b with
    |true=>
     have hm:=wm (b_:=b_) (ms:=HC ops.toList []) (l:=ops.toList) (pre:=[]) (i:=0) rfl i b (by simpa using w) k a a_ (by simpa using E) k_ n;rw[Hd]at hm;obtain⟨a',b',r1,r2,s1,s2,s3,s4,s5⟩:=T (k,i) hm
     grind
    |false=>
     have n:Nat.ble 3 (F2 b_ a+F2 b_ b)=U:=by
      unfold Ym at n
      simp_all
     have a0:¬3<=F2 b_ a+F2 b_ b:=λh=>by rw[FE h]at n;cases n
     rcases uG (b_:=b_) a with e1|e1|e1<;>rcases uG (b_:=b_) b with e2|e2|e2
     .simp_all
     .simp_all
     .simp_all
     .simp_all
     .simp_all
     .omega
     .simp_all
     .omega
     .omega
   rintro Z uc o9 ⟨a1,L,h2,rfl⟩ ⟨b1,h3,h4,rfl⟩;rw[E]at L;rw[w]at h3;cases L;cases h3;obtain⟨w1,w2,w3⟩:=swapR (R.ok k (g E) a E) (R.ok i (g w) b w) q1 d.1 d.2.1 d.2.2 h2 h4;exact⟨_,⟨b,w,w1,rfl⟩,⟨a,E,w2,w3⟩⟩
 have hz:GZ ops.size (Array.replicate ops.size U)=EW ops.size:=by
  unfold GZ
  simp_all
 have D:=R.run (W m.heap) (B7 _);have P:St.Fg m (W m.heap)=m:=by
  unfold St.Fg St.pad
  simp_all
 rw[P]at D;obtain⟨r1,r2,_⟩:=AG (S:=VS N b_ ops f) F H ops.size t (Array.replicate ops.size U) d_ (by rw[hz];simp) (λx o Y ho=>by simp_all) _ _ (by rw[hz];exact D)
 refine BX (λi Z o9 hS=>?_) r2 r1;obtain⟨o,L,h2,rfl⟩:=hS;exact(R.ok i (g L) o L).step Z h2 _ k_
def V5(k i:Nat):IY [(k+1000,i)]=O (k,i):=by have a:Nat.ble 1000 (k+1000)=J:=FE (Nat.le_add_left 1000 k);generalize c:k+1000=m at *;have b:m-1000=k:=a_;unfold IY;simp only[a,b]
def P'{a:List (Nat×Nat)}(h:d6 N b_ ops=O a):∃l,HG a=O l/\AX N b_ ops l=J:=by
 unfold d6 at h;split at h
 next b=>cases h;exact⟨_,rfl,b⟩
 .cases h
def y9 [E_]{C:p_}(g:∀f n,N f=O n->Nf N C f n=J)(j:∀f args H r H',E_.kh f args H r H'->N f=Q∨(N f=O (2*W args+1)/\H'=H)):Xq C (drOf N):=by
 intro b_ ops z h;unfold drOf at h;split at h
 .split at h
  next a=>cases h;exact λn b m t o=>dr_ok g j b_ ops a n b m t
  .split at h
   next x=>
    split at h
    next q=>cases h;let⟨k,i,s,a⟩:=R9 x;have e:IY z=O (k,i):=s▸V5 k i;rw[q];simp only;rw[e];exact λn b A E m c d u v=>o' (sV g j n).1.1 a c d u v
    .cases h
   .obtain⟨l,e,a⟩:=P' h;rw[e];exact λn b m o c d=>N5 (sV g j n).1.1 a c d
 next p D w=>
  split at h
  next q y a=>cases h;rw[q];simp only;rw[y];exact λn b m t o=>gl (sV g j n).1.1 a t (by rw[w];exact o)
  .obtain⟨l,e,a⟩:=P' h;rw[e];exact λn b m o c d=>N5 (sV g j n).1.1 a c d
end
end Sx
end Go.Am
namespace Go.Am
open Sx Go.Proofs
def neuT:List (Nat×Nat):=[(54,6),(43,6),(23,4),(25,4),(41,4),(55,4),(22,4),(29,4),(76,4),(39,2),(60,6),(58,4),(69,4),(90,4),(56,4),(57,2),(59,2),(107,2),(110,2),(68,4),(91,2),(94,2),(75,4),(96,4),(77,4),(78,6),(120,2),(122,2),(108,4),(109,4),(128,6),(129,2),(130,2),(131,4),(111,4),(112,4),(137,2),(138,4),(145,2),(64,4),(92,2),(62,5),(28,5),(86,3),(124,2),(61,5),(17,0),(83,7)]
def P6(l:List (Nat×Nat))(f:Nat):Ts:=match l with
 | []=>Q
 |p::l=>match Nat.beq p.1 f with
  |J=>O p.2
  |U=>P6 l f
def Ng(f:TT):Ts:=P6 neuT f
def wX{f n:Nat}:∀ {l:List (Nat×Nat)},P6 l f=O n->(f,n)∈l
 |p::l,h=>by
  unfold P6 at h;split at h
  next e=>cases h;have:=Fs e;subst this;exact MA
  .exact G_ _ (wX h)
def eG:(neuT.all λp=>Nf Ng cc p.1 p.2)=J:=e_
def eu(f n:Nat)(h:Ng f=O n):Nf Ng cc f n=J:=D7.1 eG (f,n) (wX h)
def Mx:Dr:=drOf Ng
def nF(k:Nat)(a:List An):Fn1:=fn1 cc.P k ((ac k).getD ⟨[],[]⟩) a
def iF {k:Nat} {g:Func} {a:List An} (h0:(xc k).C.P.funcs[k]?=O g) (h:(g.body,((g.name == "runtime.NumGoroutine")||(xc k).C.opq k),g.ntmps,g.results.toList,ac k)=(O (er (xc k) (nF k a).code),U,(nF k a).nt,(nF k a).rvs,O (nF k a).sg)):I5 (xc k) ac k (nF k a):=by simp only[x3]at h;exact⟨⟨g,h0,h.1,h.2.1,h.2.2.1,h.2.2.2.1⟩,rfl,h.2.2.2.2⟩
abbrev x5(k:Nat)(a:List An):(R b:Type)->Eh R b->TG->b->(TG->b->R)->R:=λR b A ls h K=>au A (xc k) ac Mx (nF k a) ls h K
abbrev x_(k:Nat)(a:List An):Prop:=I5 (xc k) ac k (nF k a)
def i3:x_ 3 J3:=iF Tryz.func3 e_
def i4:x_ 4 J4:=iF Tryz.func4 e_
def i5:x_ 5 J5:=iF Tryz.func5 e_
def i6:x_ 6 J6:=iF Tryz.func6 e_
def i7:x_ 7 J7:=iF Tryz.func7 e_
def i8:x_ 8 J8:=iF Tryz.func8 e_
def i9:x_ 9 J9:=iF Tryz.func9 e_
def i10:x_ 10 J10:=iF Tryz.func10 e_
def i11:x_ 11 J11:=iF Tryz.func11 e_
def i12:x_ 12 J12:=iF Tryz.func12 e_
def i13:x_ 13 J13:=iF Tryz.func13 e_
def i14:x_ 14 J14:=iF Tryz.func14 e_
def i15:x_ 15 J15:=iF Tryz.func15 e_
def i16:x_ 16 J16:=iF Tryz.func16 e_
def i17:x_ 17 J17:=iF Tryz.func17 e_
def i18:x_ 18 J18:=iF Tryz.func18 e_
def i19:x_ 19 J19:=iF Tryz.func19 e_
def i20:x_ 20 J20:=iF Tryz.func20 e_
def i21:x_ 21 J21:=iF Tryz.func21 e_
def i22:x_ 22 J22:=iF Tryz.func22 e_
def i23:x_ 23 J23:=iF Tryz.func23 e_
def i24:x_ 24 J24:=iF Tryz.func24 e_
def i25:x_ 25 J25:=iF Tryz.func25 e_
def i26:x_ 26 J26:=iF Tryz.func26 e_
def i27:x_ 27 J27:=iF Tryz.func27 e_
def i28:x_ 28 J28:=iF Tryz.func28 e_
def i29:x_ 29 J29:=iF Tryz.func29 e_
def i30:x_ 30 J30:=iF Tryz.func30 e_
def i31:x_ 31 J31:=iF Tryz.func31 e_
def i32:x_ 32 J32:=iF Tryz.func32 e_
def i33:x_ 33 J33:=iF Tryz.func33 e_
def i34:x_ 34 J34:=iF Tryz.func34 e_
def i35:x_ 35 J35:=iF Tryz.func35 e_
def i36:x_ 36 J36:=iF Tryz.func36 e_
def i37:x_ 37 J37:=iF Tryz.func37 e_
def i38:x_ 38 J38:=iF Tryz.func38 e_
def i39:x_ 39 J39:=iF Tryz.func39 e_
def i40:x_ 40 J40:=iF Tryz.func40 e_
def i41:x_ 41 J41:=iF Tryz.func41 e_
def i42:x_ 42 J42:=iF Tryz.func42 e_
def i43:x_ 43 J43:=iF Tryz.func43 e_
def i44:x_ 44 J44:=iF Tryz.func44 e_
def i45:x_ 45 J45:=iF Tryz.func45 e_
def i46:x_ 46 J46:=iF Tryz.func46 e_
def i47:x_ 47 J47:=iF Tryz.func47 e_
def i48:x_ 48 J48:=iF Tryz.func48 e_
def i49:x_ 49 J49:=iF Tryz.func49 e_
def i50:x_ 50 J50:=iF Tryz.func50 e_
def i51:x_ 51 J51:=iF Tryz.func51 e_
def i52:x_ 52 J52:=iF Tryz.func52 e_
def i53:x_ 53 J53:=iF Tryz.func53 e_
def i54:x_ 54 J54:=iF Tryz.func54 e_
def i55:x_ 55 J55:=iF Tryz.func55 e_
def i56:x_ 56 J56:=iF Tryz.func56 e_
def i57:x_ 57 J57:=iF Tryz.func57 e_
def i58:x_ 58 J58:=iF Tryz.func58 e_
def i59:x_ 59 J59:=iF Tryz.func59 e_
def i60:x_ 60 J60:=iF Tryz.func60 e_
def i61:x_ 61 J61:=iF Tryz.func61 e_
def i62:x_ 62 J62:=iF Tryz.func62 e_
def i63:x_ 63 J63:=iF Tryz.func63 e_
def i64:x_ 64 J64:=iF Tryz.func64 e_
def i65:x_ 65 J65:=iF Tryz.func65 e_
def i66:x_ 66 J66:=iF Tryz.func66 e_
def i67:x_ 67 J67:=iF Tryz.func67 e_
def i68:x_ 68 J68:=iF Tryz.func68 e_
def i69:x_ 69 J69:=iF Tryz.func69 e_
def i70:x_ 70 J70:=iF Tryz.func70 e_
def i71:x_ 71 J71:=iF Tryz.func71 e_
def i72:x_ 72 J72:=iF Tryz.func72 e_
def i73:x_ 73 J73:=iF Tryz.func73 e_
def i74:x_ 74 J74:=iF Tryz.func74 e_
def i75:x_ 75 J75:=iF Tryz.func75 e_
def i76:x_ 76 J76:=iF Tryz.func76 e_
def i77:x_ 77 J77:=iF Tryz.func77 e_
def i78:x_ 78 J78:=iF Tryz.func78 e_
def i79:x_ 79 J79:=iF Tryz.func79 e_
def i80:x_ 80 J80:=iF Tryz.func80 e_
def i81:x_ 81 J81:=iF Tryz.func81 e_
def i82:x_ 82 J82:=iF Tryz.func82 e_
def i83:x_ 83 J83:=iF Tryz.func83 e_
def i84:x_ 84 J84:=iF Tryz.func84 e_
def i85:x_ 85 J85:=iF Tryz.func85 e_
def i86:x_ 86 J86:=iF Tryz.func86 e_
def i87:x_ 87 J87:=iF Tryz.func87 e_
def i88:x_ 88 J88:=iF Tryz.func88 e_
def i89:x_ 89 J89:=iF Tryz.func89 e_
def i90:x_ 90 J90:=iF Tryz.func90 e_
def i91:x_ 91 J91:=iF Tryz.func91 e_
def i92:x_ 92 J92:=iF Tryz.func92 e_
def i93:x_ 93 J93:=iF Tryz.func93 e_
def i94:x_ 94 J94:=iF Tryz.func94 e_
def i95:x_ 95 J95:=iF Tryz.func95 e_
def i96:x_ 96 J96:=iF Tryz.func96 e_
def i97:x_ 97 J97:=iF Tryz.func97 e_
def i106:x_ 106 J106:=iF Tryz.func106 e_
def i107:x_ 107 J107:=iF Tryz.func107 e_
def i108:x_ 108 J108:=iF Tryz.func108 e_
def i109:x_ 109 J109:=iF Tryz.func109 e_
def i110:x_ 110 J110:=iF Tryz.func110 e_
def i111:x_ 111 J111:=iF Tryz.func111 e_
def i112:x_ 112 J112:=iF Tryz.func112 e_
def i113:x_ 113 J113:=iF Tryz.func113 e_
def i114:x_ 114 J114:=iF Tryz.func114 e_
def i115:x_ 115 J115:=iF Tryz.func115 e_
def i116:x_ 116 J116:=iF Tryz.func116 e_
def i117:x_ 117 J117:=iF Tryz.func117 e_
def i118:x_ 118 J118:=iF Tryz.func118 e_
def i119:x_ 119 J119:=iF Tryz.func119 e_
def i120:x_ 120 J120:=iF Tryz.func120 e_
def i121:x_ 121 J121:=iF Tryz.func121 e_
def i122:x_ 122 J122:=iF Tryz.func122 e_
def i123:x_ 123 J123:=iF Tryz.func123 e_
def i124:x_ 124 J124:=iF Tryz.func124 e_
def i125:x_ 125 J125:=iF Tryz.func125 e_
def i126:x_ 126 J126:=iF Tryz.func126 e_
def i127:x_ 127 J127:=iF Tryz.func127 e_
def i128:x_ 128 J128:=iF Tryz.func128 e_
def i129:x_ 129 J129:=iF Tryz.func129 e_
def i130:x_ 130 J130:=iF Tryz.func130 e_
def i131:x_ 131 J131:=iF Tryz.func131 e_
def i137:x_ 137 J137:=iF Tryz.func137 e_
def i138:x_ 138 J138:=iF Tryz.func138 e_
def i139:x_ 139 J139:=iF Tryz.func139 e_
def i140:x_ 140 J140:=iF Tryz.func140 e_
def i141:x_ 141 J141:=iF Tryz.func141 e_
def i142:x_ 142 J142:=iF Tryz.func142 e_
def i143:x_ 143 J143:=iF Tryz.func143 e_
def i145:x_ 145 J145:=iF Tryz.func145 e_
def i146:x_ 146 J146:=iF Tryz.func146 e_
def i147:x_ 147 J147:=iF Tryz.func147 e_
def e3:@f3=x5 3 J3:=e_
def e6:@f6=x5 6 J6:=e_
def e10:@f10=x5 10 J10:=e_
def e18:@f18=x5 18 J18:=e_
def e24:@f24=x5 24 J24:=e_
def e28:@f28=x5 28 J28:=e_
def e32:@f32=x5 32 J32:=e_
def e34:@f34=x5 34 J34:=e_
def e36:@f36=x5 36 J36:=e_
def e53:@f53=x5 53 J53:=e_
def e58:@f58=x5 58 J58:=e_
def e66:@f66=x5 66 J66:=e_
def e68:@f68=x5 68 J68:=e_
def e69:@f69=x5 69 J69:=e_
def e76:@f76=x5 76 J76:=e_
def e80:@f80=x5 80 J80:=e_
def e81:@f81=x5 81 J81:=e_
def e113:@f113=x5 113 J113:=e_
def e118:@f118=x5 118 J118:=e_
def e123:@f123=x5 123 J123:=e_
def e138:@f138=x5 138 J138:=e_
def e145:@f145=x5 145 J145:=e_
def e8:@f8=x5 8 J8:=e_
def e11:@f11=x5 11 J11:=e_
def e14:@f14=x5 14 J14:=e_
def e17:@f17=x5 17 J17:=e_
def e42:@f42=x5 42 J42:=e_
def e54:@f54=x5 54 J54:=e_
def e64:@f64=x5 64 J64:=e_
def e65:@f65=x5 65 J65:=e_
def e74:@f74=x5 74 J74:=e_
def e82:@f82=x5 82 J82:=e_
def e86:@f86=x5 86 J86:=e_
def e88:@f88=x5 88 J88:=e_
def e96:@f96=x5 96 J96:=e_
def e108:@f108=x5 108 J108:=e_
def e114:@f114=x5 114 J114:=e_
def e121:@f121=x5 121 J121:=e_
def e126:@f126=x5 126 J126:=e_
def e131:@f131=x5 131 J131:=e_
def e140:@f140=x5 140 J140:=e_
def e147:@f147=x5 147 J147:=e_
def e7:@f7=x5 7 J7:=e_
def e12:@f12=x5 12 J12:=e_
def e21:@f21=x5 21 J21:=e_
def e25:@f25=x5 25 J25:=e_
def e33:@f33=x5 33 J33:=e_
def e40:@f40=x5 40 J40:=e_
def e41:@f41=x5 41 J41:=e_
def e44:@f44=x5 44 J44:=e_
def e45:@f45=x5 45 J45:=e_
def e47:@f47=x5 47 J47:=e_
def e52:@f52=x5 52 J52:=e_
def e59:@f59=x5 59 J59:=e_
def e63:@f63=x5 63 J63:=e_
def e67:@f67=x5 67 J67:=e_
def e84:@f84=x5 84 J84:=e_
def e89:@f89=x5 89 J89:=e_
def e90:@f90=x5 90 J90:=e_
def e91:@f91=x5 91 J91:=e_
def e94:@f94=x5 94 J94:=e_
def e128:@f128=x5 128 J128:=e_
def e137:@f137=x5 137 J137:=e_
def e141:@f141=x5 141 J141:=e_
def e143:@f143=x5 143 J143:=e_
def e4:@f4=x5 4 J4:=e_
def e5:@f5=x5 5 J5:=e_
def e9:@f9=x5 9 J9:=e_
def e15:@f15=x5 15 J15:=e_
def e20:@f20=x5 20 J20:=e_
def e23:@f23=x5 23 J23:=e_
def e26:@f26=x5 26 J26:=e_
def e35:@f35=x5 35 J35:=e_
def e39:@f39=x5 39 J39:=e_
def e46:@f46=x5 46 J46:=e_
def e55:@f55=x5 55 J55:=e_
def e57:@f57=x5 57 J57:=e_
def e60:@f60=x5 60 J60:=e_
def e85:@f85=x5 85 J85:=e_
def e97:@f97=x5 97 J97:=e_
def e111:@f111=x5 111 J111:=e_
def e112:@f112=x5 112 J112:=e_
def e115:@f115=x5 115 J115:=e_
def e116:@f116=x5 116 J116:=e_
def e117:@f117=x5 117 J117:=e_
def e120:@f120=x5 120 J120:=e_
def e122:@f122=x5 122 J122:=e_
def e130:@f130=x5 130 J130:=e_
def e13:@f13=x5 13 J13:=e_
def e22:@f22=x5 22 J22:=e_
def e27:@f27=x5 27 J27:=e_
def e30:@f30=x5 30 J30:=e_
def e37:@f37=x5 37 J37:=e_
def e38:@f38=x5 38 J38:=e_
def e43:@f43=x5 43 J43:=e_
def e49:@f49=x5 49 J49:=e_
def e61:@f61=x5 61 J61:=e_
def e70:@f70=x5 70 J70:=e_
def e71:@f71=x5 71 J71:=e_
def e72:@f72=x5 72 J72:=e_
def e75:@f75=x5 75 J75:=e_
def e87:@f87=x5 87 J87:=e_
def e93:@f93=x5 93 J93:=e_
def e106:@f106=x5 106 J106:=e_
def e110:@f110=x5 110 J110:=e_
def e124:@f124=x5 124 J124:=e_
def e129:@f129=x5 129 J129:=e_
def e146:@f146=x5 146 J146:=e_
def e16:@f16=x5 16 J16:=e_
def e19:@f19=x5 19 J19:=e_
def e29:@f29=x5 29 J29:=e_
def e31:@f31=x5 31 J31:=e_
def e48:@f48=x5 48 J48:=e_
def e50:@f50=x5 50 J50:=e_
def e51:@f51=x5 51 J51:=e_
def e56:@f56=x5 56 J56:=e_
def e62:@f62=x5 62 J62:=e_
def e73:@f73=x5 73 J73:=e_
def e77:@f77=x5 77 J77:=e_
def e78:@f78=x5 78 J78:=e_
def e79:@f79=x5 79 J79:=e_
def e83:@f83=x5 83 J83:=e_
def e92:@f92=x5 92 J92:=e_
def e95:@f95=x5 95 J95:=e_
def e107:@f107=x5 107 J107:=e_
def e109:@f109=x5 109 J109:=e_
def e119:@f119=x5 119 J119:=e_
def e125:@f125=x5 125 J125:=e_
def e127:@f127=x5 127 J127:=e_
def e139:@f139=x5 139 J139:=e_
def e142:@f142=x5 142 J142:=e_
end Go.Am
namespace Go.Am
namespace Sx
def Xn(P:TI)(a:TS->FU Unit->Option (Tn)):List (Nat×TypeId)->List (FU Unit)->Nat->Option (Tn)
 | [],[],_=>O []
 |(o,t)::l,d::ds,off=>match Nat.beq o off,a t d with
  |J,O v=>match Nat.beq (W v) (P.cellsOf t),Xn P a l ds (off+W v)with
   |J,O vs=>O (v++vs)
   |_,_=>Q
  |_,_=>Q
 |_,_,_=>Q
def unD(P:TI):Nat->TS->FU Unit->Option (Tn)
 |0,_,_=>Q
 |a+1,t,d=>match P.underlying t,d with
  |O .bool,.lit (.bool b)=>O [.bool b]
  |O (.int k),.lit (.int _ n)=>O [.int k n]
  |O (.struct c),.agg ds=>match Xn P (unD P a) (c.toList.map λf=>(f.offset,f.type)) ds 0 with
   |O vs=>if W vs=P.cellsOf t then O vs else Q
   |Q=>Q
  |O (.array n e),.agg ds=>match Xn P (unD P a) ((EW n).map λi=>(i*P.cellsOf e,e)) ds 0 with
   |O vs=>if W vs=P.cellsOf t then O vs else Q
   |Q=>Q
  |_,_=>Q
section
variable {P:TI} {w:TX} {base:Nat} {spare:Tx} {held:Bool} {enc:TypeId×FO->Unit}
def Nv{g:TS->FU Unit->Option (Tn)}{fuel:Nat}(c:∀t d vs,g t d=O vs->∀cs p,DataW.trod enc P w base spare held fuel t cs=O (d,p)->cs=vs){j7:Type}(o:j7->Nat)(ty:j7->TS)(cs:Tn) :
  ∀(l:List j7) (xs:List (FU Unit×List GW)) (off:Nat) (vs:Tn),l.mapM (λa=>DataW.trod enc P w base spare held fuel (ty a) ((cs.drop (o a)).take (P.cellsOf (ty a))))=O xs->
   Xn P g (l.map λa=>(o a,ty a)) (xs.map (·.1)) off=O vs->(cs.drop off).take (W vs)=vs
 | [],xs,off,vs,h1,b=>by simp only[qds,qc9,Ih]at h1;subst h1;simp only[L9,Xn,Ih]at b;subst b;simp
 |a::l,xs,off,vs,h1,b=>by
  rw[x0]at h1;let⟨x,i,h1⟩:=GY.1 h1;let⟨m,j,h1⟩:=GY.1 h1;cases h1;simp only[Fx,Xn]at b;split at b
  next v e h=>
   split at b
   next n e3 e4=>cases b;have e:=Fs e;have e3:=Fs e3;have f:=c _ _ _ h _ _ i;have k:=Nv c o ty cs l m _ _ j e4;rw[e,←e3]at f;rw[IL,qdt,f,qco];rw[k]
   .cases b
  .cases b
def zE:∀(l:Nat) (t:TS) (d:FU Unit) (vs:Tn),unD P l t d=O vs->∀(fuel:Nat) (cs:Tn) (p:List GW),DataW.trod enc P w base spare held fuel t cs=O (d,p)->cs=vs
 |0,_,_,_,h=>by cases h
 |l+1,t,d,vs,h=>by
  intro fuel cs p a;cases fuel with
  |zero=>simp[DataW.trod]at a
  |succ fuel=>
   have j:∀t d vs,unD P l t d=O vs->∀cs p,DataW.trod enc P w base spare held fuel t cs=O (d,p)->cs=vs:=λt d vs h cs p=>zE l t d vs h fuel cs p;simp only[unD]at h;split at h
   next b e=>
    cases h;simp only[DataW.trod,e]at a
    grind
   next k v n e=>
    cases h;simp only[DataW.trod,e]at a
    grind
   next u r e=>
    split at h
    next s c=>
     split at h
     next e3=>
      cases h;simp only[DataW.trod,e]at a;split at a
      next e4=>
       let⟨o,m,g⟩:=FD.1 a;simp only[x3,DataW.agg.injEq]at g;rw[←g.1]at c;have:=Nv j (λf:Field=>f.offset) (λf:Field=>f.type) cs _ o 0 _ m c
       grind
      .cases a
     .cases h
    .cases h
   next n q r e=>
    split at h
    next s c=>
     split at h
     next e3=>
      cases h;simp only[DataW.trod,e]at a;split at a
      next e4=>
       let⟨o,m,g⟩:=FD.1 a;simp only[x3,DataW.agg.injEq]at g;rw[←g.1]at c;have:=Nv j (λi=>i*P.cellsOf q) (λ_=>q) cs _ o 0 _ m c
       grind
      .cases a
     .cases h
    .cases h
   .cases h
end
section
variable [El]
def wF [Gc]{DJ:TX}{g:Nat}{vs:Tn}(h0:Nat.blt g gB=J)(h1:vs.all bj=J)(f:vs.all flat=J)(h:∃c e fr,DJ.heap[g]?=O (.cells c e fr)/\c.toList=vs) :
  GA g<DJ.heap.size/\vs.all bj=J/\∃c e fr,DJ.heap[GA g]?=O (.cells c e fr)/\cF (λ_=>Q) vs c (H4 g):=by
 let⟨c,e,fr,a,j⟩:=h;rw[Px h0,Py h0];refine⟨(MD.1 a).1,h1,c,e,fr,a,.Ie ?_⟩;rw[j];exact⟨rfl,λi x y b d=>by rw[b]at d;cases d;exact .of_flat (D7.1 f x (A9 b))⟩
end
end Sx
namespace Sx
open Go.ChangeShapes Go.WideShapes Go.ChangeAt Go.WideMaps Go.WideElems Go.RowKit
def sk{DJ a:TX}(h1:a.os=DJ.os)(d:a.output=DJ.output)(e:∀b,b<DJ.heap.size->a.heap[b]?=DJ.heap[b]?)(c:GW->Prop):DJ.keptBut a c:=by
 refine⟨h1,d,λi f=>?_⟩
 grind
def sM{P:TI}{w:TX}{a:List (String×FU Unit)}{m:List GW}(h:DataW.LaidVars P w a m):∀n d,(n,d)∈a->∀g t b vs,P.globalNamed n=O g->(P.globals[g]?).map (·.type)=O t->unD P b t d=O vs->
  ∃c e fr,w.heap[g]?=O (.cells c e fr)/\c.toList=vs:=by
 induction a generalizing m with
 |nil=>intro n d h;cases h
 |cons x l E=>
  let⟨F,B⟩:=x;let⟨C,G,A,j,p,q,o,r,s,u,y,z⟩:=h;intro n d k g t b vs f i v;rcases Fy.1 k with e|k
  .cases e;rw[o]at f;cases f;rw[r]at i;cases i;have D:=zE b _ _ vs v _ _ _ u;unfold World.var? at s
   grind
  grind
section
variable [El] [E_]
end
end Sx
namespace Sx
section
variable [El] [E_]
def p1(b:Bool)(x y:Prop):Prop:=(b=J->x)/\(b=U->y)
abbrev _root_.Tw:=Int->Prop
def v0(op:GO)(k:TN)(a b:Int)(K:Tw):Prop:=
 match op with
 | .add=>K (k.wrap (a+b))
 | .sub=>K (k.wrap (a-b))
 | .mul=>K (k.wrap (a*b))
 | .quo=>b≠0/\K (k.wrap (a.tdiv b))
 | .rem=>b≠0/\K (a.tmod b)
 | .and=>(b=1/\K (a%2))∨(b≠1/\∃n,tI .and k a b n/\K n)
 |op=>∃n,tI op k a b n/\K n
abbrev _root_.Tp:=Bool->Prop
def kb(c:GO)(a b:Int)(K:Tp):Prop:=
 match c with
 | .eql=>K (a==b)
 | .neq=>K (a != b)
 | .lss=>K (decide (a<b))
 | .leq=>K (decide (a<=b))
 | .gtr=>K (decide (a > b))
 | .geq=>K (decide (a ≥ b))
 |_=>False
def optP{j7:Type}(o:Option j7)(K:j7->Prop):Prop:=∃x,o=O x/\K x
def unIP(ls:TG)(K:Int->TG->Prop):Prop:=match ls with | .i n::r=>K n r|_=>False
def unBP(ls:TG)(K:Bool->TG->Prop):Prop:=match ls with | .b n::r=>K n r|_=>False
def unVP(ls:TG)(K:FO->TG->Prop):Prop:=match ls with | .v n::r=>K n r|_=>False
def un0P(ls:TG)(K:Prop):Prop:=match ls with | []=>K|_=>False
def ucIP(k:TN)(ls:Tn)(K:Int->Tn->Prop):Prop:=match ls with | .int k' n::r=>k=k'/\K n r|_=>False
def ucBP(ls:Tn)(K:Bool->Tn->Prop):Prop:=match ls with | .bool n::r=>K n r|_=>False
abbrev _root_.Ta:=FO->Tn->Prop
def ucVP(ls:Tn)(K:Ta):Prop:=match ls with|n::r=>K n r|_=>False
def uc0P(ls:Tn)(K:Prop):Prop:=match ls with | []=>K|_=>False
def getL(h:Tu):cU:=λi=>h[i]?
abbrev _root_.Tf:=List FO->Prop
def peekP(f:Pk)(h:Tu)(K:Tf):Prop:=∃cs,f.run (getL h)=O cs/\K cs
def heapP(f:Hp)(h:Tu)(K:Tn->Tu->Prop):Prop:=∃a cs,f.run (getL h) (W h)=O (a,cs)/\K cs (iK h a)
def callP(C:p_)(Sg:Td)(g:TT)(ls:TG)(h:Tu)(K:TG->Tu->Prop):Prop:=∃a h',aD C Sg g ls h a h'/\K a h'
def callvP(C:p_)(v:FO)(args:Tn)(b:TP)(h:Tu)(K:TG->Tu->Prop):Prop:=∃a h',yb C v args b h a h'/\K a h'
def itP(F:(TG->Tu->Prop)->TG->Tu->Prop)(n:Nat):TG->Tu->Prop:=
 match n with
 |0=>λ_ _=>False
 |n+1=>F (itP F n)
def loopP(F:(TG->Tu->Prop)->TG->Tu->Prop)(ls:TG)(h:Tu):Prop:=∃n,itP F n ls h
def rfunP(C:p_)(T:Tv)(d:Nat)(v:FO)(a:Tn)(h:Tu)(K:Tm->Tu->Prop):Prop:=
 ∃g first cap r c b,v = .func (.func g) first cap/\
  kw C g (first.toList++[.func (.yield (W h)) #[] #[]]++cap.toList) (h++[.loop (GD (T d) d a)]) r c/\
  fe c (W h)=O b/\b.state≠.busy/\K b.pending (c.set (W h) (.loop { b with state:=.exhausted }))
def Rz(c:Tm)(a b:Prop)(ks:List (Nat×Prop)):Prop:=
 match c with
 |Q=>a
 |O .ret=>b
 |O (.exit id)=>∃x,(id,x)∈ks/\x
 |_=>False
def lp1P(l:Nat)(h:Tu)(K:Tu->Prop):Prop:=∃a,fe h l=O a/\a.state = .ready/\K (h.set l (.loop { a with state:=.busy }))
def lp2P(l:Nat)(j:Tm)(h:Tu)(K:Tu->Prop):Prop:=∃a,fe h l=O a/\K (h.set l (.loop { a with state:=if j.isNone then .ready else .done,pending:=j }))
def PA(C:p_)(Sg:Td)(T:Tv):Eh Prop (Tu) where
 fail:=False
 cond:=p1
 C5:=v0
 IX:=λd k a c b K=>∃n,NS d k a c b n/\K n
 cmp:=kb
 eqs:=λl K=>K (cz l)
 conv:=λk a K=>K (k.wrap a)
 I4:=λt a b K=>K (if t then a else b)
 km:=optP
 qa:=λv K=>aH v=J/\K
 qs:=unIP
 GM:=unBP
 D3:=unVP
 C3:=un0P
 ua:=ucIP
 F5:=ucBP
 C7:=ucVP
 wb:=uc0P
 oo:=peekP
 heap:=heapP
 new:=λo h K=>K (W h) (h++[o])
 call:=callP C Sg
 D':=callvP C
 join:=λb m=>m b
 loop:=loopP
 Gr:=rfunP C T
 F4:=Rz
 LX:=lp1P
 I1:=lp2P
def gW(C:p_)(Sg:Td)(T:Tv):te (PA C Sg T) C Sg T id id where
 fail:=λh=>h
 cond:=by
  intro b x y h;cases b
  .exact .inr ⟨rfl,h.2 rfl⟩
  .exact .inl ⟨rfl,h.1 rfl⟩
 C5:=by
  intro e k a b K h;have h:v0 e k a b K:=h;cases e<;>simp only[v0]at h
  .exact⟨_,λP t w=>by simp[binOp,Op.intArith],h⟩
  .exact⟨_,λP t w=>by simp[binOp,Op.intArith],h⟩
  .exact⟨_,λP t w=>by simp[binOp,Op.intArith],h⟩
  .obtain⟨u,h⟩:=h;exact⟨_,λP t w=>by simp[binOp,Op.intDiv,u],h⟩
  .obtain⟨u,h⟩:=h;exact⟨_,λP t w=>by simp[binOp,Op.intDiv,u],h⟩
  .rcases h with⟨rfl,H⟩|⟨_,n,q,s⟩
   .exact⟨_,rz rfl,H⟩
   grind
  all_goals exact h
 IX:=λe k a A b K h=>h
 cmp:=by intro e a b K h;have h:kb e a b K:=h;cases e<;>simp only[kb]at h<;>exact⟨_,rfl,h⟩
 eqs:=λl K h=>h
 conv:=λk a K h=>h
 I4:=λt a b K h=>h
 km:=λo K h=>h
 qa:=λv K h=>h
 qs:=by
  intro d K h
  match d,h with
  | .i n::r,h=>exact⟨n,r,rfl,h⟩
 GM:=by
  intro d K h
  match d,h with
  | .b n::r,h=>exact⟨n,r,rfl,h⟩
 D3:=by
  intro d K h
  match d,h with
  | .v n::r,h=>exact⟨n,r,rfl,h⟩
 C3:=by
  intro d K h
  match d,h with
  | [],h=>exact⟨rfl,h⟩
 ua:=by
  intro k d K h
  match d,h with
  | .int A n::r,h=>
   obtain⟨rfl,h⟩ : k=A/\K n r:=h
   grind
 F5:=by
  intro d K h
  match d,h with
  | .bool n::r,h=>exact⟨n,r,rfl,h⟩
 C7:=by
  intro d K h
  match d,h with
  |n::r,h=>exact⟨n,r,rfl,h⟩
 wb:=by
  intro d K h
  match d,h with
  | [],h=>exact⟨rfl,h⟩
 oo:=λf h K c=>c
 heap:=by intro f h K c;let⟨p,G,q,s⟩:=c;exact⟨p,G,_,q,rfl,s⟩
 new:=λo h K c=>⟨_,rfl,c⟩
 call:=λg d h K c=>c
 D':=λv z Y h K c=>c
 join:=λb m h=>h
 loop:=by intro F d h c;let⟨n,c⟩:=c;exact⟨itP F,λd h=>(id:False->False),λn d h=>rfl,n,c⟩
 Gr:=by
  intro Z v D h K c;let⟨g,first,E,r,S,B,q,s,I,V,X⟩:=c
  grind
 F4:=by
  intro R L M N h;have h:Rz R L M N:=h;unfold Rz at h
  grind
 LX:=by
  intro l h K c;let⟨B,q,s,I⟩:=c
  simp_all
 I1:=by
  intro l j h K c;let⟨B,q,s⟩:=c
  simp_all
def SL.Hr{l:SL}{k:LK}(h:l.is k=J)(a:k.plain=J):scalar l.val=J:=by cases l<;>cases k<;>first|(cases a;done)|(cases h;done)|rfl
def og:∀ {cs:List SL} {ks:TK},bf cs ks=J->ks.all LK.plain=J->(cs.map SL.val).all scalar=J
 | [],[],_,_=>rfl
 |c::cs,k::ks,h,a=>by simp only[bf,y_]at h;simp only[j3,y_]at a;simp only[Fx,j3,y_];exact⟨SL.Hr h.1 a.1,og h.2 a.2⟩
 | [],_::_,h,_=>by cases h
 |_::_,[],h,_=>by cases h
def S0.L8{x:S0}{k:SK}(h:x.is k=J)(a:k.plain=J):gI x.val=J:=by
 cases x with
 |leaf l=>
  cases k with
  |leaf k=>have:=SL.Hr h a;show gI l.val=J;cases b:l.val<;>rw[b]at this<;>first|exact this|cases this
  |agg _=>cases h
 |agg c=>
  cases k with
  |leaf k=>cases h
  |agg d=>exact og h a
def lV{v:TV}(h:gI v=J):flat v=J:=by cases v<;>first|exact h|cases h
def kR:∀ {xs:List S0} {sks:TP},cJ xs sks=J->sks.all SK.plain=J->(ao xs).all gI=J
 | [],[],_,_=>rfl
 |x::xs,k::ks,h,a=>by simp only[cJ,y_]at h;simp only[j3,y_]at a;simp only[ao,Fx,j3,y_];exact⟨S0.L8 h.1 a.1,kR h.2 a.2⟩
 | [],_::_,h,_=>by cases h
 |_::_,[],h,_=>by cases h
def Cq{xs:List S0}{sks:TP}(h:cJ xs sks=J)(a:sks.all SK.plain=J):(ao xs).all flat=J:=by have:=kR h a;rw[D7]at this ⊢;exact λv b=>lV (this v b)
def Da{vs:Tn}(h:vs.all gI=J):flat (gL vs)=J:=by
 match vs,h with
 | [],_=>rfl
 | [v],h=>simp only[j3,List.all_nil,qdO]at h;exact lV h
 |a::b::l,h=>show flat (.tuple (a::b::l).toArray)=J;simp only[flat,y_];exact⟨d_,h⟩
end
@[reducible] def KnoC (C:p_) (N:Tc) [El]:E_:=⟨λf args r=>∀H,eR C f args H r H,λf args H r H'=>(N f=none∨(N f=some (2*args.length+1)/\H'=H))/\eR C f args H r H'⟩
section
variable [El]
def Ct(C:p_)(N:Tc)(Sg:Td)(g:TT)(ls a:TG):Prop:=let _:E_:=KnoC C N;∀H,aD C Sg g ls H a H
def xX{C:p_}{N:Tc}(a:C.P.follows .mixedOrders=J){f:TT}{args:Tn}{H:Tu}{r:TV}{H':Tu}(h:let _:E_:=KnoC C N;kw C f args H r H'):eR C f args H r H':=
 @zz _ _ (KnoC C N) a (λ_ _ _ h=>h) (λ_ _ _ _ _ h=>h.2) _ _ _ _ _ h
def cf{C:p_}{N:Tc}{Sg:Td}(l:C.P.follows .mixedOrders=J)(j:∀g vs,C.G g=O vs->vs.all ma=J){g:TT}{sg:Ko}(e:Sg g=O sg)(a:sg.plain=J){ls f:TG}{H':Tu}
  (h:let _:E_:=KnoC C N;aD C Sg g ls [] f H'):Ct C N Sg g ls f:=by
 let _:E_:=KnoC C N
 let⟨n,o,p,b,c,d,i⟩:=h;rw[e]at b;cases b;simp only[Ko.plain,y_]at a;have k:=Cq c.1 a.1;have m:=Da (kR d.1 a.2);intro H;exact⟨sg,o,p,e,c,d,⟨0,.inl ⟨λH=>Y0 j (xX l i) k m H,rfl⟩⟩⟩
end
section
variable [El] [E_]
def dt{n:Int}(h1:-9223372036854775808<=n)(a:n<=9223372036854775807):IntKind.wrap DQ n=n:=by simp only[IntKind.wrap,IntKind.bits,IntKind.signed,Bool.true_and,ge_iff_le,Gp];omega
def vM{n:Int}(h1:0<=n)(a:n<=255):IntKind.wrap DU n=n:=by simp only[IntKind.wrap,IntKind.bits,IntKind.signed,Bool.false_and,FG,if_false];omega
end
end Sx
namespace Sx
section
variable [El]
abbrev _root_.TF:=Nat->Nat
def renV(g9:TF)(v:FO):FO:=match v with
 | DW (O a) b c=>DW (O ⟨g9 a.block,a.off,a.spot⟩) b c
 |v=>v
def renSL(g9:TF):SL->SL
 | .v x=>.v (renV g9 x)
 |s=>s
def renS(g9:TF):S0->S0
 | .leaf l=>.leaf (renSL g9 l)
 | .agg cs=>.agg (cs.map (renSL g9))
def OkV(n:Nat)(v:FO):Prop:=(flat v=J/\∀g9,renV g9 v=v)∨∃j off len cx e,j<n/\v=DW (O ⟨j,off,le e⟩) len cx
def OkL(n:Nat):Lf->Prop
 | .v x=>OkV n x
 |_=>True
end
end Sx
end Go.Am
namespace Go.Am
open Sx
abbrev FB:=List Lf->C8->(TG->C8->RT)->RT
def nf:FB:=λ_ _ _=>Q
def Ld(a:TG)(_:C8):RT:=vh a λa=>O a
def d8(g:FB):FB:=λa h K=>vh a λa=>@Option.rec _ (λ_=>RT) Q (λb=>K b h) (g a .empty Ld)
abbrev cB(x y:RT)(b:Bool):RT:=@Bool.rec (λ_=>RT) x y b
def MK{A B C D E F G H I po K Z:Sort _}{f g:A->B->C->D->E->F->G->H->I->po->K->Z}(h:f=g)(a:A)(b:B)(c:C)(d:D)(x4:E)(e:F)(x6:G)(x7:H)(x8:I)(x9:po)(x10:K):f a b c d x4 e x6 x7 x8 x9 x10=g a b c d x4 e x6 x7 x8 x9 x10:=by rw[h]
section
variable {Sg:Td} {T:Tv} {call:gk}
end
section
variable [El] [E_]
def tl(a:TG):TG->Bool:=@List.rec _ (λ_=>TG->Bool) (λb=>@List.rec _ (λ_=>Bool) J (λ_ _ _=>U) b) (λx _ c b=>@List.rec _ (λ_=>Bool) U (λy m _=>@Bool.rec (λ_=>Bool) U (c m) (M4 x y)) b) a
def CF{x y:Lf}(h:M4 x y=J):x=y:=by
 cases x<;>cases y<;>first|(cases h;done)|skip
 .have h:YL _ _=J:=h;rw[yx,beq_iff_eq]at h;rw[h]
 next a b=>cases a<;>cases b<;>first|rfl|cases h
def sy:∀ {a b:TG},tl a b=J->a=b
 | [],[],_=>rfl
 |x::a,y::b,h=>by
  have h:@Bool.rec (λ_=>Bool) U (tl a b) (M4 x y)=J:=h;cases e:M4 x y with
  |true=>rw[e]at h;rw[CF e,sy h]
  |false=>rw[e]at h;cases h
 | [],_::_,h=>by cases h
 |_::_,[],h=>by cases h
def Xr(C:p_)(Sg:Td)(T:Tv)(k:Nat)(g:FB):Prop:=∀ls h K w,en ls->g ls h K=O w->∃a h',aD C Sg k ls (h_ T (EV h)) a (h_ T (EV h'))/\K a h'=O w
def YOk(C:p_)(Sg:Td)(T:Tv)(a:Nat)(g:Tn->Nat->FB):Prop:=∀vs l ls h K w st c xs,h.at l=O (.lp a st c vs)->Told ((T a).params.map (·.2)) ls xs->g vs l ls h K=O w->
  ∃b h',iO C l (ao xs) (h_ T (EV h)) (.bool b) (h_ T (EV h'))/\K [.b b] h'=O w
def Sn:Ld=λa _=>O a:=by
 funext a h
 exact fL a _
def d9{C:p_}{Sg:Td}{T:Tv}(d:∀f sg ls a H',Sg f=O sg->sg.plain=J->aD C Sg f ls [] a H'->∀H,aD C Sg f ls H a H)
  {k:Nat} {g:FB} {sg:Ko} (l:Xr C Sg T k g) (n:Sg k=O sg) (m:sg.plain=J):Xr C Sg T k (d8 g):=by
 intro ls h K w c b;unfold d8 at b;rw[fL,Sn]at b;cases e:g ls .empty (λa _=>O a)with
 |none=>rw[e]at b;cases b
 |some a=>rw[e]at b;let⟨o,p,i,j⟩:=l ls .empty _ a c e;cases j;exact⟨a,h,d k sg ls a _ n m i _,b⟩
end
end Go.Am
namespace Go.Am
open Sx Go.Proofs
section
variable {R HT:Type} (A:Eh R HT)
def y96(vs:Tn)(o:Nat)(ls:TG)(h:HT)(K:TG->HT->R):R:=A.C7 vs λx8 p=>A.qa x8 (A.C7 p λx10 q=>A.qa x10 (A.wb q (A.qs ls λa r=>A.qs r λc s=>A.D3 s λt u=>A.qs u λd v=>A.qs v λe w=>A.qs w λf x=>A.D3 x λx24 y=>A.C3 y (A.new (EJ [EO DQ 0,EO DQ 0,DW Q 0 0,EO DU 0,EO DQ 0,EO DQ 0,DW Q 0 0] 7 J) h λm z=>A.heap (.st (EQ (O ⟨m,0,Q⟩)) [EO DQ a,EO DQ c,t,EO DU d,EO DQ e,EO DQ f,x24]) z λS B=>A.LX o B λn=>A.oo (.lg cc 7 (EQ (O ⟨m,0,Q⟩))) n λC=>A.ua DQ C λg D=>A.ua DQ D λi E=>A.C7 E λx36 F=>A.qa x36 (A.ua DU F λj G=>A.ua DQ G λk H=>A.ua DQ H λl I=>A.C7 I λx44 L=>A.qa x44 (A.wb L (A.heap (.st x8 [EO DQ g,EO DQ i,x36,EO DU j,EO DQ k,EO DQ l,x44]) n λT M=>A.heap (.st x10 [EO DQ 0]) M λV N=>A.I1 o (O .ret) N λP=>K [.b U] P)))))))
def y160(vs:Tn)(d:Nat)(ls:TG)(h:HT)(K:TG->HT->R):R:=A.C7 vs λx8 t=>A.qa x8 (A.C7 t λx10 u=>A.qa x10 (A.wb u (A.qs ls λe v=>A.qs v λf w=>A.D3 w λx y=>A.qs y λg z=>A.qs z λi B=>A.qs B λj C=>A.D3 C λx24 D=>A.C3 D (A.new (EJ [EO DQ 0,EO DQ 0,DW Q 0 0,EO DU 0,EO DQ 0,EO DQ 0,DW Q 0 0] 7 J) h λq E=>A.heap (.st (EQ (O ⟨q,0,Q⟩)) [EO DQ e,EO DQ f,x,EO DU g,EO DQ i,EO DQ j,x24]) E λf2 F=>A.LX d F λc=>A.oo (.lg cc 1 x10) c λG=>A.C7 G λx32 H=>A.qa x32 (A.wb H (A.oo (.lg cc 7 (EQ (O ⟨q,0,Q⟩))) c λI=>A.ua DQ I λk L=>A.ua DQ L λl M=>A.C7 M λr N=>A.qa r (A.ua DU N λm P=>A.ua DQ P λn S=>A.ua DQ S λo T=>A.C7 T λx47 V=>A.qa x47 (A.wb V (A.new (EJ [EO DQ k,EO DQ l,r,EO DU m,EO DQ n,EO DQ o,x47] 7 J) c λX Y=>A.heap (.ap cc 7 88 x32 (DW (O ⟨X,0,O 17⟩) 1 2)) Y λZ d5=>A.C7 Z λx53 d6=>A.qa x53 (A.wb d6 (A.heap (.st x10 [x53]) d5 λgl a=>A.oo (.lg cc 1 x10) a λd7=>A.C7 d7 λs d8=>A.qa s (A.wb d8 (A.km (KP s) λd9=>A.oo (.lg cc 1 x8) a λe0=>A.ua DQ e0 λp e1=>A.wb e1 (A.cmp .eql d9 p λe2=>A.cond e2 (A.I1 d (O (.exit 0)) a λf0=>K [.b U] f0) (A.I1 d Q a λf1=>K [.b J] f1)))))))))))))))
end
def ey96:@y96=λR b A vs a ls h K=>uj A (xc 0) ac Mx (aa 96) vs a ls h K:=e_
def ey160:@y160=λR b A vs a ls h K=>uj A (xc 0) ac Mx (aa 160) vs a ls h K:=e_
instance val0 : El := ⟨λ_ => 0⟩
instance kno0:E_:=KnoC cc Ng
def mixed:cc.P.follows .mixedOrders=J:=e_
def uF(g:Nat)(vs:Tn)(h:cc.G g=O vs):vs.all ma=J:=by unfold cc at h;simp only at h;split at h<;>first|(cases h;done)|(obtain rfl:=Fm h;kernel_rfl)
def wl:Xq cc Mx:=y9 eu (λ_ _ _ _ _ (h:_/\_)=>h.1)
abbrev Ent(k:Nat)(g:FB):Prop:=Xr cc ac aa k g
abbrev d2(c:gk):Prop:=Gb cc ac aa c
def BK(f:TT)(sg:Ko)(ls a:TG)(H':Tu)(d:ac f=O sg)(c:sg.plain=J)(b:aD cc ac f ls [] a H'):∀H,aD cc ac f ls H a H:=cf mixed uF d c b
def gb{k:Nat}{g:FB}{sg:Ko}(h:Ent k g)(a:ac k=O sg)(b:sg.plain=J):Ent k (d8 g):=d9 BK h a b
def nA:Eh RT C8->FB:=λ_=>nf
def E0(F:Eh RT C8->FB):Eh RT C8->FB:=λA=>d8 (F A)
inductive TrA where
 |leaf
 |node (v:Eh RT C8->FB) (l r:TrA)
def KI(p:Fw):TrA->Eh RT C8->FB:=
 Fw.rec (motive:=λ_=>TrA->Eh RT C8->FB) (λt=>TrA.casesOn t nA λv _ _=>v) (λ_ a t=>TrA.casesOn t nA λ_ l _=>a l) (λ_ a t=>TrA.casesOn t nA λ_ _ r=>a r) p
def y_of{d:Nat}{g:gk->Tn->Nat->FB}{ct:gk->gk}{c:gk}(h0:∀vs l ls h K,uj (BA ac aa (ct c)) (xc 0) ac Mx (aa d) vs l ls h K=g c vs l ls h K)(k:d2 (ct c)):YOk cc ac aa d (g c):=by intro vs l ls h K w o n p e m a;rw[←h0]at a;let⟨b,j,f,i⟩:=Ax (X:=xc 0) (b8 (w:=w) k) wl (lW e) rfl rfl rfl rfl m a;exact⟨b,j,f,i⟩
def Lc:TrA:=(.node nA (.node nA (.node f3 (.node f7 (.node f15 (.node f31 (.node f63 (.node (E0 f127) .leaf .leaf) .leaf) (.node f95 .leaf .leaf)) (.node f47 (.node f79 (.node (E0 f143) .leaf .leaf) .leaf) (.node (E0 f111) .leaf .leaf))) (.node (E0 f23) (.node (E0 f39) (.node f71 .leaf .leaf) .leaf) (.node (E0 f55) (.node f87 .leaf .leaf) (.node (E0 f119) .leaf .leaf)))) (.node f11 (.node f19 (.node f35 (.node f67 (.node (E0 f131) .leaf .leaf) .leaf) .leaf) (.node f51 (.node f83 (.node (E0 f147) .leaf .leaf) .leaf) (.node f115 .leaf .leaf))) (.node f27 (.node (E0 f43) (.node (E0 f75) (.node f139 .leaf .leaf) .leaf) (.node (E0 f107) .leaf .leaf)) (.node (E0 f59) (.node (E0 f91) .leaf .leaf) (.node f123 .leaf .leaf))))) (.node (E0 f5) (.node f9 (.node (E0 f17) (.node f33 (.node f65 (.node (E0 f129) .leaf .leaf) .leaf) (.node f97 .leaf .leaf)) (.node f49 (.node (E0 f81) (.node (E0 f145) .leaf .leaf) .leaf) (.node f113 .leaf .leaf))) (.node (E0 f25) (.node (E0 f41) (.node (E0 f73) (.node (E0 f137) .leaf .leaf) .leaf) .leaf) (.node (E0 f57) (.node f89 .leaf .leaf) (.node (E0 f121) .leaf .leaf)))) (.node f13 (.node f21 (.node f37 (.node (E0 f69) .leaf .leaf) .leaf) (.node f53 (.node f85 .leaf .leaf) (.node (E0 f117) .leaf .leaf))) (.node (E0 f29) (.node f45 (.node (E0 f77) (.node (E0 f141) .leaf .leaf) .leaf) (.node (E0 f109) .leaf .leaf)) (.node f61 (.node f93 .leaf .leaf) (.node f125 .leaf .leaf)))))) (.node nA (.node f4 (.node f8 (.node f16 (.node f32 (.node (E0 f64) (.node (E0 f128) .leaf .leaf) .leaf) (.node (E0 f96) .leaf .leaf)) (.node f48 (.node f80 .leaf .leaf) (.node (E0 f112) .leaf .leaf))) (.node f24 (.node (E0 f40) (.node f72 .leaf .leaf) .leaf) (.node (E0 f56) (.node f88 .leaf .leaf) (.node (E0 f120) .leaf .leaf)))) (.node f12 (.node f20 (.node f36 (.node (E0 f68) .leaf .leaf) .leaf) (.node f52 (.node f84 .leaf .leaf) (.node f116 .leaf .leaf))) (.node f28 (.node f44 (.node (E0 f76) (.node f140 .leaf .leaf) .leaf) (.node (E0 f108) .leaf .leaf)) (.node (E0 f60) (.node (E0 f92) .leaf .leaf) (.node (E0 f124) .leaf .leaf))))) (.node f6 (.node f10 (.node f18 (.node (E0 f34) (.node f66 (.node (E0 f130) .leaf .leaf) .leaf) .leaf) (.node f50 (.node f82 (.node f146 .leaf .leaf) .leaf) (.node f114 .leaf .leaf))) (.node f26 (.node f42 (.node f74 (.node (E0 f138) .leaf .leaf) .leaf) (.node (E0 f106) .leaf .leaf)) (.node (E0 f58) (.node (E0 f90) .leaf .leaf) (.node (E0 f122) .leaf .leaf)))) (.node f14 (.node (E0 f22) (.node f38 (.node (E0 f70) .leaf .leaf) .leaf) (.node (E0 f54) (.node f86 .leaf .leaf) (.node (E0 f118) .leaf .leaf))) (.node f30 (.node f46 (.node (E0 f78) (.node (E0 f142) .leaf .leaf) .leaf) (.node (E0 f110) .leaf .leaf)) (.node f62 (.node (E0 f94) .leaf .leaf) (.node (E0 f126) .leaf .leaf)))))))
def stepF(c:gk):gk:=λa=>match a with
 | .f f=>match Nat.blt f 148 with
  |J=>KI (cG f) Lc (BA ac aa c)
  |U=>nf
 | .y b d l=>uj (BA ac aa c) (xc 0) ac Mx (aa b) d l
def Mc(n:Nat):gk:=Nat.rec (motive:=λ_=>gk) (λ_ _ _ _=>Q) (λ_ c=>stepF c) n
section
variable {k:Nat} {F:(R HT:Type)->Eh R HT->TG->HT->(TG->HT->R)->R} {fn:Fn1} {c:gk}
def tn(h1:KI (cG k) Lc=nA:=by kernel_rfl):Ent k (KI (cG k) Lc (BA ac aa c)):=by intro d h K w b a;rw[h1]at a;cases a
def oy(g:F=λR HT A ls h K=>au A (xc k) ac Mx fn ls h K)(i:I5 (xc k) ac k fn)(j:d2 c):Ent k (F RT C8 (BA ac aa c)):=by intro ls h K w a b;rw[g]at b;let⟨l,f,d,_,e⟩:=ui (b8 (w:=w) j) wl i a b;exact⟨l,f,d,e⟩
def tw(a:F=λR HT A ls h K=>au A (xc k) ac Mx fn ls h K)(b:I5 (xc k) ac k fn)(d:d2 c)(h1:KI (cG k) Lc=F RT C8:=by kernel_rfl):Ent k (KI (cG k) Lc (BA ac aa c)):=by rw[h1];exact oy a b d
def tm(a:F=λR HT A ls h K=>au A (xc k) ac Mx fn ls h K)(b:I5 (xc k) ac k fn)(f:d2 c){sg:Ko}(d:ac k=O sg:=by rfl)(e:sg.plain=J:=by kernel_rfl)(h1:KI (cG k) Lc=E0 (F RT C8):=by kernel_rfl):Ent k (KI (cG k) Lc (BA ac aa c)):=by rw[h1];exact gb (oy a b f) d e
end
def c5{c:gk}(a:d2 c):∀f,Nat.blt f 148=J->Ent f (KI (cG f) Lc (BA ac aa c))
 |0,_=>tn
 |1,_=>tn
 |2,_=>tn
 |3,_=>tw e3 i3 a
 |4,_=>tw e4 i4 a
 |5,_=>tm e5 i5 a
 |6,_=>tw e6 i6 a
 |7,_=>tw e7 i7 a
 |8,_=>tw e8 i8 a
 |9,_=>tw e9 i9 a
 |10,_=>tw e10 i10 a
 |11,_=>tw e11 i11 a
 |12,_=>tw e12 i12 a
 |13,_=>tw e13 i13 a
 |14,_=>tw e14 i14 a
 |15,_=>tw e15 i15 a
 |16,_=>tw e16 i16 a
 |17,_=>tm e17 i17 a
 |18,_=>tw e18 i18 a
 |19,_=>tw e19 i19 a
 |20,_=>tw e20 i20 a
 |21,_=>tw e21 i21 a
 |22,_=>tm e22 i22 a
 |23,_=>tm e23 i23 a
 |24,_=>tw e24 i24 a
 |25,_=>tm e25 i25 a
 |26,_=>tw e26 i26 a
 |27,_=>tw e27 i27 a
 |28,_=>tw e28 i28 a
 |29,_=>tm e29 i29 a
 |30,_=>tw e30 i30 a
 |31,_=>tw e31 i31 a
 |32,_=>tw e32 i32 a
 |33,_=>tw e33 i33 a
 |34,_=>tm e34 i34 a
 |35,_=>tw e35 i35 a
 |36,_=>tw e36 i36 a
 |37,_=>tw e37 i37 a
 |38,_=>tw e38 i38 a
 |39,_=>tm e39 i39 a
 |40,_=>tm e40 i40 a
 |41,_=>tm e41 i41 a
 |42,_=>tw e42 i42 a
 |43,_=>tm e43 i43 a
 |44,_=>tw e44 i44 a
 |45,_=>tw e45 i45 a
 |46,_=>tw e46 i46 a
 |47,_=>tw e47 i47 a
 |48,_=>tw e48 i48 a
 |49,_=>tw e49 i49 a
 |50,_=>tw e50 i50 a
 |51,_=>tw e51 i51 a
 |52,_=>tw e52 i52 a
 |53,_=>tw e53 i53 a
 |54,_=>tm e54 i54 a
 |55,_=>tm e55 i55 a
 |56,_=>tm e56 i56 a
 |57,_=>tm e57 i57 a
 |58,_=>tm e58 i58 a
 |59,_=>tm e59 i59 a
 |60,_=>tm e60 i60 a
 |61,_=>tw e61 i61 a
 |62,_=>tw e62 i62 a
 |63,_=>tw e63 i63 a
 |64,_=>tm e64 i64 a
 |65,_=>tw e65 i65 a
 |66,_=>tw e66 i66 a
 |67,_=>tw e67 i67 a
 |68,_=>tm e68 i68 a
 |69,_=>tm e69 i69 a
 |70,_=>tm e70 i70 a
 |71,_=>tw e71 i71 a
 |72,_=>tw e72 i72 a
 |73,_=>tm e73 i73 a
 |74,_=>tw e74 i74 a
 |75,_=>tm e75 i75 a
 |76,_=>tm e76 i76 a
 |77,_=>tm e77 i77 a
 |78,_=>tm e78 i78 a
 |79,_=>tw e79 i79 a
 |80,_=>tw e80 i80 a
 |81,_=>tm e81 i81 a
 |82,_=>tw e82 i82 a
 |83,_=>tw e83 i83 a
 |84,_=>tw e84 i84 a
 |85,_=>tw e85 i85 a
 |86,_=>tw e86 i86 a
 |87,_=>tw e87 i87 a
 |88,_=>tw e88 i88 a
 |89,_=>tw e89 i89 a
 |90,_=>tm e90 i90 a
 |91,_=>tm e91 i91 a
 |92,_=>tm e92 i92 a
 |93,_=>tw e93 i93 a
 |94,_=>tm e94 i94 a
 |95,_=>tw e95 i95 a
 |96,_=>tm e96 i96 a
 |97,_=>tw e97 i97 a
 |98,_=>tn
 |99,_=>tn
 |100,_=>tn
 |101,_=>tn
 |102,_=>tn
 |103,_=>tn
 |104,_=>tn
 |105,_=>tn
 |106,_=>tm e106 i106 a
 |107,_=>tm e107 i107 a
 |108,_=>tm e108 i108 a
 |109,_=>tm e109 i109 a
 |110,_=>tm e110 i110 a
 |111,_=>tm e111 i111 a
 |112,_=>tm e112 i112 a
 |113,_=>tw e113 i113 a
 |114,_=>tw e114 i114 a
 |115,_=>tw e115 i115 a
 |116,_=>tw e116 i116 a
 |117,_=>tm e117 i117 a
 |118,_=>tm e118 i118 a
 |119,_=>tm e119 i119 a
 |120,_=>tm e120 i120 a
 |121,_=>tm e121 i121 a
 |122,_=>tm e122 i122 a
 |123,_=>tw e123 i123 a
 |124,_=>tm e124 i124 a
 |125,_=>tw e125 i125 a
 |126,_=>tm e126 i126 a
 |127,_=>tm e127 i127 a
 |128,_=>tm e128 i128 a
 |129,_=>tm e129 i129 a
 |130,_=>tm e130 i130 a
 |131,_=>tm e131 i131 a
 |132,_=>tn
 |133,_=>tn
 |134,_=>tn
 |135,_=>tn
 |136,_=>tn
 |137,_=>tm e137 i137 a
 |138,_=>tm e138 i138 a
 |139,_=>tw e139 i139 a
 |140,_=>tw e140 i140 a
 |141,_=>tm e141 i141 a
 |142,_=>tm e142 i142 a
 |143,_=>tm e143 i143 a
 |144,_=>tn
 |145,_=>tm e145 i145 a
 |146,_=>tw e146 i146 a
 |147,_=>tm e147 i147 a
 |n+148,h=>by rw[IV]at h;omega
def W3{c:gk}(k:d2 c):d2 (stepF c):=by
 refine⟨λf b h K w i a=>?_,λj d l b h K w p o q e n a=>?_⟩
 .have a:(match Nat.blt f 148 with|true=>KI (cG f) Lc (BA ac aa c)|false=>nf) b h K=O w:=a;cases e:Nat.blt f 148 with
  |true=>rw[e]at a;exact c5 k f e b h K w i a
  |false=>rw[e]at a;cases a
 .have m:YOk cc ac aa j (λd l b h K=>uj (BA ac aa c) (xc 0) ac Mx (aa j) d l b h K):=y_of (g:=λc d l b h K=>uj (BA ac aa c) (xc 0) ac Mx (aa j) d l b h K) (ct:=λc=>c) (λ_ _ _ _ _=>rfl) k;exact m d l b h K w p o q e n a
def zx:∀n,d2 (Mc n)
 |0=>⟨λ_ _ _ _ _ _ h=>by(cases h),λ_ _ _ _ _ _ _ _ _ _ _ _ h=>by(cases h)⟩
 |n+1=>W3 (zx n)
end Go.Am
namespace Go.Am
namespace Sx
section
variable [El] [E_]
def peekH(T:Tv)(f:Pk)(h:HL)(K:Tf):Prop:=∃cs,f.run (w_ T h)=O cs/\K cs
abbrev _root_.Tb:=List FO->HL->Prop
def heapH(T:Tv)(f:Hp)(h:HL)(K:Tb):Prop:=∃a cs,f.run (w_ T h) (W h)=O (a,cs)/\K cs (bJ h a)
abbrev _root_.Te:=List Lf->HL->Prop
def callH(C:p_)(Sg:Td)(T:Tv)(g:TT)(ls:TG)(h:HL)(K:Te):Prop:=∃a h',aD C Sg g ls (h_ T h) a (h_ T h')/\K a h'
def callvH(C:p_)(T:Tv)(v:FO)(args:Tn)(b:TP)(h:HL)(K:Te):Prop:=∃a h',yb C v args b (h_ T h) a (h_ T h')/\K a h'
def lN(F:(TG->HL->Prop)->TG->HL->Prop)(n:Nat):TG->HL->Prop:=
 match n with
 |0=>λ_ _=>False
 |n+1=>F (lN F n)
def g4(F:(TG->HL->Prop)->TG->HL->Prop)(ls:TG)(h:HL):Prop:=∃n,lN F n ls h
def rfunH(C:p_)(T:Tv)(e:Nat)(v:FO)(a:Tn)(h:HL)(K:Tm->HL->Prop):Prop:=
 ∃g first cap r c b d,v = .func (.func g) first cap/\
  kw C g (first.toList++[.func (.yield (W (h_ T h))) #[] #[]]++cap.toList) (h_ T h++[.loop (GD (T e) e a)]) r c/\
  fe c (W (h_ T h))=O b/\b.state≠.busy/\h_ T d=c.set (W (h_ T h)) (.loop { b with state:=.exhausted })/\K b.pending d
def lp1H(T:Tv)(l:Nat)(h:HL)(K:HL->Prop):Prop:=∃a h',fe (h_ T h) l=O a/\a.state = .ready/\h_ T h'=(h_ T h).set l (.loop { a with state:=.busy })/\K h'
def lp2H(T:Tv)(l:Nat)(j:Tm)(h:HL)(K:HL->Prop):Prop:=∃a h',fe (h_ T h) l=O a/\h_ T h'=(h_ T h).set l (.loop { a with state:=if j.isNone then .ready else .done,pending:=j })/\K h'
def PH(C:p_)(Sg:Td)(T:Tv):Eh Prop HL where
 fail:=False
 cond:=p1
 C5:=v0
 IX:=λd k a c b K=>∃n,NS d k a c b n/\K n
 cmp:=kb
 eqs:=λl K=>K (cz l)
 conv:=λk a K=>K (k.wrap a)
 I4:=λt a b K=>K (if t then a else b)
 km:=optP
 qa:=λv K=>aH v=J/\K
 qs:=unIP
 GM:=unBP
 D3:=unVP
 C3:=un0P
 ua:=ucIP
 F5:=ucBP
 C7:=ucVP
 wb:=uc0P
 oo:=peekH T
 heap:=heapH T
 new:=λo h K=>K (W h) (h++[.o o])
 call:=callH C Sg T
 D':=callvH C T
 join:=λb m=>m b
 loop:=g4
 Gr:=rfunH C T
 F4:=Rz
 LX:=lp1H T
 I1:=lp2H T
def Xz(C:p_)(Sg:Td)(T:Tv):te (PH C Sg T) C Sg T id (h_ T) where
 fail:=(gW C Sg T).fail
 cond:=(gW C Sg T).cond
 C5:=(gW C Sg T).C5
 IX:=(gW C Sg T).IX
 cmp:=(gW C Sg T).cmp
 eqs:=(gW C Sg T).eqs
 conv:=(gW C Sg T).conv
 I4:=(gW C Sg T).I4
 km:=(gW C Sg T).km
 qa:=(gW C Sg T).qa
 qs:=(gW C Sg T).qs
 GM:=(gW C Sg T).GM
 D3:=(gW C Sg T).D3
 C3:=(gW C Sg T).C3
 ua:=(gW C Sg T).ua
 F5:=(gW C Sg T).F5
 C7:=(gW C Sg T).C7
 wb:=(gW C Sg T).wb
 oo:=by intro f h K a;let⟨d,e,i⟩:=a;exact⟨d,by rw[←qJ];exact e,i⟩
 heap:=by intro f h K a;let⟨c,d,e,i⟩:=a;exact⟨c,d,_,by rw[←qJ,jG];exact e,mU T c h,i⟩
 new:=λo h K a=>⟨_,lG T h _,by rw[jG];exact a⟩
 call:=λg k h K a=>a
 D':=λv p r h K a=>a
 join:=λb m h=>h
 loop:=by intro F k h a;let⟨n,a⟩:=a;exact⟨lN F,λk h=>(id:False->False),λn k h=>rfl,n,a⟩
 Gr:=λs v q h K a=>a
 F4:=(gW C Sg T).F4
 LX:=λl h K a=>a
 I1:=λl j h K a=>a
section
variable {C:p_} {Sg:Td} {T:Tv} {call:gk} (hc:Gb C Sg T call)
include hc
theorem s_shf{e:GO}{k d:TN}{a b:Int}{K:Int->RT}{c:Tw}(i:∀n,K n=yes->c n)(h:(BA Sg T call).IX e k a d b K=yes):(PH C Sg T).IX e k a d b c:=by obtain⟨n,f,g⟩:=R4 (w:=[]) h;exact⟨n,f,i _ g⟩
end
def AP{F:(TG->HL->Prop)->TG->HL->Prop}(Inv:Nat->TG->HL->Prop)
  (step:∀m ls h,Inv m ls h->∀a:TG->HL->Prop,(∀b ls h,b<m->Inv b ls h->a ls h)->F a ls h):∀n m ls h,m<n->Inv m ls h->lN F n ls h
 |0,_,_,_,d,_=>absurd d (qdL _)
 |n+1,m,ls,h,d,e=>step m ls h e (lN F n) λb ls h h' c=>AP Inv step n b ls h a_ c
def aN{F:(TG->HL->Prop)->TG->HL->Prop}(Inv:Nat->TG->HL->Prop){m:Nat}{ls:TG}{h:HL}(c:Inv m ls h)
  (step:∀m ls h,Inv m ls h->∀a:TG->HL->Prop,(∀b ls h,b<m->Inv b ls h->a ls h)->F a ls h):g4 F ls h:=
 ⟨m+1,AP Inv step (m+1) m ls h (Nat.lt_succ_self m) c⟩
end
end Sx
namespace Sx
class Bx (j7:Sort _) where
 v:j7
def j_{j7:Sort _} [b:Bx j7]:j7:=b.v
section
variable [El] [E_] {C:p_} {Sg:Td} {T:Tv}
def b_unI{n:Int}{r:TG}{K:Int->TG->Prop}:(PH C Sg T).qs (.i n::r) K=K n r:=rfl
def b_unB{n:Bool}{r:TG}{K:Bool->TG->Prop}:(PH C Sg T).GM (.b n::r) K=K n r:=rfl
def b_unV{n:TV}{r:TG}{K:TV->TG->Prop}:(PH C Sg T).D3 (.v n::r) K=K n r:=rfl
def b_un0{K:Prop}:(PH C Sg T).C3 [] K=K:=rfl
def b_ucI{k:TN}{n:Int}{r:Tn}{K:Int->Tn->Prop}:(PH C Sg T).ua k (.int k n::r) K=K n r:=by show(k=k/\K n r)=K n r;simp
def b_ucB{n:Bool}{r:Tn}{K:Bool->Tn->Prop}:(PH C Sg T).F5 (.bool n::r) K=K n r:=rfl
def b_ucV{n:TV}{r:Tn}{K:Ta}:(PH C Sg T).C7 (n::r) K=K n r:=rfl
def b_uc0{K:Prop}:(PH C Sg T).wb [] K=K:=rfl
def XS{X Y:Prop}:(PH C Sg T).cond J X Y=X:=by show((J=J->X)/\(J=U->Y))=X;simp
def XR{X Y:Prop}:(PH C Sg T).cond U X Y=Y:=by show((U=J->X)/\(U=U->Y))=Y;simp
def w4{a b:Int}{K:Tp}(h:a<b):(PH C Sg T).cmp .lss a b K=K J:=by show K (decide (a<b))=_;rw[FX h]
def qB{a b:Int}{K:Tp}(h:b<=a):(PH C Sg T).cmp .lss a b K=K U:=by show K (decide (a<b))=_;grind
def lC{a b:Int}{K:Tp}(h:a<=b):(PH C Sg T).cmp .leq a b K=K J:=by show K (decide (a<=b))=_;rw[FX h]
def kA{a b:Int}{K:Tp}(h:b<a):(PH C Sg T).cmp .leq a b K=K U:=by show K (decide (a<=b))=_;grind
def lE{a b:Int}{K:Tp}(h:b<a):(PH C Sg T).cmp .gtr a b K=K J:=by show K (decide (a > b))=_;rw[FX h]
def kE{a b:Int}{K:Tp}(h:a<=b):(PH C Sg T).cmp .gtr a b K=K U:=by show K (decide (a > b))=_;grind
def p8{a b:Int}{K:Tp}(h:b<=a):(PH C Sg T).cmp .geq a b K=K J:=by show K (decide (a ≥ b))=_;rw[FX h]
def p7{a b:Int}{K:Tp}(h:a<b):(PH C Sg T).cmp .geq a b K=K U:=by show K (decide (a ≥ b))=_;grind
def z4{a b:Int}{K:Tp}(h:a=b):(PH C Sg T).cmp .eql a b K=K J:=by show K (a==b)=_;rw[beq_iff_eq.2 h]
def W2{a b:Int}{K:Tp}(h:a≠b):(PH C Sg T).cmp .eql a b K=K U:=by show K (a==b)=_;rw[beq_false_of_ne h]
def hD{a b:Int}{K:Tp}(h:a≠b):(PH C Sg T).cmp .neq a b K=K J:=by show K (a != b)=_;rw[bne_iff_ne.2 h]
def pb{a b:Int}{K:Tp}(h:a=b):(PH C Sg T).cmp .neq a b K=K U:=by show K (a != b)=_;subst h;simp
def b_add{a b:Int}{K:Tw}(h1:-9223372036854775808<=a+b)(c:a+b<=9223372036854775807):(PH C Sg T).C5 .add DQ a b K=K (a+b):=by show K (IntKind.wrap DQ (a+b))=_;rw[dt h1 c]
def b_sub{a b:Int}{K:Tw}(h1:-9223372036854775808<=a-b)(c:a-b<=9223372036854775807):(PH C Sg T).C5 .sub DQ a b K=K (a-b):=by show K (IntKind.wrap DQ (a-b))=_;rw[dt h1 c]
def b_mul{a b:Int}{K:Tw}(h1:-9223372036854775808<=a*b)(c:a*b<=9223372036854775807):(PH C Sg T).C5 .mul DQ a b K=K (a*b):=by show K (IntKind.wrap DQ (a*b))=_;rw[dt h1 c]
def b_add8{a b:Int}{K:Tw}(h1:0<=a+b)(c:a+b<=255):(PH C Sg T).C5 .add DU a b K=K (a+b):=by show K (IntKind.wrap DU (a+b))=_;rw[vM h1 c]
def b_sub8{a b:Int}{K:Tw}(h1:0<=a-b)(c:a-b<=255):(PH C Sg T).C5 .sub DU a b K=K (a-b):=by show K (IntKind.wrap DU (a-b))=_;rw[vM h1 c]
def b_mul8{a b:Int}{K:Tw}(h1:0<=a*b)(c:a*b<=255):(PH C Sg T).C5 .mul DU a b K=K (a*b):=by show K (IntKind.wrap DU (a*b))=_;rw[vM h1 c]
def cb{a b:Int}(h:0<=a):a.tdiv b=a / b:=Int.tdiv_eq_ediv_of_nonneg h
def X0{a b:Int}{K:Tw}(h:0<=a)(f:0<b)(c:a<=9223372036854775807):(PH C Sg T).C5 .quo DQ a b K=K (a / b):=by show(b≠0/\K (IntKind.wrap DQ (a.tdiv b)))=_;have d:a / b<=a:=Int.ediv_le_self b h;have e:0<=a / b:=Int.ediv_nonneg h a_;rw[cb h,dt a_ a_];simp;omega
def XZ{a b:Int}{K:Tw}(h:a%b=0)(f:0<b)(h1:-9223372036854775808<=a)(e:a<=9223372036854775807):(PH C Sg T).C5 .quo DQ a b K=K (a / b):=by
 show(b≠0/\K (IntKind.wrap DQ (a.tdiv b)))=_;obtain⟨q,rfl⟩:=Int.dvd_of_emod_eq_zero h;rw[Int.mul_tdiv_cancel_left q a_,Int.mul_ediv_cancel_left q a_];have c:-9223372036854775808<=q/\q<=9223372036854775807:=by
  rcases Int.le_total 0 q with d|d
  .have:=qcg (show(1:Int)<=b by omega) d;omega
  .have:=qcg (show(1:Int)<=b by omega) (show 0<=-q by omega)
   grind
 rw[dt c.1 c.2];simp;omega
def X1{k:TN}{a b:Int}{K:Tw}(h:0<=a)(c:0<b):(PH C Sg T).C5 .rem k a b K=K (a%b):=by
 show(b≠0/\K (a.tmod b))=_
 grind
def X2{k:TN}{a b:Int}{K:Tw}(h:a<=0)(d:0<b):(PH C Sg T).C5 .rem k a b K=K (-((-a)%b)):=by
 show(b≠0/\K (a.tmod b))=_;have:a.tmod b = -((-a)%b):=by
  have c:=Int.neg_tmod a b
  grind
 grind
def b_and1{a:Int}{K:Tw}:(PH C Sg T).C5 .and DQ a 1 K=K (a%2):=by show(((1:Int)=1/\K (a%2))∨((1:Int)≠1/\∃n,tI .and DQ a 1 n/\K n))=K (a%2);simp
def b_conv{a:Int}{K:Tw}(h1:-9223372036854775808<=a)(b:a<=9223372036854775807):(PH C Sg T).conv DQ a K=K a:=by show K (IntKind.wrap DQ a)=_;rw[dt h1 b]
def jk{a:Int}{K:Tw}(h1:0<=a)(b:a<=255):(PH C Sg T).conv DU a K=K a:=by show K (IntKind.wrap DU a)=_;rw[vM h1 b]
def fa{a b:Int}{K:Tw}:(PH C Sg T).I4 J a b K=K a:=rfl
def l8{a b:Int}{K:Tw}:(PH C Sg T).I4 U a b K=K b:=rfl
def g5{j7:Type}{x:j7}{K:j7->Prop}:(PH C Sg T).km (O x) K=K x:=by show(∃y,O x=O y/\K y)=K x;simp
def b_inB{n:Nat}{i:Int}{K:Unit->Prop}(h1:0<=i)(a:i<(n:Int)):(PH C Sg T).km (G4 n i) K=K ():=by rw[show G4 n i=O ()from(Zd n i).trans (rv ⟨h1,a⟩),g5]
def b_join{b:Te}{m:(TG->HL->Prop)->Prop}:(PH C Sg T).join b m=m b:=rfl
def b_eqs0{K:Tp}:(PH C Sg T).eqs [] K=K J:=rfl
def z9{a b:Int}{l:List (Lf×Lf)}{K:Tp}(h:a=b):(PH C Sg T).eqs ((.i a,.i b)::l) K=(PH C Sg T).eqs l K:=by show K (cz _)=K (cz l);subst h;simp[cz,iP]
def z8{a b:Int}{l:List (Lf×Lf)}{K:Tp}(h:a≠b):(PH C Sg T).eqs ((.i a,.i b)::l) K=K U:=by show K (cz _)=K U;have:(a==b)=U:=beq_false_of_ne h;simp[cz,iP,this]
def By{F:(TG->HL->Prop)->TG->HL->Prop}{ls:TG}{h:HL}(n:Nat)(a:lN F n ls h):(PH C Sg T).loop F ls h:=⟨n,a⟩
def b_it{F:(TG->HL->Prop)->TG->HL->Prop}{n:Nat}{ls:TG}{h:HL}:lN F (n+1) ls h=F (lN F n) ls h:=rfl
def am{g:TT}{ls a:TG}{h:HL}{K:Te}(b:∀H,aD C Sg g ls H a H)(c:K a h):(PH C Sg T).call g ls h (@j_ _ ⟨K⟩):=⟨a,h,b _,c⟩
def XT{a b:Bool}{l:List (Lf×Lf)}{K:Tp}(h:a=b):(PH C Sg T).eqs ((.b a,.b b)::l) K=(PH C Sg T).eqs l K:=by show K (cz _)=K (cz l);subst h;simp[cz,iP]
def SG{l:List (Lf×Lf)}{K:Tp}:(PH C Sg T).eqs ((.b J,.b U)::l) K=K U:=rfl
def SF{l:List (Lf×Lf)}{K:Tp}:(PH C Sg T).eqs ((.b U,.b J)::l) K=K U:=rfl
def o0{b:Int}{K:Tw}(h1:-9223372036854775808<=b)(a:b<=9223372036854775807):(PH C Sg T).C5 .mul DQ 1 b K=K b:=by show K (IntKind.wrap DQ (1*b))=_;rw[Int.one_mul,dt h1 a]
def xt{b:Int}{K:Tw}:(PH C Sg T).C5 .mul DQ 0 b K=K 0:=by show K (IntKind.wrap DQ (0*b))=_;rw[Int.zero_mul];rfl
def B0{b:Int}{K:Tw}(h1:-9223372036854775808<=-b)(a:-b<=9223372036854775807):(PH C Sg T).C5 .mul DQ (-1) b K=K (-b):=by show K (IntKind.wrap DQ (-1*b))=_;have:(-1*b:Int) = -b:=a_;rw[this,dt h1 a]
def XX{b:Int}{K:Tw}(h1:-9223372036854775808<=b)(a:b<=9223372036854775807):(PH C Sg T).C5 .mul DQ b 1 K=K b:=by show K (IntKind.wrap DQ (b*1))=_;rw[Int.mul_one,dt h1 a]
def XV{b:Int}{K:Tw}:(PH C Sg T).C5 .mul DQ b 0 K=K 0:=by show K (IntKind.wrap DQ (b*0))=_;rw[Int.mul_zero];rfl
def XY{b:Int}{K:Tw}(h1:-9223372036854775808<=-b)(a:-b<=9223372036854775807):(PH C Sg T).C5 .mul DQ b (-1) K=K (-b):=by show K (IntKind.wrap DQ (b * -1))=_;have:(b * -1:Int) = -b:=a_;rw[this,dt h1 a]
def vi{b:Int}{K:Tw}(h1:-9223372036854775808<=b)(a:b<=9223372036854775807):(PH C Sg T).C5 .add DQ 0 b K=K b:=by show K (IntKind.wrap DQ (0+b))=_;rw[Int.zero_add,dt h1 a]
def XP{b:Int}{K:Tw}(h1:-9223372036854775808<=b)(a:b<=9223372036854775807):(PH C Sg T).C5 .add DQ b 0 K=K b:=by show K (IntKind.wrap DQ (b+0))=_;rw[Int.add_zero,dt h1 a]
def XN{K:Tw}:(PH C Sg T).C5 .add DQ 1 1 K=K 2:=by show K (IntKind.wrap DQ (1+1))=_;rfl
def fu{a:Int}{K:Tw}(h1:-9223372036854775808<=a)(b:a<=9223372036854775807):(PH C Sg T).C5 .quo DQ a 1 K=K a:=by show((1:Int)≠0/\K (IntKind.wrap DQ (a.tdiv 1)))=_;rw[Int.tdiv_one,dt h1 b];simp
def af{j7:Type}{o:Option j7}{x:j7}{K:j7->Prop}(h:o=O x)(a:K x):(PH C Sg T).km o (@j_ _ ⟨K⟩):=⟨x,h,a⟩
theorem a8{n:Int}{r:TG}{K:Int->TG->Prop}:(PH C Sg T).qs (.i n::r) (@j_ _ ⟨K⟩)=K n r:=b_unI
theorem b2{n:Bool}{r:TG}{K:Bool->TG->Prop}:(PH C Sg T).GM (.b n::r) (@j_ _ ⟨K⟩)=K n r:=b_unB
theorem hm{n:TV}{r:TG}{K:TV->TG->Prop}:(PH C Sg T).D3 (.v n::r) (@j_ _ ⟨K⟩)=K n r:=b_unV
theorem a9{K:Prop}:(PH C Sg T).C3 [] (@j_ _ ⟨K⟩)=K:=b_un0
theorem b3{k:TN}{n:Int}{r:Tn}{K:Int->Tn->Prop}:(PH C Sg T).ua k (.int k n::r) (@j_ _ ⟨K⟩)=K n r:=b_ucI
theorem bb{n:Bool}{r:Tn}{K:Bool->Tn->Prop}:(PH C Sg T).F5 (.bool n::r) (@j_ _ ⟨K⟩)=K n r:=b_ucB
theorem hy{n:TV}{r:Tn}{K:Ta}:(PH C Sg T).C7 (n::r) (@j_ _ ⟨K⟩)=K n r:=b_ucV
theorem b4{K:Prop}:(PH C Sg T).wb [] (@j_ _ ⟨K⟩)=K:=b_uc0
theorem L6{X Y:Prop}:(PH C Sg T).cond J (@j_ _ ⟨X⟩) Y=X:=XS
theorem L5{X Y:Prop}:(PH C Sg T).cond U X (@j_ _ ⟨Y⟩)=Y:=XR
theorem r_{a b:Int}{K:Tp}(h:a<b):(PH C Sg T).cmp .lss a b (@j_ _ ⟨K⟩)=K J:=w4 h
theorem s_{a b:Int}{K:Tp}(h:b<=a):(PH C Sg T).cmp .lss a b (@j_ _ ⟨K⟩)=K U:=qB h
theorem dk{a b:Int}{K:Tp}(h:a<=b):(PH C Sg T).cmp .leq a b (@j_ _ ⟨K⟩)=K J:=lC h
theorem z3{a b:Int}{K:Tp}(h:b<a):(PH C Sg T).cmp .leq a b (@j_ _ ⟨K⟩)=K U:=kA h
theorem DY{a b:Int}{K:Tp}(h:b<a):(PH C Sg T).cmp .gtr a b (@j_ _ ⟨K⟩)=K J:=lE h
theorem A6{a b:Int}{K:Tp}(h:a<=b):(PH C Sg T).cmp .gtr a b (@j_ _ ⟨K⟩)=K U:=kE h
theorem Ho{a b:Int}{K:Tp}(h:b<=a):(PH C Sg T).cmp .geq a b (@j_ _ ⟨K⟩)=K J:=p8 h
theorem FL{a b:Int}{K:Tp}(h:a<b):(PH C Sg T).cmp .geq a b (@j_ _ ⟨K⟩)=K U:=p7 h
theorem ub{a b:Int}{K:Tp}(h:a=b):(PH C Sg T).cmp .eql a b (@j_ _ ⟨K⟩)=K J:=z4 h
theorem tx{a b:Int}{K:Tp}(h:a≠b):(PH C Sg T).cmp .eql a b (@j_ _ ⟨K⟩)=K U:=W2 h
theorem B3{a b:Int}{K:Tp}(h:a≠b):(PH C Sg T).cmp .neq a b (@j_ _ ⟨K⟩)=K J:=hD h
theorem A7{a b:Int}{K:Tp}(h:a=b):(PH C Sg T).cmp .neq a b (@j_ _ ⟨K⟩)=K U:=pb h
theorem Hn{a b:Int}{K:Tw}(h1:-9223372036854775808<=a+b)(c:a+b<=9223372036854775807):(PH C Sg T).C5 .add DQ a b (@j_ _ ⟨K⟩)=K (a+b):=b_add h1 c
theorem Rx{a b:Int}{K:Tw}(h1:-9223372036854775808<=a-b)(c:a-b<=9223372036854775807):(PH C Sg T).C5 .sub DQ a b (@j_ _ ⟨K⟩)=K (a-b):=b_sub h1 c
theorem Kt{a b:Int}{K:Tw}(h1:-9223372036854775808<=a*b)(c:a*b<=9223372036854775807):(PH C Sg T).C5 .mul DQ a b (@j_ _ ⟨K⟩)=K (a*b):=b_mul h1 c
theorem Nj{a b:Int}{K:Tw}(h1:0<=a+b)(c:a+b<=255):(PH C Sg T).C5 .add DU a b (@j_ _ ⟨K⟩)=K (a+b):=b_add8 h1 c
theorem p_sub8{a b:Int}{K:Tw}(h1:0<=a-b)(c:a-b<=255):(PH C Sg T).C5 .sub DU a b (@j_ _ ⟨K⟩)=K (a-b):=b_sub8 h1 c
theorem p_mul8{a b:Int}{K:Tw}(h1:0<=a*b)(c:a*b<=255):(PH C Sg T).C5 .mul DU a b (@j_ _ ⟨K⟩)=K (a*b):=b_mul8 h1 c
theorem IH{a b:Int}{K:Tw}(h:0<=a)(d:0<b)(c:a<=9223372036854775807):(PH C Sg T).C5 .quo DQ a b (@j_ _ ⟨K⟩)=K (a / b):=X0 h d c
theorem DM{a b:Int}{K:Tw}(h:a%b=0)(d:0<b)(h1:-9223372036854775808<=a)(c:a<=9223372036854775807):(PH C Sg T).C5 .quo DQ a b (@j_ _ ⟨K⟩)=K (a / b):=XZ h d h1 c
theorem Hq{k:TN}{a b:Int}{K:Tw}(h:0<=a)(c:0<b):(PH C Sg T).C5 .rem k a b (@j_ _ ⟨K⟩)=K (a%b):=X1 h c
theorem II{k:TN}{a b:Int}{K:Tw}(h:a<=0)(c:0<b):(PH C Sg T).C5 .rem k a b (@j_ _ ⟨K⟩)=K (-((-a)%b)):=X2 h c
theorem p_and1{a:Int}{K:Tw}:(PH C Sg T).C5 .and DQ a 1 (@j_ _ ⟨K⟩)=K (a%2):=b_and1
theorem DG{a:Int}{K:Tw}(h1:-9223372036854775808<=a)(b:a<=9223372036854775807):(PH C Sg T).conv DQ a (@j_ _ ⟨K⟩)=K a:=b_conv h1 b
theorem s4{a:Int}{K:Tw}(h1:0<=a)(b:a<=255):(PH C Sg T).conv DU a (@j_ _ ⟨K⟩)=K a:=jk h1 b
theorem Rw{a b:Int}{K:Tw}:(PH C Sg T).I4 J a b (@j_ _ ⟨K⟩)=K a:=fa
theorem Rv{a b:Int}{K:Tw}:(PH C Sg T).I4 U a b (@j_ _ ⟨K⟩)=K b:=l8
theorem b1{j7:Type}{x:j7}{K:j7->Prop}:(PH C Sg T).km (O x) (@j_ _ ⟨K⟩)=K x:=g5
theorem bm{n:Nat}{i:Int}{K:Unit->Prop}(h1:0<=i)(a:i<(n:Int)):(PH C Sg T).km (G4 n i) (@j_ _ ⟨K⟩)=K ():=b_inB h1 a
theorem p_join{b:Te}{m:(TG->HL->Prop)->Prop}:(PH C Sg T).join (@j_ _ ⟨b⟩) (@j_ _ ⟨m⟩)=m (@j_ _ ⟨b⟩):=b_join
theorem p_eqs0{K:Tp}:(PH C Sg T).eqs [] (@j_ _ ⟨K⟩)=K J:=b_eqs0
theorem y2{a b:Int}{l:List (Lf×Lf)}{K:Tp}(h:a=b):(PH C Sg T).eqs ((.i a,.i b)::l) (@j_ _ ⟨K⟩)=(PH C Sg T).eqs l (@j_ _ ⟨K⟩):=z9 h
theorem ih{a b:Int}{l:List (Lf×Lf)}{K:Tp}(h:a≠b):(PH C Sg T).eqs ((.i a,.i b)::l) (@j_ _ ⟨K⟩)=K U:=z8 h
theorem p_it{F:(TG->HL->Prop)->TG->HL->Prop}{n:Nat}{ls:TG}{h:HL}:lN (@j_ _ ⟨F⟩) (n+1) ls h=F (lN (@j_ _ ⟨F⟩) n) ls h:=b_it
theorem L7{a b:Bool}{l:List (Lf×Lf)}{K:Tp}(h:a=b):(PH C Sg T).eqs ((.b a,.b b)::l) (@j_ _ ⟨K⟩)=(PH C Sg T).eqs l (@j_ _ ⟨K⟩):=XT h
theorem VG{l:List (Lf×Lf)}{K:Tp}:(PH C Sg T).eqs ((.b J,.b U)::l) (@j_ _ ⟨K⟩)=K U:=SG
theorem VF{l:List (Lf×Lf)}{K:Tp}:(PH C Sg T).eqs ((.b U,.b J)::l) (@j_ _ ⟨K⟩)=K U:=SF
theorem dB{b:Int}{K:Tw}(h1:-9223372036854775808<=b)(a:b<=9223372036854775807):(PH C Sg T).C5 .mul DQ 1 b (@j_ _ ⟨K⟩)=K b:=o0 h1 a
theorem dC{b:Int}{K:Tw}:(PH C Sg T).C5 .mul DQ 0 b (@j_ _ ⟨K⟩)=K 0:=xt
theorem x2{b:Int}{K:Tw}(h1:-9223372036854775808<=-b)(a:-b<=9223372036854775807):(PH C Sg T).C5 .mul DQ (-1) b (@j_ _ ⟨K⟩)=K (-b):=B0 h1 a
theorem DL{b:Int}{K:Tw}(h1:-9223372036854775808<=b)(a:b<=9223372036854775807):(PH C Sg T).C5 .mul DQ b 1 (@j_ _ ⟨K⟩)=K b:=XX h1 a
theorem DK{b:Int}{K:Tw}:(PH C Sg T).C5 .mul DQ b 0 (@j_ _ ⟨K⟩)=K 0:=XV
theorem DP{b:Int}{K:Tw}(h1:-9223372036854775808<=-b)(a:-b<=9223372036854775807):(PH C Sg T).C5 .mul DQ b (-1) (@j_ _ ⟨K⟩)=K (-b):=XY h1 a
theorem yt{b:Int}{K:Tw}(h1:-9223372036854775808<=b)(a:b<=9223372036854775807):(PH C Sg T).C5 .add DQ 0 b (@j_ _ ⟨K⟩)=K b:=vi h1 a
theorem DE{b:Int}{K:Tw}(h1:-9223372036854775808<=b)(a:b<=9223372036854775807):(PH C Sg T).C5 .add DQ b 0 (@j_ _ ⟨K⟩)=K b:=XP h1 a
theorem Dy{K:Tw}:(PH C Sg T).C5 .add DQ 1 1 (@j_ _ ⟨K⟩)=K 2:=XN
theorem hC{a:Int}{K:Tw}(h1:-9223372036854775808<=a)(b:a<=9223372036854775807):(PH C Sg T).C5 .quo DQ a 1 (@j_ _ ⟨K⟩)=K a:=fu h1 b
theorem DI{f:Te}{a:TG}{b:HL}:@j_ _ ⟨f⟩ a b=f a b:=rfl
theorem IG{a b c d:Int}{K:Tp}(h:¬(a=c/\b=d)):(PH C Sg T).eqs [(.i a,.i c),(.i b,.i d)] (@j_ _ ⟨K⟩)=K U:=by
 show K (cz _)=K U;have:cz [(.i a,.i c),(.i b,.i d)]=U:=by rw[qcO];simpa[cz,iP]using h
 rw[this]
theorem B8{a b c d e f:Int}{K:Tp}(h:¬(a=d/\b=e/\c=f)):(PH C Sg T).eqs [(.i a,.i d),(.i b,.i e),(.i c,.i f)] (@j_ _ ⟨K⟩)=K U:=by
 show K (cz _)=K U;have:cz [(.i a,.i d),(.i b,.i e),(.i c,.i f)]=U:=by rw[qcO];simpa[cz,iP]using h
 rw[this]
def ai{g:TT}{ls a:TG}{h h':HL}{K:Te}(b:aD C Sg g ls (h_ T h) a (h_ T h'))(c:K a h'):(PH C Sg T).call g ls h (@j_ _ ⟨K⟩):=⟨a,h',b,c⟩
def lJ{g:TT}{sg:Ko}{ls d:TG}{H H':Tu}(h:aD C Sg g ls H d H')(i:Sg g=O sg)(xs:List S0)(h1:cJ xs sg.ps=J)(f:cT xs=ls) :
  yb C (.func (.func g) #[] #[]) (ao xs) sg.rs H d H':=by
 let⟨j,l,m,a,b,e,c⟩:=h;rw[i]at a;cases a;let⟨k,_⟩:=db b.1 h1 (b.2.1.trans f.symm);rw[k]at c;exact⟨m,e,.inl ⟨g,#[],#[],rfl,by simpa using c⟩⟩
def gK{v:TV}{args:Tn}{b:TP}{a:TG}{h h':HL}{K:Te}(c:yb C v args b (h_ T h) a (h_ T h'))(d:K a h'):(PH C Sg T).D' v args b h (@j_ _ ⟨K⟩):=⟨a,h',c,d⟩
theorem bx{o:wa}{h:HL}{K:Nat->HL->Prop}:(PH C Sg T).new o h (@j_ _ ⟨K⟩)=K (W h) (h++[.o o]):=rfl
def ab{v:TV}{K:Prop}(h:aH v=J)(a:K):(PH C Sg T).qa v (@j_ _ ⟨K⟩):=⟨h,a⟩
def bK{f:Hp}{h:HL}{K:Tb}{a:List Er}{cs:Tn}(e:f.run (w_ T h) (W h)=O (a,cs))(b:K cs (bJ h a)):(PH C Sg T).heap f h (@j_ _ ⟨K⟩):=⟨a,cs,e,b⟩
def cI{f:Pk}{h:HL}{K:Tf}{cs:Tn}(e:f.run (w_ T h)=O cs)(a:K cs):(PH C Sg T).oo f h (@j_ _ ⟨K⟩):=⟨cs,e,a⟩
def pxs(C:p_)(Sg:Td)(T:Tv):=And.intro @DI (And.intro (@bx _ _ C Sg T) (And.intro (@a8 _ _ C Sg T) (And.intro (@b2 _ _ C Sg T) (And.intro (@hm _ _ C Sg T) (And.intro (@a9 _ _ C Sg T) (And.intro (@b3 _ _ C Sg T) (And.intro (@bb _ _ C Sg T) (And.intro (@hy _ _ C Sg T) (And.intro (@b4 _ _ C Sg T) (And.intro (@L6 _ _ C Sg T) (And.intro (@L5 _ _ C Sg T) (And.intro (@b1 _ _ C Sg T) (And.intro (@bm _ _ C Sg T) (And.intro (@p_join _ _ C Sg T) (And.intro (@Rw _ _ C Sg T) (And.intro (@Rv _ _ C Sg T) ((@p_it))))))))))))))))))
def pxc(C:p_)(Sg:Td)(T:Tv):=And.intro (@r_ _ _ C Sg T) (And.intro (@s_ _ _ C Sg T) (And.intro (@dk _ _ C Sg T) (And.intro (@z3 _ _ C Sg T) (And.intro (@DY _ _ C Sg T) (And.intro (@A6 _ _ C Sg T) (And.intro (@Ho _ _ C Sg T) (And.intro (@FL _ _ C Sg T) (And.intro (@ub _ _ C Sg T) (And.intro (@tx _ _ C Sg T) (And.intro (@B3 _ _ C Sg T) (And.intro (@A7 _ _ C Sg T) (And.intro (@p_eqs0 _ _ C Sg T) (And.intro (@y2 _ _ C Sg T) (And.intro (@ih _ _ C Sg T) (And.intro (@IG _ _ C Sg T) (And.intro (@B8 _ _ C Sg T) (And.intro (@L7 _ _ C Sg T) (And.intro (@VG _ _ C Sg T) ((@VF _ _ C Sg T))))))))))))))))))))
def pxa(C:p_)(Sg:Td)(T:Tv):=And.intro (@dB _ _ C Sg T) (And.intro (@dC _ _ C Sg T) (And.intro (@x2 _ _ C Sg T) (And.intro (@DL _ _ C Sg T) (And.intro (@DK _ _ C Sg T) (And.intro (@DP _ _ C Sg T) (And.intro (@yt _ _ C Sg T) (And.intro (@DE _ _ C Sg T) (And.intro (@Dy _ _ C Sg T) (And.intro (@hC _ _ C Sg T) (And.intro (@Hn _ _ C Sg T) (And.intro (@Rx _ _ C Sg T) (And.intro (@Kt _ _ C Sg T) (And.intro (@Nj _ _ C Sg T) (And.intro (@p_sub8 _ _ C Sg T) (And.intro (@p_mul8 _ _ C Sg T) (And.intro (@IH _ _ C Sg T) (And.intro (@DM _ _ C Sg T) (And.intro (@Hq _ _ C Sg T) (And.intro (@II _ _ C Sg T) (And.intro (@p_and1 _ _ C Sg T) (And.intro (@DG _ _ C Sg T) ((@s4 _ _ C Sg T)))))))))))))))))))))))
end
end Sx
namespace Sx
section
variable [El] [E_]
variable {C:p_} {Sg:Td} {T:Tv}
def wM{h:HL}{l a:Nat}{st:LoopState}{b:Tm}{vs:Tn}(e:h[l]?=O (.lp a st b vs)):fe (h_ T h) l=O { GD (T a) a vs with state:=st,pending:=b }:=by unfold fe h_;rw[GL,e];rfl
def SC(h:HL)(o:HO):h_ T (h++[o])=h_ T h++[G0 T o]:=by simp[h_]
def Bz{g:TT}{first cap:Tl}{k:Nat}{b:Tn}{h h1:HL}{ls s:TG}{K:Tm->HL->Prop}{c:Nat}{st:LoopState}{d:Tm}{vs:Tn}{sg:Ko}{xs:List S0}
  (o:aD C Sg g ls (h_ T (h++[.lp k .ready Q b])) s (h_ T h1)) (r:Sg g=O sg) (l:cJ xs sg.ps=J) (m:cT xs=ls) (n:ao xs=first.toList++[.func (.yield (W h)) #[] #[]]++cap.toList)
  (q:h1[W h]?=O (.lp c st d vs)) (e:st≠.busy) (p:K d (h1.set (W h) (.lp c .exhausted d vs))):(PH C Sg T).Gr k (.func (.func g) first cap) b h (@j_ _ ⟨K⟩):=by
 let⟨t,v,w,f,i,x,j⟩:=o;rw[r]at f;cases f;have a:W (h_ T h)=W h:=jG T h;let⟨u,_⟩:=db i.1 l (i.2.1.trans m.symm);rw[u,n,SC]at j;refine⟨g,first,cap,gL (ao w),h_ T h1,{ GD (T c) c vs with state:=st,pending:=d },h1.set (W h) (.lp c .exhausted d vs),rfl,?_,?_,e,?_,p⟩
 .rw[a];exact j
 .rw[a];exact wM q
 .rw[a];simp[h_,G0,qdH]
def lI{h:HL}{l:Nat}{o:HO}:h_ T (h.set l o)=(h_ T h).set l (G0 T o):=by unfold h_;rw[qdH]
def hj{l a:Nat}{b:Tm}{vs:Tn}{h:HL}{K:HL->Prop}(d:h[l]?=O (.lp a .ready b vs))(c:K (h.set l (.lp a .busy b vs))):(PH C Sg T).LX l h (@j_ _ ⟨K⟩):=
 ⟨{ GD (T a) a vs with state:=.ready,pending:=b },h.set l (.lp a .busy b vs),wM d,rfl,lI,c⟩
def p_lp2{l a:Nat}{st:LoopState}{b:Tm}{vs:Tn}{h:HL}{K:HL->Prop}(d:h[l]?=O (.lp a st b vs))(c:K (h.set l (.lp a .ready Q vs))):(PH C Sg T).I1 l Q h (@j_ _ ⟨K⟩):=
 ⟨{ GD (T a) a vs with state:=st,pending:=b },h.set l (.lp a .ready Q vs),wM d,lI,c⟩
def u2{l:Nat}{ys:List S0}{b:Bool}{h h':HL}{K:Te}(e:iO C l (ao ys) (h_ T h) (.bool b) (h_ T h'))(d:K [.b b] h'):(PH C Sg T).D' (.func (.yield l) #[] #[]) (ao ys) [.leaf .b] h (@j_ _ ⟨K⟩):=
 ⟨[.b b],h',⟨[.leaf (.b b)],⟨rfl,rfl,λx a=>by simp only[HN]at a;subst a;intro y c;simp only[S0.cells,HN]at c;subst c;trivial⟩,.inr ⟨l,rfl,e⟩⟩,d⟩
end
end Sx
namespace Sx
open Go.Proofs
def hA(A:Eh Prop HL):Eh Prop HL where
 fail:=A.fail
 cond b x y:=A.cond b (@j_ _ ⟨x⟩) (@j_ _ ⟨y⟩)
 C5 o k a b K:=A.C5 o k a b (@j_ _ ⟨K⟩)
 IX o k a l b K:=A.IX o k a l b (@j_ _ ⟨K⟩)
 cmp o a b K:=A.cmp o a b (@j_ _ ⟨K⟩)
 eqs l K:=A.eqs l (@j_ _ ⟨K⟩)
 conv k a K:=A.conv k a (@j_ _ ⟨K⟩)
 I4 t a b K:=A.I4 t a b (@j_ _ ⟨K⟩)
 km o K:=A.km o (@j_ _ ⟨K⟩)
 qa v x:=A.qa v (@j_ _ ⟨x⟩)
 qs l K:=A.qs l (@j_ _ ⟨K⟩)
 GM l K:=A.GM l (@j_ _ ⟨K⟩)
 D3 l K:=A.D3 l (@j_ _ ⟨K⟩)
 C3 l x:=A.C3 l (@j_ _ ⟨x⟩)
 ua k l K:=A.ua k l (@j_ _ ⟨K⟩)
 F5 l K:=A.F5 l (@j_ _ ⟨K⟩)
 C7 l K:=A.C7 l (@j_ _ ⟨K⟩)
 wb l x:=A.wb l (@j_ _ ⟨x⟩)
 oo f h K:=A.oo f h (@j_ _ ⟨K⟩)
 heap f h K:=A.heap f h (@j_ _ ⟨K⟩)
 new o h K:=A.new o h (@j_ _ ⟨K⟩)
 call g l h K:=A.call g l h (@j_ _ ⟨K⟩)
 D' v a s h K:=A.D' v a s h (@j_ _ ⟨K⟩)
 join b m:=A.join (@j_ _ ⟨b⟩) (@j_ _ ⟨m⟩)
 loop F l h:=A.loop (@j_ _ ⟨F⟩) l h
 Gr n v a h K:=A.Gr n v a h (@j_ _ ⟨K⟩)
 F4 o x y l:=A.F4 o (@j_ _ ⟨x⟩) (@j_ _ ⟨y⟩) l
 LX n h K:=A.LX n h (@j_ _ ⟨K⟩)
 I1 n o h K:=A.I1 n o h (@j_ _ ⟨K⟩)
def Y4(A:Eh Prop HL):hA A=A:=rfl
section
variable {A:Eh Prop HL}
theorem h_cond{b:Bool}{x y:Prop}:(hA A).cond b x y=A.cond b (@j_ _ ⟨x⟩) (@j_ _ ⟨y⟩):=rfl
theorem h_ari{o:GO}{k:TN}{a b:Int}{K:Tw}:(hA A).C5 o k a b K=A.C5 o k a b (@j_ _ ⟨K⟩):=rfl
theorem h_shf{o:GO}{k l:TN}{a b:Int}{K:Tw}:(hA A).IX o k a l b K=A.IX o k a l b (@j_ _ ⟨K⟩):=rfl
theorem h_cmp{o:GO}{a b:Int}{K:Tp}:(hA A).cmp o a b K=A.cmp o a b (@j_ _ ⟨K⟩):=rfl
theorem h_eqs{l:List (Lf×Lf)}{K:Tp}:(hA A).eqs l K=A.eqs l (@j_ _ ⟨K⟩):=rfl
theorem h_conv{k:TN}{a:Int}{K:Tw}:(hA A).conv k a K=A.conv k a (@j_ _ ⟨K⟩):=rfl
theorem h_sel{t:Bool}{a b:Int}{K:Tw}:(hA A).I4 t a b K=A.I4 t a b (@j_ _ ⟨K⟩):=rfl
theorem h_opt{j7:Type}{o:Option j7}{K:j7->Prop}:(hA A).km o K=A.km o (@j_ _ ⟨K⟩):=rfl
theorem h_chk{v:TV}{x:Prop}:(hA A).qa v x=A.qa v (@j_ _ ⟨x⟩):=rfl
theorem h_unI{l:TG}{K:Int->TG->Prop}:(hA A).qs l K=A.qs l (@j_ _ ⟨K⟩):=rfl
theorem h_unB{l:TG}{K:Bool->TG->Prop}:(hA A).GM l K=A.GM l (@j_ _ ⟨K⟩):=rfl
theorem h_unV{l:TG}{K:TV->TG->Prop}:(hA A).D3 l K=A.D3 l (@j_ _ ⟨K⟩):=rfl
theorem h_un0{l:TG}{x:Prop}:(hA A).C3 l x=A.C3 l (@j_ _ ⟨x⟩):=rfl
theorem h_ucI{k:TN}{l:Tn}{K:Int->Tn->Prop}:(hA A).ua k l K=A.ua k l (@j_ _ ⟨K⟩):=rfl
theorem h_ucB{l:Tn}{K:Bool->Tn->Prop}:(hA A).F5 l K=A.F5 l (@j_ _ ⟨K⟩):=rfl
theorem h_ucV{l:Tn}{K:Ta}:(hA A).C7 l K=A.C7 l (@j_ _ ⟨K⟩):=rfl
theorem h_uc0{l:Tn}{x:Prop}:(hA A).wb l x=A.wb l (@j_ _ ⟨x⟩):=rfl
theorem h_peek{f:Pk}{h:HL}{K:Tf}:(hA A).oo f h K=A.oo f h (@j_ _ ⟨K⟩):=rfl
theorem h_heap{f:Hp}{h:HL}{K:Tb}:(hA A).heap f h K=A.heap f h (@j_ _ ⟨K⟩):=rfl
theorem h_new{o:wa}{h:HL}{K:Nat->HL->Prop}:(hA A).new o h K=A.new o h (@j_ _ ⟨K⟩):=rfl
theorem h_call{g:TT}{l:TG}{h:HL}{K:Te}:(hA A).call g l h K=A.call g l h (@j_ _ ⟨K⟩):=rfl
theorem n3{v:TV}{a:Tn}{s:TP}{h:HL}{K:Te}:(hA A).D' v a s h K=A.D' v a s h (@j_ _ ⟨K⟩):=rfl
theorem h_join{b:Te}{m:(TG->HL->Prop)->Prop}:(hA A).join b m=A.join (@j_ _ ⟨b⟩) (@j_ _ ⟨m⟩):=rfl
theorem h_loop{F:(TG->HL->Prop)->TG->HL->Prop}{l:TG}{h:HL}:(hA A).loop F l h=A.loop (@j_ _ ⟨F⟩) l h:=rfl
theorem h_rfun{n:Nat}{v:TV}{a:Tn}{h:HL}{K:Tm->HL->Prop}:(hA A).Gr n v a h K=A.Gr n v a h (@j_ _ ⟨K⟩):=rfl
theorem h_pend{o:Tm}{x y:Prop}{l:List (Nat×Prop)}:(hA A).F4 o x y l=A.F4 o (@j_ _ ⟨x⟩) (@j_ _ ⟨y⟩) l:=rfl
theorem h_lp1{n:Nat}{h:HL}{K:HL->Prop}:(hA A).LX n h K=A.LX n h (@j_ _ ⟨K⟩):=rfl
theorem h_lp2{n:Nat}{o:Tm}{h:HL}{K:HL->Prop}:(hA A).I1 n o h K=A.I1 n o h (@j_ _ ⟨K⟩):=rfl
end
def pxh(A:Eh Prop HL):=And.intro (@h_cond A) (And.intro (@h_ari A) (And.intro (@h_shf A) (And.intro (@h_cmp A) (And.intro (@h_eqs A) (And.intro (@h_conv A) (And.intro (@h_sel A) (And.intro (@h_opt A) (And.intro (@h_chk A) (And.intro (@h_unI A) (And.intro (@h_unB A) (And.intro (@h_unV A) (And.intro (@h_un0 A) (And.intro (@h_ucI A) (And.intro (@h_ucB A) (And.intro (@h_ucV A) (And.intro (@h_uc0 A) (And.intro (@h_peek A) (And.intro (@h_heap A) (And.intro (@h_new A) (And.intro (@h_call A) (And.intro (@n3 A) (And.intro (@h_join A) (And.intro (@h_loop A) (And.intro (@h_rfun A) (And.intro (@h_pend A) (And.intro (@h_lp1 A) ((@h_lp2 A))))))))))))))))))))))))))))
end Sx
end Go.Am
namespace Go.Am
open Sx Go.Proofs
def A0(g:Nat)(vs:Tn)(h:cc.G g=O vs):vs.all bj=J:=by unfold cc at h;simp only at h;split at h<;>first|(cases h;done)|(obtain rfl:=Fm h;kernel_rfl)
abbrev P1:Eh Prop HL:=PH cc ac aa
abbrev Cc(g:TT)(ls a:TG):Prop:=∀H,aD cc ac g ls H a H
def fn_ok{f:TT}{c:Fn1}(i:I5 (xc f) ac f c){ls:TG}{H:HL}{K:Te}(b:kF ls=J)
  (h:au P1 (xc f) ac Mx c ls H K):∃a H',aD cc ac f ls (h_ aa H) a (h_ aa H')/\K a H':=by
 let⟨a,g,d,_,e⟩:=ui (X:=xc f) (holds:=id) (abs:=h_ aa) (Xz cc ac aa) wl i (gP b) h;exact⟨a,g,d,e⟩
def fn_okG{f:TT}{c:Fn1}(i:I5 (xc f) ac f c){ls:TG}{H:HL}{K:Te}(b:en ls)
  (h:au P1 (xc f) ac Mx c ls H K):∃a H',aD cc ac f ls (h_ aa H) a (h_ aa H')/\K a H':=by
 let⟨a,g,d,_,e⟩:=ui (X:=xc f) (holds:=id) (abs:=h_ aa) (Xz cc ac aa) wl i b h;exact⟨a,g,d,e⟩
def vc:en []:=λ_ h=>by cases h
def mc{n:Int}{ls:TG}(h:en ls):en (.i n::ls):=λl a=>by
 rcases Fy.1 a with rfl|a
 .trivial
 .exact h l a
def LI{n:Bool}{ls:TG}(h:en ls):en (.b n::ls):=λl a=>by
 rcases Fy.1 a with rfl|a
 .trivial
 .exact h l a
def o_{x:TV}{ls:TG}(b:aH x=J)(h:en ls):en (.v x::ls):=λl a=>by
 rcases Fy.1 a with rfl|a
 .exact b
 .exact h l a
abbrev FP:=List Lf->HL->(TG->HL->Prop)->Prop
abbrev UG(k:TT)(p:FP):Prop:=∀ {ls:TG} {H:HL} {K:Te},kF ls=J->p ls H K->∃a H',aD cc ac k ls (h_ aa H) a (h_ aa H')/\K a H'
abbrev XG(k:TT)(p:FP):Prop:=∀ {ls:TG} {H:HL} {K:Te},en ls->p ls H K->∃a H',aD cc ac k ls (h_ aa H) a (h_ aa H')/\K a H'
abbrev QG(k:TT)(p:FP):Prop:=∀ {ls b:TG},kF ls=J->p ls [] (λa _=>a=b)->Cc k ls b
abbrev YG(k:Nat)(p:Tn->Nat->FP):Prop:=∀ {vs:Tn} {a:Nat} {ls:TG} {H:HL} {K:Te} {st:LoopState} {c:Tm} {ys:List S0},H[a]?=O (.lp k st c vs)->Told ((aa k).params.map (·.2)) ls ys->p vs a ls H K->∃b H',iO cc a (ao ys) (h_ aa H) (.bool b) (h_ aa H')/\K [.b b] H'
def uu{k:TT}{c:Fn1}{f:{R a:Type}->Eh R a->TG->a->(TG->a->R)->R}(d:I5 (xc k) ac k c)(e:@f=λR a A ls h K=>au A (xc k) ac Mx c ls h K):UG k (f (hA P1)):=by intro ls H K b h;rw[Y4,e]at h;exact fn_ok d b h
def xx{k:TT}{c:Fn1}{f:{R a:Type}->Eh R a->TG->a->(TG->a->R)->R}(d:I5 (xc k) ac k c)(e:@f=λR a A ls h K=>au A (xc k) ac Mx c ls h K):XG k (f (hA P1)):=by intro ls H K b h;rw[Y4,e]at h;exact fn_okG d b h
def qq{k:TT}{sg:Ko}{p:FP}(e:UG k p)(d:ac k=O sg)(c:sg.plain=J):QG k p:=λa h=>by obtain⟨_,_,b,rfl⟩:=e a h;exact cf mixed uF d c b
def yy{k:Nat}{f:{R a:Type}->Eh R a->Tn->Nat->TG->a->(TG->a->R)->R}(e:@f=λR a A vs b ls h K=>uj A (xc 0) ac Mx (aa k) vs b ls h K):YG k (f (hA P1)):=by intro vs b ls H K i g j c d h;rw[Y4,e]at h;exact Ax (X:=xc 0) (Xz cc ac aa) wl (wM c) rfl rfl rfl rfl d h
def qxs:=pxs cc ac aa
def w7:=And.intro (qeq (hA P1)) (pxh P1)
def qxc:=pxc cc ac aa
def qxa:=pxa cc ac aa
def qb:=And.intro qxs (And.intro qxc qxa)
def c_{P li:Prop}(k:li)(h:P=li:=by simp(disch:=omega)only[↓qb];exact rfl):P:=Eq.mpr h k
def m9{P li:Prop}(k:li)(h:P=li:=by first|(simp(disch:=omega)only[↓qb];exact rfl)|exact rfl):P:=Eq.mpr h k
def x4:XG 4 (f4 (hA P1)):=xx i4 e4
def x6:XG 6 (f6 (hA P1)):=xx i6 e6
def x7:XG 7 (f7 (hA P1)):=xx i7 e7
def x8:XG 8 (f8 (hA P1)):=xx i8 e8
def x9:XG 9 (f9 (hA P1)):=xx i9 e9
def x10:XG 10 (f10 (hA P1)):=xx i10 e10
def x11:XG 11 (f11 (hA P1)):=xx i11 e11
def u12:UG 12 (f12 (hA P1)):=uu i12 e12
def x13:XG 13 (f13 (hA P1)):=xx i13 e13
def x14:XG 14 (f14 (hA P1)):=xx i14 e14
def x18:XG 18 (f18 (hA P1)):=xx i18 e18
def x19:XG 19 (f19 (hA P1)):=xx i19 e19
def x20:XG 20 (f20 (hA P1)):=xx i20 e20
def x21:XG 21 (f21 (hA P1)):=xx i21 e21
def u22:UG 22 (f22 (hA P1)):=uu i22 e22
def q22:QG 22 (f22 (hA P1)):=qq u22 rfl e_
def x24:XG 24 (f24 (hA P1)):=xx i24 e24
def u25:UG 25 (f25 (hA P1)):=uu i25 e25
def q25:QG 25 (f25 (hA P1)):=qq u25 rfl e_
def x26:XG 26 (f26 (hA P1)):=xx i26 e26
def x27:XG 27 (f27 (hA P1)):=xx i27 e27
def x28:XG 28 (f28 (hA P1)):=xx i28 e28
def u29:UG 29 (f29 (hA P1)):=uu i29 e29
def q29:QG 29 (f29 (hA P1)):=qq u29 rfl e_
def x30:XG 30 (f30 (hA P1)):=xx i30 e30
def x31:XG 31 (f31 (hA P1)):=xx i31 e31
def u32:UG 32 (f32 (hA P1)):=uu i32 e32
def x32:XG 32 (f32 (hA P1)):=xx i32 e32
def x33:XG 33 (f33 (hA P1)):=xx i33 e33
def u34:UG 34 (f34 (hA P1)):=uu i34 e34
def q34:QG 34 (f34 (hA P1)):=qq u34 rfl e_
def x35:XG 35 (f35 (hA P1)):=xx i35 e35
def x36:XG 36 (f36 (hA P1)):=xx i36 e36
def x37:XG 37 (f37 (hA P1)):=xx i37 e37
def x38:XG 38 (f38 (hA P1)):=xx i38 e38
def u39:UG 39 (f39 (hA P1)):=uu i39 e39
def q39:QG 39 (f39 (hA P1)):=qq u39 rfl e_
def u40:UG 40 (f40 (hA P1)):=uu i40 e40
def q40:QG 40 (f40 (hA P1)):=qq u40 rfl e_
def u41:UG 41 (f41 (hA P1)):=uu i41 e41
def q41:QG 41 (f41 (hA P1)):=qq u41 rfl e_
def x42:XG 42 (f42 (hA P1)):=xx i42 e42
def x44:XG 44 (f44 (hA P1)):=xx i44 e44
def x45:XG 45 (f45 (hA P1)):=xx i45 e45
def x47:XG 47 (f47 (hA P1)):=xx i47 e47
def x48:XG 48 (f48 (hA P1)):=xx i48 e48
def x49:XG 49 (f49 (hA P1)):=xx i49 e49
def x50:XG 50 (f50 (hA P1)):=xx i50 e50
def x51:XG 51 (f51 (hA P1)):=xx i51 e51
def x52:XG 52 (f52 (hA P1)):=xx i52 e52
def x53:XG 53 (f53 (hA P1)):=xx i53 e53
def u55:UG 55 (f55 (hA P1)):=uu i55 e55
def q55:QG 55 (f55 (hA P1)):=qq u55 rfl e_
def u56:UG 56 (f56 (hA P1)):=uu i56 e56
def q56:QG 56 (f56 (hA P1)):=qq u56 rfl e_
def u57:UG 57 (f57 (hA P1)):=uu i57 e57
def q57:QG 57 (f57 (hA P1)):=qq u57 rfl e_
def u58:UG 58 (f58 (hA P1)):=uu i58 e58
def q58:QG 58 (f58 (hA P1)):=qq u58 rfl e_
def u59:UG 59 (f59 (hA P1)):=uu i59 e59
def q59:QG 59 (f59 (hA P1)):=qq u59 rfl e_
def x61:XG 61 (f61 (hA P1)):=xx i61 e61
def x62:XG 62 (f62 (hA P1)):=xx i62 e62
def x63:XG 63 (f63 (hA P1)):=xx i63 e63
def u64:UG 64 (f64 (hA P1)):=uu i64 e64
def q64:QG 64 (f64 (hA P1)):=qq u64 rfl e_
def x65:XG 65 (f65 (hA P1)):=xx i65 e65
def x66:XG 66 (f66 (hA P1)):=xx i66 e66
def x67:XG 67 (f67 (hA P1)):=xx i67 e67
def u68:UG 68 (f68 (hA P1)):=uu i68 e68
def q68:QG 68 (f68 (hA P1)):=qq u68 rfl e_
def u69:UG 69 (f69 (hA P1)):=uu i69 e69
def q69:QG 69 (f69 (hA P1)):=qq u69 rfl e_
def u70:UG 70 (f70 (hA P1)):=uu i70 e70
def q70:QG 70 (f70 (hA P1)):=qq u70 rfl e_
def x71:XG 71 (f71 (hA P1)):=xx i71 e71
def x74:XG 74 (f74 (hA P1)):=xx i74 e74
def u75:UG 75 (f75 (hA P1)):=uu i75 e75
def q75:QG 75 (f75 (hA P1)):=qq u75 rfl e_
def u76:UG 76 (f76 (hA P1)):=uu i76 e76
def q76:QG 76 (f76 (hA P1)):=qq u76 rfl e_
def u77:UG 77 (f77 (hA P1)):=uu i77 e77
def q77:QG 77 (f77 (hA P1)):=qq u77 rfl e_
def u78:UG 78 (f78 (hA P1)):=uu i78 e78
def q78:QG 78 (f78 (hA P1)):=qq u78 rfl e_
def x79:XG 79 (f79 (hA P1)):=xx i79 e79
def x80:XG 80 (f80 (hA P1)):=xx i80 e80
def u81:UG 81 (f81 (hA P1)):=uu i81 e81
def q81:QG 81 (f81 (hA P1)):=qq u81 rfl e_
def x82:XG 82 (f82 (hA P1)):=xx i82 e82
def x83:XG 83 (f83 (hA P1)):=xx i83 e83
def x84:XG 84 (f84 (hA P1)):=xx i84 e84
def x85:XG 85 (f85 (hA P1)):=xx i85 e85
def x86:XG 86 (f86 (hA P1)):=xx i86 e86
def x87:XG 87 (f87 (hA P1)):=xx i87 e87
def x88:XG 88 (f88 (hA P1)):=xx i88 e88
def x89:XG 89 (f89 (hA P1)):=xx i89 e89
def u90:UG 90 (f90 (hA P1)):=uu i90 e90
def q90:QG 90 (f90 (hA P1)):=qq u90 rfl e_
def u91:UG 91 (f91 (hA P1)):=uu i91 e91
def q91:QG 91 (f91 (hA P1)):=qq u91 rfl e_
def u92:UG 92 (f92 (hA P1)):=uu i92 e92
def q92:QG 92 (f92 (hA P1)):=qq u92 rfl e_
def x93:XG 93 (f93 (hA P1)):=xx i93 e93
def u94:UG 94 (f94 (hA P1)):=uu i94 e94
def q94:QG 94 (f94 (hA P1)):=qq u94 rfl e_
def x95:XG 95 (f95 (hA P1)):=xx i95 e95
def u96:UG 96 (f96 (hA P1)):=uu i96 e96
def q96:QG 96 (f96 (hA P1)):=qq u96 rfl e_
def u107:UG 107 (f107 (hA P1)):=uu i107 e107
def q107:QG 107 (f107 (hA P1)):=qq u107 rfl e_
def u108:UG 108 (f108 (hA P1)):=uu i108 e108
def q108:QG 108 (f108 (hA P1)):=qq u108 rfl e_
def u110:UG 110 (f110 (hA P1)):=uu i110 e110
def q110:QG 110 (f110 (hA P1)):=qq u110 rfl e_
def u111:UG 111 (f111 (hA P1)):=uu i111 e111
def q111:QG 111 (f111 (hA P1)):=qq u111 rfl e_
def x113:XG 113 (f113 (hA P1)):=xx i113 e113
def x114:XG 114 (f114 (hA P1)):=xx i114 e114
def GT:XG 115 (f115 (hA P1)):=xx i115 e115
def x116:XG 116 (f116 (hA P1)):=xx i116 e116
def u117:UG 117 (f117 (hA P1)):=uu i117 e117
def q117:QG 117 (f117 (hA P1)):=qq u117 rfl e_
def u118:UG 118 (f118 (hA P1)):=uu i118 e118
def q118:QG 118 (f118 (hA P1)):=qq u118 rfl e_
def u119:UG 119 (f119 (hA P1)):=uu i119 e119
def q119:QG 119 (f119 (hA P1)):=qq u119 rfl e_
def u120:UG 120 (f120 (hA P1)):=uu i120 e120
def q120:QG 120 (f120 (hA P1)):=qq u120 rfl e_
def u121:UG 121 (f121 (hA P1)):=uu i121 e121
def q121:QG 121 (f121 (hA P1)):=qq u121 rfl e_
def u122:UG 122 (f122 (hA P1)):=uu i122 e122
def q122:QG 122 (f122 (hA P1)):=qq u122 rfl e_
def x123:XG 123 (f123 (hA P1)):=xx i123 e123
def x125:XG 125 (f125 (hA P1)):=xx i125 e125
def u127:UG 127 (f127 (hA P1)):=uu i127 e127
def q127:QG 127 (f127 (hA P1)):=qq u127 rfl e_
def u128:UG 128 (f128 (hA P1)):=uu i128 e128
def q128:QG 128 (f128 (hA P1)):=qq u128 rfl e_
def u129:UG 129 (f129 (hA P1)):=uu i129 e129
def q129:QG 129 (f129 (hA P1)):=qq u129 rfl e_
def u137:UG 137 (f137 (hA P1)):=uu i137 e137
def q137:QG 137 (f137 (hA P1)):=qq u137 rfl e_
def u138:UG 138 (f138 (hA P1)):=uu i138 e138
def q138:QG 138 (f138 (hA P1)):=qq u138 rfl e_
def x139:XG 139 (f139 (hA P1)):=xx i139 e139
def x140:XG 140 (f140 (hA P1)):=xx i140 e140
def u143:UG 143 (f143 (hA P1)):=uu i143 e143
def q143:QG 143 (f143 (hA P1)):=qq u143 rfl e_
def u145:UG 145 (f145 (hA P1)):=uu i145 e145
def q145:QG 145 (f145 (hA P1)):=qq u145 rfl e_
def x146:XG 146 (f146 (hA P1)):=xx i146 e146
def u147:UG 147 (f147 (hA P1)):=uu i147 e147
def q147:QG 147 (f147 (hA P1)):=qq u147 rfl e_
def xy96:YG 96 (y96 (hA P1)):=yy ey96
def xy160:YG 160 (y160 (hA P1)):=yy ey160
def xK{k:TT}{p:FP}(c:XG k p){ls R:TG}{H H':HL}(b:en ls)(h:p ls H λa h'=>a=R/\h'=H'):aD cc ac k ls (h_ aa H) R (h_ aa H'):=by grind
end Go.Am
namespace Go.Am
namespace Sx
def gq{vs:Tn}{off n:Nat}{cs:Tn}:cut vs off n=O cs↔off+n<=W vs/\(vs.drop off).take n=cs:=by
 unfold cut
 simp_all
def mX{vs:Tn}{off n:Nat}{cs:Tn}(h:cut vs off n=O cs){o k:Nat}(b:o+k<=n):cut vs (off+o) k=O ((cs.drop o).take k):=by obtain⟨a,rfl⟩:=gq.1 h;refine gq.2 ⟨a_,?_⟩;rw[List.drop_take,qco,List.take_take,Xk a_]
def A2{vs:Tn}{n:Nat}(h:W vs=n):cut vs 0 n=O vs:=gq.2 ⟨a_,jw⟩
def xk(h0 h:HL):Prop:=∃G,h=h0++G
theorem xk.refl(h:HL):xk h h:=⟨[],d_⟩
def xk.trans{a b c:HL}(h:xk a b)(k:xk b c):xk a c:=by obtain⟨G,rfl⟩:=h;obtain⟨d,rfl⟩:=k;exact⟨G++d,d_⟩
def xk.Hu{a b:HL}(h:xk a b)(G:HL):xk a (b++G):=h.trans ⟨G,rfl⟩
def xk.len{a b:HL}(h:xk a b):W a<=W b:=by obtain⟨G,rfl⟩:=h;simp
def xk.get{a b:HL}(h:xk a b){i:Nat}{o:HO}(c:a[i]?=O o):b[i]?=O o:=by
 obtain⟨G,rfl⟩:=h
 grind
def xk.set{a b:HL}(h:xk a b){i:Nat}(c:W a<=i)(o:HO):xk a (b.set i o):=by obtain⟨G,rfl⟩:=h;rw[qcW _ _ c];exact⟨_,rfl⟩
def I7(h:HL)(p:FO)(cs:Tn):Prop:=∃id o vs e rw,p=EQ (O ⟨id,o,Q⟩)/\h[id]?=O (.o (.cells vs e rw))/\cut vs o (W cs)=O cs
def Ip(h:HL)(v:FO)(e n:Nat)(cs:Tn):Prop:=
 (W cs)=n*e/\((v=DW Q 0 0/\n=0)∨∃id off cx vs rw,v=DW (O ⟨id,off,le e⟩) n cx/\h[id]?=O (.o (.cells vs e rw))/\cut vs off (n*e)=O cs)
def q_{j7:Type}(h:HL)(v:FO)(e:Nat)(enc:j7->Tn)(l:List j7):Prop:=(∀a∈l,W (enc a)=e)/\Ip h v e (W l) (l.flatMap enc)
def Mk(n0:Nat)(h:HL)(v:FO)(e n:Nat)(cs:Tn):Prop:=
 (W cs)=n*e/\((v=DW Q 0 0/\n=0)∨∃id,n0<=id/\v=DW (O ⟨id,0,le e⟩) n 0/\h[id]?=O (.o (.cells cs e J)))
def Xw{j7:Type}(n0:Nat)(h:HL)(v:FO)(e:Nat)(enc:j7->Tn)(l:List j7):Prop:=(∀a∈l,W (enc a)=e)/\Mk n0 h v e (W l) (l.flatMap enc)
def i_:FO->Option Nat
 | DW (O a) _ _=>O a.block
 |_=>Q
def Ip.ke{h h':HL}{v:TV}{e n:Nat}{cs:Tn}(l:Ip h v e n cs)(k:∀(j:Nat) o,h[j]?=O o->i_ v=O j->h'[j]?=O o):Ip h' v e n cs:=by
 obtain⟨c,f|⟨id,a,d,m,b,rfl,g,i⟩⟩:=l
 .exact⟨c,.inl f⟩
 .exact⟨c,.inr ⟨id,a,d,m,b,rfl,k _ _ g rfl,i⟩⟩
def Ip.pre{h h':HL}{v:TV}{e n:Nat}{cs:Tn}(b:Ip h v e n cs)(a:xk h h'):Ip h' v e n cs:=b.ke λ_ _ h _=>a.get h
def q_.ke{j7:Type}{h h':HL}{v:TV}{e:Nat}{enc:j7->Tn}{l:List j7}(a:q_ h v e enc l)(b:∀(j:Nat) o,h[j]?=O o->i_ v=O j->h'[j]?=O o):q_ h' v e enc l:=⟨a.1,a.2.ke b⟩
def q_.pre{j7:Type}{h h':HL}{v:TV}{e:Nat}{enc:j7->Tn}{l:List j7}(a:q_ h v e enc l)(b:xk h h'):q_ h' v e enc l:=⟨a.1,a.2.pre b⟩
def Ip.len{h:HL}{v:TV}{e n:Nat}{cs:Tn}(a:Ip h v e n cs):KP v=O (.ofNat n):=by obtain⟨_,⟨rfl,rfl⟩|⟨id,b,d,f,c,rfl,_⟩⟩:=a<;>rfl
def q_.len{j7:Type}{h:HL}{v:TV}{e:Nat}{enc:j7->Tn}{l:List j7}(a:q_ h v e enc l):KP v=O (.ofNat (W l)):=a.2.len
def Mk.sl{n0:Nat}{h:HL}{v:TV}{e n:Nat}{cs:Tn}(d:Mk n0 h v e n cs):Ip h v e n cs:=by
 obtain⟨a,b|⟨id,_,rfl,c⟩⟩:=d
 .exact⟨a,.inl b⟩
 .exact⟨a,.inr ⟨id,0,0,cs,J,rfl,c,A2 a⟩⟩
def Xw.ls{j7:Type}{n0:Nat}{h:HL}{v:TV}{e:Nat}{enc:j7->Tn}{l:List j7}(a:Xw n0 h v e enc l):q_ h v e enc l:=⟨a.1,a.2.sl⟩
def Mk.nil(n0:Nat)(h:HL)(e:Nat):Mk n0 h (DW Q 0 0) e 0 []:=⟨d_,.inl ⟨rfl,rfl⟩⟩
def Xw.nil{j7:Type}(n0:Nat)(h:HL)(e:Nat)(enc:j7->Tn):Xw n0 h (DW Q 0 0) e enc []:=⟨d_,Mk.nil n0 h e⟩
def q_.nil{j7:Type}(h:HL)(e:Nat)(enc:j7->Tn):q_ h (DW Q 0 0) e enc []:=(Xw.nil 0 h e enc).ls
def Mk.ke{n0:Nat}{h h':HL}{v:TV}{e n:Nat}{cs:Tn}(f:Mk n0 h v e n cs)(d:∀(j:Nat) o,h[j]?=O o->i_ v=O j->h'[j]?=O o):Mk n0 h' v e n cs:=by
 obtain⟨b,a|⟨id,a,rfl,c⟩⟩:=f
 .exact⟨b,.inl a⟩
 .exact⟨b,.inr ⟨id,a,rfl,d _ _ c rfl⟩⟩
def Mk.pre{n0:Nat}{h h':HL}{v:TV}{e n:Nat}{cs:Tn}(b:Mk n0 h v e n cs)(a:xk h h'):Mk n0 h' v e n cs:=b.ke λ_ _ h _=>a.get h
def aT{j7:Type}{e:Nat}{enc:j7->Tn}:∀ {l:List j7},(∀a∈l,W (enc a)=e)->W (l.flatMap enc)=W l*e
 | [],_=>d_
 |a::l,h=>by rw[kD,IL,h a MA,aT λb c=>h b (G_ _ c),j1,Nq,u4,Nat.add_comm]
def nj{j7:Type}{e:Nat}{enc:j7->Tn}:∀ {l:List j7},(∀a∈l,W (enc a)=e)->∀ {i:Nat} {a:j7},l[i]?=O a->((l.flatMap enc).drop (i*e)).take e=enc a
 |b::l,h,0,a,c=>by simp_all
 |b::l,h,i+1,a,c=>by simp only[qb0]at c;have d:=h b MA;have:=nj (λb d=>h b (G_ _ d)) c;rw[kD,Nq,u4,←this];have f:i*e+e=W (enc b)+i*e:=a_;rw[f,qcX,u1 a_,E7,qdu]
 | [],_,_,_,c=>by simp at c
def Ip.at{h:HL}{v:TV}{e n:Nat}{cs:Tn}(j:Ip h v e n cs){i:Nat}(q:i<n):∃p,D8 e v (.ofNat i)=O p/\I7 h p ((cs.drop (i*e)).take e):=by
 obtain⟨m,⟨rfl,rfl⟩|⟨id,a,l,k,c,rfl,d,f⟩⟩:=j
 .omega
 .have b:i*e+e<=n*e:=by
   have:=p9 e (show i+1<=n by omega)
   grind
  refine⟨EQ (O ⟨id,a+i*e,Q⟩),?_,id,a+i*e,k,e,c,rfl,d,?_⟩
  .rw[sI];have g:0<=DO i/\DO i<(n:Int):=⟨IK i,k_⟩;simp only[rv g];have:¬(le e=O 1):=by simp[le]
   simp_all
  .have o:=mX f b
   grind
def q_.at{j7:Type}{h:HL}{v:TV}{e:Nat}{enc:j7->Tn}{l:List j7}(d:q_ h v e enc l){i:Nat}{a:j7}(g:l[i]?=O a):∃p,D8 e v (.ofNat i)=O p/\I7 h p (enc a):=by
 have b:i<W l:=by grind
 let⟨p,f,c⟩:=d.2.at b;rw[nj d.1 g]at c;exact⟨p,f,c⟩
def I7.fd{h:HL}{p:TV}{cs:Tn}(g:I7 h p cs)(o k:Nat)(f:o+k<=W cs):∃b,Fq o p=O b/\I7 h b ((cs.drop o).take k):=by
 obtain⟨id,i,j,e,a,rfl,c,d⟩:=g;refine⟨_,rfl,id,i+o,j,e,a,rfl,c,?_⟩;have l:=mX d f
 grind
section
variable [El] [E_]
def bI{T:Tv}{h:HL}{i:Nat}{o:wa}(a:h[i]?=O (.o o)):w_ T h i=O o:=by unfold w_;rw[a];rfl
def I7.ld{T:Tv}{h:HL}{p:TV}{cs:Tn}(f:I7 h p cs){n:Nat}(d:W cs=n):(Pk.ld n p).run (w_ T h)=O cs:=by obtain⟨id,o,a,e,g,rfl,b,c⟩:=f;subst d;show(match (Q:Ts)with|none=>(iZ (w_ T h) id).bind λa=>cut a o (W cs)|some _=>Q)=_;unfold iZ;rw[bI b];exact c
def I7.lg{C:p_}{T:Tv}{h:HL}{p:TV}{cs:Tn}(f:I7 h p cs){n:Nat}(d:W cs=n):(Pk.lg C n p).run (w_ T h)=O cs:=by obtain⟨id,o,a,e,g,rfl,b,c⟩:=f;subst d;show(iZ (w_ T h) id).bind (λa=>cut a o (W cs))=_;unfold iZ;rw[bI b];exact c
def oO{C:p_}{T:Tv}{h:HL}{v:TV}{e n:Nat}{cs:Tn}(c:Ip h v e n cs):Xm C e (w_ T h) v=O (cs,n):=by
 obtain⟨a,⟨rfl,rfl⟩|⟨id,d,g,j,f,rfl,b,i⟩⟩:=c
 .simp only[ag,VM]at a;subst a;rfl
 .unfold Xm;have:¬(le e=O 1):=by simp[le]
  simp only[ts this,if_true];rw[bI b]
  simp_all
variable {C:p_} {Sg:Td} {T:Tv}
def ap_mk{n0:Nat}{h0 h:HL}{v x:TV}{e n k bytes:Nat}{cs new:Tn}(f:xk h0 h)(s:W h0=n0)(p:Mk n0 h v e n cs)(r:Ip h x e k new)(z:aY (n+k) bytes=J) :
  ∃b v',(Hp.ap C e bytes v x).run (w_ T h) (W h)=O (b,[v'])/\xk h0 (bJ h b)/\Mk n0 (bJ h b) v' e (n+k) (cs++new)/\
   (∀(j:Nat) o,h[j]?=O o->i_ v≠O j->(bJ h b)[j]?=O o)/\(i_ v'=i_ v∨i_ v'=Q∨∃j,i_ v'=O j/\h.length<=j):=by
 let⟨g,p⟩:=p;have i:=r.1;have q:W (cs++new)=(n+k)*e:=jw;have c:=oO (C:=C) (T:=T) r;rcases p with⟨rfl,rfl⟩|⟨id,j_,rfl,l⟩
 .simp only[ag,VM]at g;subst g;by_cases m:k=0
  .subst m;simp only[ag,VM]at i;subst i;refine⟨[],DW Q 0 0,?_,f,Mk.nil _ _ _,λj o d _=>d,.inl rfl⟩;show Gx C e bytes (DW Q 0 0) x (w_ T h) (W h)=_;unfold Gx;rw[c];rfl
  .refine⟨[.push (.cells new e J)],DW (O ⟨W h,0,le e⟩) k 0,?_,f.Hu _,?_,λj o d _=>?_,.inr (.inr ⟨W h,rfl,B7 _⟩)⟩
   .show Gx C e bytes (DW Q 0 0) x (w_ T h) (W h)=_;unfold Gx
    simp_all
   .rw[Hd,E7];refine⟨a_,.inr ⟨W h,by have:=f.len;omega,rfl,?_⟩⟩;simp[bJ,Er.onH]
   .exact xk.get ⟨_,rfl⟩ d
 .by_cases m:k=0
  .subst m;simp only[ag,VM]at i;subst i;refine⟨[],DW (O ⟨id,0,le e⟩) n 0,?_,f,⟨q,.inr ⟨id,j_,rfl,by simpa[bJ]using l⟩⟩,λj o d _=>d,.inl rfl⟩;show Gx C e bytes (DW (O ⟨id,0,le e⟩) n 0) x (w_ T h) (W h)=_;unfold Gx;rw[c];simp only[ne_eq,not_true_eq_false,if_false];rw[bI l];simp only[ne_eq,not_true_eq_false,if_false];rw[A2 g];rfl
  .have w:id<W h:=by grind
   refine⟨[.set id .dead,.push (EJ (cs++new) e J)],DW (O ⟨W h,0,le e⟩) (n+k) 0,?_,?_,?_,λj o d t=>?_,.inr (.inr ⟨W h,rfl,B7 _⟩)⟩
   .show Gx C e bytes (DW (O ⟨id,0,le e⟩) n 0) x (w_ T h) (W h)=_;unfold Gx;rw[c];simp only[ne_eq,not_true_eq_false,if_false];rw[bI l];simp only[ne_eq,not_true_eq_false,if_false];rw[A2 g]
    simp_all
   .exact(f.set a_ _).Hu _
   .refine⟨q,.inr ⟨W h,a_,rfl,?_⟩⟩;simp[bJ,Er.onH]
   .have y:id≠j:=λu=>t (by subst u;rfl);apply xk.get (a:=h.set id (.o .dead)) ⟨_,rfl⟩
    simp_all
def DF{j7:Type}{h0 h:HL}{v:TV}{e bytes:Nat}{enc:j7->Tn}{l:List j7}{a:j7}{K:Tb}{new:Tn}{m:Nat}{p:Ts}(w:xk h0 h)(n:Xw (W h0) h v e enc l)(u:new=enc a)(B:W (enc a)=e)(f:m=W h)(g:p=O (e+10))
  (x:aY (W l+1) bytes=J)
  (t:∀v' h',xk h0 h'->Xw (W h0) h' v' e enc (l++[a])->aH v'=J->(∀(j:Nat) o,h[j]?=O o->i_ v≠O j->h'[j]?=O o)->(i_ v'=i_ v∨∃j,i_ v'=O j/\h.length<=j)->K [v'] h') :
  (PH C Sg T).heap (.ap C e bytes v (DW (O ⟨m,0,p⟩) 1 2)) (h++[.o (.cells new e J)]) (@j_ _ ⟨K⟩):=by
 subst u f g;have y:Ip (h++[HO.o (EJ (enc a) e J)]) (DW (O ⟨W h,0,le e⟩) 1 2) e 1 (enc a):=by refine⟨a_,.inr ⟨W h,0,2,enc a,J,rfl,d_,A2 a_⟩⟩
 have d:Mk (W h0) (h++[HO.o (EJ (enc a) e J)]) v e (W l) (l.flatMap enc):=n.2.pre ⟨_,rfl⟩;let⟨k,v',q,r,i,z,s⟩:=ap_mk (C:=C) (T:=T) (w.Hu [HO.o (EJ (enc a) e J)]) rfl d y x;refine bK q (t v' _ r ⟨?_,?_⟩ ?_ ?_ ?_)
 .intro b hb;rcases F_.1 hb with hb|hb
  .exact n.1 b hb
  simp_all
 .simp_all
 .obtain⟨_,⟨rfl,_⟩|⟨id,_,rfl,_⟩⟩:=i
  .rfl
  .simp[aH,q8,aW,bG,bu,aR,aL,le]
 .grind
 .rcases s with c|c|⟨j,c,A⟩
  .exact .inl c
  .obtain⟨D,⟨_,E⟩|⟨id,_,rfl,_⟩⟩:=i
   .omega
   .cases c
  grind
end
end Sx
namespace Sx
def I7.g_{h:HL}{p:TV}{cs:Tn}(a:I7 h p cs):aH p=J:=by obtain⟨id,o,c,e,b,rfl,_⟩:=a;simp[aH,q8,aW,bG,bu,aR,aL]
def Ip.g_{h:HL}{v:TV}{e n:Nat}{cs:Tn}(a:Ip h v e n cs):aH v=J:=by
 obtain⟨_,⟨rfl,_⟩|⟨id,b,d,f,c,rfl,_⟩⟩:=a
 .rfl
 .simp[aH,q8,aW,bG,bu,aR,aL,le]
def q_.g_{j7:Type}{h:HL}{v:TV}{e:Nat}{enc:j7->Tn}{l:List j7}(a:q_ h v e enc l):aH v=J:=a.2.g_
section
variable [El] [E_] {C:p_} {Sg:Td} {T:Tv}
def Fc{F:(TG->HL->Prop)->TG->HL->Prop}{s:Te}{l:TG}{h:HL}(a:F s l h):@j_ _ ⟨F⟩ s l h:=a
def bo{g9:Type}{F:(TG->HL->Prop)->TG->HL->Prop}(n:Nat)(S:Nat->g9->TG)(d:Nat->g9->HL)(Inv:Nat->g9->Prop){j0:Nat}{s0:g9}{ls:TG}{h:HL}(i:ls=S j0 s0)(k:h=d j0 s0)(g:j0<=n)(e:Inv j0 s0)
  (step:∀j s,j<=n->Inv j s->∀a:TG->HL->Prop,(∀c,j<n->Inv (j+1) c->a (S (j+1) c) (d (j+1) c))->F a (S j s) (d j s)):(PH C Sg T).loop (@j_ _ ⟨F⟩) ls h:=by
 subst i k;apply aN (m:=n-j0) (λm ls h=>∃j s,ls=S j s/\h=d j s/\j<=n/\m=n-j/\Inv j s) ⟨j0,s0,rfl,rfl,g,rfl,e⟩;rintro m ls h ⟨j,s,rfl,rfl,g,rfl,e⟩ a b;exact Fc (step j s g e a λc l f=>b (n-(j+1)) _ _ a_ ⟨j+1,c,rfl,rfl,a_,rfl,f⟩)
abbrev _root_.Tz:=Nat->Prop
def bY{F:(TG->HL->Prop)->TG->HL->Prop}(n:Nat)(Inv:Tz){j0:Nat}{h:HL}{ls:TG}(f:ls=[.i (DO j0)])(e:j0<=n)(d:Inv j0)
  (step:∀j,j<=n->Inv j->∀c:TG->HL->Prop,(j<n->Inv (j+1)->c [.i (DO j+1)] h)->F c [.i (DO j)] h):(PH C Sg T).loop (@j_ _ ⟨F⟩) ls h:=
 bo (g9:=Unit) n (λj _=>[.i (DO j)]) (λ_ _=>h) (λj _=>Inv j) (s0:=()) f rfl e d λj _ e d c g=>step j e d c (λa b=>g () a b)
def aO{j7:Type}{h:HL}{v:TV}{e:Nat}{enc:j7->Tn}{l:List j7}{K:Tw}(b:q_ h v e enc l)(a:K (DO (W l))):(PH C Sg T).km (KP v) (@j_ _ ⟨K⟩):=af b.len a
def aJ{j7:Type}{h:HL}{v:TV}{e:Nat}{enc:j7->Tn}{l:List j7}{i:Nat}{a:j7}{n:Int}{K:Tf}(c:q_ h v e enc l)(j:n=DO i)(b:l[i]?=O a)(g:K (enc a)) :
  (PH C Sg T).km (D8 e v n) (@j_ _ ⟨λx=>(PH C Sg T).oo (.lg C e x) h (@j_ _ ⟨K⟩)⟩):=by
 subst j;let⟨p,d,f⟩:=c.at b;exact af d (cI (f.lg (c.1 a (A9 b))) g)
def bz{j7:Type}{h:HL}{v:TV}{e:Nat}{enc:j7->Tn}{l:List j7}{i:Nat}{a:j7}{n:Int}{o k:Nat}{cs:Tn}{K:Tf}(j:q_ h v e enc l)(u:n=DO i)(g:l[i]?=O a)(d:cs=((enc a).drop o).take k)(c:o+k<=e)(t:K cs) :
  (PH C Sg T).km (D8 e v n) (@j_ _ ⟨λx=>(PH C Sg T).km (Fq o x) (@j_ _ ⟨λy=>(PH C Sg T).qa y (@j_ _ ⟨(PH C Sg T).oo (.lg C k y) h (@j_ _ ⟨K⟩)⟩)⟩)⟩):=by
 subst u d;let⟨p,m,r⟩:=j.at g;have w:=j.1 a (A9 g);have c:o+k<=W (enc a):=a_;have b:W (((enc a).drop o).take k)=k:=jw;let⟨q,s,f⟩:=r.fd o k c;refine af m (af s ?_);show aH q=J/\_;exact⟨f.g_,cI (f.lg b) t⟩
end
end Sx
namespace Sx
section
variable [El] [E_] {C:p_} {Sg:Td} {T:Tv}
def aI{j:Nat}{K:Tw}(h:j<=4294967296):(PH C Sg T).C5 .add DQ (DO j) 1 (@j_ _ ⟨K⟩)=K (DO j+1):=
 Hn jw jw
def ko{j:Nat}{K:Tw}(h1:1<=j)(h:j<=4294967296):(PH C Sg T).C5 .sub DQ (DO j) 1 (@j_ _ ⟨K⟩)=K (DO (j-1)):=by
 rw[Rx jw jw]
 grind
def aB{j n:Nat}{K:Tp}(h:j<n):(PH C Sg T).cmp .lss (DO j) (DO n) (@j_ _ ⟨K⟩)=K J:=r_ k_
def aw{j n:Nat}{K:Tp}(h:n<=j):(PH C Sg T).cmp .lss (DO j) (DO n) (@j_ _ ⟨K⟩)=K U:=s_ k_
end
def ah{j7:Type}{l:List j7}{i:Nat}{a:j7}(h:l[i]?=O a):i<W l:=by grind
def ak{j7:Type}{l:List j7}{i:Nat}(h:i<W l):∃a,l[i]?=O a:=⟨_,Gn h⟩
end Sx
namespace Sx
section
variable [El] [E_]
variable {C:p_} {Sg:Td} {T:Tv} {j7:Type}
def sd(h:HL)(id e:Nat)(enc:j7->Tn)(l:List j7):HL:=h.set id (.o (EJ (l.flatMap enc) e J))
def bS{h:HL}{id e:Nat}{enc:j7->Tn}{l:List j7}(a:id<W h):(sd h id e enc l)[id]?=O (.o (EJ (l.flatMap enc) e J)):=by
 unfold sd
 simp_all
def z5{h:HL}{id e:Nat}{enc:j7->Tn}{l l':List j7}:(sd h id e enc l).set id (.o (EJ (l'.flatMap enc) e J))=sd h id e enc l':=by unfold sd;rw[List.set_set]
def hE{h:HL}{id e cx:Nat}{enc:j7->Tn}(b:∀a,W (enc a)=e){l:List j7}(c:id<W h):q_ (sd h id e enc l) (DW (O ⟨id,0,le e⟩) (W l) cx) e enc l:=by have d:=aT (e:=e) (enc:=enc) (l:=l) λa _=>b a;exact⟨λa _=>b a,d,.inr ⟨id,0,cx,_,J,rfl,bS c,A2 d⟩⟩
def io{e:Nat}{enc:j7->Tn}(c:∀a,W (enc a)=e):∀ {l:List j7} {i:Nat} (a:j7),i<W l->(l.flatMap enc).take (i*e)++enc a++(l.flatMap enc).drop (i*e+e)=(l.set i a).flatMap enc
 | [],_,_,h=>by simp at h
 |b::l,0,a,_=>by simp_all
 |b::l,i+1,a,h=>by
  have f:=c b;have d:=io c (l:=l) (i:=i) a (by simpa using h);simp only[qcL,kD];rw[←d,Nq,u4,qdy,qcX];rw[K5 a_,u1 a_,E7]
  simp_all
def r_set{h:HL}{id e cx len:Nat}{enc:j7->Tn}(b:∀a,W (enc a)=e){l:List j7}{i:Nat}{a:j7}{n:Int}{new:Tn}{K:Tb}(j:id<W h)(q:n=DO i)(m:i<W l)(c:W l=len)(d:new=enc a)
  (o:K [] (sd h id e enc (l.set i a))):(PH C Sg T).km (D8 e (DW (O ⟨id,0,le e⟩) len cx) n) (@j_ _ ⟨λx=>(PH C Sg T).heap (.st x new) (sd h id e enc l) (@j_ _ ⟨K⟩)⟩):=by
 subst q c d;have r:D8 e (DW (O ⟨id,0,le e⟩) (W l) cx) (DO i)=O (EQ (O ⟨id,i*e,Q⟩)):=by
  rw[sI];have k:0<=DO i/\DO i<(W l:Int):=⟨IK i,k_⟩;simp only[rv k];have:¬(le e=O 1):=by simp[le]
  simp_all
 apply af r;have p:=aT (e:=e) (enc:=enc) (l:=l) λa _=>b a;have g:i*e+e<=W l*e:=by
  have:=p9 e (show i+1<=W l by omega)
  grind
 have f:(Hp.st (EQ (O ⟨id,i*e,Q⟩)) (enc a)).run (w_ T (sd h id e enc l)) (W (sd h id e enc l))=O ([.set id (EJ ((l.set i a).flatMap enc) e J)],[]):=by show NC (EQ (O ⟨id,i*e,Q⟩)) (enc a) (w_ T (sd h id e enc l)) (W (sd h id e enc l))=_;unfold NC;simp only;rw[bI (bS j)];simp only;unfold v_;rw[b a,p,rv g,io b a m];rfl
 apply bK f;show K [] (bJ _ _);have:bJ (sd h id e enc l) [.set id (EJ ((l.set i a).flatMap enc) e J)]=sd h id e enc (l.set i a):=z5;rw[this];exact o
end
end Sx
namespace Sx
section
variable [El] [E_]
variable {C:p_} {Sg:Td} {T:Tv} {j7:Type}
def cP{enc:j7->Tn}{z:j7}{n:Nat}:aQ (enc z) n=(List.replicate n z).flatMap enc:=by unfold aQ;rw[List.flatMap_def,List.map_replicate]
def Nh(h:HL)(e:Nat)(enc:j7->Tn)(l:List j7):HL:=h++[.o (EJ (l.flatMap enc) e J)]
def Z4{h:HL}{e:Nat}{enc:j7->Tn}{l:List j7}:sd (h++[.o .dead]) (W h) e enc l=Nh h e enc l:=by
 unfold sd Nh
 simp_all
def Z3(h:HL)(e:Nat)(enc:j7->Tn)(l:List j7):xk h (Nh h e enc l):=⟨_,rfl⟩
def Ri{h:HL}{e cx:Nat}{enc:j7->Tn}(b:∀a,W (enc a)=e){l:List j7}{n:Nat}(c:n=W l):q_ (Nh h e enc l) (DW (O ⟨W h,0,le e⟩) n cx) e enc l:=by subst c;rw[←Z4];exact hE b d_
def dG{n:Nat}(h:n<=1048576):FV (DO n) (DO n)=O ():=by
 unfold FV
 grind
end
end Sx
namespace Sx
section
variable [El] [E_]
variable {C:p_} {Sg:Td} {T:Tv} {j7:Type}
def gi{l:List j7}{i:Nat}{a:j7}(h:l[i]?=O a):l.set i a=l:=by
 apply Kj
 grind
end
end Sx
namespace Sx
section
variable [El] [E_] {C:p_} {T:Tv}
abbrev Ku:=Int×Int
def Vl(k:Ku):FO:=EU ⟨[EO DQ k.1,EO DU k.2]⟩
def Lp(a:Tj)(ks:List Ku):Prop:=a.map (·.key)=ks.map Vl/\∀e∈a,e.val = .bool J
abbrev W1:TK:=[.i DQ,.i DU]
def jg(a b:Int):kg a b=decide (a=b):=by
 have c:∀m n:Nat,Nat.beq m n=decide (m=n):=λm n=>by
  by_cases h:m=n
  .subst h;simp
  .rw[Ga h];cases d:Nat.beq m n with
   |true=>simp_all
   |false=>rfl
 cases a<;>cases b<;>simp[kg,c];omega
def g0(a b:Ku):C2 W1 [EO DQ a.1,EO DU a.2] [EO DQ b.1,EO DU b.2]=O (decide (a=b)):=by
 have c:dc DQ DQ=J:=rfl;have d:dc DU DU=J:=rfl;let⟨e,f⟩:=a;let⟨g,h⟩:=b;simp only[C2,c,d,jg,x3]
 grind
def ut(k:Ku):∀ {a:Tj} {ks:List Ku} (i:Nat),Lp a ks->(k∉ks->jZ W1 [EO DQ k.1,EO DU k.2] a i=O Q)/\(k∈ks->∃j e,jZ W1 [EO DQ k.1,EO DU k.2] a i=O (O (i+j))/\a[j]?=O e/\e.val = .bool J)
 | [],[],i,_=>⟨λ_=>rfl,λh=>by cases h⟩
 | [],_::_,i,h=>by have:=h.1;simp at this
 |_::_,[],i,h=>by have:=h.1;simp at this
 |e::a,q::ks,i,h=>by
  let⟨c,p⟩:=h;simp only[Fx,Li]at c;let⟨d,f⟩:=ut k (i+1) (⟨c.2,λx t=>p x (G_ _ t)⟩ : Lp a ks);have s:jZ W1 [EO DQ k.1,EO DU k.2] (e::a) i=if k=q then O (O i)else jZ W1 [EO DQ k.1,EO DU k.2] a (i+1):=by
   simp only[jZ,c.1,Vl];rw[g0]
   grind
  rw[s];by_cases g:k=q
  .simp_all
  .rw[ts g];refine⟨λr=>d λb=>r (G_ _ b),λb=>?_⟩;rcases Fy.1 b with b|b
   .exact absurd b g
   .obtain⟨j,l,m,n,o⟩:=f b;exact⟨j+1,l,by rw[m];congr 2;omega,by simpa using n,o⟩
variable {kt:TS}
def Zm(h1:DV C.P kt=O J)(c:EE C.P 10000 kt=O W1)(k:Ku):LP C.P kt (Vl k)=J:=by have a:dc DQ DQ=J:=rfl;have b:dc DU DU=J:=rfl;unfold LP Vl;simp only[h1,c,fU,a,b,jg];simp
def yC(h1:DV C.P kt=O J)(b:EE C.P 10000 kt=O W1)(k:Ku){a:Tj}{r:Ts}(c:jZ W1 [EO DQ k.1,EO DU k.2] a 0=O r):wx C.P kt (Vl k) a=O r:=by unfold wx Vl;simp only[h1,b,pG,c]
def lu_set(h1:DV C.P kt=O J)(d:EE C.P 10000 kt=O W1){h:HL}{id c:Nat}{a:Tj}{ks:List Ku}(q:h[id]?=O (.o (.map a c)))(n:Lp a ks)(k:Ku) :
  Hv C kt U (.bool U) (.map (O id)) (Vl k) U (w_ T h)=O [.bool (decide (k∈ks))]:=by
 unfold Hv;rw[Zm h1 d];simp only[Fv,FG,if_false];have p:KS (w_ T h) id=O (a,c):=by unfold KS;rw[bI q]
 rw[p];simp only;let⟨f,g⟩:=ut k 0 n;by_cases b:k∈ks
 .obtain⟨j,e,i,l,m⟩:=g b;rw[yC h1 d k i];have r:eQ a (0+j)=O (.bool J):=by rw[Hd];unfold eQ;rw[l];simp[m]
  simp only[r,Fj];simp[gM,b]
 .rw[yC h1 d k (f b)];simp[gM,b]
def mu_set(h1:DV C.P kt=O J)(b:EE C.P 10000 kt=O W1){h:HL}{id c n:Nat}{a:Tj}{ks:List Ku}(g:h[id]?=O (.o (.map a c)))(d:Lp a ks){k:Ku}(f:k∉ks) :
  Ic C kt (.map (O id)) (Vl k) (.bool J) (w_ T h) n=O ([.set id (.map (a++[{ key:=Vl k,val:=.bool J,born:=c }]) (c+1))],[]):=by
 unfold Ic;simp only;rw[Zm h1 b];simp only[Fv,FG,if_false];have e:KS (w_ T h) id=O (a,c):=by unfold KS;rw[bI g]
 rw[e];simp only;rw[yC h1 b k ((ut k 0 d).1 f)]
def Lp.push{b:Tj}{ks:List Ku}(d:Lp b ks)(k:Ku)(c:Nat):Lp (b++[{ key:=Vl k,val:=.bool J,born:=c }]) (ks++[k]):=by
 refine⟨by simp[d.1],λe a=>?_⟩;rcases F_.1 a with a|a
 .exact d.2 e a
 simp_all
end
end Sx
namespace Sx
section
variable [El] [E_] {C:p_} {T:Tv}
abbrev K3:=Int×Int×Nat
def Hg(k:K3):Tn:=[EO DQ k.1,EO DQ k.2.1,EO DU (DO k.2.2)]
abbrev kk3:TK:=[.i DQ,.i DQ,.i DU]
def Al(a b:K3):C2 kk3 (Hg a) (Hg b)=O (decide (a=b)):=by
 have e:dc DQ DQ=J:=rfl;have f:dc DU DU=J:=rfl;let⟨g,i,c⟩:=a;let⟨j,k,d⟩:=b;simp only[Hg,C2,e,f,jg,x3];have e3:decide (DO c=DO d)=decide (c=d):=decide_eq_decide.2 ⟨λh=>Ky h,λh=>by rw[h]⟩
 grind
variable {kt:TS} (h1:DV C.P kt=O J) (h2:EE C.P 10000 kt=O kk3)
include h1 h2
omit h1 h2 in
theorem wO{a:List (K3×Nat)}{k:K3}{j:Nat}(h:(a.map (·.1)).idxOf? k=O j):∃n,a[j]?=O (k,n):=by
 let⟨c,b,_⟩:=qcj.1 h
 grind
omit h1 h2 in
theorem pO{h:HL}{id c:Nat}{a:Tj}(b:h[id]?=O (.o (.map a c))):KS (w_ T h) id=O (a,c):=by unfold KS;rw[bI b]
end
section
variable [El] [E_] {T:Tv}
end
end Sx
namespace Sx
section
variable [El] [E_] {C:p_} {Sg:Td} {T:Tv}
variable {kt:TS} (h1:DV C.P kt=O J) (h2:EE C.P 10000 kt=O kk3)
include h1 h2
end
end Sx
end Go.Am
namespace Go.Am
open Sx Go.Proofs
def iV{g:TT}{sg:Ko}{cap:Tn}{ls d:TG}{H H':Tu}{args:Tn}(i:aD cc ac g ls H d H')(j:ac g=O sg)(xs:List S0)(h1:cJ xs sg.ps=J)(f:cT xs=ls)(h:ao xs=args++cap) :
  yb cc (.func (.func g) ⟨[]⟩ ⟨cap⟩) args sg.rs H d H':=by
 let⟨k,m,n,a,b,e,c⟩:=i;rw[j]at a;cases a;let⟨l,_⟩:=db b.1 h1 (b.2.1.trans f.symm);rw[l,h]at c;exact⟨n,e,.inl ⟨g,⟨[]⟩,⟨cap⟩,rfl,by simpa using c⟩⟩
abbrev lM(b:Nat):FO:=EQ (O ⟨b,0,Q⟩)
def bp{h:HL}{b e:Nat}{cs:Tn}(a:h[b]?=O (.o (.cells cs e J))):I7 h (lM b) cs:=⟨b,0,cs,e,J,rfl,a,Sx.A2 rfl⟩
def az(b:Nat):aH (lM b)=J:=by simp[aH,q8,aW,bG,bu,aR,aL]
def cY{h:HL}{p:TV}{cs:Tn}{K:Tf}{n:Nat}(c:I7 h p cs)(b:W cs=n)(a:K cs):P1.oo (.lg cc n p) h (@j_ _ ⟨K⟩):=cI (c.lg b) a
def tb{h:HL}{p:TV}{cs ds:Tn}{K:Tf}{o n:Nat}(f:I7 h p cs)(e:o+n<=W cs)(c:ds=(cs.drop o).take n)(d:K ds) :
  P1.km (Fq o p) (@j_ _ ⟨λy=>P1.qa y (@j_ _ ⟨P1.oo (.lg cc n y) h (@j_ _ ⟨K⟩)⟩)⟩):=by
 subst c;let⟨q,b,a⟩:=f.fd o n e;refine af b (ab a.g_ (cI (a.lg ?_) d))
 grind
def bA{h:HL}{b e:Nat}{cs ds:Tn}{K:Tf}{o n:Nat}(a:h[b]?=O (.o (.cells cs e J)))(f:o+n<=W cs)(c:ds=(cs.drop o).take n)(d:K ds) :
  P1.km (EZ (lM b)) (@j_ _ ⟨λx=>P1.qa x (@j_ _ ⟨P1.km (Fq o x) (@j_ _ ⟨λy=>P1.qa y (@j_ _ ⟨P1.oo (.lg cc n y) h (@j_ _ ⟨K⟩)⟩)⟩)⟩)⟩):=
 af (x:=lM b) rfl (ab (az b) (tb (bp a) f c d))
def gz{h:HL}{b e:Nat}{cs new:Tn}{K:Tb}{o:Nat}(c:h[b]?=O (.o (.cells cs e J)))(f:o+W new<=W cs)(d:K [] (h.set b (.o (EJ (cs.take o++new++cs.drop (o+W new)) e J)))) :
  P1.km (EZ (lM b)) (@j_ _ ⟨λx=>P1.qa x (@j_ _ ⟨P1.km (Fq o x) (@j_ _ ⟨λy=>P1.qa y (@j_ _ ⟨P1.heap (.st y new) h (@j_ _ ⟨K⟩)⟩)⟩)⟩)⟩):=by
 refine af (x:=lM b) rfl (ab (az b) (af (x:=EQ (O ⟨b,0+o,Q⟩)) rfl (ab (by simp[aH,q8,aW,bG,bu,aR,aL]) ?_)));have a:(Hp.st (EQ (O ⟨b,0+o,Q⟩)) new).run (w_ aa h) (W h)=O ([.set b (EJ (cs.take o++new++cs.drop (o+W new)) e J)],[]):=by
  show NC (EQ (O ⟨b,0+o,Q⟩)) new (w_ aa h) (W h)=_;unfold NC;simp only;rw[bI c];simp only;unfold v_
  simp_all
 exact bK a d
def oZ{h:HL}{b e:Nat}{vs new:Tn}{K:Tb}(c:h[b]?=O (.o (.cells vs e J)))(f:W new=W vs)(d:K [] (h.set b (.o (.cells new e J)))):P1.heap (.st (lM b) new) h (@j_ _ ⟨K⟩):=by
 have a:(Hp.st (lM b) new).run (w_ aa h) (W h)=O ([.set b (.cells new e J)],[]):=by
  show NC (lM b) new (w_ aa h) (W h)=_;unfold NC;simp only;rw[bI c];simp only;unfold v_
  simp_all
 exact bK a d
def di{b:Te}{m:(TG->HL->Prop)->Prop}(P:Te)(h1:∀l h,P l h->b l h)(a:∀j:TG->HL->Prop,(∀l h,P l h->j l h)->m j):P1.join (@j_ _ ⟨b⟩) (@j_ _ ⟨m⟩):=a _ h1
def Nk{a b:Int}{K:Tp}(h:∀t,t=decide (a=b)->K t):P1.cmp .eql a b (@j_ _ ⟨K⟩):=by
 show K (a==b)
 grind
def mJ{h:HL}{a b:HO}:(h++[a]).set (W h) b=h++[b]:=d_
def aG{h:HL}{a:HO}:(h++[a])[W h]?=O a:=d_
def dI{h:HL}{a:HO}{i:Nat}{o:HO}(b:h[i]?=O o):(h++[a])[i]?=O o:=xk.get ⟨_,rfl⟩ b
def cV{h:HL}{a:HO}{i j:Nat}{o:HO}(c:h[i]?=O o)(b:j≠i):(h.set j a)[i]?=O o:=by simp_all
def ew{h:HL}{a b:HO}{i:Nat}(c:h[i]?=O a):(h.set i b)[i]?=O b:=Kw (ah c)
def Sx.q_.blkLt{j7:Type}{h:HL}{v:TV}{e:Nat}{enc:j7->Tn}{l:List j7}(c:q_ h v e enc l){i:Nat}(a:i_ v=O i):i<W h:=by
 obtain⟨_,_,⟨rfl,_⟩|⟨id,d,g,j,f,rfl,b,_⟩⟩:=c
 .cases a
 .cases a;exact ah b
def gu(a:K3):W (Hg a)=3:=rfl
def i'{j7:Type}(n0:Nat)(h:HL)(v:FO)(e:Nat)(enc:j7->Tn)(l:List j7):Prop:=
 (v=DW Q 0 0/\l=[])∨∃id cx,v=DW (O ⟨id,0,le e⟩) (W l) cx/\n0<=id/\h[id]?=O (.o (EJ (l.flatMap enc) e J))/\(cx=0∨cx=W l+1)
section
variable {j7:Type} {n0 e:Nat} {enc:j7->Tn} {l:List j7} {h:HL} {v:FO}
def i'.nil(n0:Nat)(h:HL)(e:Nat)(enc:j7->Tn):i' n0 h (DW Q 0 0) e enc []:=.inl ⟨rfl,rfl⟩
def i'.ls(b:∀a,W (enc a)=e)(g:i' n0 h v e enc l):q_ h v e enc l:=by
 have c:=aT (e:=e) (enc:=enc) (l:=l) λa _=>b a;rcases g with⟨rfl,rfl⟩|⟨id,d,rfl,_,f,_⟩
 .exact q_.nil h e enc
 .exact⟨λa _=>b a,c,.inr ⟨id,0,d,_,J,rfl,f,Sx.A2 c⟩⟩
def i'.ke{h':HL}(i:i' n0 h v e enc l)(g:∀(j:Nat) o,h[j]?=O o->i_ v=O j->h'[j]?=O o):i' n0 h' v e enc l:=by
 rcases i with b|⟨id,a,rfl,c,d,f⟩
 .exact .inl b
 .exact .inr ⟨id,a,rfl,c,g _ _ d rfl,f⟩
def i'.Hu(a:i' n0 h v e enc l)(G:HL):i' n0 (h++G) v e enc l:=a.ke λ_ _ h _=>xk.get ⟨_,rfl⟩ h
def i'.i_(b:i' n0 h v e enc l){j:Nat}(a:i_ v=O j):n0<=j/\j<W h:=by
 rcases b with⟨rfl,_⟩|⟨id,c,rfl,d,f,_⟩
 .cases a
 .cases a
  grind
def i'.g_(b:∀a,W (enc a)=e)(c:i' n0 h v e enc l):aH v=J:=(c.ls b).g_
def i'.ap{bytes k:Nat}{x:TV}{new:List j7}{K:Tb}(p:∀a,W (enc a)=e)(G:i' n0 h v e enc l)(q:n0<=W h)(w:Xm cc e (w_ aa h) x=O (new.flatMap enc,k))(z:k=W new)(I:aY (W l+k) bytes=J)
  (r:∀v' h',i' n0 h' v' e enc (l++new)->aH v'=J->(∀(j:Nat) o,h[j]?=O o->Sx.i_ v≠O j->h'[j]?=O o)->W h<=W h'->(Sx.i_ v'=Sx.i_ v∨∃j,Sx.i_ v'=O j/\h.length<=j)->K [v'] h') :
  P1.heap (.ap cc e bytes v x) h (@j_ _ ⟨K⟩):=by
 subst z;have u:W (l++new)=W l+W new:=IL;have D:l.flatMap enc++new.flatMap enc=(l++new).flatMap enc:=d_;have s:∀i n c,aH (DW (O ⟨i,0,le e⟩) n c)=J:=λi n c=>by simp[aH,q8,aW,bG,bu,aR,aL,le]
 rcases G with⟨rfl,rfl⟩|⟨id,H,rfl,A,m,B⟩
 .by_cases g:W new=0
  .have d:new=[]:=VM.1 g;subst d;have b:(Hp.ap cc e bytes (DW Q 0 0) x).run (w_ aa h) (W h)=O ([],[DW Q 0 0]):=by show Gx cc e bytes (DW Q 0 0) x (w_ aa h) (W h)=_;unfold Gx;rw[w];rfl
   exact bK b (r _ _ (.inl ⟨rfl,rfl⟩) rfl (λj o f _=>f) (B7 _) (.inl rfl))
  .have b:(Hp.ap cc e bytes (DW Q 0 0) x).run (w_ aa h) (W h)=O ([.push (EJ (new.flatMap enc) e J)],[DW (O ⟨W h,0,le e⟩) (W new) 0]):=by
    show Gx cc e bytes (DW Q 0 0) x (w_ aa h) (W h)=_;unfold Gx
    simp_all
   refine bK b (r _ _ (.inr ⟨W h,0,d_,q,by simp[bJ,Er.onH],.inl rfl⟩) (s _ _ _) (λj o f _=>xk.get ⟨_,rfl⟩ f) (by simp[bJ,Er.onH]) (.inr ⟨W h,rfl,B7 _⟩))
 .have t:cut (l.flatMap enc) 0 (W l*e)=O (l.flatMap enc):=Sx.A2 (aT λa _=>p a);have F:=ah m;rcases B with rfl|rfl
  .by_cases g:W new=0
   .have d:new=[]:=VM.1 g;subst d;have b:(Hp.ap cc e bytes (DW (O ⟨id,0,le e⟩) (W l) 0) x).run (w_ aa h) (W h)=O ([],[DW (O ⟨id,0,le e⟩) (W l) 0]):=by
     show Gx cc e bytes (DW (O ⟨id,0,le e⟩) (W l) 0) x (w_ aa h) (W h)=_;unfold Gx;rw[w];simp only[ne_eq,not_true_eq_false,if_false];rw[bI m]
     simp_all
    exact bK b (r _ _ (.inr ⟨id,0,d_,A,by simpa[bJ]using m,.inl rfl⟩) (s _ _ _) (λj o f _=>f) (B7 _) (.inl rfl))
   .have b:(Hp.ap cc e bytes (DW (O ⟨id,0,le e⟩) (W l) 0) x).run (w_ aa h) (W h)=O ([.set id .dead,.push (EJ ((l++new).flatMap enc) e J)],[DW (O ⟨W h,0,le e⟩) (W l+W new) 0]):=by
     show Gx cc e bytes (DW (O ⟨id,0,le e⟩) (W l) 0) x (w_ aa h) (W h)=_;unfold Gx;rw[w];simp only[ne_eq,not_true_eq_false,if_false];rw[bI m]
     simp_all
    have y:bJ h [.set id .dead,.push (EJ ((l++new).flatMap enc) e J)]=h.set id (.o .dead)++[.o (EJ ((l++new).flatMap enc) e J)]:=rfl;apply bK b;rw[y];refine r _ _ (.inr ⟨W h,0,by rw[u],q,?_,.inl rfl⟩) (s _ _ _) (λj o f C=>?_) d_ (.inr ⟨W h,rfl,B7 _⟩)
    .simp_all
    .exact dI (cV f λe=>C (by subst e;rfl))
  .by_cases g:W l+W new<=W l
   .have d:new=[]:=VM.1 a_;subst d;have b:(Hp.ap cc e bytes (DW (O ⟨id,0,le e⟩) (W l) (W l+1)) x).run (w_ aa h) (W h)=O ([.set id (EJ (l.flatMap enc) e J)],[DW (O ⟨id,0,le e⟩) (W l) (W l+1)]):=by show Gx cc e bytes (DW (O ⟨id,0,le e⟩) (W l) (W l+1)) x (w_ aa h) (W h)=_;unfold Gx;rw[w];simp only[ne_eq,not_true_eq_false,if_false];rw[bI m];simp only[ne_eq,not_true_eq_false,if_false];rw[t];simp only[qdG,qdh,B7,if_true];unfold v_;have E:=aT (e:=e) (enc:=enc) (l:=l) λa _=>p a;simp[E]
    have y:bJ h [.set id (EJ (l.flatMap enc) e J)]=h:=gi m;apply bK b;rw[y];exact r _ _ (.inr ⟨id,W l+1,d_,A,by simpa using m,.inr d_⟩) (s _ _ _) (λj o f _=>f) (B7 _) (.inl rfl)
   .have b:(Hp.ap cc e bytes (DW (O ⟨id,0,le e⟩) (W l) (W l+1)) x).run (w_ aa h) (W h)=O ([.push (EJ ((l++new).flatMap enc) e J)],[DW (O ⟨W h,0,le e⟩) (W l+W new) 0]):=by
     show Gx cc e bytes (DW (O ⟨id,0,le e⟩) (W l) (W l+1)) x (w_ aa h) (W h)=_;unfold Gx;rw[w];simp only[ne_eq,not_true_eq_false,if_false];rw[bI m]
     simp_all
    refine bK b (r _ _ (.inr ⟨W h,0,by rw[u],q,by simp[bJ,Er.onH],.inl rfl⟩) (s _ _ _) (λj o f _=>xk.get ⟨_,rfl⟩ f) (by simp[bJ,Er.onH]) (.inr ⟨W h,rfl,B7 _⟩))
def i'.KG{bytes m:Nat}{a:j7}{new:Tn}{g:Ts}{K:Tb}(b:∀a,W (enc a)=e)(y:i' n0 h v e enc l)(x:n0<=W h)(w:m=W h)(c:new=enc a)(f:g=O (e+10))(z:aY (W l+1) bytes=J)
  (u:∀v' h',i' n0 h' v' e enc (l++[a])->aH v'=J->(∀(j:Nat) o,h[j]?=O o->Sx.i_ v≠O j->h'[j]?=O o)->W h<=W h'->(Sx.i_ v'=Sx.i_ v∨∃j,Sx.i_ v'=O j/\h.length<=j)->K [v'] h') :
  P1.heap (.ap cc e bytes v (DW (O ⟨m,0,g⟩) 1 2)) (h++[.o (.cells new e J)]) (@j_ _ ⟨K⟩):=by
 subst w c f;have d:i' n0 (h++[HO.o (EJ (enc a) e J)]) v e enc l:=y.Hu _;refine d.ap (new:=[a]) (k:=1) b z_ ?_ rfl z λv' h' i n p q B=>u v' h' i n (λj o t s=>p j o (dI t) s) (by simp at q;omega) ?_
 .have A:Ip (h++[HO.o (EJ (enc a) e J)]) (DW (O ⟨W h,0,le e⟩) 1 2) e 1 (enc a):=⟨by rw[b,u4],.inr ⟨W h,0,2,enc a,J,rfl,aG,Sx.A2 (by rw[b,u4])⟩⟩;have r:Xm cc e (w_ aa (h++[HO.o (EJ (enc a) e J)])) (DW (O ⟨W h,0,le e⟩) 1 2)=O ([a].flatMap enc,1):=by rw[oO A];simp
  exact r
 grind
end
def slS_ut{e id n cx o k:Nat}{x:Int}(a:x=DO k)(b:k<=n):GV e (DW (O ⟨id,o,le e⟩) n cx) Q (O x) Q=O (DW (O ⟨id,o,le e⟩) k cx):=by subst a;unfold GV;simp only;rw[ts d_,rv (by simp[bW];omega)];simp[eW,bM]
def slS_fr{e id n cx o k:Nat}{x:Int}(a:x=DO k)(b:k<=n):GV e (DW (O ⟨id,o,le e⟩) n cx) (O x) Q Q=O (DW (O ⟨id,o+k*e,le e⟩) (n-k) (cx-k)):=by subst a;unfold GV;simp only;rw[ts d_,rv (by simp[bW];omega)];simp[eW,bM]
section
variable {j7:Type} {e:Nat} {enc:j7->Tn} {l:List j7} {h:HL} {v:FO}
def sD(b:∀a∈l,W (enc a)=e){k:Nat}(d:k<=W l):(l.flatMap enc).take (k*e)=(l.take k).flatMap enc/\(l.flatMap enc).drop (k*e)=(l.drop k).flatMap enc:=by
 have f:l.flatMap enc=(l.take k).flatMap enc++(l.drop k).flatMap enc:=by rw[←nC,Xi]
 have g:W ((l.take k).flatMap enc)=k*e:=by rw[aT (e:=e) λa c=>b a (Xj c),qb6,Xk d]
 simp_all
def P9(s:q_ h v e enc l){k:Nat}(c:k<=W l):∃x,GV e v Q (O (DO k)) Q=O x/\q_ h x e enc (l.take k)/\i_ x=i_ v:=by
 obtain⟨b,q,⟨rfl,m⟩|⟨id,g,j,t,i,rfl,n,o⟩⟩:=s
 .have r:=VM.1 m;subst r;simp at c;subst c;exact⟨DW Q 0 0,rfl,q_.nil h e enc,rfl⟩
 .refine⟨_,slS_ut rfl c,⟨λa d=>b a (Xj d),aT λa d=>b a (Xj d),.inr ⟨id,g,j,t,i,k_,n,?_⟩⟩,rfl⟩;have f:0+k*e<=W l*e:=by rw[Hd];exact p9 e c
  have p:=mX o f;rw[qb6,Xk c,←(sD b c).1];simpa using p
def P7(s:q_ h v e enc l){k:Nat}(c:k<=W l):∃x,GV e v (O (DO k)) Q Q=O x/\q_ h x e enc (l.drop k)/\i_ x=i_ v:=by
 obtain⟨b,f,⟨rfl,n⟩|⟨id,i,m,t,j,rfl,o,p⟩⟩:=s
 .have r:=VM.1 n;subst r;simp at c;subst c;exact⟨DW Q 0 0,rfl,q_.nil h e enc,rfl⟩
 .refine⟨_,slS_fr rfl c,⟨λa d=>b a (qbN d),aT λa d=>b a (qbN d),.inr ⟨id,i+k*e,m-k,t,j,by rw[qc0],o,?_⟩⟩,rfl⟩;have g:k*e+(W l-k)*e<=W l*e:=by rw[←Nq,Nat.add_sub_cancel' c];omega
  have q:=mX p g;rw[qc0,q,←(sD b c).2]
  congr 1
  apply K5;rw[qc0,f,Nat.sub_mul];omega
def i'.XH{n0 bytes:Nat}{x:TV}{new:List j7}{K:Tb}(b:∀a,W (enc a)=e)(f:i' n0 h v e enc l)(c:n0<=W h)(i:q_ h x e enc new)(k:(W l+W new)*bytes<=140737488355328)(g:W l+W new<=140737488355328)
  (d:∀v' h',i' n0 h' v' e enc (l++new)->aH v'=J->(∀(j:Nat) o,h[j]?=O o->Sx.i_ v≠O j->h'[j]?=O o)->W h<=W h'->(Sx.i_ v'=Sx.i_ v∨∃j,Sx.i_ v'=O j/\h.length<=j)->K [v'] h') :
  P1.heap (.ap cc e bytes v x) h (@j_ _ ⟨K⟩):=
 f.ap b c (oO i.2) rfl (by unfold aY;simp_all) d
def i'.emp{n0 m:Nat}(a:h[m]?=O (.o (EJ [] e J)))(b:n0<=m):i' (j7:=j7) n0 h (DW (O ⟨m,0,le e⟩) 0 1) e enc []:=.inr ⟨m,1,rfl,b,a,.inr rfl⟩
end
def df{u v:TV}{k:Nat}{l:List (FO×Nat×FO)}(h:Eo (E' u) (D9 k v)=J)(a:Fh l=O ()):Fh ((u,(k,v))::l)=O ():=by
 show(match Eo (E' u) (D9 k v)with
  |J=>Fh l
  |U=>Q)=_
 rw[h];exact a
def pz{a:TC}:Eo a []=J:=by
 induction a with
 |nil=>rfl
 |cons x a b=>
  show(match KV x []with
   |true=>U
   |false=>Eo a [])=J
  exact b
def yp{a b:Nat}(h:a≠b):Eo [a] [b]=J:=by
 have:KV a [b]=U:=by
  unfold KV;have:Nat.beq a b=U:=by
   cases c:Nat.beq a b with
   |true=>simp_all
   |false=>rfl
  rw[this];rfl
 unfold Eo;rw[this];rfl
def qw{a b:Option Addr}{n c f d:Nat}(h:∀i,i_ (.slice a n c)=O i->i_ (.slice b f d)≠O i):Eo (E' (.slice a n c)) (D9 0 (.slice b f d))=J:=by
 show Eo (E' (.slice a n c)) (E' (.slice b f d))=J;rcases a with _|a
 .rfl
 rcases b with _|b
 .exact pz
 have g:a.block≠b.block:=λe=>h a.block rfl (by rw[e];rfl);have k:∀(a:Addr) n c,E' (DW (O a) n c)=[]∨E' (DW (O a) n c)=[a.block]:=λa n c=>by
  unfold E'
  grind
 rcases k a n c with e|e<;>rcases k b f d with j|j<;>rw[e,j]
 .rfl
 .rfl
 .exact pz
 .exact yp g
def kJ{j7:Type}{h:HL}{v:TV}{e:Nat}{enc:j7->Tn}{l:List j7}(b:q_ h v e enc l):∃a n c,v = .slice a n c:=by
 obtain⟨_,_,⟨rfl,_⟩|⟨id,d,g,i,f,rfl,_⟩⟩:=b
 .simp_all
 simp_all
def wj{u v:TV}(e:∃a n c,u = .slice a n c)(f:∃a n c,v = .slice a n c)(h:∀i,i_ u=O i->i_ v≠O i):Eo (E' u) (D9 0 v)=J:=by obtain⟨a,n,c,rfl⟩:=e;obtain⟨b,m,d,rfl⟩:=f;exact qw h
def Yw{u v:TV}(e:∃a n c,v = .slice a n c):Eo (E' u) (D9 1 v)=J:=by obtain⟨b,m,d,rfl⟩:=e;exact pz
def fj:Fh []=O ():=rfl
def Bw{a b c d:Int}{K:Tp}(h1:a=c/\b=d->K J)(f:¬(a=c/\b=d)->K U):P1.eqs [(.i a,.i c),(.i b,.i d)] (@j_ _ ⟨K⟩):=by
 by_cases h:a=c/\b=d
 .obtain⟨rfl,rfl⟩:=h;show K (cz _);have e:cz [(Lf.i a,Lf.i a),(Lf.i b,Lf.i b)]=J:=by simp[cz,iP]
  simp_all
 .rw[IG h];exact f h
def zk{a b:Int}{K:Tp}(h1:a<b->K J)(c:b<=a->K U):P1.cmp .lss a b (@j_ _ ⟨K⟩):=by
 rcases Int.lt_or_le a b with h|h
 .rw[r_ h];exact h1 h
 .rw[s_ h];exact c h
def RM{j7:Type}{e cx len:Nat}{enc:j7->Tn}(b:∀a,W (enc a)=e){h:HL}{id:Nat}{l:List j7}{i o:Nat}{a a':j7}{n:Int}{new:Tn}{K:Tb}(p:h[id]?=O (.o (EJ (l.flatMap enc) e J)))(t:n=DO i)(k:l[i]?=O a)(c:W l=len)(A:o+W new<=e)
  (f:enc a'=(enc a).take o++new++(enc a).drop (o+W new)) (r:K [] (sd h id e enc (l.set i a'))) :
  P1.km (D8 e (DW (O ⟨id,0,le e⟩) len cx) n) (@j_ _ ⟨λx=>P1.km (Fq o x) (@j_ _ ⟨λy=>P1.qa y (@j_ _ ⟨P1.heap (.st y new) h (@j_ _ ⟨K⟩)⟩)⟩)⟩):=by
 subst t c;have d:=ah k;have u:D8 e (DW (O ⟨id,0,le e⟩) (W l) cx) (DO i)=O (EQ (O ⟨id,i*e,Q⟩)):=by
  rw[sI];have q:0<=DO i/\DO i<(W l:Int):=⟨IK i,k_⟩;simp only[rv q];have:¬(le e=O 1):=by simp[le]
  simp_all
 apply af u;apply af (x:=EQ (O ⟨id,i*e+o,Q⟩)) rfl;apply ab (by simp[aH,q8,aW,bG,bu,aR,aL]);have z:=aT (e:=e) (enc:=enc) (l:=l) λa _=>b a;have s:i*e+e<=W l*e:=by
  have:=p9 e (show i+1<=W l by omega)
  grind
 have j:=io b (l:=l) (i:=i) a d;rw[gi k]at j;have m:=io b (l:=l) (i:=i) a' d;have hA:W ((l.flatMap enc).take (i*e))=i*e:=jw;have w:=b a;have v:(l.flatMap enc).take (i*e+o)++new++(l.flatMap enc).drop (i*e+o+W new)=(l.set i a').flatMap enc:=by
  rw[←m,f];have B:(l.flatMap enc).take (i*e+o)=(l.flatMap enc).take (i*e)++(enc a).take o:=by
   conv=>lhs;rw[←j,Gu]
   rw[qdy,K5 a_,hA,show i*e+o-i*e=o by omega,qdy,show o-W (enc a)=0 by omega,qdm,Kv]
  have C:(l.flatMap enc).drop (i*e+o+W new)=(enc a).drop (o+W new)++(l.flatMap enc).drop (i*e+e):=by
   conv=>lhs;rw[←j,Gu]
   rw[qcX,u1 a_,E7,hA,show i*e+o+W new-i*e=o+W new by omega,qcX,show o+W new-W (enc a)=0 by omega,an]
  simp_all
 have g:(Hp.st (EQ (O ⟨id,i*e+o,Q⟩)) new).run (w_ aa h) (W h)=O ([.set id (EJ ((l.set i a').flatMap enc) e J)],[]):=by
  show NC (EQ (O ⟨id,i*e+o,Q⟩)) new (w_ aa h) (W h)=_;unfold NC;simp only;rw[bI p];simp only;unfold v_
  grind
 exact bK g r
def ZL{j7 j:Type}{e e':Nat}{enc:j7->Tn}{a:j->Tn}{l:List j7}{l':List j}{h:HL}{v v':TV}(o:q_ h v e enc l)(d:q_ h v' e' a l')(n:e≠e'){b:Nat}(g:i_ v=O b):i_ v'≠O b:=by
 intro c;obtain⟨_,_,⟨rfl,_⟩|⟨id,p,t,y,q,rfl,x,_⟩⟩:=o
 .cases g
 obtain⟨_,_,⟨rfl,_⟩|⟨f,i,k,s,r,rfl,m,_⟩⟩:=d
 .cases c
 have u:id=b:=by simpa[i_]using g
 have w:f=b:=by simpa[i_]using c
 simp_all
def Dx{j7:Type}{e:Nat}{enc:j7->Tn}(b:∀a,W (enc a)=e){h:HL}{id cx n i o k:Nat}{R:List j7}{a:j7}(q:h[id]?=O (.o (EJ (R.flatMap enc) e J)))(g:R[i]?=O a)(t:n=W R)(v:o+k<=e) :
  D8 e (DW (O ⟨id,0,le e⟩) n cx) (DO i)=O (EQ (O ⟨id,0+i*e,Q⟩))/\Fq o (EQ (O ⟨id,0+i*e,Q⟩))=O (EQ (O ⟨id,0+i*e+o,Q⟩))/\I7 h (EQ (O ⟨id,0+i*e+o,Q⟩)) (((enc a).drop o).take k):=by
 subst t;have s:=ah g;have m:D8 e (DW (O ⟨id,0,le e⟩) (W R) cx) (DO i)=O (EQ (O ⟨id,0+i*e,Q⟩)):=by
  rw[sI];have r:0<=DO i/\DO i<(W R:Int):=⟨IK i,k_⟩;simp only[rv r];have:¬(le e=O 1):=by simp[le]
  simp_all
 have d:q_ h (DW (O ⟨id,0,le e⟩) (W R) cx) e enc R:=by have j:=aT (e:=e) (enc:=enc) (l:=R) λa _=>b a;exact⟨λa _=>b a,j,.inr ⟨id,0,cx,_,J,rfl,q,Sx.A2 j⟩⟩
 let⟨p,c,f⟩:=d.at g;rw[m]at c;cases c;let⟨w,x,y⟩:=f.fd o k (by rw[b];omega);have u:Fq o (EQ (O ⟨id,0+i*e,Q⟩))=O (EQ (O ⟨id,0+i*e+o,Q⟩)):=rfl
 simp_all
def xH(b o:Nat):aH (EQ (O ⟨b,o,Q⟩))=J:=by simp[aH,q8,aW,bG,bu,aR,aL]
def bV{v:TV}{b o:Nat}(f:∃a n c,v = .slice a n c)(h:∀i,i_ v=O i->i≠b):Eo (E' v) (D9 0 (EQ (O ⟨b,o,Q⟩)))=J:=by
 obtain⟨x,n,c,rfl⟩:=f;rcases x with _|x
 .rfl
 have d:x.block≠b:=h x.block rfl;have e:D9 0 (EQ (O ⟨b,o,Q⟩))=[b]:=rfl;rw[e];have g:E' (DW (O x) n c)=[]∨E' (DW (O x) n c)=[x.block]:=by
  unfold E'
  grind
 rcases g with e|e<;>rw[e]
 .rfl
 .exact yp d
def qxn:=And.intro @DI (And.intro (@bx _ _ cc ac aa) (And.intro (@a8 _ _ cc ac aa) (And.intro (@b2 _ _ cc ac aa) (And.intro (@hm _ _ cc ac aa) (And.intro (@a9 _ _ cc ac aa) (And.intro (@b3 _ _ cc ac aa) (And.intro (@bb _ _ cc ac aa) (And.intro (@hy _ _ cc ac aa) (And.intro (@b4 _ _ cc ac aa) (And.intro (@L6 _ _ cc ac aa) (And.intro (@L5 _ _ cc ac aa) (And.intro (@b1 _ _ cc ac aa) (And.intro (@bm _ _ cc ac aa) (And.intro (@Rw _ _ cc ac aa) (And.intro (@Rv _ _ cc ac aa) (@p_it))))))))))))))))
def Nl{h1 h':HL}(b:∀(j:Nat) o,h1[j]?=O o->h'[j]?=O o):xk h1 h':=by
 have a:W h1<=W h':=by
  rcases I3 (W h') (W h1) with h|h
  .obtain⟨o,c⟩:=ak h
   grind
  .exact h
 refine⟨h'.drop (W h1),?_⟩;have:h'.take (W h1)=h1:=by
  refine Kj λi=>?_
  grind
 conv=>lhs;rw[←Xi (W h1) h',this]
def bR{h1 h h':HL}(c:xk h1 h)(b:∀(j:Nat) o,j<W h1->h[j]?=O o->h'[j]?=O o):xk h1 h':=Nl λj o a=>b j o (ah a) (c.get a)
def DT:=And.intro qxn (And.intro qxc qxa)
end Go.Am
namespace Go.Am
namespace Sx
section
variable [El] [E_] {C:p_} {Sg:Td} {T:Tv}
variable {m8:Type} [DecidableEq m8] (kc:m8->Tn) {kk:TK} (hd:∀a b,C2 kk (kc a) (kc b)=O (decide (a=b)))
include hd
theorem LF(k:m8):∀ {a:Tj} {ks:List m8} (i:Nat),a.map (·.key)=ks.map (λk=>EU ⟨kc k⟩)->jZ kk (kc k) a i=O ((ks.idxOf? k).map (i + ·))
 | [],[],i,_=>rfl
 | [],_::_,i,h=>by simp at h
 |_::_,[],i,h=>by simp at h
 |e::a,q::ks,i,h=>by
  simp only[Fx,Li]at h;have d:=LF k (i+1) h.2;have c:jZ kk (kc k) (e::a) i=if k=q then O (O i)else jZ kk (kc k) a (i+1):=by
   simp only[jZ,h.1]
   grind
  rw[c,List.idxOf?_cons];by_cases b:k=q
  .subst b;simp
  .rw[ts b,d,ts jw,Option.map_map]
   congr 2
   grind
variable {kt:TS} (h1:DV C.P kt=O J) (h2:EE C.P 10000 kt=O kk) (h3:∀a,∃r,fU kk (kc a) (kc a)=O r)
include h1 h2 h3
omit hd in
theorem PT(k:m8):LP C.P kt (EU ⟨kc k⟩)=J:=by let⟨r,a⟩:=h3 k;unfold LP;simp only[h1,h2,a]
omit h3 hd in
theorem AA(k:m8){a:Tj}{r:Ts}(b:jZ kk (kc k) a 0=O r):wx C.P kt (EU ⟨kc k⟩) a=O r:=by unfold wx;simp only[h1,h2,pG,b]
end
end Sx
end Go.Am
end

/-
  PART 7 OF THE PROOF (no conditions).
-/
import Derived.Test.YtiimabnndpeioaaGreatDoorSK6
import Derived.Shelf.SlSortCmp.WholeK
import Derived.Shelf.Sort.Plain
set_option linter.unusedSectionVars false
set_option linter.unusedSimpArgs false
set_option linter.unusedVariables false
set_option linter.constructorNameAsVariable false
set_option linter.defProp false
noncomputable section
set_option maxRecDepth 100000
set_option maxHeartbeats 16000000
namespace Go.Am
open Sx Go.Proofs
def fdS(l:Ln)(s:Bool)(g:Mv)(c:Cl):Mv:=if di l (al g c)=s then af g (ofM l)else g
def fdS_lt{l:Ln}{s:Bool}{g:Mv}{c:Cl}(hg:g.1<8):(fdS l s g c).1<8:=by
 unfold fdS;split
 ·exact fE
 ·exact hg
def side_ln{c:Cl}{e:Nat}(a:c.2.2<4)(d:e<3):di (lnC3 c e) c≠di (lnC3 c e) (nbC c e):=by
 obtain⟨x,y,q⟩:=c;simp only at a;have b:e=0∨e=1∨e=2:=by omega
 rcases quad a with rfl|rfl|rfl|rfl<;>rcases b with rfl|rfl|rfl
 all_goals
  intro h;simp[di,nbC,lnC3]at h
  try omega
def ln_kind{c:Cl}{e:Nat}(a:c.2.2<4)(d:e<3):1<=(lnC3 c e).1/\(lnC3 c e).1<=4:=by
 obtain⟨x,y,q⟩:=c;simp only at a;have b:e=0∨e=1∨e=2:=by omega
 rcases quad a with rfl|rfl|rfl|rfl<;>rcases b with rfl|rfl|rfl<;>simp[lnC3]
def inv_id2{m:Mv}(h:m.1<8):af (invM m) m=idM:=by
 obtain⟨t,x,y⟩:=m;have h:t<8:=h;unfold af invM idM;rcases t8 h with rfl|rfl|rfl|rfl|rfl|rfl|rfl|rfl<;>simp[mulT,mA,mB,mC,mD,invT]<;>omega
def yZ{a b:Mv}{c:Cl}(d:a.1<8)(e:b.1<8)(f:c.2.2<4):al (af a b) c=al b (al a c):=by
 obtain⟨s,h,i⟩:=a;obtain⟨t,j,g⟩:=b;obtain⟨x,y,q⟩:=c;simp only at d e f;rcases t8 d with rfl|rfl|rfl|rfl|rfl|rfl|rfl|rfl<;>rcases t8 e with rfl|rfl|rfl|rfl|rfl|rfl|rfl|rfl
 all_goals rcases quad f with rfl|rfl|rfl|rfl
 all_goals simp[al,qT,mA,mB,mC,mD,af,mulT]
 all_goals first|done|omega|(constructor<;>omega)
def fdG(w:Nat)(l:Ln)(s:Bool)(G:TC)(r:Mv)(c:Nat):Mv:=af (fdS l s (af (G c) r) (clN w c)) (invM (fdS l s (af (G 0) r) (clN w 0)))
def fdG_then{w:Nat}{l:Ln}{s:Bool}{G:TC}{r:Mv}(c:Nat):af (fdG w l s G r c) (fdS l s (af (G 0) r) (clN w 0))=fdS l s (af (G c) r) (clN w c):=by
 have a:∀c,(fdS l s (af (G c) r) (clN w c)).1<8:=λc=>fdS_lt fE;have b:(invM (fdS l s (af (G 0) r) (clN w 0))).1<8:=by
  have:=a 0;generalize fdS l s (af (G 0) r) (clN w 0)=m at *;unfold invM;simp only;rcases t8 this with h|h|h|h|h|h|h|h<;>rw[h]<;>simp[invT]
 unfold fdG;rw[cQ (a c) b (a 0),inv_id2 (a 0),nj (a c)]
def fold_cons{w v:Nat}(P:Sh w v){l l':Ty}{G:TC}(hG:mo w v l G)(S:∀c,c<4*w*v->(G c).1<8){r:Mv}(hr:r.1<8){ln:Ln}(K:1<=ln.1/\ln.1<=4){s:Bool}
  (I:∀u e n,u<4*w*v->e<3->nbr w v u e=some n->u<n->(isCr l' u e=true↔(isCr l u e=true∨(isCr l u e=false/\lnC3 (al (af (G u) r) (clN w u)) (eT (af (G u) r).1 e)=ln)))) :
  mo w v l' (fdG w ln s G r)/\fdG w ln s G r 0=idM:=by
 have Q:∀c,(fdS ln s (af (G c) r) (clN w c)).1<8:=λc=>fdS_lt fE;refine⟨λc e n F i Y=>?_,inv_id (Q 0)⟩;obtain⟨C,N,J,z,ap⟩:=eC P F i Y;have x:(clN w c).2.2<4:=(dc P F).2.2.2.2;have an:(clN w n).2.2<4:=(dc P C).2.2.2.2;have L:∀g,acM w l g c n e=if isCr l (min c n) e=true then af (ofM (lnC3 (clN w c) e)) g else g:=λg=>by
  unfold acM;rcases qc7 c n with h|h
  ·rw[qa4 h]
  ·rw[qcd h,←J]
 have B:∀g,acM w l' g c n e=if isCr l' (min c n) e=true then af (ofM (lnC3 (clN w c) e)) g else g:=λg=>by
  unfold acM;rcases qc7 c n with h|h
  ·rw[qa4 h]
  ·rw[qcd h,←J]
 have k:=hG c e n F i Y;rw[L]at k;rw[B];generalize O:ofM (lnC3 (clN w c) e)=M at *;have j:M.1<8:=by rw[←O];exact uz _
 have T:af M M=idM:=by rw[←O];exact ofM_twice _
 have ad:(ofM ln).1<8:=uz _;have R:=S c F;have d:(af (G c) r).1<8:=fE;have hi:(invM (fdS ln s (af (G 0) r) (clN w 0))).1<8:=by
  have:=Q 0;generalize fdS ln s (af (G 0) r) (clN w 0)=m at *;unfold invM;simp only;rcases t8 this with h|h|h|h|h|h|h|h<;>rw[h]<;>simp[invT]
 have o:isCr l' (min c n) e=true↔(isCr l (min c n) e=true∨(isCr l (min c n) e=false/\lnC3 (al (af (G (min c n)) r) (clN w (min c n))) (eT (af (G (min c n)) r).1 e)=ln)):=by
  rcases qaP c n with h|h
  ·rw[qa4 (by omega)];exact I c e n F i Y h
  ·rw[qcd h];exact I n e c C i N (by omega)
 have y:∀X:Mv,X.1<8->(fdS ln s (af (G n) r) (clN w n)=af M (fdS ln s (af (G c) r) (clN w c)))->fdG w ln s G r n=af M (fdG w ln s G r c):=λ_ _ h=>by
  unfold fdG;rw[h,cQ j (Q c) hi]
 by_cases q:isCr l (min c n) e=true
 ·rw[qd0 (o.2 (.inl q))];rw[qd0 q]at k;refine y M j ?_;have hp:af (G n) r=af M (af (G c) r):=by rw[k,cQ j R hr]
  have V:al (af (G n) r) (clN w n)=al (af (G c) r) (clN w c):=by
   rw[hp,z,←O];exact ot d x i
  unfold fdS;rw[V];split
  ·rw[hp,cQ j d ad]
  ·exact hp
 ·rw[qd1 q]at k;have H:isCr l (min c n) e=false:=qcE.2 q;have W:G (min c n)=G c:=by
   rcases qc7 c n with h|h
   ·rw[qa4 h]
   ·rw[qcd h,k]
  have E:lnC3 (al (af (G (min c n)) r) (clN w (min c n))) (eT (af (G (min c n)) r).1 e)=lnC3 (al (af (G c) r) (clN w c)) (eT (af (G c) r).1 e):=by
   rw[W];rcases qc7 c n with h|h
   ·rw[qa4 h]
   ·rw[qcd h];have ag:=vZ (ln_kind (c:=al (af (G c) r) (clN w n)) jb (pJ (t:=(af (G c) r).1) i)) (c:=al (af (G c) r) (clN w c)) jb (pJ (t:=(af (G c) r).1) i) ?_
    ·exact ag
    ·have hb:clN w c=nbC (clN w n) e:=(eC P C i N).2.2.2.1;have h1:=side_ln (c:=al (af (G c) r) (clN w n)) (e:=eT (af (G c) r).1 e) jb (pJ i);rw[←iw d x i,←z];rw[←iw d an i,←hb]at h1;exact qbR h1
  rw[E]at o;by_cases f:lnC3 (al (af (G c) r) (clN w c)) (eT (af (G c) r).1 e)=ln
  ·rw[qd0 (o.2 (.inr ⟨H,f⟩))];refine y M j ?_;have p:=side_ln (c:=al (af (G c) r) (clN w c)) (e:=eT (af (G c) r).1 e) jb (pJ i);rw[f,←iw d x i]at p;have D:=part_fold d K x i p;rw[O]at D;rw[←z]at p;unfold fdS;rw[k];generalize di ln (al (af (G c) r) (clN w c))=a at *;generalize di ln (al (af (G c) r) (clN w n))=b at *;have A:af M (af M (af (G c) r))=af (G c) r:=by rw[←cQ j j d,T,jS d]
   by_cases U:a=s
   ·rw[qd0 U,qd1 (λh=>p (U.trans h.symm)),D,A]
   ·rw[qd1 U,qd0 (by cases a<;>cases b<;>cases s<;>simp_all),D]
  ·have Z:¬isCr l' (min c n) e=true:=λh=>by
    rcases o.1 h with h|h
    ·exact q h
    ·exact f h.2
   rw[qd1 Z];have p:di ln (al (af (G c) r) (clN w c))=di ln (al (af (G c) r) (clN w n)):=by
    by_cases h:di ln (al (af (G c) r) (clN w c))=di ln (al (af (G c) r) (clN w n))
    ·exact h
    ·rw[z,iw d x i]at h;exact absurd (vZ K jb (pJ i) h).symm f
   unfold fdG
   congr 1
   unfold fdS;rw[k,p]
def ofnn(n:Nat):(0:Int)<=Int.ofNat n:=qaG n
def ofn_lt{a b:Nat}(h:a<b):Int.ofNat a<Int.ofNat b:=qcl.2 h
def eqsC{a b:Cl}{K:Tm}:P1.eqs [(.i a.1,.i b.1),(.i a.2.1,.i b.2.1),(.i (Int.ofNat a.2.2),.i (Int.ofNat b.2.2))] (@hid _ ⟨K⟩)=K (decide (a=b)):=by
 show K (cw _)=_;have e:cw [(.i a.1,.i b.1),(.i a.2.1,.i b.2.1),(.i (Int.ofNat a.2.2),.i (Int.ofNat b.2.2))]=decide (a=b):=by
  rw[qbH];simp[cw,gG,qds];intro _ _;omega
 rw[e]
def move_idC{c:Cl}(a:c.2.2<4):al idM c=c:=by
 obtain⟨x,y,q⟩:=c;simp only at a;rcases quad a with rfl|rfl|rfl|rfl<;>simp[al,idM,mA,mB,mC,mD,qT]
def zd{c:Cl}{e:Nat}(a:c.2.2<4)(d:e<3):(nbC c e).2.2<4/\c.1 - 1<=(nbC c e).1/\(nbC c e).1<=c.1+1/\c.2.1 - 1<=(nbC c e).2.1/\(nbC c e).2.1<=c.2.1+1:=by
 obtain⟨x,y,q⟩:=c;simp only at a;have b:e=0∨e=1∨e=2:=by omega
 rcases quad a with rfl|rfl|rfl|rfl<;>rcases b with rfl|rfl|rfl<;>simp[nbC]<;>omega
def dst(w c:Nat):Nat:=3*(c / 4%w+c / 4 / w)+[0,1,2,1].getD (c%4) 0 - (if c%4=3/\c / 4 / w=0/\c / 4%w≠0 then 2 else 0)
def tabD(w v c:Nat):Bool:=Nat.ble (dst w c) 14&&(Nat.beq c 0||(List.range 3).any λe=>match nbr w v c e with
 |some n=>Nat.beq (dst w n+1) (dst w c)
 |none=>false)
def allD:∀w v:Nat,1<=w->w<=3->1<=v->v<=3->((List.range (4*w*v)).all λc=>tabD w v c)=true:=by
 have a:((List.range 3).all λw=>(List.range 3).all λv=>(List.range (4*(w+1)*(v+1))).all λc=>tabD (w+1) (v+1) c)=true:=by decide +kernel
 intro w v e f g h;have d:=qac.1 a (w - 1) (qae.2 (by omega));have b:=qac.1 d (v - 1) (qae.2 (by omega));rw[show w - 1+1=w by omega,show v - 1+1=v by omega]at b;exact b
def vN(d:Int)(a b:Cl):Prop:=a.1 - d<=b.1/\b.1<=a.1+d/\a.2.1 - d<=b.2.1/\b.2.1<=a.2.1+d
def img_nb{w v:Nat}(q:Sh w v){l:Ty}{G:TC}(o:ConsO w v l G){r:Mv}(y:r.1<8){c e n:Nat}(k:c<4*w*v)(i:e<3)(p:nbr w v c e=some n) :
  vN 1 (al (af (G c) r) (clN w c)) (al (af (G n) r) (clN w n)):=by
 obtain⟨t,u,m,d,x⟩:=eC q k i p;have j:(clN w c).2.2<4:=(dc q k).2.2.2.2;have b:(af (G c) r).1<8:=fE;have a:=o.g c e n k i p;unfold acM at a;by_cases f:isCr l (min c n) e=true
 ·rw[qd0 f]at a;have s:lnC3 (clN w (min c n)) e=lnC3 (clN w c) e:=by
   rcases qc7 c n with h|h
   ·rw[qa4 h]
   ·rw[qcd h,←m]
  rw[s]at a;have:al (af (G n) r) (clN w n)=al (af (G c) r) (clN w c):=by
   rw[a,d,cQ (uz _) (o.ok c k).1 y];exact ot b j i
  rw[this];unfold vN;omega
 ·rw[qd1 f]at a;rw[a,d,iw b j i];have:=zd (c:=al (af (G c) r) (clN w c)) (e:=eT (af (G c) r).1 e) jb (pJ i);unfold vN;omega
def img_near{w v:Nat}(b:S3 w v){l:Ty}{G:TC}(q:ConsO w v l G){r:Mv}(s:r.1<8):∀(d c:Nat),c<4*w*v->dst w c=d->vN (Int.ofNat d) (al (af (G 0) r) (clN w 0)) (al (af (G c) r) (clN w c)):=by
 have m:=b.sh;intro d
 induction d using Nat.strongRecOn with
 |_ d t=>
  intro c k z;have i:=qac.1 (allD w v b.1 b.2.1 b.2.2.1 b.2.2.2) c (qae.2 k);unfold tabD at i;rw[qaa,qaS]at i;rcases i.2 with o|p
  ·obtain rfl:=qad o;unfold vN;have:(0:Int)<=Int.ofNat d:=qaG d;omega
  ·obtain⟨e,g,a⟩:=qci.1 p;have g:=qae.1 g;cases j:nbr w v c e with
   |none=>rw[j]at a;cases a
   |some n=>
    rw[j]at a;have a:=qad a;obtain⟨f,h,_⟩:=eC m k g j;have u:=t (dst w n) (by omega) n f rfl;have x:=img_nb m q s f g h;have y:Int.ofNat d=Int.ofNat (dst w n)+1:=by
     show(d:Int)=(dst w n:Int)+1;omega
    unfold vN at *;omega
def rS{w v:Nat}(a:S3 w v){l:Ty}{G:TC}(e:ConsO w v l G){r:Mv}{k:Int}(b:okM k r){c:Nat}(f:c<4*w*v) :
  -(k+15)<=(al (af (G c) r) (clN w c)).1/\(al (af (G c) r) (clN w c)).1<=k+15/\-(k+15)<=(al (af (G c) r) (clN w c)).2.1/\(al (af (G c) r) (clN w c)).2.1<=k+15:=by
 have d:=qac.1 (allD w v a.1 a.2.1 a.2.2.1 a.2.2.2) c (qae.2 f);unfold tabD at d;rw[qaa]at d;have j:=qc6 d.1;have g:=img_near a e b.1 _ c f rfl;have i:-(k+1)<=(al (af (G 0) r) (clN w 0)).1/\(al (af (G 0) r) (clN w 0)).1<=k/\-(k+1)<=(al (af (G 0) r) (clN w 0)).2.1/\(al (af (G 0) r) (clN w 0)).2.1<=k:=by
  rw[e.z,jS b.1,show clN w 0=(0,0,0)by simp[clN]];obtain⟨t,x,y⟩:=r;unfold okM at b;simp only at b;simp only[al,Int.mul_zero,Int.zero_add]
  repeat' split
  all_goals omega
 have h:Int.ofNat (dst w c)<=14:=by show(dst w c:Int)<=14;omega
 unfold vN at g;omega
def ln_bound{c:Cl}{e:Nat}{n:Int}(a:c.2.2<4)(f:e<3)(d:-n<=c.1/\c.1<=n/\-n<=c.2.1/\c.2.1<=n):okM (2*n+2) (ofM (lnC3 c e))/\-(2*n+2)<=(lnC3 c e).2/\(lnC3 c e).2<=2*n+2:=by
 obtain⟨x,y,q⟩:=c;simp only at a d;have b:e=0∨e=1∨e=2:=by omega
 rcases quad a with rfl|rfl|rfl|rfl<;>rcases b with rfl|rfl|rfl
 all_goals
  simp[lnC3,ofM,okM];omega
def r_apE{α:Type}{e kb:Nat}{enc:α->Tk}{h:HL}{x:Value}{new:List α}{m:Nat}{K:Ta}(hg:h[m]?=some (.o (.cells [] e true)))(i:LsH h x e enc new)(j:0<new.length)(f:new.length*kb<=140737488355328)(c:new.length<=140737488355328)
  (g:K [.slice (some ⟨h.length,0,tag e⟩) new.length 0] (h++[.o (.cells (new.flatMap enc) e true)])) :
  P1.heap (.ap cc e kb (.slice (some ⟨m,0,tag e⟩) 0 1) x) h (@hid _ ⟨K⟩):=by
 have d:bh (0+new.length) kb=true:=by
  rw[qaR];unfold bh;rw[qal c,qal f];rfl
 have a:cut ([]:Tk) 0 (0*e)=some []:=Sx.cut_all (by simp);have b:apG cc e kb (.slice (some ⟨m,0,tag e⟩) 0 1) x (getH aa h) h.length=some ([.push (.cells ([]++new.flatMap enc) e true)],[.slice (some ⟨h.length,0,tag e⟩) (0+new.length) 0]):=by
  unfold apG;rw[qL i.2];simp only[ne_eq,not_true_eq_false,if_false];rw[bN hg];simp only[ne_eq,not_true_eq_false,if_false];rw[a];simp only;rw[qd1 (by omega),qd0 d]
 refine cj (show(Hp.ap cc e kb (.slice (some ⟨m,0,tag e⟩) 0 1) x).run _ _=_ from b) ?_;rw[qaR];exact g
def gtS(a b:Cl):Bool:=decide (b.2.1<a.2.1∨(a.2.1=b.2.1/\(b.1<a.1∨(a.1=b.1/\b.2.2<a.2.2))))
def after28_c{a b:Cl}:Cc 98 (cll a++cll b) [.i (if gtS a b then 1 else 0)]:=by
 obtain⟨x,y,q⟩:=a;obtain⟨d,e,c⟩:=b;refine q98 rfl ?_;unfold f98;simp only[qxh];simp only[cll,qag,qaf];refine p_x ?_;have m:(Int.ofNat c<Int.ofNat q)↔c<q:=qcl;by_cases k:e<y
 ·rw[p_gtr_t k];refine p_x ?_;rw[show gtS (x,y,q) (d,e,c)=true from qdZ (.inl k)];rfl
 rw[p_gtr_f (by omega)];refine p_x ?_;by_cases f:y=e
 case neg=>
  rw[p_eql_f f];refine p_x ?_;rw[show gtS (x,y,q) (d,e,c)=false from qdY (by simp only;omega)];rfl
 rw[p_eql_t f];refine p_x ?_;by_cases l:d<x
 ·rw[p_gtr_t l];refine p_x ?_;rw[show gtS (x,y,q) (d,e,c)=true from qdZ (.inr ⟨f,.inl l⟩)];rfl
 rw[p_gtr_f (by omega)];refine p_x ?_;by_cases g:x=d
 case neg=>
  rw[p_eql_f g];refine p_x ?_;rw[show gtS (x,y,q) (d,e,c)=false from qdY (by simp only;omega)];rfl
 rw[p_eql_t g];refine p_x ?_;by_cases j:c<q
 ·rw[p_gtr_t (m.2 j)];refine p_x ?_;rw[show gtS (x,y,q) (d,e,c)=true from qdZ (.inr ⟨f,.inr ⟨g,j⟩⟩)];rfl
 ·rw[p_gtr_f (by have:=λh=>j (m.1 h);omega)];refine p_x ?_;rw[show gtS (x,y,q) (d,e,c)=false from qdY (by simp only;omega)];rfl
def SorS(l:List Stk):Prop:=l.Pairwise λa b=>gtS a.1 b.1=false
def yO{a b:Cl}:gtS a b=false↔¬(b.2.1<a.2.1∨(a.2.1=b.2.1/\(b.1<a.1∨(a.1=b.1/\b.2.2<a.2.2)))):=by
 unfold gtS;rw[decide_eq_false_iff_not]
def yP{a b:Cl}:gtS a b=true↔(b.2.1<a.2.1∨(a.2.1=b.2.1/\(b.1<a.1∨(a.1=b.1/\b.2.2<a.2.2)))):=by
 unfold gtS;rw[qdX]
def sorS_ins{A B:List Stk}{x:Stk}(h:SorS (A++B))(h1:∀a∈A,gtS a.1 x.1=false)(e:∀b∈B,gtS b.1 x.1=true):SorS (A++x :: B):=by
 unfold SorS at *;rw[qcf]at h ⊢;refine⟨h.1,qbb.2 ⟨λb c=>?_,h.2.1⟩,λa d b c=>?_⟩
 ·have:=yP.1 (e b c);exact yO.2 (by omega)
 ·rcases qax.1 c with rfl|c
  ·exact h1 a d
  ·exact h.2.2 a d b c
def sorted_c{H:HL}{x:Value}{l:List Stk}(hx:LsH H x 4 enc4 l)(h0:0<l.length)(hn:l.length<=1000)(N:∀s∈l,az s.2=true) :
  ∃l' h' z,aB cc ab 59 [.v x] (absH aa H) [.v z] (absH aa h')/\Pre H h'/\LsH h' z 4 enc4 l'/\l'.Perm l/\SorS l':=by
 have ad:=x59 (ls:=[.v x]) (K:=λrs h'=>∃z l',rs=[.v z]/\Pre H h'/\LsH h' z 4 enc4 l'/\l'.Perm l/\SorS l') (H:=H) (glsV hx.good gls0) (by
  unfold f59;simp only[qxh];refine p_x ?_;refine r_apE (e:=4) ao (hx.pre ⟨_,rfl⟩) h0 (by omega) (by omega) ?_;have u:Pre H (H++[HO.o (.cells [] 4 true)]):=⟨_,rfl⟩;generalize H++[HO.o (.cells [] 4 true)]=H1 at *;refine p_x ?_;have hid:(H1++[HO.o (.cells (l.flatMap enc4) 4 true)])[H1.length]?=some (HO.o (.cells (l.flatMap enc4) 4 true)):=ao;have P:Pre H (H1++[HO.o (.cells (l.flatMap enc4) 4 true)]):=u.app _;have O:H.length<=H1.length:=u.len;generalize H1++[HO.o (.cells (l.flatMap enc4) 4 true)]=H2 at *;generalize H1.length=id at *;have q:=aw hid;have G:∀L:List Stk,L.length=l.length->LsH (putE H2 id 4 enc4 L) (.slice (some ⟨id,0,tag 4⟩) l.length 0) 4 enc4 L:=λL h=>bT mO (bF q) h.symm;have u:putE H2 id 4 enc4 l=H2:=bD hid;refine ac (bT (cx:=0) mO hid rfl).good ?_;refine p_y ?_;refine aS (σ:=List Stk) (max 1 l.length) (λj _=>[.i (Int.ofNat j)]) (λ_ L=>putE H2 id 4 enc4 L) (λj L=>L.Perm l/\1<=j/\SorS (L.take j)) (j0:=1) (s0:=l) rfl u.symm (by omega) ⟨qca _,qaj _,?_⟩ ?_
  ·cases l with
   |nil=>exact .nil
   |cons a l=>exact qbb.2 ⟨λ_ h=>(by cases h),.nil⟩
  intro i L hi ⟨f,hi1,d⟩ self hself;have w:L.length=l.length:=f.length_eq;refine p_x ?_;refine br (G L w) ?_;rw[w];by_cases Y:i<l.length
  case neg=>
   rw[aC (by omega)];refine p_x ?_;rw[qaH (by omega)]at d;exact⟨_,L,rfl,gm P O,G L w,f,d⟩
  rw[aD Y];refine p_x ?_;obtain⟨x0,F⟩:=aH (l:=L) (i:=i) (by omega);have g:L=L.take i++x0 :: []++L.drop (i+1):=by
   conv=>lhs;rw[←qbv i L]
   rw[qbf (by omega)];have:L[i]'(by omega)=x0:=by rw[qap (by omega)]at F;exact qat F
   rw[this];simp
  refine eP (m:=i) (λm ls h=>∃(A:List Stk) (x:Stk) (B R:List Stk),ls=[.i (Int.ofNat A.length)]/\m=A.length/\h=putE H2 id 4 enc4 (A++x :: B++R)/\(A++x :: B++R).Perm l/\SorS (A++B)/\(∀b∈B,gtS b.1 x.1=true)/\A.length+B.length=i)
   ⟨L.take i,x0,[],L.drop (i+1),by rw[qaL,qa4 (by omega)],by rw[qaL,qa4 (by omega)],by rw[←g],by rw[←g];exact f,by simpa using d,λb M=>(by cases M),by rw[qaL,qa4 (by omega)];rfl⟩ ?_
  clear g F d f w;rintro m ls h ⟨A,x,B,R,rfl,rfl,rfl,f,d,hB,T⟩ I n;refine hidL ?_;refine p_x ?_;have w:(A++x :: B++R).length=l.length:=f.length_eq;have p:(∀a∈A,gtS a.1 x.1=false)->self [.i (Int.ofNat i+1)] (putE H2 id 4 enc4 (A++x :: B++R)):=λh=>hself _ (by omega) ⟨f,by omega,by
   rw[qcz (by simp;omega),qaH (by simp;omega)];exact sorS_ins d h hB⟩
  rcases List.eq_nil_or_concat A with rfl|⟨c,y,rfl⟩
  ·rw[p_gtr_f (show Int.ofNat ([]:List Stk).length<=0 from qbZ _)];refine p_x ?_;rw[aL (by omega)];exact p λa C=>(by cases C)
  rw[List.concat_eq_append]at *;have hk:(c++[y]).length=c.length+1:=by simp
  rw[hk]at T n ⊢;have D:gtS y.1 x.1=false->∀a∈c++[y],gtS a.1 x.1=false:=by
   intro h a C;rcases qaz.1 C with C|C
   ·have h1:gtS a.1 y.1=false:=by
     unfold SorS at d;rw[qai,qcf]at d;exact d.2.2 a C y (by simp)
    have h1:=yO.1 h1;have h:=yO.1 h;exact yO.2 (by omega)
   ·rw[qaq.1 C];exact h
  have S:(c++[y]++x :: B++R)[c.length]?=some y:=by simp
  have Q:(c++[y]++x :: B++R)[c.length+1]?=some x:=by
   rw[qai,qaw (by simp)];simp
  have t:=G _ w;have hg:=bF (l:=c++[y]++x :: B++R) (e:=4) (enc:=enc4) q;have W:az y.2=true:=N y (f.mem_iff.1 (qab S));have V:az x.2=true:=N x (f.mem_iff.1 (qab Q));have k:c.length+1<=4294967296:=by omega
  rw[p_gtr_t (show(0:Int)<Int.ofNat (c.length+1)by show(0:Int)<((c.length+1:Nat):Int);omega)];refine p_x ?_;rw[ja (by omega) k];refine p_y ?_;refine bp (cs:=[.int .i64 y.1.1,.int .i64 y.1.2.1,.int .u8 (Int.ofNat y.1.2.2)]) t rfl S rfl (by omega) ?_;refine p_x ?_;refine bp (cs:=[.int .i64 x.1.1,.int .i64 x.1.2.1,.int .u8 (Int.ofNat x.1.2.2)]) t rfl Q rfl (by omega) ?_;refine p_x ?_;have J:=after28_c (a:=y.1) (b:=x.1);simp only[cll,qag,qaf]at J;cases r:gtS y.1 x.1 with
  |false=>
   rw[r]at J;refine ah J ?_;simp(disch:=omega)only[↓qXX,if_false,qar];rw[aL (by omega)];exact p (D r)
  |true=>
   rw[r]at J;refine ah J ?_;simp(disch:=omega)only[↓qXX,if_true];have E:I [.i (Int.ofNat c.length)] (putE H2 id 4 enc4 (c++x :: (y :: B)++R)):=n c.length _ _ (by omega) ⟨c,x,y :: B,R,rfl,rfl,rfl,by
    refine List.Perm.trans ?_ f;simp only[qai,qag,qaf];exact qcm _ (List.Perm.swap _ _ _),by rw[qai]at d;exact d,λb M=>by
    rcases qax.1 M with rfl|M
    ·exact r
    ·exact hB b M,by simp;omega⟩
   have Z:((c++[y]++x :: B++R).set c.length x).set (c.length+1) y=c++x :: (y :: B)++R:=by
    simp only[qai,qag,qaf];rw[qbJ _ _ (qaj _),qbJ _ _ (by omega),qb6,show c.length+1 - c.length=1 by omega];rfl
   have X:((c++[y]++x :: B++R).set c.length x).length=l.length:=by rw[qay,w]
   have ag:=aw Q;have U:(putE (putE H2 id 4 enc4 (c++[y]++x :: B++R)) id 4 enc4 ((c++[y]++x :: B++R).set c.length x))[id]?=some (.o (.cells (((c++[y]++x :: B++R).set c.length x).flatMap enc4) 4 true)):=by
    rw[ej];exact bF q
   rw[ja (by omega) k];refine p_y ?_;refine aQ t rfl Q ?_;rw[show enc4 x=[.int .i64 x.1.1,.int .i64 x.1.2.1,.int .u8 (Int.ofNat x.1.2.2),x.2]from rfl];refine p_x ?_;refine ac V ?_;refine p_y ?_;rw[ja (by omega) k];refine p_y ?_;refine aQ t rfl S ?_;rw[show enc4 y=[.int .i64 y.1.1,.int .i64 y.1.2.1,.int .u8 (Int.ofNat y.1.2.2),y.2]from rfl];refine p_x ?_;refine ac W ?_;refine p_y ?_;refine cW (enc:=enc4) (i:=c.length) (a:=x) mO hg rfl (by omega) w rfl ?_;refine p_y ?_;refine cW (enc:=enc4) (i:=c.length+1) (a:=y) mO U rfl (by omega) X rfl ?_;rw[ej,ej,Z];refine p_y ?_;rw[ja (by omega) k];rw[qcS];exact E)
 obtain⟨rs,h',h2,z,l',rfl,h3,h4,h5,h6⟩:=ad;exact⟨l',h',z,h2,h3,h4,h5,h6⟩
abbrev Stc:=Cl×List Nat
def syS(l:Ln)(s:Bool)(L:List Stc):List Stc:=L.filter λx=>!decide (di l x.1=s)
def awS(l:Ln)(s:Bool)(L:List Stc):List Stc:=(L.filter λx=>decide (di l x.1=s)).map λx=>(al (ofM l) x.1,x.2.reverse)
def mrg(o:Bool):List Stc->Stc->List Stc
 | [],a=>[a]
 |x :: S,a=>if x.1=a.1 then(x.1,if o then x.2++a.2 else a.2++x.2) :: S else x :: mrg o S a
def mrg_hit{o:Bool}{a:Stc}:∀ {S:List Stc} {k:Nat} {x:Stc},S[k]?=some x->x.1=a.1->(∀j,j<k->∀t,S[j]?=some t->t.1≠a.1)->mrg o S a=S.set k (x.1,if o then x.2++a.2 else a.2++x.2)
 | [],k,x,h,_,_=>by simp at h
 |y :: S,0,x,h,h1,_=>by
  simp at h;subst h;simp[mrg,h1]
 |y :: S,k+1,x,h,h1,b=>by
  have c:=b 0 (by omega) y rfl;simp only[mrg,qd1 c,qcB];rw[mrg_hit (by simpa using h) h1 λj e t d=>b (j+1) (by omega) t (by simpa using d)]
def xt{o:Bool}{a:Stc}:∀ {S:List Stc},(∀(j:Nat) t,S[j]?=some t->t.1≠a.1)->mrg o S a=S++[a]
 | [],_=>rfl
 |y :: S,h=>by
  have b:=h 0 y rfl;simp only[mrg,qd1 b,qag];rw[xt λj t c=>h (j+1) t (by simpa using c)]
def xr{o:Bool}{a:Stc}:∀ {S:List Stc},(mrg o S a).map Prod.fst=if a.1∈S.map Prod.fst then S.map Prod.fst else S.map Prod.fst++[a.1]
 | []=>by simp[mrg]
 |y :: S=>by
  unfold mrg;by_cases h:y.1=a.1
  ·rw[qd0 h];simp[h]
  ·rw[qd1 h,qaF,xr];have h':¬a.1=y.1:=λe=>h e.symm;by_cases b:a.1∈S.map Prod.fst
   ·rw[qd0 b,qd0 (by simp only[qaF,qax];exact .inr b)];rfl
   ·rw[qd1 b,qd1 (by simp only[qaF,qax];exact λc=>c.elim h' b)];rfl
def xu{o:Bool}{a:Stc}:∀ {S:List Stc},((mrg o S a).flatMap Prod.snd).Perm (S.flatMap Prod.snd++a.2)
 | []=>by simp[mrg]
 |y :: S=>by
  unfold mrg;by_cases h:y.1=a.1
  ·rw[qd0 h];simp only[qaV];cases o
   ·simp only[qar,if_false];rw[qai,qai];refine(qc5 (l₁:=a.2)).trans ?_;rw[qai]
   ·simp only[if_true];rw[qai,qai];exact qcm _ qc5
  ·rw[qd1 h];simp only[qaV,qai];exact qcm _ xu
def vK{o:Bool}{a x:Stc}:∀ {S:List Stc},x∈mrg o S a->x∈S∨x=a∨∃y∈S,y.1=a.1/\x=(y.1,if o then y.2++a.2 else a.2++y.2)
 | [],h=>by
  simp[mrg]at h;exact .inr (.inl h)
 |y :: S,h=>by
  unfold mrg at h;by_cases h1:y.1=a.1
  ·rw[qd0 h1]at h;rcases qax.1 h with h|h
   ·exact .inr (.inr ⟨y,qaN,h1,h⟩)
   ·exact .inl (qav _ h)
  ·rw[qd1 h1]at h;rcases qax.1 h with h|h
   ·exact .inl (h▸qaN)
   ·rcases vK h with h|h|⟨z,d,b,c⟩
    ·exact .inl (qav _ h)
    ·exact .inr (.inl h)
    ·exact .inr (.inr ⟨z,qav _ d,b,c⟩)
structure StJ(img:Nat->Cl)(X:Tx)(L:List Stc):Prop where
 nd:(L.map Prod.fst).Nodup
 at':∀s∈L,∀c∈s.2,img c=s.1
 ne:∀s∈L,s.2≠[]
 pm:(L.flatMap Prod.snd).Perm X
def StJ.mrg{f:Nat->Cl}{X:Tx}{S:List Stc}(h:StJ f X S){o:Bool}{a:Stc}(h1:∀c∈a.2,f c=a.1)(j:a.2≠[]):StJ f (X++a.2) (mrg o S a):=by
 refine⟨?_,λs d c b=>?_,λs d=>?_,xu.trans (h.pm.append_right _)⟩
 ·rw[xr];by_cases g:a.1∈S.map Prod.fst
  ·rw[qd0 g];exact h.nd
  ·rw[qd1 g];rw[qbV];refine⟨h.nd,by simp,λx k y i e=>?_⟩;rw[qaq]at i;subst i e;exact g k
 ·rcases vK d with d|rfl|⟨y,i,g,rfl⟩
  ·exact h.at' s d c b
  ·exact h1 c b
  ·simp only at b ⊢;have b:c∈y.2∨c∈a.2:=by
    cases o
    ·simp only[qar,if_false]at b;exact(qaz.1 b).symm
    ·simp only[if_true]at b;exact qaz.1 b
   rcases b with b|b
   ·exact h.at' y i c b
   ·rw[g];exact h1 c b
 ·rcases vK d with d|rfl|⟨y,i,g,rfl⟩
  ·exact h.ne s d
  ·exact j
  ·simp only;cases o<;>simp[j]
def StJ.mrgs{d:Nat->Cl}{o:Bool}:∀ {A:List Stc} {X:Tx} {S:List Stc},StJ d X S->(∀a∈A,(∀c∈a.2,d c=a.1)/\a.2≠[])->StJ d (X++A.flatMap Prod.snd) (A.foldl (Go.Am.mrg o) S)
 | [],X,S,h,_=>by simpa using h
 |a :: A,X,S,h,h1=>by
  have e:=h1 a qaN;have:=StJ.mrgs (o:=o) (h.mrg (o:=o) e.1 e.2) λb f=>h1 b (qav _ f);simpa[qai]using this
def vy{L:List Stc}{p:Stc->Bool}:((L.filter λx=>!p x).flatMap Prod.snd++(L.filter p).flatMap Prod.snd).Perm (L.flatMap Prod.snd):=by
 rw[←qbB];refine List.Perm.flatMap_right _ ?_;exact List.perm_append_comm.trans (List.filter_append_perm p L)
def flat_rev{L:List Stc}{f:Cl->Cl}:((L.map λx=>(f x.1,x.2.reverse)).flatMap Prod.snd).Perm (L.flatMap Prod.snd):=by
 induction L with
 |nil=>simp
 |cons a L b=>
  simp only[qaF,qaV];exact(List.reverse_perm _).append b
def fdL'(l:Ln)(s o:Bool)(L:List Stc):List Stc:=(awS l s L).foldl (mrg o) (syS l s L)
def StJ.fold{f d:Nat->Cl}{X:Tx}{L:List Stc}(h:StJ f X L){l:Ln}{s o:Bool}(k:∀c∈X,d c=if di l (f c)=s then al (ofM l) (f c)else f c):StJ d X (fdL' l s o L):=by
 have j:∀x∈L,∀c∈x.2,c∈X:=λx b c e=>h.pm.mem_iff.1 (qa8.2 ⟨x,b,e⟩);have m:StJ d ((syS l s L).flatMap Prod.snd) (syS l s L):=by
  refine⟨h.nd.sublist (List.Sublist.map _ List.filter_sublist),λx b c e=>?_,λx b=>?_,qca _⟩
  ·obtain⟨b,i⟩:=qaM.1 b;rw[k c (j x b c e),h.at' x b c e,qd1 (by simpa using i)]
  ·exact h.ne x (qaM.1 b).1
 have g:=m.mrgs (o:=o) (A:=awS l s L) λa n=>by
  obtain⟨x,b,rfl⟩:=qaA.1 n;obtain⟨b,i⟩:=qaM.1 b;refine⟨λc e=>?_,by simpa using h.ne x b⟩;have e:c∈x.2:=by simpa using e
  rw[k c (j x b c e),h.at' x b c e,qd0 (by simpa using i)]
 refine⟨g.nd,g.at',g.ne,g.pm.trans ?_⟩;refine List.Perm.trans ?_ h.pm;refine List.Perm.trans (qcm _ flat_rev) ?_;exact vy
def StJ.perm{a:Nat->Cl}{X:Tx}{L d:List Stc}(h:StJ a X L)(b:d.Perm L):StJ a X d:=
 ⟨(b.map _).nodup_iff.2 h.nd,λs c=>h.at' s (b.mem_iff.1 c),λs c=>h.ne s (b.mem_iff.1 c),(b.flatMap_right _).trans h.pm⟩
def jC{α β:Type}{f:α->β}{l':List β}{l:List α}(h:l'.Perm (l.map f)):∃m:List α,m.Perm l/\m.map f=l':=by
 generalize c:l.map f=k at h
 induction h generalizing l with
 |nil=>exact⟨[],by rw[qcL.1 c],rfl⟩
 |cons x _ p=>
  obtain⟨a,l,rfl,rfl,g⟩:=qdf.1 c;obtain⟨m,d,e⟩:=p g;exact⟨a :: m,d.cons a,by rw[qaF,e]⟩
 |swap x y _=>
  obtain⟨a,l,rfl,rfl,g⟩:=qdf.1 c;obtain⟨b,l,rfl,rfl,rfl⟩:=qdf.1 g;exact⟨b :: a :: l,List.Perm.swap _ _ _,rfl⟩
 |trans _ _ i j=>
  obtain⟨m,d,e⟩:=j c;obtain⟨q,n,o⟩:=i e;exact⟨q,n.trans d,o⟩
def slS_ut{e id n cx o k:Nat}{x:Int}(a:x=Int.ofNat k)(b:k<=n):slS e (.slice (some ⟨id,o,tag e⟩) n cx) none (some x) none=some (.slice (some ⟨id,o,tag e⟩) k cx):=by
 subst a;unfold slS;simp only;rw[qd1 (by simp),qd0 (by simp[cZ];omega)];simp[fH,bY]
def slS_fr{e id n cx o k:Nat}{x:Int}(a:x=Int.ofNat k)(b:k<=n):slS e (.slice (some ⟨id,o,tag e⟩) n cx) (some x) none none=some (.slice (some ⟨id,o+k*e,tag e⟩) (n - k) (cx - k)):=by
 subst a;unfold slS;simp only;rw[qd1 (by simp),qd0 (by simp[cZ];omega)];simp[fH,bY]
section
variable {α:Type} {e:Nat} {enc:α->Tk} {l:List α} {h:HL} {v:Value}
def qc(b:∀a∈l,(enc a).length=e){k:Nat}(g:k<=l.length):(l.flatMap enc).take (k*e)=(l.take k).flatMap enc/\(l.flatMap enc).drop (k*e)=(l.drop k).flatMap enc:=by
 have c:l.flatMap enc=(l.take k).flatMap enc++(l.drop k).flatMap enc:=by rw[←qbB,qbv]
 have d:((l.take k).flatMap enc).length=k*e:=by rw[aY (e:=e) λa f=>b a (qbm f),qaL,qa4 g]
 constructor
 ·rw[c,←d,List.take_left'];rfl
 ·rw[c,←d,List.drop_left'];rfl
def ls_upto(s:LsH h v e enc l){k:Nat}(c:k<=l.length):∃x,slS e v none (some (Int.ofNat k)) none=some x/\LsH h x e enc (l.take k)/\blk x=blk v:=by
 obtain⟨b,q,⟨rfl,m⟩|⟨id,g,j,t,i,rfl,n,o⟩⟩:=s
 ·have r:=qaY.1 m;subst r;simp at c;subst c;exact⟨.slice none 0 0,rfl,LsH.nil h e enc,rfl⟩
 ·refine⟨_,slS_ut rfl c,⟨λa d=>b a (qbm d),aY λa d=>b a (qbm d),.inr ⟨id,g,j,t,i,by rw[qaL,qa4 c],n,?_⟩⟩,rfl⟩;have f:0+k*e<=l.length*e:=by rw[qaR];exact qbt e c
  have p:=nE o f;rw[qaL,qa4 c,←(qc b c).1];simpa using p
def ls_from(s:LsH h v e enc l){k:Nat}(c:k<=l.length):∃x,slS e v (some (Int.ofNat k)) none none=some x/\LsH h x e enc (l.drop k)/\blk x=blk v:=by
 obtain⟨b,f,⟨rfl,n⟩|⟨id,i,m,t,j,rfl,o,p⟩⟩:=s
 ·have r:=qaY.1 n;subst r;simp at c;subst c;exact⟨.slice none 0 0,rfl,LsH.nil h e enc,rfl⟩
 ·refine⟨_,slS_fr rfl c,⟨λa d=>b a (qbs d),aY λa d=>b a (qbs d),.inr ⟨id,i+k*e,m - k,t,j,by rw[qbQ],o,?_⟩⟩,rfl⟩;have g:k*e+(l.length - k)*e<=l.length*e:=by rw[←qbz,Nat.add_sub_cancel' c];exact qaj _
  have q:=nE p g;rw[qbQ,q,←(qc b c).2]
  congr 1
  refine qaH ?_;rw[qbQ,f,Nat.sub_mul];exact qaj _
def OwnL.apL{n0 bytes:Nat}{x:Value}{new:List α}{K:Ta}(b:∀a,(enc a).length=e)(g:OwnL n0 h v e enc l)(c:n0<=h.length)(k:LsH h x e enc new)(i:(l.length+new.length)*bytes<=140737488355328)(d:l.length+new.length<=140737488355328)
  (f:∀v' h',OwnL n0 h' v' e enc (l++new)->az v'=true->(∀(j:Nat) o,h[j]?=some o->Sx.blk v≠some j->h'[j]?=some o)->h.length<=h'.length->(Sx.blk v'=Sx.blk v∨∃j,Sx.blk v'=some j/\h.length<=j)->K [v'] h') :
  P1.heap (.ap cc e bytes v x) h (@hid _ ⟨K⟩):=
 g.ap b c (qL k.2) rfl (by unfold bh;rw[qal d,qal i];rfl) f
def OwnL.emp{n0 m:Nat}(a:h[m]?=some (.o (.cells [] e true)))(b:n0<=m):OwnL (α:=α) n0 h (.slice (some ⟨m,0,tag e⟩) 0 1) e enc []:=.inr ⟨m,1,rfl,b,a,.inr rfl⟩
end
def fq{u v:Value}{k:Nat}{l:List (Value×Nat×Value)}(h:Sx.disjN (Sx.adr u) (Sx.adrK k v)=true)(a:Sx.sepL l=some ()):Sx.sepL ((u,(k,v)) :: l)=some ():=by
 show(match Sx.disjN (Sx.adr u) (Sx.adrK k v)with
  |true=>Sx.sepL l
  |false=>none)=_
 rw[h];exact a
def ru{a:Tx}:Sx.disjN a []=true:=by
 induction a with
 |nil=>rfl
 |cons x a b=>
  show(match Sx.memN x []with
   |true=>false
   |false=>Sx.disjN a [])=true
  exact b
def nI{a b:Nat}(h:a≠b):Sx.disjN [a] [b]=true:=by
 have:Sx.memN a [b]=false:=by
  unfold Sx.memN;have:Nat.beq a b=false:=by
   cases c:Nat.beq a b with
   |true=>exact absurd (qad c) h
   |false=>rfl
  rw[this];rfl
 unfold Sx.disjN;rw[this];rfl
def nJ{a b:Option Addr}{n c f d:Nat}(h:∀i,blk (.slice a n c)=some i->blk (.slice b f d)≠some i):Sx.disjN (Sx.adr (.slice a n c)) (Sx.adrK 0 (.slice b f d))=true:=by
 show Sx.disjN (Sx.adr (.slice a n c)) (Sx.adr (.slice b f d))=true;rcases a with _|a
 ·rfl
 rcases b with _|b
 ·exact ru
 have g:a.block≠b.block:=λe=>h a.block rfl (by rw[e];rfl);have k:∀(a:Addr) n c,Sx.adr (.slice (some a) n c)=[]∨Sx.adr (.slice (some a) n c)=[a.block]:=λa n c=>by
  unfold Sx.adr;simp only;split
  ·exact .inl rfl
  ·exact .inr rfl
 rcases k a n c with e|e<;>rcases k b f d with j|j<;>rw[e,j]
 ·rfl
 ·rfl
 ·exact ru
 ·exact nI g
def ir{α:Type}{h:HL}{v:Value}{e:Nat}{enc:α->Tk}{l:List α}(b:LsH h v e enc l):∃a n c,v = .slice a n c:=by
 obtain⟨_,_,⟨rfl,_⟩|⟨id,d,g,i,f,rfl,_⟩⟩:=b
 ·exact⟨_,_,_,rfl⟩
 ·exact⟨_,_,_,rfl⟩
def lS{u v:Value}(e:∃a n c,u = .slice a n c)(f:∃a n c,v = .slice a n c)(h:∀i,blk u=some i->blk v≠some i):Sx.disjN (Sx.adr u) (Sx.adrK 0 v)=true:=by
 obtain⟨a,n,c,rfl⟩:=e;obtain⟨b,m,d,rfl⟩:=f;exact nJ h
def disj_1{u v:Value}(e:∃a n c,v = .slice a n c):Sx.disjN (Sx.adr u) (Sx.adrK 1 v)=true:=by
 obtain⟨b,m,d,rfl⟩:=e;exact ru
def jE:Sx.sepL []=some ():=rfl
def xH{a b c d:Int}{K:Tm}(h1:a=c/\b=d->K true)(f:¬(a=c/\b=d)->K false):P1.eqs [(.i a,.i c),(.i b,.i d)] (@hid _ ⟨K⟩):=by
 by_cases h:a=c/\b=d
 ·obtain⟨rfl,rfl⟩:=h;show K (cw _);have e:cw [(Lf.i a,Lf.i a),(Lf.i b,Lf.i b)]=true:=by simp[cw,gG]
  rw[e];exact h1 ⟨rfl,rfl⟩
 ·rw[p_eqs2_f h];exact f h
def vW{a b:Int}{K:Tm}(h1:a<b->K true)(c:b<=a->K false):P1.cmp .lss a b (@hid _ ⟨K⟩):=by
 rcases Int.lt_or_le a b with h|h
 ·rw[p_lss_t h];exact h1 h
 ·rw[p_lss_f h];exact c h
def sH{α:Type}{e cx len:Nat}{enc:α->Tk}(b:∀a,(enc a).length=e){h:HL}{id:Nat}{l:List α}{i o:Nat}{a a':α}{n:Int}{new:Tk}{K:Ta}(hg:h[id]?=some (.o (.cells (l.flatMap enc) e true)))(u:n=Int.ofNat i)(m:l[i]?=some a)(c:l.length=len)(B:o+new.length<=e)
  (f:enc a'=(enc a).take o++new++(enc a).drop (o+new.length)) (r:K [] (putE h id e enc (l.set i a'))) :
  P1.opt (idS e (.slice (some ⟨id,0,tag e⟩) len cx) n) (@hid _ ⟨λx=>P1.opt (fdP o x) (@hid _ ⟨λy=>P1.chk y (@hid _ ⟨P1.heap (.st y new) h (@hid _ ⟨K⟩)⟩)⟩)⟩):=by
 subst u c;have d:=aw m;have v:idS e (.slice (some ⟨id,0,tag e⟩) l.length cx) (Int.ofNat i)=some (.pointer (some ⟨id,i*e,none⟩)):=by
  rw[ud];have q:0<=Int.ofNat i/\Int.ofNat i<(l.length:Int):=⟨qaG i,by show(i:Int)<l.length;omega⟩;simp only[qd0 q];have:¬(tag e=some 1):=by simp[tag]
  simp only[qd1 this,qaR];rfl
 refine ae v ?_;refine ae (x:=.pointer (some ⟨id,i*e+o,none⟩)) rfl ?_;refine ac (by simp[az,noLoc,aR,aZ,aT,aI,av]) ?_;have s:=aY (e:=e) (enc:=enc) (l:=l) λa _=>b a;have t:i*e+e<=l.length*e:=by
  have:=qbt e (show i+1<=l.length by omega);rw[qbz,qce]at this;exact this
 have j:=fY b (l:=l) (i:=i) a d;rw[bD m]at j;have p:=fY b (l:=l) (i:=i) a' d;have hA:((l.flatMap enc).take (i*e)).length=i*e:=by rw[qaL];omega
 have A:=b a;have k:(l.flatMap enc).take (i*e+o)++new++(l.flatMap enc).drop (i*e+o+new.length)=(l.set i a').flatMap enc:=by
  rw[←p,f];have w:(l.flatMap enc).take (i*e+o)=(l.flatMap enc).take (i*e)++(enc a).take o:=by
   conv=>lhs;rw[←j,qai]
   rw[qda,qaH (by omega),hA,show i*e+o - i*e=o by omega,qda,show o - (enc a).length=0 by omega,qcJ,qaZ]
  have z:(l.flatMap enc).drop (i*e+o+new.length)=(enc a).drop (o+new.length)++(l.flatMap enc).drop (i*e+e):=by
   conv=>lhs;rw[←j,qai]
   rw[qcy,qbG (by omega),qaf,hA,show i*e+o+new.length - i*e=o+new.length by omega,qcy,show o+new.length - (enc a).length=0 by omega,qbE]
  rw[w,z];simp only[qai]
 have g:(Hp.st (.pointer (some ⟨id,i*e+o,none⟩)) new).run (getH aa h) h.length=some ([.set id (.cells ((l.set i a').flatMap enc) e true)],[]):=by
  show stP (.pointer (some ⟨id,i*e+o,none⟩)) new (getH aa h) h.length=_;unfold stP;simp only;rw[bN hg];simp only;unfold splice;rw[s,qd0 (by omega),k];rfl
 exact cj g r
def ls_ne{α β:Type}{e e':Nat}{enc:α->Tk}{a:β->Tk}{l:List α}{l':List β}{h:HL}{v v':Value}(r:LsH h v e enc l)(g:LsH h v' e' a l')(f:e≠e'){b:Nat}(j:blk v=some b):blk v'≠some b:=by
 intro d;obtain⟨_,_,⟨rfl,_⟩|⟨id,s,x,y,t,rfl,p,_⟩⟩:=r
 ·cases j
 obtain⟨_,_,⟨rfl,_⟩|⟨i,k,m,w,u,rfl,c,_⟩⟩:=g
 ·cases d
 have n:id=b:=by simpa[blk]using j
 have o:i=b:=by simpa[blk]using d
 subst n o;rw[p]at c;have:=qat c;injection this with this
 injection this with _ q
 exact f q
def oI{α:Type}{e:Nat}{enc:α->Tk}(b:∀a,(enc a).length=e){h:HL}{id cx n i o k:Nat}{R:List α}{a:α}(s:h[id]?=some (.o (.cells (R.flatMap enc) e true)))(m:R[i]?=some a)(v:n=R.length)(x:o+k<=e) :
  idS e (.slice (some ⟨id,0,tag e⟩) n cx) (Int.ofNat i)=some (.pointer (some ⟨id,0+i*e,none⟩))/\fdP o (.pointer (some ⟨id,0+i*e,none⟩))=some (.pointer (some ⟨id,0+i*e+o,none⟩))/\Ptr h (.pointer (some ⟨id,0+i*e+o,none⟩)) (((enc a).drop o).take k):=by
 subst v;have u:=aw m;have g:idS e (.slice (some ⟨id,0,tag e⟩) R.length cx) (Int.ofNat i)=some (.pointer (some ⟨id,0+i*e,none⟩)):=by
  rw[ud];have t:0<=Int.ofNat i/\Int.ofNat i<(R.length:Int):=⟨qaG i,by show(i:Int)<R.length;omega⟩;simp only[qd0 t];have:¬(tag e=some 1):=by simp[tag]
  simp only[qd1 this];rfl
 have d:LsH h (.slice (some ⟨id,0,tag e⟩) R.length cx) e enc R:=by
  have q:=aY (e:=e) (enc:=enc) (l:=R) λa _=>b a;exact⟨λa _=>b a,q,.inr ⟨id,0,cx,_,true,rfl,s,Sx.cut_all q⟩⟩
 obtain⟨p,c,f⟩:=d.at m;rw[g]at c;cases c;obtain⟨y,r,w⟩:=f.fd o k (by rw[b];omega);have j:fdP o (.pointer (some ⟨id,0+i*e,none⟩))=some (.pointer (some ⟨id,0+i*e+o,none⟩)):=rfl;rw[j]at r;cases r;exact⟨g,j,w⟩
def bC(b o:Nat):az (.pointer (some ⟨b,o,none⟩))=true:=by simp[az,noLoc,aR,aZ,aT,aI,av]
def jq{v:Value}{b o:Nat}(f:∃a n c,v = .slice a n c)(h:∀i,blk v=some i->i≠b):Sx.disjN (Sx.adr v) (Sx.adrK 0 (.pointer (some ⟨b,o,none⟩)))=true:=by
 obtain⟨x,n,c,rfl⟩:=f;rcases x with _|x
 ·rfl
 have d:x.block≠b:=h x.block rfl;have e:Sx.adrK 0 (.pointer (some ⟨b,o,none⟩))=[b]:=rfl;rw[e];have g:Sx.adr (.slice (some x) n c)=[]∨Sx.adr (.slice (some x) n c)=[x.block]:=by
  unfold Sx.adr;simp only;split
  ·exact .inl rfl
  ·exact .inr rfl
 rcases g with e|e<;>rw[e]
 ·rfl
 ·exact nI d
def qxn:=And.intro @p_hid2 (And.intro (@p_new _ _ cc ab aa) (And.intro (@p_unI _ _ cc ab aa) (And.intro (@p_unB _ _ cc ab aa) (And.intro (@p_unV _ _ cc ab aa) (And.intro (@p_un0 _ _ cc ab aa) (And.intro (@p_ucI _ _ cc ab aa) (And.intro (@p_ucB _ _ cc ab aa) (And.intro (@p_ucV _ _ cc ab aa) (And.intro (@p_uc0 _ _ cc ab aa) (And.intro (@p_cond_t _ _ cc ab aa) (And.intro (@p_cond_f _ _ cc ab aa) (And.intro (@p_opt _ _ cc ab aa) (And.intro (@p_inB _ _ cc ab aa) (And.intro (@p_sel_t _ _ cc ab aa) (And.intro (@p_sel_f _ _ cc ab aa) (@p_it))))))))))))))))
def xV{h1 h':HL}(c:∀(j:Nat) o,h1[j]?=some o->h'[j]?=some o):Pre h1 h':=by
 have d:h1.length<=h'.length:=by
  rcases qaP h'.length h1.length with h|h
  ·obtain⟨o,a⟩:=aH h;have:=aw (c _ o a);omega
  ·exact h
 refine⟨h'.drop h1.length,?_⟩;have:h'.take h1.length=h1:=by
  refine qbi λi=>?_;by_cases b:i<h1.length
  ·rw[qdA b];obtain⟨o,a⟩:=aH b;rw[a,c i o a]
  ·rw[qak (by rw[qaL];omega),qak (by omega)]
 conv=>lhs;rw[←qbv h1.length h',this]
def bH{h1 h h':HL}(c:Pre h1 h)(b:∀(j:Nat) o,j<h1.length->h[j]?=some o->h'[j]?=some o):Pre h1 h':=xV λj o a=>b j o (aw a) (c.get a)
def rz(l:Ln):Tk:=[.int .u8 (Int.ofNat l.1),.int .i64 l.2]
def dg(l:Ln):(rz l).length=2:=rfl
def lines_c{w v:Nat}(h3:S3 w v){l:Ty}{H:HL}{x xs:Value}(hl:LsH H x 3 encC l)(a8:az xs=true)(hv:∀c∈l,VC w v c)(bt:∀c∈l,c.2.2≠0)(hn:l.length<=1000){r:Mv}(hr:okM 10000 r){G:TC}(hG:ConsO w v l G) :
  ∃z h' d,aB cc ab 21 ([.i (.ofNat w),.i (.ofNat v),.v x]++mvl r++[.v xs]) (absH aa H) [.v z] (absH aa h')/\Pre H h'/\LsH h' z 2 rz d/\d.length<=1000/\∀y∈d,∃p∈pasL w v l G r (4*w*v),p.2.2=y:=by
 have hs:=h3.sh;obtain⟨b1,b2,b3,b4⟩:=h3.n;have hN:=sh_N hs;obtain⟨z,h1,c1,bP,ca,hZ⟩:=xN h3 hl a8 hv bt hn hr hG;have b5:=ko (w:=w) (v:=v) (l:=l) (G:=G) (r:=r) (n:=4*w*v);have bU:=x21 (ls:=[.i (.ofNat w),.i (.ofNat v),.v x,.i (Int.ofNat r.1),.i r.2.1,.i r.2.2,.v xs]) (K:=λrs h'=>∃z d,rs=[.v z]/\Pre H h'/\LsH h' z 2 rz d/\d.length<=1000/\∀y∈d,∃p∈pasL w v l G r (4*w*v),p.2.2=y) (H:=H) (glsI (glsI (glsV hl.good (glsI (glsI (glsI (glsV a8 gls0))))))) (by
  unfold f21;simp only[qxh];refine p_x ?_;simp only[mvl,qag,qaf]at c1;refine ai c1 ?_;refine p_x ?_;generalize b0:pasL w v l G r (4*w*v)=P at *;refine aS (σ:=HL×Value) P.length (λj s=>[.v s.2,.i (Int.ofNat j)]) (λ_ s=>s.1) (λj s=>Pre h1 s.1/\∃d:List Ln,OwnL h1.length s.1 s.2 2 rz d/\d.length<=j/\∀y∈d,∃p∈P,p.2.2=y) (j0:=0) (s0:=(h1,.slice none 0 0)) rfl rfl (qaC _) ⟨.refl _,[],.nil _ _ _ _,qaj _,λy hy=>by cases hy⟩ ?_;rintro j ⟨h,o⟩ D ⟨A,d,hO,b9,Y⟩ bn V;simp only at A hO ⊢;refine p_x ?_;refine br (hZ.pre A) ?_;by_cases X:j<P.length
  case neg=>
   rw[aC (by omega)];refine p_x ?_;exact⟨o,d,rfl,bP.trans A,hO.ls dg,by omega,Y⟩
  rw[aD X];refine p_x ?_;obtain⟨p,hp⟩:=aH X;have bS:=qab hp;refine bp (cs:=[.int .u8 (Int.ofNat p.2.2.1),.int .i64 p.2.2.2]) (hZ.pre A) rfl hp rfl (by omega) ?_;simp (disch:=omega) only[↓qxn,↓qxc,↓qxa];generalize hy:p.2.2=y at *;have bd:=A.len;have f:=hO.ls dg;have b8:=f.good;have Z:∀k,k<=d.length->∀h' o' ,Pre h1 h'->OwnL h1.length h' o' 2 rz (d.take k++[y]++d.drop k)->bn [.v o',.i (Int.ofNat j+1)] h':=λk M h' o' bI bx=>V (h',o') X ⟨bI,_,bx,by simp;omega,λa C=>by
   rcases qaz.1 C with C|C
   ·rcases qaz.1 C with C|C
    ·exact Y a (qbm C)
    ·rw[qaq]at C;exact⟨p,bS,hy.trans C.symm⟩
   ·exact Y a (qbs C)⟩
  refine iM (λl h'=>∃k,k<=d.length/\l=[.i (Int.ofNat k)]/\h'=h) ?_ ?_
  case refine_2=>
   intro jj ar;refine ce d.length (λ_=>True) (j0:=0) rfl (qaC _) trivial ?_;intro k M _ bX F;refine p_x ?_;refine br f ?_;by_cases I:k<d.length
   case neg=>
    rw[aC (by omega)];refine p_x ?_;exact ar _ _ ⟨k,M,rfl,rfl⟩
   rw[aD I];refine p_x ?_;obtain⟨a,C⟩:=aH I;refine bp (cs:=[.int .u8 (Int.ofNat a.1)]) f rfl C rfl (by omega) ?_;refine p_x ?_;refine vW (λ_=>?_) (λ_=>?_)
   ·simp(disch:=omega)only[↓qXX];rw[aL (by omega)];exact F I trivial
   refine p_x ?_;refine bp (cs:=[.int .u8 (Int.ofNat a.1)]) f rfl C rfl (by omega) ?_;refine p_x ?_;refine qz λt ht=>?_;cases t with
   |false=>
    refine p_x ?_;exact ar _ _ ⟨k,M,rfl,rfl⟩
   |true=>
   refine p_x ?_;refine bp (cs:=[.int .i64 a.2]) f rfl C rfl (by omega) ?_;refine p_x ?_;refine vW (λ_=>?_) (λ_=>?_)
   ·simp(disch:=omega)only[↓qXX];rw[aL (by omega)];exact F I trivial
   ·simp(disch:=omega)only[↓qXX];exact ar _ _ ⟨k,M,rfl,rfl⟩
  rintro l' h' ⟨k,M,rfl,a9⟩;rw[a9];clear a9 h';refine p_x ?_;refine br f ?_;refine qz λt ht=>?_;cases t with
  |true=>
   refine p_x ?_;obtain⟨x1,a2,E,ad⟩:=ls_upto f M;obtain⟨x2,a3,Q,bs⟩:=ls_from f M;have S:∀b,blk o=some b->b<h.length:=λb L=>(hO.blk L).2;have hh:(h++[HO.o (.cells [] 2 true)]).length=h.length+1:=by simp
   have he:OwnL (α:=Ln) h1.length (h++[HO.o (.cells [] 2 true)]) (.slice (some ⟨h.length,0,tag 2⟩) 0 1) 2 rz []:=OwnL.emp ao bd;refine ae a2 ?_;refine ac E.good ?_;refine p_y ?_;refine he.apL dg (by omega) (E.pre ⟨_,rfl⟩) (by simp;omega) (by simp;omega) ?_;intro z1 m u ag N be _;have a4:=u.ls dg;have aE:Pre h1 m:=bH (A.app _) λi o g q=>N i o q λe=>by have:=(he.blk e).1;omega
   have T:Pre h m:=bH (h1:=h) ⟨_,rfl⟩ λi o g q=>N i o q λe=>by
    have:h.length=i:=by simpa[blk]using e
    omega
   refine p_x ?_;refine ac ag ?_;refine p_y ?_;refine u.ap1 (a:=y) dg (by omega) rfl rfl rfl (by
    unfold bh;rw[qal (by simp;omega),qal (by simp;omega)];rfl) ?_
   intro z2 g2 R an O bl _;have B:∀b,blk z1=some b->h.length<=b/\b<m.length:=λb L=>by
    refine⟨?_,(u.blk L).2⟩;rcases ‹blk z1=blk _∨_› with e|⟨j',e,e'⟩
    ·rw[L]at e;have:b=h.length:=by simpa[blk]using e
     omega
    ·rw[L]at e;cases e;omega
   have a0:Pre h1 g2:=bH aE λi o g q=>O i o q λe=>by have:=(u.blk e).1;omega
   have U:Pre h g2:=bH T λi o g q=>O i o q λe=>by have:=(B _ e).1;omega
   refine p_x ?_;refine ac an ?_;refine p_y ?_;refine ae a3 ?_;refine ac Q.good ?_;refine p_y ?_;refine R.apL dg (by omega) (Q.pre U) (by simp;omega) (by simp;omega) ?_;intro z3 g3 ay ap ax bm _;have a1:Pre h1 g3:=bH a0 λi o g q=>ax i o q λe=>by have:=(R.blk e).1;omega
   refine p_x ?_;refine ac ap ?_;refine p_y ?_;have a6:=ir f;have a5:=ir E;have a7:=ir a4;have dA:∀n c W J,Sx.disjN (Sx.adr (.slice (some ⟨h.length,0,some 12⟩) n c)) (Sx.adrK 0 (.slice (some ⟨m.length,0,some 12⟩) W J))=true:=λn c W J=>nJ λi g D=>by
    have e1:h.length=i:=by simpa[blk]using g
    have e2:m.length=i:=by simpa[blk]using D
    omega
   have dB:∀n c W J,Sx.disjN (Sx.adr (.slice (some ⟨m.length,0,some 12⟩) n c)) (Sx.adrK 0 (.slice (some ⟨h.length,0,some 12⟩) W J))=true:=λn c W J=>nJ λi g D=>by
    have e1:m.length=i:=by simpa[blk]using g
    have e2:h.length=i:=by simpa[blk]using D
    omega
   have dC:∀n c,Sx.disjN (Sx.adr z1) (Sx.adrK 0 (.slice (some ⟨m.length,0,some 12⟩) n c))=true:=λn c=>lS a7 ⟨_,_,_,rfl⟩ λi g D=>by
    have e2:m.length=i:=by simpa[blk]using D
    have:=B i g;omega
   have dD:∀n c,Sx.disjN (Sx.adr (.slice (some ⟨m.length,0,some 12⟩) n c)) (Sx.adrK 0 x1)=true:=λn c=>lS ⟨_,_,_,rfl⟩ a5 λi g D=>by
    have e2:m.length=i:=by simpa[blk]using g
    have:=S i (ad▸D);omega
   refine ae (x:=()) (by
    repeat' (first|exact jE|refine fq ?_ ?_)
    all_goals first|exact disj_1 a6|exact dA _ _ _ _|exact dB _ _ _ _|exact dC _ _|exact dD _ _) ?_
   try simp(disch:=omega)only[↓qXX]
   try rw[aL (by omega)]
   try simp(disch:=omega)only[↓qXX]
   try rw[aL (by omega)]
   exact Z k M g3 z3 a1 (by simpa using ay)
  |false=>
   refine p_x ?_;have I:k<d.length:=by
    have h5:=of_decide_eq_false ht.symm;have h6:¬k=d.length:=λe=>h5 (by rw[e]);omega
   obtain⟨a,C⟩:=aH I;refine aQ f rfl C ?_;rw[show rz a=[.int .u8 (Int.ofNat a.1),.int .i64 a.2]from rfl];refine p_x ?_;refine xH (λb6=>?_) (λb7=>?_)
   ·simp(disch:=omega)only[↓qXX,qaQ];rw[aL (by omega)];exact V (h,o) X ⟨A,d,hO,by omega,Y⟩
   simp(disch:=omega)only[↓qXX,qaX];obtain⟨x1,a2,E,ad⟩:=ls_upto f M;obtain⟨x2,a3,Q,bs⟩:=ls_from f M;have S:∀b,blk o=some b->b<h.length:=λb L=>(hO.blk L).2;have hh:(h++[HO.o (.cells [] 2 true)]).length=h.length+1:=by simp
   have he:OwnL (α:=Ln) h1.length (h++[HO.o (.cells [] 2 true)]) (.slice (some ⟨h.length,0,tag 2⟩) 0 1) 2 rz []:=OwnL.emp ao bd;refine ae a2 ?_;refine ac E.good ?_;refine p_y ?_;refine he.apL dg (by omega) (E.pre ⟨_,rfl⟩) (by simp;omega) (by simp;omega) ?_;intro z1 m u ag N be _;have a4:=u.ls dg;have aE:Pre h1 m:=bH (A.app _) λi o g q=>N i o q λe=>by have:=(he.blk e).1;omega
   have T:Pre h m:=bH (h1:=h) ⟨_,rfl⟩ λi o g q=>N i o q λe=>by
    have:h.length=i:=by simpa[blk]using e
    omega
   refine p_x ?_;refine ac ag ?_;refine p_y ?_;refine u.ap1 (a:=y) dg (by omega) rfl rfl rfl (by
    unfold bh;rw[qal (by simp;omega),qal (by simp;omega)];rfl) ?_
   intro z2 g2 R an O bl _;have B:∀b,blk z1=some b->h.length<=b/\b<m.length:=λb L=>by
    refine⟨?_,(u.blk L).2⟩;rcases ‹blk z1=blk _∨_› with e|⟨j',e,e'⟩
    ·rw[L]at e;have:b=h.length:=by simpa[blk]using e
     omega
    ·rw[L]at e;cases e;omega
   have a0:Pre h1 g2:=bH aE λi o g q=>O i o q λe=>by have:=(u.blk e).1;omega
   have U:Pre h g2:=bH T λi o g q=>O i o q λe=>by have:=(B _ e).1;omega
   refine p_x ?_;refine ac an ?_;refine p_y ?_;refine ae a3 ?_;refine ac Q.good ?_;refine p_y ?_;refine R.apL dg (by omega) (Q.pre U) (by simp;omega) (by simp;omega) ?_;intro z3 g3 ay ap ax bm _;have a1:Pre h1 g3:=bH a0 λi o g q=>ax i o q λe=>by have:=(R.blk e).1;omega
   refine p_x ?_;refine ac ap ?_;refine p_y ?_;have a6:=ir f;have a5:=ir E;have a7:=ir a4;have dA:∀n c W J,Sx.disjN (Sx.adr (.slice (some ⟨h.length,0,some 12⟩) n c)) (Sx.adrK 0 (.slice (some ⟨m.length,0,some 12⟩) W J))=true:=λn c W J=>nJ λi g D=>by
    have e1:h.length=i:=by simpa[blk]using g
    have e2:m.length=i:=by simpa[blk]using D
    omega
   have dB:∀n c W J,Sx.disjN (Sx.adr (.slice (some ⟨m.length,0,some 12⟩) n c)) (Sx.adrK 0 (.slice (some ⟨h.length,0,some 12⟩) W J))=true:=λn c W J=>nJ λi g D=>by
    have e1:m.length=i:=by simpa[blk]using g
    have e2:h.length=i:=by simpa[blk]using D
    omega
   have dC:∀n c,Sx.disjN (Sx.adr z1) (Sx.adrK 0 (.slice (some ⟨m.length,0,some 12⟩) n c))=true:=λn c=>lS a7 ⟨_,_,_,rfl⟩ λi g D=>by
    have e2:m.length=i:=by simpa[blk]using D
    have:=B i g;omega
   have dD:∀n c,Sx.disjN (Sx.adr (.slice (some ⟨m.length,0,some 12⟩) n c)) (Sx.adrK 0 x1)=true:=λn c=>lS ⟨_,_,_,rfl⟩ a5 λi g D=>by
    have e2:m.length=i:=by simpa[blk]using g
    have:=S i (ad▸D);omega
   refine ae (x:=()) (by
    repeat' (first|exact jE|refine fq ?_ ?_)
    all_goals first|exact disj_1 a6|exact dA _ _ _ _|exact dB _ _ _ _|exact dC _ _|exact dD _ _) ?_
   try simp(disch:=omega)only[↓qXX]
   try rw[aL (by omega)]
   try simp(disch:=omega)only[↓qXX]
   try rw[aL (by omega)]
   exact Z k M g3 z3 a1 (by simpa using ay))
 obtain⟨rs,h',h2,z,d,rfl,h3,h4,h5,h6⟩:=bU;exact⟨z,h',d,h2,h3,h4,h5,h6⟩
abbrev Sk:=Cl×Value×List Nat
def enc5(s:Sk):Tk:=bw s.1++[s.2.1]
def bz(s:Sk):(enc5 s).length=4:=rfl
def stS(s:Sk):Stc:=(s.1,s.2.2)
def Pcs(n0:Nat)(h:HL)(Q:List Sk):Prop:=(∀p∈Q,OwnL n0 h p.2.1 1 encN p.2.2)/\Q.Pairwise λp q=>∀b,blk p.2.1=some b->blk q.2.1≠some b
def Pcs.nil(n0:Nat)(h:HL):Pcs n0 h []:=⟨λp a=>(by cases a),.nil⟩
def Pcs.perm{n0:Nat}{h:HL}{Q c:List Sk}(e:Pcs n0 h Q)(d:c.Perm Q):Pcs n0 h c:=
 ⟨λp h=>e.1 p (d.mem_iff.1 h),(d.pairwise_iff (λh b f a=>h b a f)).2 e.2⟩
def Pcs.keep{n0:Nat}{h h':HL}{Q:List Sk}(b:Pcs n0 h Q)(c:∀p∈Q,∀(j:Nat) o,h[j]?=some o->blk p.2.1=some j->h'[j]?=some o):Pcs n0 h' Q:=
 ⟨λp a=>(b.1 p a).keep (c p a),b.2⟩
def Pcs.cons{n0:Nat}{h:HL}{Q:List Sk}(a:Pcs n0 h Q){p:Sk}(d:OwnL n0 h p.2.1 1 encN p.2.2)(c:∀q∈Q,∀b,blk p.2.1=some b->blk q.2.1≠some b):Pcs n0 h (p :: Q):=
 ⟨λq h=>by
  rcases qax.1 h with rfl|h
  ·exact d
  ·exact a.1 q h,qbb.2 ⟨c,a.2⟩⟩
def Pcs.low{n0:Nat}{h:HL}{Q:List Sk}(a:Pcs n0 h Q){b:Nat}(j:b<=n0):Pcs b h Q:=
 ⟨λp g=>by
  rcases a.1 p g with d|⟨id,c,e,i,f⟩
  ·exact .inl d
  ·exact .inr ⟨id,c,e,by omega,f⟩,a.2⟩
def aM{α β:Type}{n0 e e':Nat}{enc:α->Tk}{a:β->Tk}{l:List α}{l':List β}{h:HL}{v v':Value}(r:OwnL n0 h v e enc l)(g:OwnL n0 h v' e' a l')(f:e≠e'){b:Nat}(j:blk v=some b):blk v'≠some b:=by
 intro d;rcases r with⟨rfl,_⟩|⟨id,s,rfl,t,p,_⟩
 ·cases j
 rcases g with⟨rfl,_⟩|⟨i,k,rfl,o,c,_⟩
 ·cases d
 have m:id=b:=by simpa[blk]using j
 have n:i=b:=by simpa[blk]using d
 subst m n;rw[p]at c;have:=qat c;injection this with this
 injection this with _ q
 exact f q
structure FW(n0:Nat)(h:HL)(zs za zc:Value)(Ms Ma:List Sk)(C:Ty):Prop where
 os:OwnL n0 h zs 4 enc5 Ms
 oa:OwnL n0 h za 4 enc5 Ma
 oc:OwnL n0 h zc 3 encC C
 ne:∀b,blk zs=some b->blk za≠some b
 pc:Pcs n0 h (Ms++Ma)
section
variable {n0:Nat} {h h':HL} {zs za zc:Value} {Ms Ma:List Sk} {C:Ty}
def FW.frame(b:FW n0 h zs za zc Ms Ma C)(c:∀(j:Nat) o,h[j]?=some o->h'[j]?=some o):FW n0 h' zs za zc Ms Ma C:=
 ⟨b.os.keep λj o a _=>c j o a,b.oa.keep λj o a _=>c j o a,b.oc.keep λj o a _=>c j o a,b.ne,b.pc.keep λ_ _ j o a _=>c j o a⟩
def FW.pre(a:FW n0 h zs za zc Ms Ma C)(c:Pre h h'):FW n0 h' zs za zc Ms Ma C:=a.frame λ_ _ b=>c.get b
theorem FW.symm(a:FW n0 h zs za zc Ms Ma C):FW n0 h za zs zc Ma Ms C:=
 ⟨a.oa,a.os,a.oc,λb d c=>a.ne b c d,a.pc.perm qc5⟩
def FW.pne(a:FW n0 h zs za zc Ms Ma C){p:Sk}(e:p∈Ms++Ma){b:Nat}(d:blk p.2.1=some b):blk zs≠some b/\blk za≠some b/\blk zc≠some b:=
 have c:=a.pc.1 p e
 ⟨aM c a.os (by omega) d,aM c a.oa (by omega) d,aM c a.oc (by omega) d⟩
def FW.apS(d:FW n0 h zs za zc Ms Ma C){c:Cl}{y:Value}{ly:Tx}(q:OwnL n0 h y 1 encN ly)(i:∀p∈Ms++Ma,∀b,blk y=some b->blk p.2.1≠some b){g:Value}(l:OwnL n0 h' g 4 enc5 (Ms++[(c,y,ly)]))
  (k:∀(j:Nat) o,h[j]?=some o->blk zs≠some j->h'[j]?=some o) (t:blk g=blk zs∨∃j,blk g=some j/\h.length<=j):FW n0 h' g za zc (Ms++[(c,y,ly)]) Ma C:=by
 refine⟨l,d.oa.keep λj o f a=>k j o f λe=>d.ne j e a,d.oc.keep λj o f a=>k j o f λe=>aM d.os d.oc (by omega) e a,λb m n=>?_,?_⟩
 ·rcases t with e|⟨j,e,u⟩
  ·exact d.ne b (e▸m) n
  ·rw[e]at m;cases m;have:=(d.oa.blk n).2;omega
 ·have r:Pcs n0 h ((c,y,ly) :: (Ms++Ma)):=d.pc.cons q i;have s:=r.keep (h':=h') λp hp j o f a=>k j o f λe=>by
   rcases qax.1 hp with rfl|hp
   ·exact aM d.os q (by omega) e a
   ·exact(d.pne hp a).1 e
  refine s.perm ?_;rw[qai];exact List.perm_middle
end
def orderedO{n0:Nat}{H:HL}{x:Value}{l:Ty}(h:OwnL n0 H x 3 encC l)(i:l.length<=1000) :
  ∃l' h',aB cc ab 61 [.v x] (absH aa H) [.v x] (absH aa h')/\l'.Perm l/\SorC l'/\OwnL n0 h' x 3 encC l'/\∀(j:Nat) o,H[j]?=some o->blk x≠some j->h'[j]?=some o:=by
 rcases h with⟨rfl,rfl⟩|⟨id,cx,rfl,d,b,f⟩
 ·refine⟨[],H,?_,qca _,.nil,.inl ⟨rfl,rfl⟩,λj o a _=>a⟩;exact xK x61 (glsV rfl gls0) (by
   unfold f61;simp only[qxh]
   repeat (first|simp(disch:=omega)only[↓qXX]|refine ae (x:=(0:Int)) rfl ?_|refine gz 2 ?_)
   trivial)
 ·obtain⟨l',c,c2,c3⟩:=ordered_c (cx:=cx) b i;refine⟨l',_,c,c2,c3,.inr ⟨id,cx,by rw[c2.length_eq],d,bF (aw b),by rw[c2.length_eq];exact f⟩,λj o a g=>?_⟩;unfold putE;rw[qaD (λe=>g (by rw[e];rfl))];exact a
def edN(w v a b:Nat):Nat:=if nbr w v a 0=some b then 0 else if nbr w v a 1=some b then 1 else 2
def lT{w v:Nat}(l:Sh w v){a b e:Nat}(i:a<4*w*v)(m:e<3)(j:nbr w v a e=some b):edN w v a b=e:=by
 have o:=(dc l i).2.2.2.2;have f:∀g,g<3->nbr w v a g=some b->g=e:=λg d k=>by
  have c:=(eC l i m j).2.2.2.1;have n:=(eC l i d k).2.2.2.1;exact nbC_inj o d m (n.symm.trans c)
 unfold edN;by_cases h:nbr w v a 0=some b
 ·rw[qd0 h];exact f 0 (by omega) h
 rw[qd1 h];by_cases c:nbr w v a 1=some b
 ·rw[qd0 c];exact f 1 (by omega) c
 rw[qd1 c];have:e=0∨e=1∨e=2:=by omega
 rcases this with rfl|rfl|rfl
 ·exact absurd j h
 ·exact absurd j c
 ·rfl
def crN(w v:Nat)(P:TC)(o:Bool)(p:Pas):Crs:=(Int.ofNat p.1,Int.ofNat (edN w v p.1 p.2.1),if decide ((P p.1).1<4)=o then 2 else 1)
def newC(w v:Nat)(P:TC)(o:Bool)(ln:Ln)(a:List Pas):Ty:=(a.filter λp=>decide (p.2.2=ln)).map (crN w v P o)
def fp(ln:Ln)(s:Bool)(L:List Stc)(r:Mv)(j:Nat):Mv:=if 0∈(awS ln s (L.take j)).flatMap Prod.snd then af r (ofM ln)else r
def syS_succ{ln:Ln}{s:Bool}{L:List Stc}{j:Nat}{c:Cl}{ly:Tx}(h:L[j]?=some (c,ly)):syS ln s (L.take (j+1))=syS ln s (L.take j)++(if di ln c=s then []else [(c,ly)]):=by
 unfold syS;rw[qbj,h,qdq];simp only[qco,qcc,qdN];by_cases a:di ln c=s
 ·simp[a]
 ·simp[a]
def awS_succ{ln:Ln}{s:Bool}{L:List Stc}{j:Nat}{c:Cl}{ly:Tx}(h:L[j]?=some (c,ly)):awS ln s (L.take (j+1))=awS ln s (L.take j)++(if di ln c=s then [(al (ofM ln) c,ly.reverse)]else []):=by
 unfold awS;rw[qbj,h,qdq,qa3];simp only[qco,qcc,qdN];by_cases a:di ln c=s
 ·simp[a]
 ·simp[a]
def ls45{h:HL}{z:Value}{b:List Sk}(c:LsH h z 4 enc5 b):LsH h z 4 enc4 (b.map λs=>(s.1,s.2.1)):=by
 refine⟨λa _=>rfl,?_⟩;have:(b.map λs:Sk=>((s.1,s.2.1):Stk)).flatMap enc4=b.flatMap enc5:=by
  rw[qcj];rfl
 rw[this,qaB];exact c.2
def ls54{h:HL}{z:Value}{b:List Sk}(d:LsH h z 4 enc4 (b.map λs=>(s.1,s.2.1))):LsH h z 4 enc5 b:=by
 refine⟨λa _=>rfl,?_⟩;have:(b.map λs:Sk=>((s.1,s.2.1):Stk)).flatMap enc4=b.flatMap enc5:=by
  rw[qcj];rfl
 have c:=d.2;rw[this,qaB]at c;exact c
def Pcs.sub{n0:Nat}{h:HL}{Q a:List Sk}(b:Pcs n0 h Q)(c:a.Sublist Q):Pcs n0 h a:=⟨λp d=>b.1 p (c.mem d),b.2.sublist c⟩
def dM{α:Type}{a q:α}:∀ {l:List α} {k:Nat},l[k]?=some q->(l.set k a).Perm (a :: l.eraseIdx k)
 | [],k,h=>by simp at h
 |b :: l,0,h=>qca _
 |b :: l,k+1,h=>by
  simp only[qa6]at h;simp only[qcB,List.eraseIdx_cons_succ];exact((dM h).cons b).trans (List.Perm.swap _ _ _)
def stp{n0:Nat}{h g:HL}{J O T v':Value}{d P Mr:List Sk}{C:Ty}{a q:Sk}{k id cx:Nat}{c:Tx}(w:J = .slice (some ⟨id,0,tag 4⟩) d.length cx)(m:n0<=id)(hid:h[id]?=some (.o (.cells (d.flatMap enc5) 4 true)))(y:cx=0∨cx=d.length+1)
  (F:OwnL n0 h O 4 enc5 P) (z:OwnL n0 h T 3 encC C) (L:blk O≠some id) (M:Pcs n0 h (d++a :: Mr)) (K:d[k]?=some q) (S:OwnL n0 g v' 1 encN c) (R:∀(j:Nat) o,h[j]?=some o->blk q.2.1≠some j->g[j]?=some o) (W:∀b,blk v'=some b->blk q.2.1=some b∨h.length<=b) :
  g[id]?=some (.o (.cells (d.flatMap enc5) 4 true))/\OwnL n0 (putE g id 4 enc5 (d.set k (q.1,v',c))) J 4 enc5 (d.set k (q.1,v',c))/\OwnL n0 (putE g id 4 enc5 (d.set k (q.1,v',c))) O 4 enc5 P/\OwnL n0 (putE g id 4 enc5 (d.set k (q.1,v',c))) T 3 encC C/\Pcs n0 (putE g id 4 enc5 (d.set k (q.1,v',c))) (d.set k (q.1,v',c)++Mr)/\∀(j:Nat) o,j<n0->h[j]?=some o->(putE g id 4 enc5 (d.set k (q.1,v',c)))[j]?=some o:=by
 have s:Pcs n0 h (d++Mr):=M.sub (List.Sublist.append_left (qcV _ _) _);have N:q∈d++Mr:=qaz.2 (.inl (qab K));have u:=s.1 q N;have r:OwnL n0 h J 4 enc5 d:=.inr ⟨id,cx,w,m,hid,y⟩;have v:blk J=some id:=by rw[w];rfl
 have l:g[id]?=some (.o (.cells (d.flatMap enc5) 4 true)):=R _ _ hid λe=>aM u r (by omega) e v;have G:OwnL n0 g J 4 enc5 d:=.inr ⟨id,cx,w,m,l,y⟩;have i:∀(j:Nat) o,h[j]?=some o->blk q.2.1≠some j->j≠id->(putE g id 4 enc5 (d.set k (q.1,v',c)))[j]?=some o:=λj o n U V=>by
  unfold putE;rw[qaD (qbR V)];exact R j o n U
 have t:(d++Mr).Perm (q :: (d.eraseIdx k++Mr)):=by
  have:=(dM (a:=q) K).append_right Mr
  rwa [bD K]at this
 have x:=s.perm t.symm;have I:=qbb.1 x.2;refine⟨l,.inr ⟨id,cx,by rw[qay];exact w,m,bF (aw l),by rw[qay];exact y⟩,F.keep λj o n f=>i j o n (λe=>aM u F (by omega) e f) (λe=>L (e▸f)),z.keep λj o n f=>i j o n (λe=>aM u z (by omega) e f) (λe=>aM r z (by omega) v (by rw[f,e])),?_,λj o X n=>i j o n (λe=>by
  have:=(u.blk e).1;omega) (by omega)⟩
 have A:Pcs n0 (putE g id 4 enc5 (d.set k (q.1,v',c))) (d.eraseIdx k++Mr):=by
  have Q:Pcs n0 h (d.eraseIdx k++Mr):=x.sub (qcV _ _);refine Q.keep λp H j o n f=>i j o n (λe=>I.1 p H j e f) λe=>?_;subst e;exact aM (Q.1 p H) r (by omega) f v
 have E:OwnL n0 (putE g id 4 enc5 (d.set k (q.1,v',c))) v' 1 encN c:=S.keep λj o n f=>by
  unfold putE;rw[qaD (λe=>aM S G (by omega) f (by rw[v,e]))];exact n
 refine(A.cons (p:=(q.1,v',c)) E λp H b D B=>?_).perm ((dM K).append_right Mr);simp only at D;rcases W b D with e|Y
 ·exact I.1 p H b e B
 ·have:=((s.1 p (t.mem_iff.2 (qav _ H))).blk B).2;omega
def mrg_ne{o:Bool}{a:Stc}:∀ {S:List Stc},mrg o S a≠[]
 | []=>by simp[mrg]
 |y :: S=>by
  unfold mrg;split<;>simp
def vL{o:Bool}:∀ {A S:List Stc},S≠[]->A.foldl (mrg o) S≠[]
 | [],S,h=>h
 |a :: A,S,_=>by
  rw[qb0];exact vL mrg_ne
def fdL_ne{ln:Ln}{s o:Bool}{L:List Stc}(h:L≠[]):fdL' ln s o L≠[]:=by
 unfold fdL';by_cases b:syS ln s L=[]
 ·cases hA:awS ln s L with
  |cons a A=>
   rw[qb0];exact vL mrg_ne
  |nil=>
   exfalso;cases L with
   |nil=>exact h rfl
   |cons x L=>
    unfold syS at b;unfold awS at hA;rw[qcL]at hA;rw[List.filter_eq_nil_iff]at b hA;have c:=b x qaN;have d:=hA x qaN;simp at c d;exact d c
 ·exact vL b
def lA{w v:Nat}{l:Ty}{G:TC}{r:Mv}{n:Nat}{p:Pas}(h:p∈pasL w v l G r n):p.1<n/\∃k,k<3/\nbr w v p.1 (eK (p.1%4) k)=some p.2.1/\p.1<p.2.1/\kAt w v l p.1 k=0/\p.2.2=lnC3 (al (af (G p.1) r) (clN w p.1)) (eT (af (G p.1) r).1 (eK (p.1%4) k)):=by
 unfold pasL at h;obtain⟨a,e,i⟩:=qa8.1 h;have e:=qae.1 e;obtain⟨k,f,c⟩:=qba.1 i;have f:=qae.1 f;unfold pasK at c;cases g:nbr w v a (eK (a%4) k)with
 |none=>rw[g]at c;cases c
 |some b=>
  rw[g]at c;simp only at c;by_cases d:a<b/\kAt w v l a k=0
  ·rw[qd0 d]at c;cases c;exact⟨e,k,f,g,d.1,d.2,rfl⟩
  ·rw[qd1 d]at c;cases c
def newC_succ{w v:Nat}{P:TC}{o:Bool}{ln:Ln}{a:List Pas}{j:Nat}{p:Pas}(h:a[j]?=some p):newC w v P o ln (a.take (j+1))=newC w v P o ln (a.take j)++(if p.2.2=ln then [crN w v P o p]else []):=by
 unfold newC;rw[qbj,h,qdq,qa3];simp only[qco,qcc,qdN];by_cases b:p.2.2=ln
 ·simp[b]
 ·simp[b]
def FoldR(w v:Nat)(l:Ty)(G:TC)(r:Mv)(L:List Stc)(ln:Ln)(s o:Bool)(H:HL)(e:TB)(h':HL):Prop:=
 ∃z d l' c,e=[.i (.ofNat w),.i (.ofNat v),.v z,.i (Int.ofNat (fp ln s L r L.length).1),.i (fp ln s L r L.length).2.1,.i (fp ln s L r L.length).2.2,.v d]/\Pre H h'/\
  LsH h' z 3 encC l'/\l'.Perm (l++newC w v (λa=>af (G a) r) o ln (pasL w v l G r (4*w*v)))/\SorC l'/\LsH h' d 4 enc5 c/\Pcs H.length h' c/\(c.map stS).Perm (fdL' ln s o L)/\c.Pairwise λa b=>gtS a.1 b.1=false
def fold28_c{w v:Nat}(h3:S3 w v){l:Ty}{H:HL}{x xs:Value}(hl:LsH H x 3 encC l)(hv:∀c∈l,VC w v c)(eL:∀c∈l,c.2.2≠0)(hn:l.length<=800){r:Mv}(hr:okM 10000 r){G:TC}(hG:ConsO w v l G)
  {L:List Stc} (hL:StL H xs L) (g4:0<L.length) (hY:L.length<=100) (g5:∀a∈L,a.1.2.2<4/\-20000<=a.1.1/\a.1.1<=20000/\-20000<=a.1.2.1/\a.1.2.1<=20000) (c0:∀a∈L,a.2≠[]/\a.2.length<=100)
  {ln:Ln} (fa:1<=ln.1/\ln.1<=4) (hC:-10000<=ln.2/\ln.2<=10000) (s o:Bool) :
  ∃rs h',aB cc ab 22 ([.i (.ofNat w),.i (.ofNat v),.v x]++mvl r++[.v xs,.i (.ofNat ln.1),.i ln.2,.i (if s then 1 else 0),.b o]) (absH aa H) rs (absH aa h')/\FoldR w v l G r L ln s o H rs h':=by
 have hs:=h3.sh;obtain⟨b1,b2,b3,b4⟩:=h3.n;have hN:=sh_N hs;obtain⟨M,hM,hD,hm⟩:=hL;have cm:=yY fa (by omega:-100000<=ln.2/\ln.2<=100000);have bU:okM 20000 (ofM ln):=xA (n:=10000) hC;have cf:=yk (aO hr (by omega)) (aO bU (by omega));exact x22 (ls:=[.i (.ofNat w),.i (.ofNat v),.v x,.i (Int.ofNat r.1),.i r.2.1,.i r.2.2,.v xs,.i (.ofNat ln.1),.i ln.2,.i (if s then 1 else 0),.b o]) (K:=FoldR w v l G r L ln s o H) (H:=H) (glsI (glsI (glsV hl.good (glsI (glsI (glsI (glsV hM.good (glsI (glsI (glsI (glsB gls0))))))))))) (by
  unfold f22;simp only[qxh];refine p_x ?_;refine ah cm ?_;simp only[mvl,cll,qag,qaf]at cf ⊢;refine p_x ?_;refine(OwnL.emp (α:=Crs) (enc:=encC) (n0:=H.length) ao (qaj _)).apL (λ_=>rfl) (by simp) (hl.pre ⟨_,rfl⟩) (by simp;omega) (by simp;omega) ?_;intro zc h0 C hg eX hR _;rw[qaf]at C;have hF:Pre H h0:=bH ⟨_,rfl⟩ λi o R ho=>eX i o ho λe=>by
   have:H.length=i:=by simpa[blk]using e
   omega
  refine p_x ?_;refine ac hg ?_;refine p_y ?_;generalize fr:ofM ln=m at *;refine aS (σ:=HL×Value×Value×List Sk×List Sk) L.length (λj t=>[.v t.2.1,.v t.2.2.1,.i (Int.ofNat j),.i (.ofNat w),.i (.ofNat v),.v zc,.i (Int.ofNat (fp ln s L r j).1),.i (fp ln s L r j).2.1,.i (fp ln s L r j).2.2,.v (.slice none 0 0)]) (λ_ t=>t.1)
   (λj t=>Pre H t.1/\FW H.length t.1 t.2.1 t.2.2.1 zc t.2.2.2.1 t.2.2.2.2 l/\t.2.2.2.1.map stS=syS ln s (L.take j)/\t.2.2.2.2.map stS=awS ln s (L.take j))
   (j0:=0) (s0:=(h0,.slice none 0 0,.slice none 0 0,[],[])) (by simp[fp,awS]) rfl (qaC _) ⟨hF,⟨.nil _ _ _ _,.nil _ _ _ _,C,(λb f=>by cases f),.nil _ _⟩,rfl,rfl⟩ ?_
  rintro j ⟨h,zs,za,Ms,Ma⟩ X ⟨E,hf,O,ar⟩ a7 D;simp only at E hf O ar ⊢;refine p_x ?_;refine br (hM.pre E) ?_;rw[hD];by_cases J:j<L.length
  case neg=>
   rw[aC (by omega)];refine p_x ?_;obtain rfl:j=L.length:=by omega
   clear D J;rw[qbD]at O ar;have ay:Ms.length<=100:=by
    have:=congrArg List.length O;rw[qaB]at this;have h2:(syS ln s L).length<=L.length:=qcb _ _;omega
   have fb:Ma.length<=100:=by
    have:=congrArg List.length ar;rw[qaB]at this;have h2:(awS ln s L).length<=L.length:=by
     unfold awS;rw[qaB];exact qcb _ _
    omega
   have dD:∀a∈Ma,a.2.2.length<=100:=λa ha=>by
    have h1:stS a∈awS ln s L:=ar▸qaA.2 ⟨a,ha,rfl⟩;obtain⟨b,f,dn⟩:=qaA.1 h1;have h3:=(c0 b (qaM.1 f).1).2;have h4:=congrArg (λx:Stc=>x.2.length) dn;simp only[List.length_reverse]at h4;have:(stS a).2=a.2.2:=rfl;rw[this]at h4;omega
   refine aS (σ:=HL×Value×List Sk) Ma.length (λi t=>[.v t.2.1,.i (Int.ofNat i)]) (λ_ t=>t.1)
    (λi t=>Pre H t.1/\OwnL H.length t.1 t.2.1 4 enc5 t.2.2/\OwnL H.length t.1 za 4 enc5 Ma/\OwnL H.length t.1 zc 3 encC l/\(∀b,blk t.2.1=some b->blk za≠some b)/\Pcs H.length t.1 (t.2.2++Ma.drop i)/\t.2.2.map stS=((awS ln s L).take i).foldl (mrg o) (syS ln s L)/\t.2.2.length<=100+i/\∀q∈t.2.2,q.2.2.length<=100+100*i)
    (j0:=0) (s0:=(h,zs,Ms)) rfl rfl (qaC _) ⟨E,hf.os,hf.oa,hf.oc,hf.ne,by simpa using hf.pc,by simpa using O,by simpa using ay,λq hq=>by
     have h1:stS q∈syS ln s L:=O▸qaA.2 ⟨q,hq,rfl⟩;exact(c0 _ (qaM.1 h1).1).2⟩ ?_
   clear E hf O ay;rintro i ⟨h,zs,Ms⟩ R ⟨E,aE,a3,C,ax,V,O,ay,a6⟩ a7 D;simp only at E aE a3 C ax V O ay a6 ⊢;refine p_x ?_;have bx:=a3.ls bz;have bI:=aE.ls bz;refine br bx ?_;by_cases J:i<Ma.length
   case neg=>
    rw[aC (by omega)];refine p_x ?_;obtain rfl:i=Ma.length:=by omega
    clear D J;have hU:(awS ln s L).length=Ma.length:=by rw[←ar,qaB]
    rw[qaH (by omega)]at O;rw[List.drop_length,qaZ]at V;have fu:0<Ms.length:=by
     have:=congrArg List.length O;rw[qaB]at this;rw[this];exact qbd.2 (fdL_ne (ln:=ln) (s:=s) (o:=o) (L:=L) λe=>by subst e;simp at g4)
    obtain⟨l4,h4,zS,c4,cd,ea,go,gA⟩:=sorted_c (ls45 bI) (by simpa using fu) (by rw[qaB];omega) (λt ht=>by
     obtain⟨q,hq,rfl⟩:=qaA.1 ht;exact(V.1 q hq).good aG)
    refine ai c4 ?_;refine p_x ?_;obtain⟨a8,cK,rfl⟩:=jC go;have ea:=ls54 ea;have cy:=E.trans cd;obtain⟨it,h5,c5,be,dT⟩:=lF h3 (hl.pre cy) hv eL (by omega) (r:=r) (aO hr (by omega));simp only[mvl,qag,qaf]at c5;refine ai c5 ?_;rcases be with⟨rfl,bS⟩|⟨G',T,eg,rfl,B,rfl⟩
    ·exact absurd ⟨G,hG.g,hG.z⟩ bS
    refine p_x ?_;have ei:plL w v G' r=plL w v G r:=by
     unfold plL;refine qbl λc hc=>?_;rw[uM hs eg hG (qae.1 hc)]
    have a2:LsH (o3 h4 (plL w v G r) B T) (.slice (some ⟨h4.length,0,tag 3⟩) (4*w*v) (4*w*v+1)) 3 encM (plL w v G r):=bT bW o3_0 (by simp[plL]);rw[ei]at dT ⊢;generalize h7:h4.length=bP at *;generalize o3 h4 (plL w v G r) B T=h5 at *;have cA:=cy.trans dT;obtain⟨zP,h6,c6,d0,hX,U⟩:=xN h3 (hl.pre cA) hM.good hv eL (by omega) hr hG;simp only[mvl,qag,qaf]at c6;refine ai c6 ?_;refine p_x ?_;have cC:=cA.trans d0;have bX:=dT.trans d0;have gd:=λp (E:p∈pasL w v l G r (4*w*v))=>lA E;have hZ:=ko (w:=w) (v:=v) (l:=l) (G:=G) (r:=r) (n:=4*w*v);have a1:∀b,blk zc=some b->b≠bP:=λb f=>by
     have:=(C.blk f).2;have:=cd.len;omega
    have cr:OwnL H.length h6 zc 3 encC l:=C.keep λj d X _=>(cd.trans bX).get X;have cD:Pcs H.length h6 a8:=(V.keep λp _ j d X _=>(cd.trans bX).get X).perm cK;have cT:=ea.pre bX;have co:=a2.pre d0;unfold FoldR;generalize pasL w v l G r (4*w*v)=ps at *;generalize b5:fp ln s L r L.length=rt at *;clear c4 c5 c6 bI bx aE a3 ax C V hm eg ei;refine aS (σ:=HL×Value) ps.length (λj t=>[.i (Int.ofNat j),.i (.ofNat w),.i (.ofNat v),.v t.2,.i (Int.ofNat rt.1),.i rt.2.1,.i rt.2.2,.v zS]) (λ_ t=>t.1)
     (λj t=>Pre H t.1/\OwnL H.length t.1 t.2 3 encC (l++newC w v (λa=>af (G a) r) o ln (ps.take j))/\LsH t.1 zS 4 enc5 a8/\Pcs H.length t.1 a8/\LsH t.1 zP 4 encP ps/\LsH t.1 (.slice (some ⟨bP,0,tag 3⟩) (4*w*v) (4*w*v+1)) 3 encM (plL w v G r)/\∀b,blk t.2=some b->b≠bP)
     (j0:=0) (s0:=(h6,zc)) rfl rfl (qaC _) ⟨cC,by simpa[newC]using cr,cT,cD,U,co,a1⟩ ?_
    clear cC cr cT cD U co a1;rintro j ⟨g,zc⟩ X ⟨b0,C,an,ag,U,a2,a1⟩ a7 D;simp only at b0 C an ag U a2 a1 ⊢;have ih:(newC w v (λa=>af (G a) r) o ln (ps.take j)).length<=j:=by
     unfold newC;rw[qaB];refine qbN (qcb _ _) ?_;rw[qaL];omega
    have g8:(l++newC w v (λa=>af (G a) r) o ln (ps.take j)).length<=950:=by
     rw[qau];omega
    refine p_x ?_;refine br U ?_;by_cases J:j<ps.length
    case neg=>
     obtain rfl:j=ps.length:=by omega
     rw[aC (qaj _)];refine p_x ?_;rw[qbD]at C g8;obtain⟨l8,h8,c8,gs,gC,ga,dB⟩:=orderedO C (by omega);refine ai c8 ?_;refine p_x ?_;have hH:Pre H h8:=bH b0 λi d R ho=>dB i d ho λe=>by
      have:=(C.blk e).1;omega
     refine⟨zc,zS,l8,a8,by rw[←b5]<;>rfl,hH,ga.ls (λ_=>rfl),gs,gC,an.keep λi d R f=>dB i d R λe=>ls_ne (e:=3) (e':=4) (C.ls λ_=>rfl) an (by decide) e f,ag.keep λp E i d R f=>dB i d R λe=>aM C (ag.1 p E) (by omega) e f,?_,?_⟩
     ·show(a8.map stS).Perm (List.foldl (mrg o) (syS ln s L) (awS ln s L));rw[←O];exact cK.map _
     ·have:=qbp.1 (show(a8.map λt:Sk=>((t.1,t.2.1):Stk)).Pairwise _ from gA);exact this
    rw[aD J];refine p_x ?_;obtain⟨p,E⟩:=aH J;obtain⟨d7,k,hk,ge,be,im,il⟩:=gd p (qab E);have a4:=newC_succ (w:=w) (v:=v) (P:=λa=>af (G a) r) (o:=o) (ln:=ln) E;refine bp (cs:=[.int .u8 (Int.ofNat p.2.2.1),.int .i64 p.2.2.2]) U rfl E rfl (by omega) ?_;refine p_x ?_;refine xH (λev=>?_) (λax=>?_)
    case refine_2=>
     simp(disch:=omega)only[↓qXX,qaX];rw[aL (by omega)];refine D (g,zc) J ⟨b0,?_,an,ag,U,a2,a1⟩;rw[a4,qd1,qaZ]
     ·exact C
     ·intro e;exact ax (by rw[e];exact⟨rfl,rfl⟩)
    simp(disch:=omega)only[↓qXX,qaQ];have hJ:p.2.2=ln:=qcY (by exact qbw ev.1) ev.2;rw[qd0 hJ]at a4;refine bp (cs:=[.int .i64 (Int.ofNat p.1)]) U rfl E rfl (by omega) ?_;refine p_x ?_;have hI:(plL w v G r)[p.1]?=some (af (G p.1) r):=iC d7;refine bp (cs:=[.int .u8 (Int.ofNat (af (G p.1) r).1)]) a2 rfl hI rfl (by omega) ?_;refine p_x ?_;have eb:=edge28_c h3 d7 hk ge;have eu:edN w v p.1 p.2.1=eK (p.1%4) k:=lT hs d7 (fW _ _) ge;rw[←eu]at eb;have a5:∀kd:Int,kd=(if decide ((af (G p.1) r).1<4)=o then 2 else 1)->∀z2 Q,OwnL H.length Q z2 3 encC ((l++newC w v (λa=>af (G a) r) o ln (ps.take j))++[((Int.ofNat p.1,Int.ofNat (edN w v p.1 p.2.1),kd):Crs)])->(∀(i:Nat) d,g[i]?=some d->blk zc≠some i->Q[i]?=some d)->(blk z2=blk zc∨∃i,blk z2=some i/\g.length<=i)->a7 [.i (Int.ofNat j+1),.i (.ofNat w),.i (.ofNat v),.v z2,.i (Int.ofNat rt.1),.i rt.2.1,.i rt.2.2,.v zS] Q:=by
     intro kd hz z2 Q F A dn;refine D (Q,z2) J ⟨bH b0 λi d R ho=>A i d ho λe=>by
      have:=(C.blk e).1;omega,?_,an.keep λi d R f=>A i d R λe=>ls_ne (e:=3) (e':=4) (C.ls λ_=>rfl) an (by decide) e f,ag.keep λp E i d R f=>A i d R λe=>aM C (ag.1 p E) (by omega) e f,U.keep λi d R f=>A i d R λe=>ls_ne (e:=3) (e':=4) (C.ls λ_=>rfl) U (by decide) e f,a2.keep λi d R f=>A i d R λe=>a1 i e ?_,λb f=>?_⟩
     ·rw[a4,←qai];have:crN w v (λa=>af (G a) r) o p=(Int.ofNat p.1,Int.ofNat (edN w v p.1 p.2.1),kd):=by
       unfold crN;rw[hz]
      rw[this];exact F
     ·have:bP=i:=by simpa[blk]using f
      exact this.symm
     ·simp only at f;rcases dn with e|⟨i,e,cb⟩
      ·exact a1 b (e▸f)
      ·rw[e]at f;cases f;have:=a2.blkLt (i:=bP) rfl;omega
    by_cases gD:(af (G p.1) r).1<4
    case' pos=>rw[p_lss_t (show Int.ofNat (af (G p.1) r).1<4 by show((af (G p.1) r).1:Int)<4;omega)]
    case' neg=>rw[p_lss_f (show(4:Int)<=Int.ofNat (af (G p.1) r).1 by show(4:Int)<=((af (G p.1) r).1:Int);omega)]
    case' pos=>have hd:=qdZ gD
    case' neg=>have hd:=qdY gD
    all_goals
     rw[hd]at a5;cases o
    all_goals
     try rw[p_eqsb_t rfl]
     simp(disch:=omega)only[↓qXX,qaQ,qaX];refine bp (cs:=[.int .i64 (Int.ofNat p.1)]) U rfl E rfl (by omega) ?_;refine p_x ?_;refine bp (cs:=[.int .i64 (Int.ofNat p.1)]) U rfl E rfl (by omega) ?_;refine p_x ?_;refine bp (cs:=[.int .i64 (Int.ofNat p.2.1)]) U rfl E rfl (by omega) ?_;refine p_x ?_;refine ah eb ?_;refine p_x ?_;refine C.ap1 (a:=((Int.ofNat p.1,Int.ofNat (edN w v p.1 p.2.1),_):Crs)) (λ_=>rfl) (by have:=b0.len;omega) rfl rfl rfl (by
      unfold bh;rw[qal (by omega),qal (by omega)];rfl) ?_
     intro z2 Q F Y A ad I;refine p_x ?_;refine ac Y ?_;refine p_y ?_;rw[aL (by omega)];exact a5 _ rfl z2 Q F A I
   rw[aD J];refine p_x ?_;obtain⟨a,ha⟩:=aH J;have ds:Ma.drop i=a :: Ma.drop (i+1):=by
    rw[qbf J]
    congr 1
    rw[qap J]at ha;exact qat ha
   have g0:(awS ln s L)[i]?=some (stS a):=by
    rw[←ar,qan,ha];rfl
   have bl:((awS ln s L).take (i+1)).foldl (mrg o) (syS ln s L)=mrg o (Ms.map stS) (stS a):=by
    rw[qbj,g0,qcF,←O];rfl
   rw[ds]at V;have dk:=dD a (qab ha);refine aS (σ:=HL×List Sk×Bool) Ms.length (λk t=>[.b t.2.2,.i (Int.ofNat k)]) (λ_ t=>t.1)
    (λk t=>(t.2.2=false/\t.1=h/\t.2.1=Ms/\∀j,j<k->∀q,Ms[j]?=some q->q.1≠a.1)∨(t.2.2=true/\Pre H t.1/\OwnL H.length t.1 zs 4 enc5 t.2.1/\OwnL H.length t.1 za 4 enc5 Ma/\OwnL H.length t.1 zc 3 encC l/\Pcs H.length t.1 (t.2.1++Ma.drop (i+1))/\t.2.1.map stS=mrg o (Ms.map stS) (stS a)/\t.2.1.length=Ms.length/\∀q∈t.2.1,q.2.2.length<=100+100*(i+1)))
    (j0:=0) (s0:=(h,Ms,false)) rfl rfl (qaC _) (.inl ⟨rfl,rfl,rfl,λj X=>by omega⟩) ?_
   rintro k ⟨g,M2,fd⟩ hk cn b6 S;simp only at cn ⊢;refine p_x ?_;rcases cn with⟨rfl,rfl,rfl,bS⟩|⟨rfl,W,ct,f3,f4,gl,f0,hV,fs⟩
   case inr=>
    refine br (ct.ls bz) ?_;have a5:a7 [.v zs,.i (Int.ofNat i+1)] g:=D (g,zs,M2) J ⟨W,ct,f3,f4,ax,gl,by rw[bl];exact f0,by show M2.length<=_;omega,fs⟩;refine vW (λ_=>?_) (λ_=>?_)
    all_goals
     simp(disch:=omega)only[↓qXX,qaQ];rw[aL (by omega)];exact a5
   refine br bI ?_;by_cases ap:k<M2.length
   case neg=>
    rw[aC (by omega)];simp(disch:=omega)only[↓qXX,qaX];have b9:=V.1 a (qaz.2 (.inr qaN));have b8:=b9.good aG;refine aQ bx rfl ha ?_;rw[show enc5 a=[.int .i64 a.1.1,.int .i64 a.1.2.1,.int .u8 (Int.ofNat a.1.2.2),a.2.1]from rfl];refine p_x ?_;refine ac b8 ?_;refine p_y ?_;refine aE.ap1 (a:=a) bz (by have:=E.len;omega) rfl rfl rfl (by
     unfold bh;rw[qal (by omega),qal (by omega)];rfl) ?_
    intro z2 Q F Y A ad I;refine p_x ?_;refine ac Y ?_;refine p_y ?_;rw[aL (by omega)];have be:=E.len;refine D (Q,z2,M2++[a]) J ⟨bH E λj d X ho=>A j d ho λe=>by
     have:=(aE.blk e).1;omega,F,a3.keep λj d X f=>A j d X λe=>ax j e f,C.keep λj d X f=>A j d X λe=>aM aE C (by omega) e f,λb f a9=>?_,?_,?_,by rw[qau];simp;omega,λq hq=>?_⟩
    ·rcases I with e|⟨j,e,cb⟩
     ·exact ax b (e▸f) a9
     ·simp only at f;rw[e]at f;cases f;have:=(a3.blk a9).2;omega
    ·rw[qai];exact V.keep λp E j d X f=>A j d X λe=>aM aE (V.1 p E) (by omega) e f
    ·rw[bl,xt]
     ·rw[qa3];rfl
     ·intro j t ht;rw[qan]at ht;cases hx:M2[j]? with
      |none=>rw[hx]at ht;cases ht
      |some q=>
       rw[hx]at ht;cases ht;exact bS j (by have:=aw hx;omega) q hx
    ·rcases qaz.1 hq with hq|hq
     ·have:=a6 q hq;omega
     ·rw[qaq]at hq;subst hq;omega
   rw[aD ap];simp(disch:=omega)only[↓qXX,qaX];obtain⟨q,hq⟩:=aH ap;refine bp (cs:=[.int .i64 q.1.1,.int .i64 q.1.2.1,.int .u8 (Int.ofNat q.1.2.2)]) bI rfl hq rfl (by omega) ?_;refine p_x ?_;refine bp (cs:=[.int .i64 a.1.1,.int .i64 a.1.2.1,.int .u8 (Int.ofNat a.1.2.2)]) bx rfl ha rfl (by omega) ?_;refine p_x ?_;rw[eqsC];by_cases he:q.1=a.1
   case neg=>
    rw[qdY he];simp(disch:=omega)only[↓qXX,qaX];rw[aL (by omega)];exact S (g,M2,false) ap (.inl ⟨rfl,rfl,rfl,λj X t ht=>by
     by_cases e:j=k
     ·subst e;rw[hq]at ht;cases ht;exact he
     ·exact bS j (by omega) t ht⟩)
   rw[qdZ he];simp(disch:=omega)only[↓qXX,qaQ];have gx:=qab hq;have d8:=V.1 q (qaz.2 (.inl gx));have b9:=V.1 a (qaz.2 (.inr qaN));have gv:=d8.good aG;have b8:=b9.good aG;have dk:=b9.ls aG;have hW:=a6 q gx;have be:=E.len;have ci:∀(id cx:Nat) (v':Value) (Q:HL) (bn:Tx),zs = .slice (some ⟨id,0,tag 4⟩) M2.length cx->H.length<=id->g[id]?=some (.o (.cells (M2.flatMap enc5) 4 true))->(cx=0∨cx=M2.length+1)->OwnL H.length Q v' 1 encN bn->(∀(j:Nat) d,g[j]?=some d->blk q.2.1≠some j->Q[j]?=some d)->(∀b,blk v'=some b->blk q.2.1=some b∨g.length<=b)->bn=(if o then q.2.2++a.2.2 else a.2.2++q.2.2)->
     Q[id]?=some (.o (.cells (M2.flatMap enc5) 4 true))/\b6 [.b true,.i (Int.ofNat k+1)] (putE Q id 4 enc5 (M2.set k (q.1,v',bn))):=by
    intro id cx v' Q bn c1 c2 c3 c4 c5 c6 c7 c8;obtain⟨d1,d2,d3,d4,d5,d6⟩:=stp (Mr:=Ma.drop (i+1)) (a:=a) c1 c2 c3 c4 a3 C (λe=>ax id (by rw[c1];rfl) e) V hq c5 c6 c7;refine⟨d1,S (_,M2.set k (q.1,v',bn),true) ap (.inr ⟨rfl,bH E d6,d2,d3,d4,d5,?_,by simp,λt ht=>?_⟩)⟩
    ·rw[qb4,mrg_hit (a:=stS a) (x:=stS q) (k:=k) (by rw[qan,hq];rfl) he,c8]
     ·rfl
     ·intro j X t ht;rw[qan]at ht;cases hx:M2[j]? with
      |none=>rw[hx]at ht;cases ht
      |some q'=>
       rw[hx]at ht;cases ht;exact bS j X q' hx
    ·rcases qbh ht with ht|ht
     ·have:=a6 t ht;omega
     ·subst ht;show bn.length<=_;rw[c8];split<;>rw[qau]<;>omega
   obtain⟨id,cx,hO,cl,hid,et⟩ : ∃id cx,zs = .slice (some ⟨id,0,tag 4⟩) M2.length cx/\H.length<=id/\g[id]?=some (.o (.cells (M2.flatMap enc5) 4 true))/\(cx=0∨cx=M2.length+1):=by
    rcases aE with⟨_,e⟩|h
    ·subst e;simp at ap
    ·exact h
   subst hO;cases o with
   |true=>
    refine p_x ?_;refine bp (cs:=[q.2.1]) bI rfl hq rfl (by omega) ?_;refine p_x ?_;refine ac gv ?_;refine p_y ?_;refine bp (cs:=[a.2.1]) bx rfl ha rfl (by omega) ?_;refine p_x ?_;refine ac b8 ?_;refine p_y ?_;refine d8.apL aG be dk (by omega) (by omega) ?_;intro v' Q F Y A ad I;obtain⟨d1,d2⟩:=ci id cx v' Q _ rfl cl hid et F A (λb f=>I.elim (λe=>.inl (e▸f)) λ⟨j,e,cb⟩=>.inr (by rw[f]at e;cases e;exact cb)) rfl;refine p_x ?_;refine ac Y ?_;refine p_y ?_;refine sH (a':=((q.1,v',q.2.2++a.2.2):Sk)) bz d1 rfl hq rfl (by simp) rfl ?_;refine p_x ?_;rw[aL (by omega)];exact d2
   |false=>
    refine p_x ?_;obtain⟨hP,gX,gU,hh,ck,_⟩ : ∃id cx,za = .slice (some ⟨id,0,tag 4⟩) Ma.length cx/\H.length<=id/\g[id]?=some (.o (.cells (Ma.flatMap enc5) 4 true))/\(cx=0∨cx=Ma.length+1):=by
     rcases a3 with⟨_,e⟩|h
     ·subst e;simp at J
     ·exact h
    have ib:id≠hP:=λe=>ax id rfl (by rw[gU,e];rfl);subst gU;have ia:=aw hid;have hT:=aw ck;have ca:Pre g (g++[HO.o (.cells [] 1 true)]):=⟨_,rfl⟩;obtain⟨w1,w2,w3⟩:=oI (o:=3) (k:=1) (cx:=gX) (n:=Ma.length) bz (ca.get ck) ha rfl (by omega);refine ae w1 (ae w2 (ac (bC _ _) ?_));refine cN w3 rfl ?_;rw[show((enc5 a).drop 3).take 1=[a.2.1]from rfl];refine p_x ?_;refine ac b8 ?_;refine p_y ?_;have g9:OwnL (α:=Nat) H.length (g++[HO.o (.cells [] 1 true)]) (.slice (some ⟨g.length,0,tag 1⟩) 0 1) 1 encN []:=OwnL.emp ao be;refine g9.apL aG (by simp;omega) (dk.pre ca) (by simp;omega) (by simp;omega) ?_;intro v1 Q F ex A ad I;rw[qaf]at F;have bt:∀(j:Nat) d,g[j]?=some d->Q[j]?=some d:=λj d X=>A j d (jv X) λe=>by
     have e':g.length=j:=by simpa[blk]using e
     have:=aw X;omega
    have Z:Pre g Q:=xV bt;refine p_x ?_;refine ac ex ?_;refine p_y ?_;obtain⟨u1,u2,u3⟩:=oI (o:=3) (k:=1) (cx:=cx) (n:=M2.length) bz (bt _ _ hid) hq rfl (by omega);refine ae u1 (ae u2 (ac (bC _ _) ?_));refine cN u3 rfl ?_;rw[show((enc5 q).drop 3).take 1=[q.2.1]from rfl];refine p_x ?_;refine ac gv ?_;refine p_y ?_;refine F.apL aG (by have:=Z.len;omega) ((d8.ls aG).pre Z) (by omega) (by omega) ?_;intro v2 g3 hE eB hy hS en;have d9:∀b,blk v1=some b->g.length<=b:=λb f=>by
     rcases I with e|⟨j,e,e'⟩
     ·rw[f]at e;have:b=g.length:=by simpa[blk]using e
      omega
     ·rw[f]at e;cases e;simp at e';omega
    have e0:∀(j:Nat) d,g[j]?=some d->g3[j]?=some d:=λj d X=>hy j d (bt j d X) λe=>by
     have:=d9 j e;have:=aw X;omega
    have g7:∀b,blk v2=some b->blk q.2.1=some b∨g.length<=b:=λb f=>by
     rcases en with e'|⟨j,e',cb⟩
     ·exact .inr (d9 b (e'▸f))
     ·rw[f]at e';cases e';exact .inr (by have:=Z.len;omega)
    obtain⟨d1,d2⟩:=ci id cx v2 g3 _ rfl cl hid et hE (λj d X _=>e0 j d X) g7 rfl;refine p_x ?_;refine ac eB ?_;refine p_y ?_;refine sH (a':=((q.1,v2,a.2.2++q.2.2):Sk)) bz d1 rfl hq rfl (by simp) rfl ?_;refine p_y ?_;have hQ:=ir (F.ls aG);have n1:∀b,g.length≠id:=λ_=>by omega
    refine ae (x:=()) (by
     refine fq (jq ⟨_,_,_,rfl⟩ λi R=>?_) (fq (jq ⟨_,_,_,rfl⟩ λi R=>?_) (fq (jq ⟨_,_,_,rfl⟩ λi R=>?_) (fq (jq hQ λi R=>?_) jE)))
     ·have e:g.length=i:=by simpa[blk]using R
      omega
     ·have e:g.length=i:=by simpa[blk]using R
      omega
     ·have e:g.length=i:=by simpa[blk]using R
      omega
     ·have:=d9 i R;omega) ?_
    refine p_y ?_;rw[aL (by omega)];exact d2
  rw[aD J];refine p_x ?_;obtain⟨⟨c,y⟩,fn⟩:=aH (l:=M) (i:=j) (by omega);obtain⟨N,b7,bm⟩:=hm j _ fn;simp only at b7 bm;have es:=qab b7;have dr:=g5 _ es;have cq:=c0 _ es;simp only at dr cq;have ay:Ms.length<=100:=by
   have:=congrArg List.length O;rw[qaB]at this;have h2:(syS ln s (L.take j)).length<=(L.take j).length:=qcb _ _;rw[qaL]at h2;omega
  have fb:Ma.length<=100:=by
   have:=congrArg List.length ar;rw[qaB]at this;have h2:(awS ln s (L.take j)).length<=(L.take j).length:=by
    unfold awS;rw[qaB];exact qcb _ _
   rw[qaL]at h2;omega
  have dC:=E.len;have hK:=bm.good;refine aQ (hM.pre E) rfl fn ?_;rw[show enc4 (c,y)=[.int .i64 c.1,.int .i64 c.2.1,.int .u8 (Int.ofNat c.2.2),y]from rfl];refine p_x ?_;refine ac hK ?_;refine p_y ?_;have ef:=side28_c (l:=ln) (c:=c) fa (by omega) dr.1 (by omega);simp only[cll,qag,qaf]at ef;refine ah ef ?_;refine p_x ?_;have e1:=syS_succ (ln:=ln) (s:=s) b7;have e2:=awS_succ (ln:=ln) (s:=s) b7;have gy:(if di ln c then(1:Int)else 0)=(if s then 1 else 0)↔di ln c=s:=by
   cases di ln c<;>cases s<;>simp
  have ip:Pre H h:=E;by_cases a0:di ln c=s
  case neg=>
   rw[p_neq_t (λe=>a0 (gy.1 e))];refine p_x ?_;have he:OwnL (α:=Nat) H.length (h++[HO.o (.cells [] 1 true)]) (.slice (some ⟨h.length,0,tag 1⟩) 0 1) 1 encN []:=OwnL.emp ao dC;refine he.apL aG (by simp;omega) (bm.pre (E.app _)) (by simp;omega) (by simp;omega) ?_;intro y1 g1 f2 ca hw e4 el;rw[qaf]at f2;have hB:∀(i:Nat) d,h[i]?=some d->g1[i]?=some d:=λi d R=>hw i d (jv R) λe=>by
    have:h.length=i:=by simpa[blk]using e
    have:=aw R;omega
   have W:Pre h g1:=xV hB;refine p_x ?_;refine ac ca ?_;refine p_y ?_;have bs:=hf.pre W;refine bs.os.ap1 (a:=((c,y1,N):Sk)) bz (by simp at e4;omega) rfl rfl rfl (by
    unfold bh;rw[qal (by omega),qal (by omega)];rfl) ?_
   intro z2 Q F Y A ad I;have g6:∀b,blk y1=some b->h.length<=b:=λb f=>by
    rcases el with e|⟨i,e,e'⟩
    ·rw[f]at e;have:b=h.length:=by simpa[blk]using e
     omega
    ·rw[f]at e;cases e;simp at e';omega
   have dA:=bs.apS (c:=c) f2 (λp E b f a9=>by
    have k1:=g6 b f;have k2:=((hf.pc.1 p E).blk a9).2;omega) F A I
   have Z:Pre H Q:=bH (E.trans W) λi d R ho=>A i d ho λe=>by
    have:=(hf.os.blk e).1;omega
   refine p_x ?_;refine ac Y ?_;refine p_y ?_;rw[aL (by omega)];have b5:fp ln s L r j=fp ln s L r (j+1):=by
    unfold fp;rw[e2,qd1 a0,qaZ]
   rw[b5];exact D (Q,z2,za,Ms++[(c,y1,N)],Ma) J ⟨Z,dA,by
    rw[qa3,O,e1,qd1 a0];rfl,by rw[ar,e2,qd1 a0,qaZ]⟩
  rw[p_neq_f (gy.2 a0)];refine p_x ?_;refine br (bm.pre E) ?_;have h9:0<N.length:=qbd.2 cq.1;refine p_y ?_;rw[p_sub (by show -9223372036854775808<=(N.length:Int) - 1;omega) (by show(N.length:Int) - 1<=9223372036854775807;omega)];refine p_y ?_;refine aS (σ:=HL×Value) N.length (λk t=>[.v t.2,.i ((N.length:Int) - 1 - (k:Int)),.i (.ofNat w),.i (.ofNat v),.v zc,.i (Int.ofNat (if 0∈N.reverse.take k then af r m else fp ln s L r j).1),.i (if 0∈N.reverse.take k then af r m else fp ln s L r j).2.1,.i (if 0∈N.reverse.take k then af r m else fp ln s L r j).2.2,.v (.slice none 0 0)]) (λ_ t=>t.1)
   (λk t=>Pre h t.1/\OwnL h.length t.1 t.2 1 encN (N.reverse.take k)) (j0:=0) (s0:=(h,.slice none 0 0)) (by simp) rfl (qaC _) ⟨.refl _,.nil _ _ _ _⟩ ?_
  rintro k ⟨g,u⟩ hk ⟨W,bd⟩ b6 S;simp only at W bd ⊢;refine p_x ?_;by_cases ap:k<N.length
  case pos=>
   rw[p_geq_t (show(0:Int)<=(N.length:Int) - 1 - (k:Int)by omega)];refine p_x ?_;obtain⟨id,hid⟩:=aH (l:=N) (i:=N.length - 1 - k) (by omega);have eE:N.reverse[k]?=some id:=by rw[List.getElem?_reverse ap];exact hid
   have bl:N.reverse.take (k+1)=N.reverse.take k++[id]:=by rw[qbj,eE];rfl
   have cS:(N.length:Int) - 1 - (k:Int)=Int.ofNat (N.length - 1 - k):=by
    show _=((N.length - 1 - k:Nat):Int);omega
   refine aQ ((bm.pre E).pre W) cS hid ?_;rw[show encN id=[.int .i64 (Int.ofNat id)]from rfl];refine p_x ?_;refine bd.ap1 (a:=id) aG W.len rfl rfl rfl (by
    unfold bh;rw[qaL,qal (by omega),qal (by omega)];rfl) ?_
   intro u2 Q F Y A ad I;have Z:Pre h Q:=bH W λi d R ho=>A i d ho λe=>by
    have:=(bd.blk e).1;omega
   refine p_x ?_;refine ac Y ?_;refine p_y ?_;refine aQ ((bm.pre E).pre Z) cS hid ?_;rw[show encN id=[.int .i64 (Int.ofNat id)]from rfl];refine p_x ?_;rw[←bl]at F;have f1:(N.length:Int) - 1 - (k:Int) - 1=(N.length:Int) - 1 - ((k+1:Nat):Int):=by omega
   by_cases h0:id=0
   ·subst h0;rw[p_eql_t (show Int.ofNat 0=0 from rfl)];refine p_x ?_;refine ah cf ?_;refine p_x ?_;rw[f1];have:=S (Q,u2) ap ⟨Z,F⟩;simp only at this;rw[qd0 (by rw[bl];simp)]at this;exact this
   ·rw[p_eql_f (show ¬Int.ofNat id=0 from λe=>h0 (by exact qbw e))];refine p_x ?_;rw[f1];have:=S (Q,u2) ap ⟨Z,F⟩;simp only at this;have hu:0∈N.reverse.take (k+1)↔0∈N.reverse.take k:=by
     rw[bl,qaz,qaq];exact⟨λh=>h.elim (λh=>h) λh=>absurd h.symm h0,.inl⟩
    rw[ite_cond_congr (propext hu)]at this;exact this
  obtain rfl:k=N.length:=by omega
  rw[p_geq_f (show(N.length:Int) - 1 - (N.length:Int)<0 by omega)];refine p_x ?_;rw[qaH (by simp)]at bd ⊢;have ec:=ik (m:=m) (c:=c) bU.1 (by obtain⟨_,q1,q2,q3,q4,_⟩:=bU;omega) dr.1 (by omega);simp only[cll,mvl,qag,qaf]at ec;refine ah ec ?_;refine p_x ?_;have bs:=(hf.pre W).symm;refine bs.os.ap1 (a:=((al m c,u,N.reverse):Sk)) bz (by have:=W.len;omega) rfl rfl rfl (by
   unfold bh;rw[qal (by omega),qal (by omega)];rfl) ?_
  intro z2 Q F Y A ad I;have gb:OwnL H.length g u 1 encN N.reverse:=by
   rcases bd with e|⟨id,cx,e1,e2,e3⟩
   ·exact .inl e
   ·exact .inr ⟨id,cx,e1,by omega,e3⟩
  have dA:=(bs.apS (c:=al m c) gb (λp E b f a9=>by
   have k1:=(bd.blk f).1;have k2:=((hf.symm.pc.1 p E).blk a9).2;omega) F A I).symm
  have Z:Pre H Q:=bH (E.trans W) λi d R ho=>A i d ho λe=>by
   have:=(hf.oa.blk e).1;omega
  refine p_x ?_;refine ac Y ?_;refine p_y ?_;rw[aL (by omega)];have b5:(if 0∈N.reverse then af r m else fp ln s L r j)=fp ln s L r (j+1):=by
   unfold fp;rw[e2,qd0 a0,qbB,fr];simp only[qaV,List.flatMap_nil,qaZ,qaz,List.mem_reverse];by_cases q1:0∈N<;>by_cases q2:0∈(awS ln s (L.take j)).flatMap Prod.snd<;>simp[q1,q2]
  rw[b5];exact D (Q,zs,z2,Ms,Ma++[(al m c,u,N.reverse)]) J ⟨Z,dA,by rw[O,e1,qd0 a0,qaZ],by
   rw[qa3,ar,e2,qd0 a0,fr];rfl⟩)
def consO_of{w v:Nat}(a:S3 w v){l:Ty}{G:TC}(o:mo w v l G)(q:G 0=idM):ConsO w v l G:=by
 have p:=a.sh;have m:∀(d c:Nat),c<4*w*v->dst w c=d->okM (20*(d:Int)) (G c):=by
  intro d
  induction d using Nat.strongRecOn with
  |_ d x=>
   intro c h u;have f:=qac.1 (allD w v a.1 a.2.1 a.2.2.1 a.2.2.2) c (qae.2 h);unfold tabD at f;rw[qaa,qaS]at f;rcases f.2 with s|t
   ·obtain rfl:=qad s;rw[q];exact xB (by omega)
   ·obtain⟨e,i,g⟩:=qci.1 t;have i:=qae.1 i;cases k:nbr w v c e with
    |none=>rw[k]at g;cases g
    |some n=>
     rw[k]at g;have g:=qad g;obtain⟨b,j,_⟩:=eC p h i k;have r:=x (dst w n) (by omega) n b rfl;rw[o n e c b i j];exact aO (wE p b i j r (by omega)) (by omega)
 refine⟨o,q,λc h=>?_⟩;have f:=qac.1 (allD w v a.1 a.2.1 a.2.2.1 a.2.2.2) c (qae.2 h);unfold tabD at f;rw[qaa]at f;have u:=qc6 f.1;exact aO (m _ c h rfl) (by omega)
def lt_of_nd{l:Ty}(h:SorC l)(d:(l.map bR).Nodup):l.Pairwise λa b=>ltC a b=true:=by
 have g:l.Pairwise λa b=>bR a≠bR b:=qbp.1 d;refine(List.Pairwise.and h g).imp λ{a b} c=>?_;obtain⟨f,i⟩:=c;have f:=yN.1 f;unfold ltC;rw[qaS,qaa];simp only[qdX];have j:¬(a.1=b.1/\a.2.1=b.2.1):=λe=>i (by unfold bR;rw[e.1,e.2]);omega
structure FSt(w v:Nat)(k:Int)(l:Ty)(r:Mv)(G:TC)(L:List Stc):Prop where
 vk:∀c∈l,VK w v c
 so:l.Pairwise λa b=>ltC a b=true
 co:ConsO w v l G
 rk:okM k r
 st:StJ (λc=>al (af (G c) r) (clN w c)) (List.range (4*w*v)) L
 ss:L.Pairwise λa b=>gtS b.1 a.1=true
def VK.k0{w v:Nat}{c:Crs}(h:VK w v c):c.2.2≠0:=by have:=h.2;omega
def pas_pw{w v:Nat}(y:Sh w v){l:Ty}{G:TC}{r:Mv}:(pasL w v l G r (4*w*v)).Pairwise λp q=>¬(p.1=q.1/\p.2.1=q.2.1):=by
 unfold pasL;rw[List.pairwise_flatMap];have m:∀a p,p∈pasA w v l G r a->p.1=a/\∃k,k<3/\pasK w v l G r a k=some p:=λa p e=>by
  obtain⟨k,E,c⟩:=qba.1 e;refine⟨?_,k,qae.1 E,c⟩;unfold pasK at c;split at c
  ·split at c
   ·cases c;rfl
   ·cases c
  ·cases c
 refine⟨λa n=>?_,?_⟩
 ·have n:=qae.1 n;unfold pasA;rw[List.pairwise_filterMap];have u:(List.range 3).Pairwise λi j=>i<j:=qbO;refine(qc2.1 u).imp λ{i j} s=>?_;obtain⟨o,t,F⟩:=s;have o:=qae.1 o;have t:=qae.1 t;intro p e q g f;have e:pasK w v l G r a i=some p:=e;have g:pasK w v l G r a j=some q:=g;have d:∀k p,pasK w v l G r a k=some p->nbr w v a (eK (a%4) k)=some p.2.1:=λk p h=>by
   unfold pasK at h;cases z:nbr w v a (eK (a%4) k)with
   |none=>rw[z]at h;cases h
   |some b=>
    rw[z]at h;simp only at h;split at h
    ·cases h;rfl
    ·cases h
  have x:=d i p e;have c:=d j q g;rw[f.2]at x;have A:=lT y n (fW _ _) x;have B:=lT y n (fW _ _) c;have C:eK (a%4) i=eK (a%4) j:=A.symm.trans B;have:i=j:=by rw[←pI (q:=a%4) o,C,pI t]
  omega
 ·have u:(List.range (4*w*v)).Pairwise λi j=>i<j:=qbO;refine u.imp λ{a b} D p e q g f=>?_;have:=(m a p e).1;have:=(m b q g).1;omega
def ln_of{w v:Nat}(g:S3 w v){k:Int}{l:Ty}{r:Mv}{G:TC}(h:ConsO w v l G)(q:okM k r){p:Pas}(j:p∈pasL w v l G r (4*w*v)):(1<=p.2.2.1/\p.2.2.1<=4)/\-(2*k+32)<=p.2.2.2/\p.2.2.2<=2*k+32/\okM (2*k+32) (ofM p.2.2):=by
 obtain⟨b,i,s,m,o,n,a⟩:=lA j;have f:eT (af (G p.1) r).1 (eK (p.1%4) i)<3:=pJ (fW _ _);have d:=ln_bound (c:=al (af (G p.1) r) (clN w p.1)) (e:=eT (af (G p.1) r).1 (eK (p.1%4) i)) jb f (rS g h q b);rw[←a]at d;refine⟨by rw[a];exact ln_kind jb f,by omega,by omega,aO d.1 (by omega)⟩
def kAt_eq{w v:Nat}{l:Ty}{u k n:Nat}(b:nbr w v u (eK (u%4) k)=some n)(a:u<n):kAt w v l u k=kOf l u (eK (u%4) k):=by
 unfold kAt;rw[b];simp only;rw[qa4 (by omega)]
def FSt.keys{w v:Nat}(M:S3 w v){k:Int}{l:Ty}{r:Mv}{G:TC}{L:List Stc}(h:FSt w v k l r G L){ln:Ln}{o:Bool}{u e n:Nat}(J:u<4*w*v)(H:e<3)(D:nbr w v u e=some n)(s:u<n) :
  ((Int.ofNat u,Int.ofNat e):Ku)∈(newC w v (λa=>af (G a) r) o ln (pasL w v l G r (4*w*v))).map bR↔(isCr l u e=false/\lnC3 (al (af (G u) r) (clN w u)) (eT (af (G u) r).1 e)=ln):=by
 have I:=M.sh;have j:∀c∈l,c.2.2≠0:=λc A=>(h.vk c A).k0;constructor
 ·intro O;obtain⟨c,A,b⟩:=qaA.1 O;unfold newC at A;obtain⟨p,t,rfl⟩:=qaA.1 A;obtain⟨t,m⟩:=qaM.1 t;have m:=of_decide_eq_true m;obtain⟨F,i,P,y,z,f,x⟩:=lA t;have C:=lT I F (fW _ _) y;unfold bR crN at b;simp only[qcp]at b;have B:p.1=u:=qbw b.1;have q:edN w v p.1 p.2.1=e:=qbw b.2;rw[C]at q;subst B;rw[q]at x;refine⟨?_,x.symm.trans m⟩;rw[←qaU,←qk j];intro E;rw[kAt_eq y z,q]at f;exact E f
 ·rintro⟨d,N⟩;have g:eK (u%4) (eK (u%4) e)=e:=pI H;have f:pasK w v l G r u (eK (u%4) e)=some (u,n,ln):=by
   unfold pasK;rw[g,D];simp only;have K:kAt w v l u (eK (u%4) e)=0:=by
    rw[kAt_eq (n:=n) (by rw[g];exact D) s,g];rcases Int.lt_or_le 0 (kOf l u e)with B|B
    ·have:=(qk (l:=l) j (u:=u) (e:=e)).1 (by omega);rw[this]at d;cases d
    ·rcases Int.lt_or_le (kOf l u e) 0 with q|q
     ·have:=(qk (l:=l) j (u:=u) (e:=e)).1 (by omega);rw[this]at d;cases d
     ·omega
   rw[qd0 ⟨s,K⟩,N]
  have t:((u,n,ln):Pas)∈pasL w v l G r (4*w*v):=by
   unfold pasL;exact qa8.2 ⟨u,qae.2 J,qba.2 ⟨eK (u%4) e,qae.2 (fW _ _),f⟩⟩
  refine qaA.2 ⟨crN w v (λa=>af (G a) r) o (u,n,ln),?_,?_⟩
  ·unfold newC;exact qaA.2 ⟨_,qaM.2 ⟨t,qdZ rfl⟩,rfl⟩
  ·unfold bR crN;simp only;rw[lT I J H D]
def rP{a b:Cl}(h:gtS a b=false)(c:a≠b):gtS b a=true:=by
 have h:=yO.1 h;refine yP.2 ?_;obtain⟨x,y,q⟩:=a;obtain⟨f,g,d⟩:=b;simp only at h ⊢;have i:¬(x=f/\y=g/\q=d):=λe=>c (by rw[e.1,e.2.1,e.2.2]);omega
def FSt.fold{w v:Nat}(K:S3 w v){k:Int}(hk:0<=k){l:Ty}{r:Mv}{G:TC}{L:List Stc}(h:FSt w v k l r G L){ln:Ln}{s o:Bool}(ad:∃p∈pasL w v l G r (4*w*v),p.2.2=ln)
  {l':Ty} (t:l'.Perm (l++newC w v (λa=>af (G a) r) o ln (pasL w v l G r (4*w*v)))) (a1:SorC l') {U:List Stc} (P:U.Perm (fdL' ln s o L)) (aE:U.Pairwise λa b=>gtS a.1 b.1=false) :
  FSt w v (3*k+32) l' (fp ln s L r L.length) (fdG w ln s G r) U:=by
 have I:=K.sh;obtain⟨p0,ap,R⟩:=ad;have Y:=ln_of K h.co h.rk ap;rw[R]at Y;have O:=Y.2.2.2;have X:∀c,c<4*w*v->(G c).1<8:=λc d=>(h.co.ok c d).1;have m:=fold_cons (l':=l') I h.co.g X h.rk.1 Y.1 (s:=s) λu e n hu he hn H=>by
  have h1:=h.keys K (ln:=ln) (o:=o) hu he hn H;rw[show isCr l' u e=decide (((Int.ofNat u,Int.ofNat e):Ku)∈l'.map bR)from rfl,qdX,(t.map bR).mem_iff,qa3,qaz,h1];rw[show(isCr l u e=true)=(((Int.ofNat u,Int.ofNat e):Ku)∈l.map bR)by unfold isCr;rw[qdX]]
 have Z:=consO_of K m.1 m.2;have hN:0<4*w*v:=(sh_N I).1;have ay:fp ln s L r L.length=fdS ln s (af (G 0) r) (clN w 0):=by
  unfold fp fdS;rw[qbD,h.co.z,jS h.rk.1];have B:0∈(awS ln s L).flatMap Prod.snd↔di ln (al r (clN w 0))=s:=by
   have C:∀x∈L,∀c∈x.2,c=0->x.1=al r (clN w 0):=λx E c d J=>by
    have:=h.st.at' x E c d;simp only[J,h.co.z]at this;rw[jS h.rk.1]at this;exact this.symm
   constructor
   ·intro hm;obtain⟨a,V,J⟩:=qa8.1 hm;obtain⟨x,E,rfl⟩:=qaA.1 V;obtain⟨E,a3⟩:=qaM.1 E;have A:0∈x.2:=by simpa using J
    rw[←C x E 0 A rfl];exact of_decide_eq_true a3
   ·intro a0;have J:0∈L.flatMap Prod.snd:=h.st.pm.mem_iff.2 (qae.2 hN);obtain⟨x,E,A⟩:=qa8.1 J;refine qa8.2 ⟨(al (ofM ln) x.1,x.2.reverse),qaA.2 ⟨x,qaM.2 ⟨E,qdZ ?_⟩,rfl⟩,by simpa using A⟩;rw[C x E 0 A rfl];exact a0
  by_cases d:di ln (al r (clN w 0))=s
  ·rw[qd0 (B.2 d),qd0 d]
  ·rw[qd1 (λe=>d (B.1 e)),qd1 d]
 have a2:StJ (λc=>al (af (fdG w ln s G r c) (fp ln s L r L.length)) (clN w c)) (List.range (4*w*v)) (fdL' ln s o L):=h.st.fold λc d=>by
  have d:=qae.1 d;have hq:(clN w c).2.2<4:=(dc I d).2.2.2.2;rw[ay,fdG_then];unfold fdS;split
  ·rw[yZ fE (uz _) hq]
  ·rfl
 have D:=a2.perm P;have T:∀c∈newC w v (λa=>af (G a) r) o ln (pasL w v l G r (4*w*v)),VK w v c:=λc d=>by
  unfold newC at d;obtain⟨p,t,rfl⟩:=qaA.1 d;obtain⟨t,_⟩:=qaM.1 t;obtain⟨y,i,hi,f,Q,a5,P⟩:=lA t;have N:=lT I y (fW _ _) f;have a4:(crN w v (λa=>af (G a) r) o p).2.2=1∨(crN w v (λa=>af (G a) r) o p).2.2=2:=by
   unfold crN;simp only;split
   ·exact .inr rfl
   ·exact .inl rfl
  refine⟨⟨p.1,edN w v p.1 p.2.1,p.2.1,rfl,rfl,y,by rw[N];exact fW _ _,by rw[N];exact f,Q,by omega,by omega⟩,by omega,by omega⟩
 have ag:((l++newC w v (λa=>af (G a) r) o ln (pasL w v l G r (4*w*v))).map bR).Nodup:=by
  rw[qa3,qbV];refine⟨lh h.so,?_,λa V b F e=>?_⟩
  ·unfold newC;rw[qbU,List.Nodup,qbp];refine(qc2.1 ((pas_pw I (l:=l) (G:=G) (r:=r)).filter _)).imp λ{p q} ar e=>?_;obtain⟨t,hq,an⟩:=ar;obtain⟨y,i,hi,f,_⟩:=lA (qaM.1 t).1;obtain⟨ax,j,hj,S,_⟩:=lA (qaM.1 hq).1;simp only[Function.comp,bR,crN,qcp]at e;have e1:p.1=q.1:=qbw e.1;have W:edN w v p.1 p.2.1=edN w v q.1 q.2.1:=qbw e.2;rw[lT I y (fW _ _) f,lT I ax (fW _ _) S]at W;rw[e1]at f W;rw[W,S]at f;exact an ⟨e1,(qat f).symm⟩
  ·subst e;obtain⟨c,d,rfl⟩:=qaA.1 F;obtain⟨⟨u,e,n,q1,q2,hu,he,hn,H,_⟩,_⟩:=T c d;have hk:bR c=((Int.ofNat u,Int.ofNat e):Ku):=by unfold bR;rw[q1,q2]
   rw[hk]at V F;have:=((h.keys K hu he hn H).1 F).1;unfold isCr at this;exact of_decide_eq_false this V
 refine⟨λc d=>?_,lt_of_nd a1 ((t.map bR).nodup_iff.2 ag),Z,?_,D,?_⟩
 ·rcases qaz.1 (t.mem_iff.1 d)with d|d
  ·exact h.vk c d
  ·exact T c d
 ·unfold fp;split
  ·exact aO (dJ h.rk O) (by omega)
  ·exact aO h.rk (by omega)
 ·have h2:U.Pairwise λa b=>a.1≠b.1:=qbp.1 D.nd;exact(List.Pairwise.and aE h2).imp λ{a b} M=>rP M.1 M.2
def stl_of{n0:Nat}{h:HL}{z:Value}{a:List Sk}(e:LsH h z 4 enc5 a)(d:Pcs n0 h a):StL h z (a.map stS):=by
 refine⟨a.map λs=>(s.1,s.2.1),ls45 e,by simp,λi m b=>?_⟩;rw[qan]at b;cases c:a[i]? with
 |none=>rw[c]at b;cases b
 |some q=>
  rw[c]at b;cases b;exact⟨q.2.2,by rw[qan,c];rfl,(d.1 q (qab c)).ls aG⟩
def len_flat{L:List Stc}(h:∀s∈L,s.2≠[]):L.length<=(L.flatMap Prod.snd).length:=by
 induction L with
 |nil=>simp
 |cons a L c=>
  rw[qaV,qau,qa0];have d:=qbd.2 (h a qaN);have e:=c λs b=>h s (qav _ b);omega
def len_part{L:List Stc}{a:Stc}(h:a∈L):a.2.length<=(L.flatMap Prod.snd).length:=by
 induction L with
 |nil=>cases h
 |cons b L c=>
  rw[qaV,qau];rcases qax.1 h with rfl|h
  ·omega
  ·have:=c h;omega
section
variable {w v:Nat} {k:Int} {l:Ty} {r:Mv} {G:TC} {L:List Stc}
def FSt.tot(h:FSt w v k l r G L):(L.flatMap Prod.snd).length=4*w*v:=by rw[h.st.pm.length_eq,List.length_range]
def FSt.lenL(h:FSt w v k l r G L):L.length<=4*w*v:=by have:=len_flat h.st.ne;rw[h.tot]at this;exact this
def FSt.lenP(h:FSt w v k l r G L){a:Stc}(b:a∈L):a.2.length<=4*w*v:=by have:=len_part b;rw[h.tot]at this;exact this
def FSt.pos(c:S3 w v)(h:FSt w v k l r G L):0<L.length:=by
 have d:=(sh_N c.sh).1;have b:=h.tot;cases L with
 |nil=>simp at b;omega
 |cons a L=>simp
def FSt.idlt(h:FSt w v k l r G L){a:Stc}(b:a∈L){c:Nat}(d:c∈a.2):c<4*w*v:=qae.1 (h.st.pm.mem_iff.1 (qa8.2 ⟨a,b,d⟩))
def FSt.cell(d:S3 w v)(h:FSt w v k l r G L){a:Stc}(e:a∈L):a.1.2.2<4/\-(k+15)<=a.1.1/\a.1.1<=k+15/\-(k+15)<=a.1.2.1/\a.1.2.1<=k+15:=by
 obtain⟨c,g⟩:=List.exists_mem_of_ne_nil _ (h.st.ne a e);have f:al (af (G c) r) (clN w c)=a.1:=h.st.at' a e c g;have b:=rS d h.co h.rk (h.idlt e g);rw[f]at b;have d:a.1.2.2<4:=by rw[←f];exact jb
 exact⟨d,b.1,b.2.1,b.2.2.1,b.2.2.2⟩
def FSt.mono(h:FSt w v k l r G L){a:Int}(b:k<=a):FSt w v a l r G L:=⟨h.vk,h.so,h.co,aO h.rk b,h.st,h.ss⟩
end
def tabO(w n:Nat):Bool:=(List.range n).all λj=>(List.range j).all λi=>gtS (clN w j) (clN w i)
def allO:∀w:Nat,1<=w->w<=3->tabO w 36=true:=by
 have a:((List.range 3).all λw=>tabO (w+1) 36)=true:=by decide +kernel
 intro w b c;have:=qac.1 a (w - 1) (qae.2 (by omega))
 rwa [show w - 1+1=w by omega]at this
def ord_c{w v:Nat}(a:S3 w v){i j:Nat}(b:i<j)(g:j<4*w*v):gtS (clN w j) (clN w i)=true:=by
 obtain⟨c,d,e,f⟩:=a.n;have:=qac.1 (allO w a.1 a.2.1) j (qae.2 (by omega));exact qac.1 this i (qae.2 b)
def fst_flat{w v:Nat}(o:S3 w v):FSt w v 0 [] idM (λ_=>idM) (rK w v):=by
 have k:=o.sh;have f:(rK w v).Pairwise λa b=>gtS b.1 a.1=true:=by
  unfold rK;rw[qbp];have p:(List.range (4*w*v)).Pairwise λi j=>i<j:=qbO;exact(qc2.1 p).imp λ{a b} h=>ord_c o h.2.2 (qae.1 h.2.1)
 refine⟨λc d=>(by cases d),.nil,⟨λc e n _ _ _=>?_,rfl,λc _=>xB (by omega)⟩,xB (by omega),⟨?_,λs m c d=>?_,λs k=>?_,?_⟩,f⟩
 ·unfold acM isCr;simp
 ·rw[List.Nodup,qbp];refine f.imp λ{a b} h e=>?_;have:=yP.1 h;rw[e]at this;omega
 ·obtain⟨i,g,rfl⟩:=qaA.1 m;have g:=qae.1 g;have d:c=i:=by simpa using d
  subst d;show al (af idM idM) (clN w c)=clN w c;rw[nj (by decide),move_idC (dc k g).2.2.2.2]
 ·obtain⟨i,g,rfl⟩:=qaA.1 k;simp
 ·have:(rK w v).flatMap Prod.snd=List.range (4*w*v):=by
   unfold rK;rw[qcj]
   induction List.range (4*w*v)with
   |nil=>rfl
   |cons a l q=>rw[qaV,q];rfl
  rw[this]
def flatP_c{w v:Nat}(m:S3 w v){H:HL} :
  ∃x h' d,aB cc ab 20 [.i (.ofNat w),.i (.ofNat v)] (absH aa H) [.i (.ofNat w),.i (.ofNat v),.v dN,.i 0,.i 0,.i 0,.v x] (absH aa h')/\Pre H h'/\LsH h' x 4 enc5 d/\Pcs H.length h' d/\d.map stS=rK w v:=by
 have U:=m.sh;obtain⟨Y,Z,b3,b4⟩:=m.n;have hN:=sh_N U;have I:=u20 (ls:=[.i (.ofNat w),.i (.ofNat v)]) (K:=λM h'=>∃x d,M=[.i (.ofNat w),.i (.ofNat v),.v dN,.i 0,.i 0,.i 0,.v x]/\Pre H h'/\LsH h' x 4 enc5 d/\Pcs H.length h' d/\d.map stS=rK w v) (H:=H) rfl (by
  unfold f20;simp only[qxh];refine p_x ?_;refine aS (σ:=HL×Value×List Sk) (4*w*v) (λj s=>[.i (Int.ofNat j),.i (.ofNat w),.i (.ofNat v),.v dN,.i 0,.i 0,.i 0,.v s.2.1]) (λ_ s=>s.1)
   (λj s=>Pre H s.1/\FW H.length s.1 s.2.1 (.slice none 0 0) (.slice none 0 0) s.2.2 [] []/\s.2.2.map stS=(List.range j).map λi=>(clN w i,[i]))
   (j0:=0) (s0:=(H,.slice none 0 0,[])) rfl rfl (qaC _) ⟨.refl _,⟨.nil _ _ _ _,.nil _ _ _ _,.nil _ _ _ _,(λb z=>by cases z),.nil _ _⟩,rfl⟩ ?_
  rintro j ⟨h,x,d⟩ hj ⟨y,l,f⟩ N k;simp only at y l f ⊢;refine p_x ?_;rw[mul_4 (by omega)];refine p_y ?_;rw[qu (by omega)];refine p_y ?_;by_cases g:j<4*w*v
  case neg=>
   obtain rfl:j=4*w*v:=by omega
   rw[aC (qaj _)];refine p_x ?_;exact⟨x,d,rfl,y,l.os.ls bz,by simpa using l.pc,f⟩
  rw[aD g];refine p_x ?_;refine ah (fU m g) ?_;unfold cll;refine p_x ?_;have S:d.length=j:=by
   have:=congrArg List.length f;simpa using this
  have D:=y.len;have u:Pre h (h++[HO.o (.cells [.int .i64 (Int.ofNat j)] 1 true)]):=⟨_,rfl⟩;have r:=l.pre u;refine r.os.ap1 (a:=((clN w j,.slice (some ⟨h.length,0,tag 1⟩) 1 2,[j]):Sk)) bz (by simp;omega) rfl rfl rfl (by
   unfold bh;rw[qal (by omega),qal (by omega)];rfl) ?_
  intro X J E C t L q;have V:OwnL H.length (h++[HO.o (.cells [.int .i64 (Int.ofNat j)] 1 true)]) (.slice (some ⟨h.length,0,tag 1⟩) 1 2) 1 encN [j]:=.inr ⟨h.length,2,rfl,D,ao,.inr rfl⟩;have B:=r.apS (c:=clN w j) V (λp F b z A=>by
   have e:h.length=b:=by simpa[blk]using z
   have:=((l.pc.1 p F).blk A).2;omega) E t q
  have G:Pre H J:=bH (y.trans u) λi W hi T=>t i W T λe=>by
   have:=(l.os.blk e).1;omega
  refine p_x ?_;refine ac C ?_;refine p_y ?_;rw[aL (by omega)];exact k (J,X,d++[_]) g ⟨G,B,by
   rw[qa3,f,qcs,qa3];rfl⟩)
 obtain⟨M,h',O,x,d,rfl,m,P,Q,R⟩:=I;exact⟨x,h',d,O,m,P,Q,R⟩
structure StH(w v:Nat)(n0:Nat)(h:HL)(k:Int)(z:Value)(r:Mv)(zs:Value)(l:Ty)(G:TC)(Ms:List Sk):Prop where
 cr:LsH h z 3 encC l
 st:FSt w v k l r G (Ms.map stS)
 ss:LsH h zs 4 enc5 Ms
 pc:Pcs n0 h Ms
def StH.pre{w v n0:Nat}{h h':HL}{k:Int}{z:Value}{r:Mv}{d:Value}{l:Ty}{G:TC}{c:List Sk}(a:StH w v n0 h k z r d l G c)(b:Pre h h'):StH w v n0 h' k z r d l G c:=
 ⟨a.cr.pre b,a.st,a.ss.pre b,a.pc.keep λ_ _ _ _ e _=>b.get e⟩
def kB:Nat->Int
 |0=>0
 |n+1=>3*kB n+32
def kB_le{j:Nat}(h:j<=5):0<=kB j/\kB j<=3872:=by
 have:j=0∨j=1∨j=2∨j=3∨j=4∨j=5:=by omega
 rcases this with rfl|rfl|rfl|rfl|rfl|rfl<;>simp[kB]
def kB_le4{j:Nat}(h:j<=4):kB j<=1280:=by
 have:j=0∨j=1∨j=2∨j=3∨j=4:=by omega
 rcases this with rfl|rfl|rfl|rfl|rfl<;>simp[kB]
def fold_step{w v n0:Nat}(m:S3 w v){h:HL}{j:Nat}(T:j<=4){z N:Value}{r:Mv}{l:Ty}{G:TC}{P:List Sk}(d:StH w v n0 h (kB j) z r N l G P)(J:n0<=h.length)(hl:l.length<=108*j){ln:Ln}(I:∃p∈pasL w v l G r (4*w*v),p.2.2=ln)(s o:Bool) :
  ∃D C f l' O k h',aB cc ab 22 ([.i (.ofNat w),.i (.ofNat v),.v z]++mvl r++[.v N,.i (.ofNat ln.1),.i ln.2,.i (if s then 1 else 0),.b o]) (absH aa h) [.i (.ofNat w),.i (.ofNat v),.v D,.i (Int.ofNat C.1),.i C.2.1,.i C.2.2,.v f] (absH aa h')/\Pre h h'/\StH w v n0 h' (kB (j+1)) D C f l' O k/\l'.length<=108*(j+1):=by
 obtain⟨W,X,Y,Z⟩:=m.n;have F:=kB_le (show j<=5 by omega);have M:=kB_le4 T;obtain⟨V,q,g⟩:=I;have L:=ln_of m d.st.co d.st.rk q;rw[g]at L;have y:=d.st.vk;obtain⟨rs,h',c,S⟩:=fold28_c m d.cr (λc E=>(y c E).1) (λc E=>(y c E).k0) (by omega) (aO d.st.rk (by omega)) d.st.co (stl_of d.ss d.pc) (d.st.pos m) (by have:=d.st.lenL;omega) (λa B=>by have:=d.st.cell m B;omega) (λa B=>⟨d.st.st.ne a B,by have:=d.st.lenP B;omega⟩) L.1 (by omega) s o;obtain⟨D,f,l',k,rfl,U,H,e,K,A,t,u,x⟩:=S;have R:=d.st.fold m (s:=s) (o:=o) F.1 ⟨V,q,g⟩ e K u (qbp.2 x);refine⟨D,_,f,l',_,k,h',c,U,⟨H,R,A,t.low J⟩,?_⟩;have Q:=e.length_eq;rw[qau]at Q;have h2:(newC w v (λa=>af (G a) r) o ln (pasL w v l G r (4*w*v))).length<=(pasL w v l G r (4*w*v)).length:=by
  unfold newC;rw[qaB];exact qcb _ _
 have h4:=ko (w:=w) (v:=v) (l:=l) (G:=G) (r:=r) (n:=4*w*v);omega
def perm_swap{l:Tx}{i j:Nat}{a b:Nat}(c:l[i]?=some a)(d:l[j]?=some b):((l.set i b).set j a).Perm l:=by
 have e:=aw c;have f:=aw d;have:=List.set_set_perm e f;rw[qap e]at c;rw[qap f]at d;cases c;cases d;exact this
def StJ.setp{i:Nat->Cl}{X:Tx}{L:List Stc}(h:StJ i X L){k:Nat}{c:Cl}{ly b:Tx}(g:L[k]?=some (c,ly))(j:b.Perm ly):StJ i X (L.set k (c,b)):=by
 have m:=qab g;have f:(L.set k (c,b)).map Prod.fst=L.map Prod.fst:=by
  rw[qb4];exact bD (by rw[qan,g];rfl)
 refine⟨by rw[f];exact h.nd,λs d x n=>?_,λs d=>?_,?_⟩
 ·rcases qbh d with d|rfl
  ·exact h.at' s d x n
  ·exact h.at' _ m x (j.mem_iff.1 n)
 ·rcases qbh d with d|rfl
  ·exact h.ne s d
  ·intro e;simp only at e;subst e;exact h.ne _ m j.symm.eq_nil
 ·refine List.Perm.trans ?_ h.pm;have o:=(dM (a:=(c,b)) g).flatMap_right Prod.snd;have l:=(dM (a:=(c,ly)) g).flatMap_right Prod.snd;rw[bD g]at l;refine o.trans (List.Perm.trans ?_ l.symm);rw[qaV,qaV];exact j.append_right _
def FSt.setp{w v:Nat}{k:Int}{l:Ty}{r:Mv}{G:TC}{L:List Stc}(h:FSt w v k l r G L){i:Nat}{c:Cl}{ly d:Tx}(g:L[i]?=some (c,ly))(j:d.Perm ly):FSt w v k l r G (L.set i (c,d)):=by
 refine⟨h.vk,h.so,h.co,h.rk,h.st.setp g j,?_⟩;have e:(L.set i (c,d)).map Prod.fst=L.map Prod.fst:=by
  rw[qb4];exact bD (by rw[qan,g];rfl)
 have f:(L.map Prod.fst).Pairwise λa b=>gtS b a=true:=qbp.2 h.ss;rw[←e]at f;exact qbp.1 f
def flat5_set{a:List Sk}{m:Nat}{q:Sk}(c:a[m]?=some q){b:Tx}:(a.set m (q.1,q.2.1,b)).flatMap enc5=a.flatMap enc5:=by
 rw[qdG,qdG,qb4]
 congr 1
 exact bD (by rw[qan,c];rfl)
def StH.put{w v n0:Nat}{h:HL}{k:Int}{z:Value}{r:Mv}{L:Value}{l:Ty}{G:TC}{s:List Sk}(n:StH w v n0 h k z r L l G s){m:Nat}{q:Sk}(t:s[m]?=some q){id cx:Nat}(K:q.2.1 = .slice (some ⟨id,0,tag 1⟩) q.2.2.length cx)(hid:h[id]?=some (.o (.cells (q.2.2.flatMap encN) 1 true)))(u:n0<=id)(D:cx=0∨cx=q.2.2.length+1){d:Tx}(H:d.Perm q.2.2) :
  StH w v n0 (putE h id 1 encN d) k z r L l G (s.set m (q.1,q.2.1,d)):=by
 have J:=n.pc.1 q (qab t);have y:=J.ls aG;have B:blk q.2.1=some id:=by rw[K];rfl
 have E:∀(j:Nat) o,h[j]?=some o->j≠id->(putE h id 1 encN d)[j]?=some o:=λj o g F=>by
  unfold putE;rw[qaD (qbR F)];exact g
 refine⟨n.cr.keep λj o g f=>E j o g λe=>ls_ne (e:=3) (e':=1) n.cr y (by decide) f (by rw[B,e]),?_,?_,?_⟩
 ·rw[qb4];exact n.st.setp (c:=q.1) (ly:=q.2.2) (by rw[qan,t];rfl) H
 ·have A:=n.ss.keep (h':=putE h id 1 encN d) λj o g f=>E j o g λe=>ls_ne (e:=4) (e':=1) n.ss y (by decide) f (by rw[B,e]);refine⟨λa _=>rfl,?_⟩;rw[flat5_set t,qay];exact A.2
 ·have I:s.Perm (q :: s.eraseIdx m):=by
   have:=dM (a:=q) t
   rwa [bD t]at this
  have A:=n.pc.perm I.symm;have x:=qbb.1 A.2;have M:Pcs n0 (putE h id 1 encN d) (s.eraseIdx m):=(A.sub (qcV _ _)).keep λp i j o g f=>E j o g λe=>x.1 p i id B (by rw[f,e]);refine(M.cons (p:=(q.1,q.2.1,d)) ?_ λp i b C=>x.1 p i b C).perm (dM t);exact .inr ⟨id,cx,by rw[H.length_eq];exact K,u,bF (aw hid),by rw[H.length_eq];exact D⟩
def SofR(w v:Nat)(H:HL)(c:TB)(h':HL):Prop:=
 ∃z r a l G b,c=[.i (.ofNat w),.i (.ofNat v),.v z,.i (Int.ofNat r.1),.i r.2.1,.i r.2.2,.v a]/\Pre H h'/\l.length<=432/\StH w v H.length h' 1280 z r a l G b
def bit_of{a:Int}(h:0<=a/\a<=255):a%2=(if decide (a%2=1)then 1 else 0):=by
 by_cases b:a%2=1
 ·rw[qdZ b,qd0 rfl];exact b
 ·rw[qdY b,qd1 (by simp)];omega
def oT{a:Int}{n:Nat}(h:0<=a)(b:0<n):a.toNat%n<n/\a%Int.ofNat n=Int.ofNat (a.toNat%n):=by
 refine⟨qck _ b,?_⟩;obtain⟨m,rfl⟩:=qbY h;rfl
def sof24_c{P O:Int}(b5:0<=P/\P<=255)(b0:0<=O/\O<=255){H:HL}{xf xw:Value}{Fl Sw:List Tr8}(hF:LsH H xf 3 pL Fl)(a6:∀a∈Fl,okT8 a)(hS:LsH H xw 3 pL Sw)(a7:∀a∈Sw,okT8 a) :
  ∃w v rs h',S3 w v/\aB cc ab 6 [.i P,.i O,.v xf,.v xw] (absH aa H) rs (absH aa h')/\SofR w v H rs h':=by
 obtain⟨W,hW⟩ : ∃W:Nat,1+P%3=Int.ofNat W:=⟨(1+P%3).toNat,by show _=(((1+P%3).toNat:Nat):Int);omega⟩;obtain⟨V,hV⟩ : ∃V:Nat,1+O%3=Int.ofNat V:=⟨(1+O%3).toNat,by show _=(((1+O%3).toNat:Nat):Int);omega⟩;have M:S3 W V:=by
  have a1:1+P%3=(W:Int):=hW;have a2:1+O%3=(V:Int):=hV;exact⟨by omega,by omega,by omega,by omega⟩
 obtain⟨b1,b2,b3,b4⟩:=M.n;have hN:=sh_N M.sh;refine⟨W,V,?_⟩;obtain⟨x0,X,U,c0,bs,bP,ay,an⟩:=flatP_c M (H:=H);have a3:StH W V H.length X (kB 0) dN idM x0 [] (λ_=>idM) U:=⟨.nil _ _ _,by rw[an];exact fst_flat M,bP,ay⟩;have bS:=x6 (ls:=[.i P,.i O,.v xf,.v xw]) (K:=SofR W V H) (H:=H) (glsI (glsI (glsV hF.good (glsV hS.good gls0)))) (by
  unfold f6;simp only[qxh];simp (disch:=omega) only[↓qxn,↓qxc,↓qxa];rw[hW,hV];refine ai c0 ?_;simp (disch:=omega) only[↓qxn,↓qxc,↓qxa];refine iM (λls h=>∃z r L l G g,ls=[.i (.ofNat W),.i (.ofNat V),.v z,.i (Int.ofNat r.1),.i r.2.1,.i r.2.2,.v L]/\Pre H h/\l.length<=432/\StH W V H.length h 1280 z r L l G g) ?_ ?_
  case refine_2=>
   intro jj E;refine aS (σ:=HL×Value×Mv×Value×List Crs×(Nat->Mv)×List Sk) 4 (λj t=>[.i (Int.ofNat j),.i (.ofNat W),.i (.ofNat V),.v t.2.1,.i (Int.ofNat t.2.2.1.1),.i t.2.2.1.2.1,.i t.2.2.1.2.2,.v t.2.2.2.1]) (λ_ t=>t.1)
    (λj t=>Pre H t.1/\t.2.2.2.2.1.length<=108*j/\StH W V H.length t.1 (kB j) t.2.1 t.2.2.1 t.2.2.2.1 t.2.2.2.2.1 t.2.2.2.2.2.1 t.2.2.2.2.2.2)
    (j0:=0) (s0:=(X,dN,idM,x0,[],(λ_=>idM),U)) rfl rfl (qaC _) ⟨bs,by simp,a3⟩ ?_
   rintro j ⟨h,z,r,L,l,G,g⟩ hj ⟨d,F,b⟩ a5 f;simp only at d F b ⊢;have ad:=kB_le4 hj;have A:∀h',Pre h h'->jj [.i (.ofNat W),.i (.ofNat V),.v z,.i (Int.ofNat r.1),.i r.2.1,.i r.2.2,.v L] h':=λh' I=>E _ _ ⟨z,r,L,l,G,g,rfl,d.trans I,by omega,let q:=b.pre I;⟨q.cr,q.st.mono ad,q.ss,q.pc⟩⟩;refine p_x ?_;refine br (hF.pre d) ?_;by_cases s:j<Fl.length
   case neg=>
    rw[aC (by omega)];refine p_x ?_;exact A h (.refl _)
   rw[aD s];refine p_x ?_;by_cases be:j<4
   case neg=>
    rw[p_lss_f (show(4:Int)<=Int.ofNat j by show(4:Int)<=(j:Int);omega)];refine p_x ?_;exact A h (.refl _)
   rw[p_lss_t (show Int.ofNat j<4 by show(j:Int)<4;omega)];refine p_x ?_;have bX:=kB_le (show j<=5 by omega);obtain⟨zl,h1,k,c1,B,S,bn,bm⟩:=lines_c M b.cr (b.ss.good) (λc hc=>(b.st.vk c hc).1) (λc hc=>(b.st.vk c hc).k0) (by omega) (aO b.st.rk (by omega)) b.st.co;simp only[mvl,qag,qaf]at c1;refine ai c1 ?_;refine p_x ?_;refine br S ?_;by_cases X:k.length=0
   ·rw[p_eql_t (show Int.ofNat k.length=0 by rw[X];rfl)];refine p_x ?_;exact A h1 B
   rw[p_eql_f (show ¬Int.ofNat k.length=0 from λe=>X (qbw e))];refine p_x ?_;obtain⟨a,D⟩:=aH s;obtain⟨k1,k2,k3,k4,k5,k6⟩:=a6 a (qab D);have Q:=(hF.pre d).pre B;refine qG (o:=0) (cs:=[.int .u8 a.1]) Q rfl D (by omega) rfl ?_;refine p_x ?_;refine br S ?_;obtain⟨u,x⟩:=oT k1 (show 0<k.length by omega);rw[p_rem_nn (by omega) (show(0:Int)<Int.ofNat k.length by show(0:Int)<(k.length:Int);omega)];rw[x];refine p_y ?_;obtain⟨y,hy⟩:=aH u;refine aQ S rfl hy ?_;rw[show rz y=[.int .u8 (Int.ofNat y.1),.int .i64 y.2]from rfl];refine p_x ?_;refine qG (o:=1) (cs:=[.int .u8 a.2.1]) Q rfl D (by omega) rfl ?_;refine p_x ?_;refine qG (o:=2) (cs:=[.int .u8 a.2.2]) Q rfl D (by omega) rfl ?_;refine p_x ?_;rw[bit_of ⟨k3,k4⟩];obtain⟨z',r',bU,l',G',p,h2,c2,bt,a4,ag⟩:=fold_step M (j:=j) (by omega) (b.pre B) (by have:=(d.trans B).len;omega) F (bm y (qab hy)) (decide (a.2.1%2=1)) (decide (a.2.2%2=1));simp only[mvl,qag,qaf]at c2;refine qz λt ht=>?_;subst ht;refine ai c2 ?_;refine p_x ?_;rw[aL (by omega)];exact f (h2,z',r',bU,l',G',p) be ⟨(d.trans B).trans bt,ag,a4⟩
  rintro ls h ⟨z,r,L,l,G,g,rfl,d,F,b⟩;simp (disch:=omega) only[↓qxn,↓qxc,↓qxa];refine iM (λls h'=>∃p,ls=[]/\Pre H h'/\StH W V H.length h' 1280 z r L l G p) ?_ ?_
  ·rintro ls h' ⟨p,rfl,I,a0⟩;refine p_x ?_;exact⟨z,r,L,l,G,p,rfl,I,F,a0⟩
  intro jj E;refine aS (σ:=HL×List Sk) 6 (λj t=>[.i (Int.ofNat j)]) (λ_ t=>t.1) (λj t=>Pre H t.1/\StH W V H.length t.1 1280 z r L l G t.2) (j0:=0) (s0:=(h,g)) rfl rfl (qaC _) ⟨d,b⟩ ?_;clear d b;rintro j ⟨h,g⟩ hj ⟨d,b⟩ a5 f;simp only at d b ⊢;refine p_x ?_;refine br (hS.pre d) ?_;by_cases s:j<Sw.length
  case neg=>
   rw[aC (by omega)];refine p_x ?_;exact E _ _ ⟨g,rfl,d,b⟩
  rw[aD s];refine p_x ?_;by_cases bl:j<6
  case neg=>
   rw[p_lss_f (show(6:Int)<=Int.ofNat j by show(6:Int)<=(j:Int);omega)];refine p_x ?_;exact E _ _ ⟨g,rfl,d,b⟩
  rw[p_lss_t (show Int.ofNat j<6 by show(j:Int)<6;omega)];refine p_x ?_;obtain⟨a,D⟩:=aH s;obtain⟨k1,k2,k3,k4,k5,k6⟩:=a7 a (qab D);have R:=hS.pre d;refine qG (o:=0) (cs:=[.int .u8 a.1]) R rfl D (by omega) rfl ?_;refine p_x ?_;refine br b.ss ?_;have ap:0<g.length:=by have:=b.st.pos M;rwa [qaB]at this
  obtain⟨u,x⟩:=oT k1 ap;rw[p_rem_nn (by omega) (show(0:Int)<Int.ofNat g.length by show(0:Int)<(g.length:Int);omega)];rw[x];refine p_y ?_;generalize a.1.toNat%g.length=m at *;obtain⟨q,hq⟩:=aH u;have aE:=b.pc.1 q (qab hq);have C:=aE.ls aG;have bI:=C.good;refine bp (cs:=[q.2.1]) b.ss rfl hq rfl (by omega) ?_;refine p_x ?_;refine ac bI ?_;refine p_y ?_;refine qG (o:=1) (cs:=[.int .u8 a.2.1]) R rfl D (by omega) rfl ?_;refine p_x ?_;have bx:(g.map stS)[m]?=some (q.1,q.2.2):=by rw[qan,hq];rfl
  have J:0<q.2.2.length:=qbd.2 (b.st.st.ne _ (qab bx));refine br C ?_;obtain⟨Y,a9⟩:=oT k3 J;rw[p_rem_nn (by omega) (show(0:Int)<Int.ofNat q.2.2.length by show(0:Int)<(q.2.2.length:Int);omega)];rw[a9];refine p_y ?_;refine qG (o:=2) (cs:=[.int .u8 a.2.2]) R rfl D (by omega) rfl ?_;refine p_x ?_;refine br C ?_;obtain⟨Z,bd⟩:=oT k5 J;rw[p_rem_nn (by omega) (show(0:Int)<Int.ofNat q.2.2.length by show(0:Int)<(q.2.2.length:Int);omega)];rw[bd];refine p_y ?_;generalize a.2.1.toNat%q.2.2.length=i1 at *;generalize a.2.2.toNat%q.2.2.length=i2 at *;obtain⟨n1,ar⟩:=aH Y;obtain⟨T,ax⟩:=aH Z;refine aQ C rfl ax ?_;rw[show encN T=[.int .i64 (Int.ofNat T)]from rfl];refine p_x ?_;refine aQ C rfl ar ?_;rw[show encN n1=[.int .i64 (Int.ofNat n1)]from rfl];refine p_x ?_;obtain⟨id,cx,hv,N,hid,a8⟩ : ∃id cx,q.2.1 = .slice (some ⟨id,0,tag 1⟩) q.2.2.length cx/\H.length<=id/\h[id]?=some (.o (.cells (q.2.2.flatMap encN) 1 true))/\(cx=0∨cx=q.2.2.length+1):=by
   rcases aE with⟨_,e⟩|h
   ·rw[e]at J;simp at J
   ·exact h
  rw[hv];refine cW (enc:=encN) (l:=q.2.2) (i:=i1) (a:=T) aG hid rfl Y rfl rfl ?_;refine p_y ?_;refine cW (enc:=encN) (l:=q.2.2.set i1 T) (i:=i2) (a:=n1) aG (bF (aw hid)) rfl (by simpa using Z) (by simp) rfl ?_;rw[ej];refine p_y ?_;rw[aL (by omega)];exact f (putE h id 1 encN ((q.2.2.set i1 T).set i2 n1),g.set m (q.1,q.2.1,(q.2.2.set i1 T).set i2 n1)) bl ⟨gm d N,b.put hq hv hid N a8 (perm_swap ar ax)⟩)
 obtain⟨rs,h',h2,h4⟩:=bS;exact⟨rs,h',M,h2,h4⟩
def cmpI(a b:Int):Int:=if a<b then -1 else if b<a then 1 else 0
def orI:Tz->Int
 | []=>0
 |a :: l=>if a=0 then orI l else a
def encQ(p:Int×Int):Tk:=[.int .i64 p.1,.int .i64 p.2]
def encQ_len(p:Int×Int):(encQ p).length=2:=rfl
def nan_c(a:Int):Cc 92 [.i a] [.b false]:=by
 refine q92 rfl ?_;unfold f92;simp only[qxh];simp(disch:=omega)only[↓qXX]
def cmp_c(a b:Int):Cc 47 [.i a,.i b] [.i (cmpI a b)]:=by
 refine q47 rfl ?_;unfold f47;simp only[qxh]
 repeat (first|simp(disch:=omega)only[↓qXX]|refine ah (nan_c a) ?_|refine ah (nan_c b) ?_)
 unfold cmpI;by_cases c:a<b
 ·simp(disch:=omega)only[↓qXX];simp[c]
 ·by_cases d:b<a
  ·simp(disch:=omega)only[↓qXX];simp[c,d]
  ·simp(disch:=omega)only[↓qXX];simp[c,d]
def xG{l:Tz}{j:Nat}{a:Int}(b:l[j]?=some a):orI (l.drop j)=if a=0 then orI (l.drop (j+1))else a:=by
 rw[qbf (aw b)];have c:l[j]'(aw b)=a:=by rw[qap (aw b)]at b;exact qat b
 rw[c];rfl
def ordr_c{h:HL}{x:Value}{l:List (Int×Int)}(f:LsH h x 2 encQ l)(m:l.length<=1000) :
  aB cc ab 71 [.v x] (absH aa h) [.i (orI (l.map λp=>cmpI p.1 p.2))] (absH aa h):=by
 exact xK x71 (glsV f.good gls0) (by
  unfold f71;simp only[qxh];refine p_x ?_;refine br f ?_;refine ce l.length (λj=>orI (l.map λp=>cmpI p.1 p.2)=orI ((l.map λp=>cmpI p.1 p.2).drop j)) (j0:=0) rfl (qaC _) rfl ?_;intro j n d k c;refine p_x ?_;by_cases b:j<l.length
  ·rw[aD b];refine p_x ?_;obtain⟨p,g⟩:=aH b;refine aQ f rfl g ?_;unfold encQ
   repeat (first|simp(disch:=omega)only[↓qXX]|refine ah (cmp_c p.1 p.2) ?_)
   rw[xG (a:=cmpI p.1 p.2) (by rw[qan,g];rfl)]at d;by_cases e:cmpI p.1 p.2=0
   ·rw[p_neq_f e];refine p_x ?_;rw[aL (by omega)];rw[qd0 e]at d;exact c b d
   ·rw[p_neq_t e];refine p_x ?_;rw[qd1 e]at d;exact⟨by rw[d],by trivial⟩
  ·obtain rfl:j=l.length:=by omega
   rw[aC (qaj _)];refine p_x ?_;refine⟨?_,by trivial⟩;rw[d,qbG (by rw[qaB];exact qaj _)];rfl)
def cellCmp_c{x y q x' y' q':Int}(b:0<=q/\q<=255)(a:0<=q'/\q'<=255):Cc 30 [.i x,.i y,.i q,.i x',.i y',.i q'] [.i (orI [cmpI y y',cmpI x x',cmpI q q'])]:=by
 refine q30 rfl ?_;unfold f30;simp only[qxh];refine p_x ?_;refine ai (h':=[]++[HO.o (.cells [.int .i64 y,.int .i64 y',.int .i64 x,.int .i64 x',.int .i64 q,.int .i64 q'] 2 true)]) (ordr_c (l:=[(y,y'),(x,x'),(q,q')]) ?_ (by simp)) ?_
 ·exact vP (h:=[]) (e:=2) (enc:=encQ) (l:=[(y,y'),(x,x'),(q,q')]) encQ_len (by rfl)
 ·simp(disch:=omega)only[↓qXX];rfl
def encI1(n:Int):Tk:=[.int .i64 n]
def or_c{h:HL}{x:Value}{l:Tz}(e:LsH h x 1 encI1 l)(k:l.length<=1000) :
  aB cc ab 29 [.v x] (absH aa h) [.i (orI l)] (absH aa h):=by
 exact xK x29 (glsV e.good gls0) (by
  unfold f29;simp only[qxh];refine p_x ?_;refine br e ?_;refine ce l.length (λj=>orI l=orI (l.drop j)) (j0:=0) rfl (qaC _) rfl ?_;intro j m c g b;refine p_x ?_;by_cases a:j<l.length
  ·rw[aD a];refine p_x ?_;obtain⟨p,f⟩:=aH a;refine aQ e rfl f ?_;rw[show encI1 p=[.int .i64 p]from rfl];refine p_x ?_;rw[xG f]at c;by_cases d:p=0
   ·rw[p_neq_f d];refine p_x ?_;rw[aL (by omega)];rw[qd0 d]at c;exact b a c
   ·rw[p_neq_t d];refine p_x ?_;rw[qd1 d]at c;exact⟨by rw[c],by trivial⟩
  ·obtain rfl:j=l.length:=by omega
   rw[aC (qaj _)];refine p_x ?_;refine⟨?_,by trivial⟩;rw[c,qbG (qaj _)];rfl)
def cmpC(a b:Cl):Int:=orI [cmpI a.2.1 b.2.1,cmpI a.1 b.1,cmpI (Int.ofNat a.2.2) (Int.ofNat b.2.2)]
def cmpN(a b:Nat):cmpI (Int.ofNat a) (Int.ofNat b)=if a<b then -1 else if b<a then 1 else 0:=by
 unfold cmpI;by_cases h:a<b
 ·rw[qd0 (show Int.ofNat a<Int.ofNat b from qcl.2 h),qd0 h]
 ·rw[qd1 (show ¬Int.ofNat a<Int.ofNat b from λe=>h (qcl.1 e)),qd1 h];by_cases h:b<a
  ·rw[qd0 (show Int.ofNat b<Int.ofNat a from qcl.2 h),qd0 h]
  ·rw[qd1 (show ¬Int.ofNat b<Int.ofNat a from λe=>h (qcl.1 e)),qd1 h]
def cmpC_g(a b:Cl):0<cmpC a b↔gtS a b=true:=by
 obtain⟨x,y,q⟩:=a;obtain⟨u,v,r⟩:=b;rw[yP];unfold cmpC;simp only[orI,cmpN];unfold cmpI;split<;>split<;>(try split)<;>(try split)<;>(try split)<;>(try split)<;>(try split)<;>(try split)<;>(try split)<;>omega
def tF(a b:Cl):cmpC a b<0↔gtS b a=true:=by
 obtain⟨x,y,q⟩:=a;obtain⟨u,v,r⟩:=b;rw[yP];unfold cmpC;simp only[orI,cmpN];unfold cmpI;split<;>split<;>(try split)<;>(try split)<;>(try split)<;>(try split)<;>(try split)<;>(try split)<;>(try split)<;>omega
def gR{a b:Cl}(c:a.2.2<4)(d:b.2.2<4):Cc 30 (cll a++cll b) [.i (cmpC a b)]:=
 cellCmp_c (x:=a.1) (y:=a.2.1) (q:=Int.ofNat a.2.2) (x':=b.1) (y':=b.2.1) (q':=Int.ofNat b.2.2) ⟨qaG _,by show(a.2.2:Int)<=255;omega⟩ ⟨qaG _,by show(b.2.2:Int)<=255;omega⟩
def pick_n{q e:Nat}(b:q<4)(a:e<3):mt gl0 4 [(Int.ofNat q,17),(Int.ofNat e,3)] 3=some [.int .i64 (nbC (0,0,q) e).1,.int .i64 (nbC (0,0,q) e).2.1,.int .u8 (Int.ofNat (nbC (0,0,q) e).2.2)]:=by
 obtain rfl|rfl|rfl|rfl:q=0∨q=1∨q=2∨q=3:=by omega
 all_goals obtain rfl|rfl|rfl:e=0∨e=1∨e=2:=by omega
 all_goals kernel_rfl
def nbC_add{c:Cl}{e:Nat}(a:c.2.2<4)(d:e<3):nbC c e=((nbC (0,0,c.2.2) e).1+c.1,(nbC (0,0,c.2.2) e).2.1+c.2.1,(nbC (0,0,c.2.2) e).2.2)/\-1<=(nbC (0,0,c.2.2) e).1/\(nbC (0,0,c.2.2) e).1<=1/\-1<=(nbC (0,0,c.2.2) e).2.1/\(nbC (0,0,c.2.2) e).2.1<=1:=by
 obtain⟨x,y,q⟩:=c;simp only at a;have b:e=0∨e=1∨e=2:=by omega
 rcases quad a with rfl|rfl|rfl|rfl<;>rcases b with rfl|rfl|rfl
 all_goals
  simp[nbC]
  try omega
def ngA_c{c:Cl}{e:Nat}(k:c.2.2<4)(m:e<3)(l:-4096<=c.1/\c.1<=4096/\-4096<=c.2.1/\c.2.1<=4096):Cc 51 (cll c++[.i (Int.ofNat e)]) (if vCl (nbC c e)then cll (nbC c e)++[.i 0]else [.i 0,.i 0,.i 0,.i 3]):=by
 have b:=wI (c:=c) ⟨l.1,l.2.1,l.2.2.1,l.2.2.2,k⟩;have a:=wH (c:=nbC c e) (zd k m).1;have n:=pick_n k m;obtain⟨f,p,q,r,s⟩:=nbC_add k m;generalize nbC (0,0,c.2.2) e=d at *;rw[f]at a ⊢;have g:inB 4 (Int.ofNat c.2.2)=some ():=by
  rcases quad k with h|h|h|h<;>rw[h]<;>rfl
 have j:inB 3 (Int.ofNat e)=some ():=by
  have o:e=0∨e=1∨e=2:=by omega
  rcases o with h|h|h<;>rw[h]<;>rfl
 refine q51 rfl ?_;unfold f51;simp only[qxh];simp only[cll,qag,qaf]at b a ⊢;refine p_x ?_;refine ah b ?_;refine p_x ?_;rw[p_gtr_f (show Int.ofNat e<=2 by show(e:Int)<=2;omega)];refine p_x ?_;refine ae g ?_;refine ae j ?_;refine ae n ?_;refine p_x ?_;refine ah a ?_;cases vCl (d.1+c.1,d.2.1+c.2.1,d.2.2)with
 |true=>simp(disch:=omega)only[↓qXX,if_true];rfl
 |false=>simp(disch:=omega)only[↓qXX,if_false,qar]
end Go.Am
namespace Go.Am
namespace Sx
section
variable [Val] [Kno] {C:Cfg} {Sg:Tc} {T:Tq}
variable {κ:Type} [DecidableEq κ] (kc:κ->Tk) {kk:TE} (hd:∀a b,difK kk (kc a) (kc b)=some (decide (a=b)))
include hd
theorem findK(k:κ):∀ {a:Th} {ks:List κ} (i:Nat),a.map (·.key)=ks.map (λk=>.agg ⟨kc k⟩)->iW kk (kc k) a i=some ((ks.idxOf? k).map (i + ·))
 | [],[],i,_=>rfl
 | [],_ :: _,i,h=>by simp at h
 |_ :: _,[],i,h=>by simp at h
 |e :: a,q :: ks,i,h=>by
  simp only[qaF,qa9]at h;have d:=findK k (i+1) h.2;have c:iW kk (kc k) (e :: a) i=if k=q then some (some i)else iW kk (kc k) a (i+1):=by
   simp only[iW,h.1];rw[hd];by_cases b:k=q<;>simp[b]
  rw[c,List.idxOf?_cons];by_cases b:k=q
  ·subst b;simp
  ·rw[qd1 b,d,qd1 (by simp;exact λe=>b e.symm),Option.map_map]
   congr 2
   funext j
   simp only[Function.comp];omega
variable {kt:TJ} (h1:aggT C.P kt=some true) (h2:flatK C.P 10000 kt=some kk) (h3:∀a,∃r,gH kk (kc a) (kc a)=some r)
include h1 h2 h3
omit hd in
theorem keyFK(k:κ):keyF C.P kt (.agg ⟨kc k⟩)=true:=by
 obtain⟨r,a⟩:=h3 k;unfold keyF;simp only[h1,h2,a]
omit h3 hd in
theorem findFK(k:κ){a:Th}{r:To}(b:iW kk (kc k) a 0=some r):tR C.P kt (.agg ⟨kc k⟩) a=some r:=by
 unfold tR;simp only[h1,h2,mR,b]
end
end Sx
namespace Sx
section
variable [Val] [Kno] {C:Cfg} {Sg:Tc} {T:Tq}
variable {κ:Type} [DecidableEq κ] (kc:κ->Tk) {kk:TE} (hd:∀a b,difK kk (kc a) (kc b)=some (decide (a=b)))
def MapV(h:HL)(id:Nat)(b:List (κ×Value)):Prop:=∃a c,h[id]?=some (.o (.map a c))/\a.map (λe=>(e.key,e.val))=b.map λp=>(.agg ⟨kc p.1⟩,p.2)
def MapV.keep{h h':HL}{id:Nat}{a:List (κ×Value)}(g:MapV kc h id a)(f:∀o,h[id]?=some o->h'[id]?=some o):MapV kc h' id a:=by
 obtain⟨b,c,d,e⟩:=g;exact⟨b,c,f _ d,e⟩
def MapV.keys{a:Th}{b:List (κ×Value)}(h:a.map (λe=>(e.key,e.val))=b.map λp=>(.agg ⟨kc p.1⟩,p.2)):a.map (·.key)=(b.map Prod.fst).map λk=>.agg ⟨kc k⟩:=by
 have:=congrArg (List.map Prod.fst) h;rw[qbU,qbU]at this;rw[qbU];exact this
variable {kt:TJ} (h1:aggT C.P kt=some true) (h2:flatK C.P 10000 kt=some kk) (h3:∀a,∃r,gH kk (kc a) (kc a)=some r)
include hd h1 h2 h3
theorem r_luV{h:HL}{id:Nat}{a:List (κ×Value)}{z:Value}{K:Te}(F:MapV kc h id a)(k:κ){v:Value}(H:v = .agg ⟨kc k⟩)(I:∀cs,z≠.agg cs)(E:∀p∈a,∀cs,p.2≠.agg cs)
  (h0:k∉a.map Prod.fst->K [z]) (D:∀(i:Nat) u,a[i]?=some (k,u)->K [u]) :
  (PH C Sg T).peek (.fn (luG C kt false z (.map (some id)) v false)) h (@hid _ ⟨K⟩):=by
 subst H;obtain⟨b,c,x,g⟩:=F;have r:∀u:Value,(∀cs,u≠.agg cs)->gO false u=some [u]:=λu G=>by
  unfold gO;cases u<;>first|rfl|exact absurd rfl (G _)
 have f:∃cs,luG C kt false z (.map (some id)) (.agg ⟨kc k⟩) false (getH T h)=some cs/\K cs:=by
  unfold luG;rw[keyFK kc h1 h2 h3 k];simp only[qaQ,qar,if_false];rw[xj x];simp only;rw[findFK kc h1 h2 k (findK kc hd k 0 (MapV.keys kc g))];cases t:(a.map Prod.fst).idxOf? k with
  |none=>
   refine⟨[z],?_,h0 (qdD.1 t)⟩;simp[r z I]
  |some j=>
   obtain⟨B,m,_⟩:=List.idxOf?_eq_some_iff.1 t;have w:b.length=a.length:=by
    have:=congrArg List.length g;simpa using this
   have l:j<a.length:=by simpa using B
   have s:b[j]?=some (b[j]'(by omega)):=qap _;have d:a[j]?=some a[j]:=qap _;have q:(b.map (λe=>(e.key,e.val)))[j]?=(a.map λp=>((.agg ⟨kc p.1⟩ : Value),p.2))[j]?:=by rw[g]
   rw[qan,qan,s,d]at q;have y:(b[j]'(by omega)).val=a[j].2:=by
    have:=qat q;exact congrArg Prod.snd this
   have o:fz b j=some a[j].2:=by
    unfold fz;rw[s];simp[y]
   have n:a[j].1=k:=by simpa using m
   refine⟨[a[j].2],?_,D j _ (by rw[d,←n])⟩;simp only[qaJ,qaR];rw[o];simp[r _ (E _ (qc8 l))]
 obtain⟨cs,e,A⟩:=f;exact gi e A
theorem r_muV{h:HL}{id:Nat}{b:List (κ×Value)}{u:Value}{K:Ta}(j:MapV kc h id b)(k:κ)(i:k∉b.map Prod.fst){v:Value}(l:v = .agg ⟨kc k⟩)(g:∀o,MapV kc (h.set id o) id (b++[(k,u)])->K [] (h.set id o)) :
  (PH C Sg T).heap (.fn (muG C kt (.map (some id)) v u)) h (@hid _ ⟨K⟩):=by
 subst l;obtain⟨f,c,d,e⟩:=j;have a:(Hp.fn (muG C kt (.map (some id)) (.agg ⟨kc k⟩) u)).run (getH T h) h.length=some ([.set id (.map (f++[{ key:=.agg ⟨kc k⟩,val:=u,born:=c }]) (c+1))],[]):=by
  show muG C kt (.map (some id)) (.agg ⟨kc k⟩) u (getH T h) h.length=_;unfold muG;simp only;rw[keyFK kc h1 h2 h3 k];simp only[qaQ,qar,if_false];rw[xj d];simp only;rw[findFK kc h1 h2 k (findK kc hd k 0 (MapV.keys kc e)),qdD.2 i];rfl
 exact cj a (g _ ⟨_,_,qaK (aw d),by simp[e]⟩)
end
section
variable [Val] [Kno] {C:Cfg} {T:Tq}
abbrev K6:=K3×K3
def cc6(k:K6):Tk:=cc3 k.1++cc3 k.2
abbrev kk6:TE:=[.i .i64,.i .i64,.i .u8,.i .i64,.i .i64,.i .u8]
def difK_6(a b:K6):difK kk6 (cc6 a) (cc6 b)=some (decide (a=b)):=by
 have p:dG .i64 .i64=true:=rfl;have q:dG .u8 .u8=true:=rfl;obtain⟨⟨g,i,c⟩,j,k,d⟩:=a;obtain⟨⟨l,m,e⟩,n,o,f⟩:=b;simp only[cc6,cc3,qag,qaf,difK,p,q,rB,qcp];have r:decide (Int.ofNat c=Int.ofNat e)=decide (c=e):=decide_eq_decide.2 ⟨λh=>qbw h,λh=>by rw[h]⟩;have s:decide (Int.ofNat d=Int.ofNat f)=decide (d=f):=decide_eq_decide.2 ⟨λh=>qbw h,λh=>by rw[h]⟩;rw[r,s];by_cases t:g=l<;>by_cases u:i=m<;>by_cases v:c=e<;>by_cases w:j=n<;>by_cases x:k=o<;>by_cases y:d=f<;>simp[t,u,v,w,x,y]
def vu(a:K6):∃r,gH kk6 (cc6 a) (cc6 a)=some r:=by
 have b:dG .i64 .i64=true:=rfl;have c:dG .u8 .u8=true:=rfl;simp only[cc6,cc3,qag,qaf,gH,b,c,rB];exact⟨_,rfl⟩
end
end Sx
end Go.Am
namespace Go.Am
open Sx Go.Proofs
def ltU(c:Crs)(a b:Int):Bool:=decide (c.1<a)||(decide (c.1=a)&&decide (c.2.1<b))
def ll{c:Crs}{a b:Int}:ltU c a b=true↔c.1<a∨(c.1=a/\c.2.1<b):=by
 simp only[ltU,qaS,qaa,qdX]
def order_u{c:Crs}{a b:Int}(h:0<=c.1/\c.1<=1000/\0<=a/\a<=1000/\0<=c.2.1/\c.2.1<=255/\0<=b/\b<=255):∃d:Int,Cc 127 [.i c.1,.i c.2.1,.i a,.i b] [.i d]/\(d<0↔ltU c a b=true)/\(d=0↔c.1=a/\c.2.1=b):=by
 by_cases e:c.1=a
 ·refine⟨c.2.1 - b,?_,by rw[ll];omega,by omega⟩;refine q127 rfl ?_;unfold f127;simp only[qxh];simp(disch:=omega)only[↓qXX]
 ·refine⟨c.1 - a,?_,by rw[ll];omega,by omega⟩;refine q127 rfl ?_;unfold f127;simp only[qxh];simp(disch:=omega)only[↓qXX]
def find1_c{c:Crs}{a b:Int}(h:0<=c.1/\c.1<=1000/\0<=a/\a<=1000/\0<=c.2.1/\c.2.1<=255/\0<=b/\b<=255):∃d:Int,Cc 175 [.i c.1,.i c.2.1,.i c.2.2,.i a,.i b] [.i d]/\(d<0↔ltU c a b=true)/\(d=0↔c.1=a/\c.2.1=b):=by
 obtain⟨d,g,e,f⟩:=order_u h;refine⟨d,?_,e,f⟩;refine q175 rfl ?_;unfold f175;simp only[qxh]
 repeat (first|simp(disch:=omega)only[↓qXX]|refine ah (yp c) ?_|refine ah g ?_)
abbrev cloF:Value:=.func (.func 175) ⟨[]⟩ ⟨[]⟩
def goodF1:az cloF=true:=rfl
def p_half{a:Int}{K:Ts}(h0:0<=a)(f:K (a / 2)):P1.shf .shr .u64 a .u64 1 (@hid _ ⟨K⟩):=by
 refine s_shf (wh 0) (K:=λn=>if n=a / 2 then yes else none) (λn b=>?_) ?_
 ·by_cases e:n=a / 2
  ·rw[e];exact f
  ·simp only[qd1 e]at b;cases b
 ·have c:∀(K:Int->RT),(BA ab aa (runF 0)).shf .shr .u64 a .u64 1 K=shfB .shr .u64 a .u64 1 K:=λ_=>rfl;rw[c];have d:leZ 0 1=true:=rfl;unfold shfB;rw[d];simp only;rw[jM];have:a.fdiv (2 ^ min (1:Int).toNat IntKind.u64.bits)=a / 2:=by
   show a.fdiv 2=a / 2;exact Int.fdiv_eq_ediv_of_nonneg a (by omega)
  rw[this,qd0 rfl]
def oL{a:Int}{K:Ts}(h1:0<=a)(c:a<=9223372036854775807)(b:K a):P1.conv .u64 a (@hid _ ⟨K⟩):=by
 show K (IntKind.wrap .u64 a);have:IntKind.wrap .u64 a=a:=by
  simp only[IntKind.wrap,IntKind.bits,IntKind.signed,qdS,qar,if_false];omega
 rw[this];exact b
def rngC(c:Crs):Prop:=0<=c.1/\c.1<=1000/\0<=c.2.1/\c.2.1<=255/\0<=c.2.2/\c.2.2<=255
def At(l:Ty)(a b:Int)(i:Nat):Prop:=i<=l.length/\(∀(k:Nat) c,l[k]?=some c->k<i->ltU c a b=true)/\∀(k:Nat) c,l[k]?=some c->i<=k->ltU c a b=false
def isAt(l:Ty)(a b:Int)(i:Nat):Bool:=match l[i]? with
 |some c=>decide (c.1=a)&&decide (c.2.1=b)
 |none=>false
def asc_le{l:Ty}(h:ascC l=true):∀(n i:Nat) a b,l[i]?=some a->l[i+n+1]?=some b->ltC a b=true
 |0,i,a,b,e,d=>iI.1 h i a b e d
 |n+1,i,a,b,e,d=>by
  obtain⟨c,f⟩:=aH (l:=l) (i:=i+n+1) (by have:=aw d;omega);have g:=asc_le h n i a c e f;have j:=iI.1 h (i+n+1) c b f (by rw[show i+n+1+1=i+(n+1)+1 by omega];exact d);simp only[ltC,qaS,qaa,qdX]at g j ⊢;omega
def asc_lt{l:Ty}(h:ascC l=true){i j:Nat}{a b:Crs}(e:i<j)(c:l[i]?=some a)(d:l[j]?=some b):ltC a b=true:=
 asc_le h (j - i - 1) i a b c (by rw[show i+(j - i - 1)+1=j by omega];exact d)
def bin_c{h:HL}{x:Value}{l:Ty}(z:LsH h x 3 encC l)(y:∀c∈l,rngC c)(U:l.length<=1000)(p:ascC l=true){a b:Int}(V:0<=a/\a<=1000/\0<=b/\b<=255) :
  ∃i:Nat,At l a b i/\aB cc ab 174 [.v x,.i a,.i b,.v cloF] (absH aa h) [.i (Int.ofNat i),.b (isAt l a b i)] (absH aa h):=by
 obtain⟨N,s,P,i,rfl,rfl,Q⟩:=x174 (K:=λN s=>∃i:Nat,N=[.i (Int.ofNat i),.b (isAt l a b i)]/\s=h/\At l a b i) (H:=h) (glsV z.good (glsI (glsI (glsV goodF1 gls0)))) (by
  unfold f174;simp only[qxh];refine p_x ?_;refine br z ?_;refine eP (m:=l.length) (λm M s=>∃i j:Nat,M=[.i (Int.ofNat i),.i (Int.ofNat j)]/\s=h/\i<=j/\j<=l.length/\m=j - i/\(∀(k:Nat) c,l[k]?=some c->k<i->ltU c a b=true)/\∀(k:Nat) c,l[k]?=some c->j<=k->ltU c a b=false) ⟨0,l.length,rfl,rfl,by omega,by omega,by omega,λk c _ y=>by omega,λk c f y=>by have:=aw f;omega⟩ ?_;rintro m M s ⟨i,j,rfl,rfl,T,w,rfl,o,n⟩ O g;refine hidL ?_;refine p_x ?_;by_cases G:i<j
  ·rw[aD G];refine p_x ?_;rw[p_add (by show -9223372036854775808<=(i:Int)+j;omega) (by show(i:Int)+j<=9223372036854775807;omega)];refine oL (by show 0<=(i:Int)+j;omega) (by show(i:Int)+j<=9223372036854775807;omega) ?_;refine p_half (by show 0<=(i:Int)+j;omega) ?_;have u:(Int.ofNat i+Int.ofNat j) / 2=Int.ofNat ((i+j) / 2):=by simp
   rw[u];rw[p_conv (by show -9223372036854775808<=(((i+j) / 2:Nat):Int);omega) (by show(((i+j) / 2:Nat):Int)<=9223372036854775807;omega)];obtain⟨c,f⟩:=aH (l:=l) (i:=(i+j) / 2) (by omega);have I:=y c (qab f);unfold rngC at I;refine aQ z rfl f ?_;unfold encC;refine p_x ?_;obtain⟨d,D,B,C⟩:=find1_c (c:=c) (a:=a) (b:=b) (by omega);refine oJ (rn (D _) rfl [.agg [.i .i64 c.1,.i .u8 c.2.1,.i .u8 c.2.2],.agg [.i .i64 a,.i .u8 b]] rfl rfl) ?_;refine p_x ?_;by_cases t:d<0
   ·have L:=B.1 t;refine p_x ?_;rw[aL (by omega)];refine p_x ?_;refine g (j - ((i+j) / 2+1)) _ _ (by omega) ⟨(i+j) / 2+1,j,rfl,rfl,by omega,w,rfl,λk e r F=>?_,n⟩;rcases qaP k ((i+j) / 2)with q|q
    ·have:=asc_lt p q r f;rw[ll]at L ⊢;simp only[ltC,qaS,qaa,qdX]at this;omega
    ·obtain rfl:k=(i+j) / 2:=by omega
     rw[f]at r;cases r;exact L
   ·have J:ltU c a b=false:=by
     rw[←qaU];intro S;exact t (B.2 S)
    refine p_x ?_;refine g ((i+j) / 2 - i) _ _ (by omega) ⟨i,(i+j) / 2,rfl,rfl,by omega,by omega,rfl,o,λk e r F=>?_⟩;rcases qaP ((i+j) / 2) k with q|q
    ·have:=asc_lt p q f r;rw[←qaU,ll]at J ⊢;simp only[ltC,qaS,qaa,qdX]at this;omega
    ·obtain rfl:k=(i+j) / 2:=by omega
     rw[f]at r;cases r;exact J
  ·obtain rfl:i=j:=by omega
   rw[aC (qaj _)];refine p_x ?_;by_cases E:i<l.length
   ·rw[aD E];refine p_x ?_;obtain⟨c,f⟩:=aH E;have I:=y c (qab f);unfold rngC at I;refine aQ z rfl f ?_;unfold encC;refine p_x ?_;obtain⟨d,D,B,C⟩:=find1_c (c:=c) (a:=a) (b:=b) (by omega);refine oJ (rn (D _) rfl [.agg [.i .i64 c.1,.i .u8 c.2.1,.i .u8 c.2.2],.agg [.i .i64 a,.i .u8 b]] rfl rfl) ?_;refine p_x ?_;by_cases A:d=0
    ·have:=C.1 A;rw[p_eql_t A];refine p_x ?_;exact⟨i,by simp[isAt,f,this.1,this.2],by trivial,w,o,n⟩
    ·have R:¬(c.1=a/\c.2.1=b):=λq=>A (C.2 q);rw[p_eql_f A];refine p_x ?_;refine⟨i,?_,by trivial,w,o,n⟩;have:isAt l a b i=false:=by
      simp only[isAt,f];rw[←qaU];simpa using R
     rw[this]
   ·rw[aC (by omega)];refine p_x ?_;refine⟨i,?_,by trivial,w,o,n⟩;have:isAt l a b i=false:=by
     simp only[isAt,qak (Nat.not_lt.1 E)]
    rw[this])
 exact⟨i,Q,P⟩
def find_c{h:HL}{x:Value}{l:Ty}(f:LsH h x 3 encC l)(n:∀c∈l,rngC c)(o:l.length<=1000)(d:ascC l=true){a b:Int}(p:0<=a/\a<=1000/\0<=b/\b<=255) :
  ∃i:Nat,At l a b i/\aB cc ab 138 [.v x,.i a,.i b] (absH aa h) [.i (Int.ofNat i),.b (isAt l a b i)] (absH aa h):=by
 obtain⟨i,m,k⟩:=bin_c f n o d p;obtain⟨g,e,j,rfl,rfl⟩:=x138 (K:=λg e=>g=[.i (Int.ofNat i),.b (isAt l a b i)]/\e=h) (H:=h) (glsV f.good (glsI (glsI gls0))) (by
  unfold f138;simp only[qxh]
  repeat (first|simp(disch:=omega)only[↓qXX]|refine ai k ?_)
  trivial)
 exact⟨i,m,j⟩
def eqU(a b:Int)(c:Crs):Bool:=decide (c.1=a)&&decide (c.2.1=b)
def rW(l:Ty)(a b:Int):Int:=match l.find? (eqU a b)with
 |some c=>c.2.2
 |none=>0
def kind_at{l:Ty}{a b:Int}{i:Nat}(h:At l a b i)(f:ascC l=true):(isAt l a b i=true->∃c,l[i]?=some c/\rW l a b=c.2.2)/\(isAt l a b i=false->rW l a b=0):=by
 obtain⟨B,x,y⟩:=h;have m:∀(k:Nat) c,l[k]?=some c->eqU a b c=true->k=i:=by
  intro k c g n;simp only[eqU,qaa,qdX]at n;rcases Nat.lt_trichotomy k i with q|q|q
  ·have:=x k c g q;rw[ll]at this;omega
  ·exact q
  ·obtain⟨d,t⟩:=aH (l:=l) (i:=i) (by have:=aw g;omega);have v:=asc_lt f q t g;have w:=y i d t (qaj _);rw[←qaU,ll]at w;simp only[ltC,qaS,qaa,qdX]at v;omega
 have j:isAt l a b i=true↔∃c,l[i]?=some c/\eqU a b c=true:=by
  unfold isAt eqU;cases e:l[i]? with
  |none=>simp
  |some c=>simp
 unfold rW;cases o:l.find? (eqU a b)with
 |none=>
  have s:=List.find?_eq_none.1 o;constructor
  ·intro z;obtain⟨c,g,n⟩:=j.1 z;exact absurd n (s c (qab g))
  ·intro _;rfl
 |some c=>
  have u:=List.find?_some o;obtain⟨k,p⟩:=qaT (qdw o);have r:=m k c p u;subst r;constructor
  ·intro _;exact⟨c,p,rfl⟩
  ·intro A;have:=j.2 ⟨c,p,u⟩;rw[A]at this;cases this
structure Pat(w v:Nat)(l:Ty):Prop where
 sheet:1<=w/\w<=5/\1<=v/\v<=5
 rng:∀c∈l,rngC c
 len:l.length<=1000
 ok:chkC (.ofNat w) (.ofNat v) l=0
def Pat.sm{w v:Nat}{l:Ty}(h:Pat w v l):smS (.ofNat w) (.ofNat v):=by
 have:=h.sheet;unfold smS;simp only[qa1];omega
def Pat.asc{w v:Nat}{l:Ty}(h:Pat w v l):ascC l=true:=by
 have:=h.ok;unfold chkC at this;split at this
 ·cases this
 ·split at this
  ·cases this
  ·split at this
   ·assumption
   ·cases this
def Pat.check{w v:Nat}{l:Ty}(h:Pat w v l){H:HL}{x:Value}(b:LsH H x 3 encC l):aB cc ab 99 [.i (.ofNat w),.i (.ofNat v),.v x] (absH aa H) [.i 0] (absH aa H):=by
 have:=check_c h.sm b (λc a=>by
  have:=h.rng c a;unfold rngC at this;unfold okC;omega) (by have:=h.len;omega)
 rw[h.ok]at this;exact this
def kind_c{w v:Nat}{l:Ty}(g:Pat w v l){H:HL}{x:Value}(h:LsH H x 3 encC l){c e n:Nat}(D:c<4*w*v)(E:e<3)(G:nbr w v c e=some n)(I:n<=1000) :
  aB cc ab 68 [.i (.ofNat w),.i (.ofNat v),.v x,.i (.ofNat c),.i (.ofNat e)] (absH aa H) [.i (rW l (.ofNat (min c n)) (.ofNat e)),.i 0] (absH aa H):=by
 have f:=g.sheet;have d:=nameIn (qQ w v f.1 f.2.1 f.2.2.1 f.2.2.2) D E;unfold nameN at d;rw[G]at d;simp only at d;obtain⟨i,F,q⟩:=find_c h g.rng g.len g.asc (a:=.ofNat (min c n)) (b:=.ofNat e) (by simp only[qa1];omega);obtain⟨J,L⟩:=kind_at F g.asc;obtain⟨m,j,s,z,A⟩:=x106 (K:=λm j=>m=[.i (.ofNat (min c n)),.i (.ofNat e),.i (.ofNat i),.b (isAt l (.ofNat (min c n)) (.ofNat e) i),.i 0]/\j=H) (H:=H) (glsI (glsI (glsV h.good (glsI (glsI gls0))))) (by
  unfold f106;simp only[qxh]
  repeat (first|simp(disch:=omega)only[↓qXX]|refine ai (g.check h) ?_|refine ah d ?_|refine ai q ?_)
  trivial)
 rw[z,A]at s;obtain⟨M,N,t,B,C⟩:=x68 (K:=λm j=>m=[.i (rW l (.ofNat (min c n)) (.ofNat e)),.i 0]/\j=H) (H:=H) (glsI (glsI (glsV h.good (glsI (glsI gls0))))) (by
  unfold f68;simp only[qxh]
  repeat (first|simp(disch:=omega)only[↓qXX]|refine ai s ?_)
  cases u:isAt l (.ofNat (min c n)) (.ofNat e) i with
  |false=>
   simp(disch:=omega)only[↓qXX,qaX];rw[L u];trivial
  |true=>
   obtain⟨y,p,r⟩:=J u
   repeat (first|simp(disch:=omega)only[↓qXX,qaQ]|refine bp (o:=2) (k:=1) (cs:=[.int .u8 y.2.2]) h rfl p rfl (by omega) ?_)
   rw[r];trivial)
 rw[B,C]at t;exact t
abbrev Pq:=Nat×Nat
abbrev Lq:=Nat×Nat×Nat
def jt(p:Pq):Tk:=[.int .i64 (Int.ofNat p.1),.int .i64 (Int.ofNat p.2)]
def jr(p:Lq):Tk:=[.int .u8 (Int.ofNat p.1),.int .i64 (Int.ofNat p.2.1),.int .i64 (Int.ofNat p.2.2)]
def eY(p:Pq):(jt p).length=2:=rfl
def cH(p:Lq):(jr p).length=3:=rfl
def nM(k:K6):Tk:=cc6 k
def fG(k:K6):(nM k).length=6:=rfl
structure En where
 a:Cl
 b:Cl
 id:Nat
 vp:Value
 vl:Value
 ve:Value
 ps:List Pq
 ls:List Lq
 es:List Nat
def aJ(q:En):Tk:=bw q.a++bw q.b++[q.vp,q.vl,q.ve]
structure EnH(n1:Nat)(h:HL)(q:En):Prop where
 idn:n1<=q.id
 bl:h[q.id]?=some (.o (.cells (aJ q) 9 true))
 op:OwnL n1 h q.vp 2 jt q.ps
 ol:OwnL n1 h q.vl 3 jr q.ls
 oe:OwnL n1 h q.ve 1 encN q.es
def aprt(p q:En):Prop:=p.id≠q.id/\∀b,(blk p.vp=some b->blk q.vp≠some b)/\(blk p.vl=some b->blk q.vl≠some b)/\(blk p.ve=some b->blk q.ve≠some b)
theorem aprt.symm{p q:En}(h:aprt p q):aprt q p:=⟨qbR h.1,λb=>⟨λa c=>(h.2 b).1 c a,λa c=>(h.2 b).2.1 c a,λa c=>(h.2 b).2.2 c a⟩⟩
def keyE(q:En):K6:=(q.a,q.b)
structure BC where
 w:Nat
 v:Nat
 xc:Value
 pl:Value
 im:Value
 hg:Value
 bm:Nat
 mm:Nat
 n1:Nat
def bG(c:BC)(a:Value):Tk:=[.int .i64 (Int.ofNat c.w),.int .i64 (Int.ofNat c.v),c.xc,c.pl,c.im,c.hg,.map (some c.mm),a]
structure Bld(c:BC)(hS h:HL)(kv:Value)(Q:List En):Prop where
 low:∀(j:Nat) o,j<c.n1->j≠c.bm->j≠c.mm->hS[j]?=some o->h[j]?=some o
 bl:h[c.bm]?=some (.o (.cells (bG c kv) 8 true))
 mp:∃ps,ps.Perm (Q.map λq=>(keyE q,ptrB q.id))/\MapV cc6 h c.mm ps
 ky:OwnL c.n1 h kv 6 nM (Q.map keyE)
 en:∀q∈Q,EnH c.n1 h q
 ap:Q.Pairwise aprt
 nd:(Q.map keyE).Nodup
 bn:c.bm<c.n1
 mn:c.mm<c.n1
 ne:c.bm≠c.mm
 sz:c.n1<=h.length
def EnH.keep{e:Nat}{h h':HL}{q:En}(c:EnH e h q)(d:∀(j:Nat) o,h[j]?=some o->(j=q.id∨blk q.vp=some j∨blk q.vl=some j∨blk q.ve=some j)->h'[j]?=some o):EnH e h' q:=
 ⟨c.idn,d _ _ c.bl (.inl rfl),c.op.keep λj o b a=>d j o b (.inr (.inl a)),c.ol.keep λj o b a=>d j o b (.inr (.inr (.inl a))),c.oe.keep λj o b a=>d j o b (.inr (.inr (.inr a)))⟩
def blkE(q:En)(j:Nat):Prop:=j=q.id∨blk q.vp=some j∨blk q.vl=some j∨blk q.ve=some j
def EnH.lt{c:Nat}{h:HL}{q:En}(b:EnH c h q){j:Nat}(a:blkE q j):c<=j/\j<h.length:=by
 rcases a with rfl|a|a|a
 ·exact⟨b.idn,aw b.bl⟩
 ·exact b.op.blk a
 ·exact b.ol.blk a
 ·exact b.oe.blk a
def szB(h:HL)(j:Nat):To:=match h[j]? with
 |some (.o (.cells _ e _))=>some e
 |_=>none
def cV{α:Type}{n0 e:Nat}{enc:α->Tk}{l:List α}{h:HL}{v:Value}(d:OwnL n0 h v e enc l){j:Nat}(a:blk v=some j):szB h j=some e:=by
 rcases d with⟨rfl,_⟩|⟨id,f,rfl,g,c,_⟩
 ·cases a
 ·have b:id=j:=by simpa[blk]using a
  subst b;unfold szB;rw[c]
def eR{h:HL}{j:Nat}{cs:Tk}{e:Nat}{a:Bool}(b:h[j]?=some (.o (.cells cs e a))):szB h j=some e:=by
 unfold szB;rw[b]
def Bld.grow{c:BC}{f h h':HL}{g:Value}{Q:List En}(a:Bld c f h g Q)(b:Pre h h'):Bld c f h' g Q:=
 ⟨λj o i k l m=>b.get (a.low j o i k l m),b.get a.bl,a.mp.elim λr d=>⟨r,d.1,d.2.keep _ λo n=>b.get n⟩,a.ky.keep λj o e _=>b.get e,λq p=>(a.en q p).keep λj o e _=>b.get e,a.ap,a.nd,a.bn,a.mn,a.ne,by have:=a.sz;have:=b.len;omega⟩
def Bld.new{c:BC}{C h h':HL}{A kv':Value}{Q:List En}(d:Bld c C h A Q){a b:Cl}(F:(a,b)∉Q.map keyE){id:Nat}(hid:h.length<=id)(H:h'[id]?=some (.o (.cells (aJ ⟨a,b,id,.slice none 0 0,.slice none 0 0,.slice none 0 0,[],[],[]⟩) 9 true)))
  (G:∃r,r.Perm (Q.map λq=>(keyE q,ptrB q.id))/\MapV cc6 h' c.mm (r++[((a,b),ptrB id)])) (w:OwnL c.n1 h' kv' 6 nM (Q.map keyE++[(a,b)])) (u:h'[c.bm]?=some (.o (.cells (bG c kv') 8 true)))
  (g:∀(j:Nat) o,h[j]?=some o->j≠c.bm->j≠c.mm->blk A≠some j->h'[j]?=some o) (J:h.length<=h'.length) :
  Bld c C h' kv' (Q++[⟨a,b,id,.slice none 0 0,.slice none 0 0,.slice none 0 0,[],[],[]⟩]):=by
 have l:∀q∈Q,∀j,blkE q j->j≠c.bm/\j≠c.mm/\blk A≠some j:=λq f j i=>by
  have B:=(d.en q f).lt i;have s:=d.bn;have t:=d.mn;refine⟨by omega,by omega,λe=>?_⟩;have k:=cV d.ky e;have n:=d.en q f;rcases i with rfl|i|i|i
  ·rw[eR n.bl]at k;cases k
  ·rw[cV n.op i]at k;cases k
  ·rw[cV n.ol i]at k;cases k
  ·rw[cV n.oe i]at k;cases k
 have D:=d.sz;refine⟨λj o B s t E=>g j o (d.low j o B s t E) s t λe=>by
  have:=(d.ky.blk e).1;omega,u,G.elim λr m=>⟨r++[((a,b),ptrB id)],(by rw[qa3];exact m.1.append_right _),m.2⟩,by rw[qa3];exact w,λq f=>?_,?_,?_,d.bn,d.mn,d.ne,by omega⟩
 ·rcases qaz.1 f with f|f
  ·refine(d.en q f).keep λj o i v=>?_;obtain⟨L,M,N⟩:=l q f j v;exact g j o i L M N
  ·rw[qaq]at f;subst f;exact⟨by show c.n1<=id;omega,H,.nil _ _ _ _,.nil _ _ _ _,.nil _ _ _ _⟩
 ·rw[qcf];refine⟨d.ap,by simp,λp I q f=>?_⟩;rw[qaq]at f;subst f;refine⟨?_,λb=>⟨λ_ h=>(by cases h),λ_ h=>(by cases h),λ_ h=>(by cases h)⟩⟩;have:=((d.en p I).lt (.inl rfl)).2;show p.id≠id;omega
 ·rw[qa3,qbV];refine⟨d.nd,by simp,λx K y z e=>?_⟩;have z:y=(a,b):=by simpa[keyE]using z
  subst z e;exact F K
def nd_inj{Q:List En}(d:(Q.map keyE).Nodup){q q':En}(h1:q∈Q)(f:q'∈Q)(e:keyE q=keyE q'):q=q':=by
 obtain⟨i,a⟩:=qaT h1;obtain⟨j,c⟩:=qaT f;have h:(Q.map keyE)[i]?=(Q.map keyE)[j]?:=by
  rw[qan,qan,a,c];simp only[qaJ,e]
 have b:i=j:=(List.getElem?_inj (by simpa using aw a) d).1 h;subst b;rw[a]at c;exact qat c
def blkE_ap{m:Nat}{h:HL}{p q:En}(g:EnH m h p)(i:EnH m h q)(l:aprt p q){j:Nat}(b:blkE p j):¬blkE q j:=by
 intro a;have n:szB h j=some 9/\j=p.id∨szB h j=some 2/\blk p.vp=some j∨szB h j=some 3/\blk p.vl=some j∨szB h j=some 1/\blk p.ve=some j:=by
  rcases b with rfl|b|b|b
  ·exact .inl ⟨eR g.bl,rfl⟩
  ·exact .inr (.inl ⟨cV g.op b,b⟩)
  ·exact .inr (.inr (.inl ⟨cV g.ol b,b⟩))
  ·exact .inr (.inr (.inr ⟨cV g.oe b,b⟩))
 have o:szB h j=some 9/\j=q.id∨szB h j=some 2/\blk q.vp=some j∨szB h j=some 3/\blk q.vl=some j∨szB h j=some 1/\blk q.ve=some j:=by
  rcases a with rfl|a|a|a
  ·exact .inl ⟨eR i.bl,rfl⟩
  ·exact .inr (.inl ⟨cV i.op a,a⟩)
  ·exact .inr (.inr (.inl ⟨cV i.ol a,a⟩))
  ·exact .inr (.inr (.inr ⟨cV i.oe a,a⟩))
 have k:=l.2 j;rcases n with⟨f,c⟩|⟨f,c⟩|⟨f,c⟩|⟨f,c⟩<;>rcases o with⟨e,d⟩|⟨e,d⟩|⟨e,d⟩|⟨e,d⟩
 all_goals first
  |(rw[f]at e;cases e;done)
  |exact l.1 (c.symm.trans d)
  |exact k.1 c d
  |exact k.2.1 c d
  |exact k.2.2 c d
def pw_set{R:En->En->Prop}(d:∀ {a b},R a b->R b a):∀ {Q:List En} {i:Nat} {q q':En},Q.Pairwise R->Q[i]?=some q->(∀p∈Q.eraseIdx i,R q p->R q' p)->(Q.set i q').Pairwise R
 | [],_,_,_,_,h,_=>by simp at h
 |a :: Q,0,q,q',e,h,f=>by
  simp at h;subst h;have e:=qbb.1 e;exact qbb.2 ⟨λp c=>f p c (e.1 p c),e.2⟩
 |a :: Q,i+1,q,q',e,h,f=>by
  simp only[qa6]at h;have e:=qbb.1 e;refine qbb.2 ⟨λp c=>?_,pw_set d e.2 h λp c=>f p (by simp[c])⟩;rcases qbh c with c|rfl
  ·exact e.1 p c
  ·exact d (f a (by simp) (d (e.1 q (qab h))))
def Bld.upd{c:BC}{I h h':HL}{J:Value}{Q:List En}(g:Bld c I h J Q){i:Nat}{q q':En}(w:Q[i]?=some q)(x:keyE q'=keyE q)(hid:q'.id=q.id)(M:EnH c.n1 h' q')
  (u:∀b,(blk q'.vp=some b->blk q.vp=some b∨h.length<=b)/\(blk q'.vl=some b->blk q.vl=some b∨h.length<=b)/\(blk q'.ve=some b->blk q.ve=some b∨h.length<=b))
  (d:∀(j:Nat) o,h[j]?=some o->¬blkE q j->h'[j]?=some o) (P:h.length<=h'.length):Bld c I h' J (Q.set i q'):=by
 have H:=qab w;have l:=g.en q H;have m:∀j,j<c.n1->¬blkE q j:=λj A e=>by
  have:=(l.lt e).1;omega
 have hmap:∀ {β:Type} (f:En->β),f q'=f q->(Q.set i q').map f=Q.map f:=λf N=>by
  rw[qb4,N];exact bD (by rw[qan,w];rfl)
 have y:(Q.set i q').map keyE=Q.map keyE:=hmap keyE x;have E:((Q.set i q').map λq=>(keyE q,ptrB q.id))=Q.map λq=>(keyE q,ptrB q.id):=hmap (λq=>(keyE q,ptrB q.id)) (by simp only[x,hid]);have v:Q.Perm (q :: Q.eraseIdx i):=by
  have:=dM (a:=q) w
  rwa [bD w]at this
 have G:=qbb.1 ((v.pairwise_iff λh=>h.symm).1 g.ap);refine⟨λj o s n K L=>d j o (g.low j o s n K L) (m j s),d _ _ g.bl (m _ g.bn),?_,?_,λp F=>?_,?_,by rw[y];exact g.nd,g.bn,g.mn,g.ne,by have:=g.sz;omega⟩
 ·rw[E];exact g.mp.elim λR z=>⟨R,z.1,z.2.keep _ λo O=>d _ _ O (m _ g.mn)⟩
 ·rw[y];refine g.ky.keep λj o A C=>d j o A λe=>?_;have t:=cV g.ky C;rcases e with rfl|e|e|e
  ·rw[eR l.bl]at t;cases t
  ·rw[cV l.op e]at t;cases t
  ·rw[cV l.ol e]at t;cases t
  ·rw[cV l.oe e]at t;cases t
 ·have r:=(dM (a:=q') w).mem_iff.1 F;rcases qax.1 r with rfl|r
  ·exact M
  ·have k:=g.en p (v.mem_iff.2 (qav _ r));exact k.keep λj o A D=>d j o A (blkE_ap k l (G.1 p r).symm D)
 ·refine pw_set (λh=>h.symm) g.ap w λp F B=>?_;have k:=g.en p (v.mem_iff.2 (qav _ F));refine⟨by rw[hid];exact B.1,λb=>⟨λs n=>?_,λs n=>?_,λs n=>?_⟩⟩
  ·rcases(u b).1 s with e|e
   ·exact(B.2 b).1 e n
   ·have:=(k.op.blk n).2;omega
  ·rcases(u b).2.1 s with e|e
   ·exact(B.2 b).2.1 e n
   ·have:=(k.ol.blk n).2;omega
  ·rcases(u b).2.2 s with e|e
   ·exact(B.2 b).2.2 e n
   ·have:=(k.oe.blk n).2;omega
def ee{h:HL}{b e o n:Nat}{cs:Tk}(d:h[b]?=some (.o (.cells cs e true)))(f:o+n<=cs.length):Ptr h (.pointer (some ⟨b,0+o,none⟩)) ((cs.drop o).take n):=by
 obtain⟨p,a,c⟩:=(dK d).fd o n f;have e:fdP o (ptrB b)=some (.pointer (some ⟨b,0+o,none⟩)):=rfl;rw[e]at a;cases a;exact c
def disj_pp{a b o c:Nat}(h:a≠b):Sx.disjN (Sx.adr (.pointer (some ⟨a,o,none⟩))) (Sx.adrK 0 (.pointer (some ⟨b,c,none⟩)))=true:=nI h
def keyS(x y:Cl):K6:=if gtS x y then(y,x)else(x,y)
def gf(k:K6)(id:Nat):En:=⟨k.1,k.2,id,.slice none 0 0,.slice none 0 0,.slice none 0 0,[],[],[]⟩
def r_luB{c:BC}{w h:HL}{A:Value}{Q:List En}(m:Bld c w h A Q){k:K6}{i:Nat}{q:En}(o:Q[i]?=some q)(n:keyE q=k){v:Value}(z:v = .agg ⟨cc6 k⟩){K:Te}(t:K [ptrB q.id]) :
  P1.peek (.fn (luG cc 92 false (.pointer none) (.map (some c.mm)) v false)) h (@hid _ ⟨K⟩):=by
 obtain⟨C,g,b⟩:=m.mp;refine r_luV cc6 difK_6 (by kernel_rfl) (by kernel_rfl) vu b k z (λr e=>by cases e) (λp y r e=>?_) (λx=>?_) λB u a=>?_
 ·obtain⟨j,_,rfl⟩:=qaA.1 (g.mem_iff.1 y);cases e
 ·refine absurd ?_ x;refine(g.map Prod.fst).mem_iff.2 ?_;rw[qbU];exact qaA.2 ⟨q,qab o,n⟩
 ·obtain⟨j,d,e⟩:=qaA.1 (g.mem_iff.1 (qab a));have s:keyE j=k:=congrArg Prod.fst e;have l:ptrB j.id=u:=congrArg Prod.snd e;have f:=nd_inj m.nd d (qab o) (s.trans n.symm);rw[f]at l;rw[←l];exact t
def at_c{c:BC}{P h:HL}{D:Value}{Q:List En}(m:Bld c P h D Q)(hQ:Q.length<=1000){x y:Cl}(hx:x.2.2<4)(hy:y.2.2<4) :
  ∃(h':HL) (kv':Value) (d:List En) (i:Nat) (q:En),aB cc ab 66 ([.v (ptrB c.bm)]++cll x++cll y) (absH aa h) [.v (ptrB q.id)] (absH aa h')/\Bld c P h' kv' d/\d[i]?=some q/\keyE q=keyS x y/\h.length<=h'.length/\(d=Q∨(keyS x y∉Q.map keyE/\∃id,d=Q++[gf (keyS x y) id])):=by
 have a6:=x66 (ls:=[.v (ptrB c.bm),.i x.1,.i x.2.1,.i (Int.ofNat x.2.2),.i y.1,.i y.2.1,.i (Int.ofNat y.2.2)]) (K:=λrs h'=>∃(kv':Value) (d:List En) (i:Nat) (q:En),rs=[.v (ptrB q.id)]/\Bld c P h' kv' d/\d[i]?=some q/\keyE q=keyS x y/\h.length<=h'.length/\(d=Q∨(keyS x y∉Q.map keyE/\∃id,d=Q++[gf (keyS x y) id]))) (H:=h) (glsV (aX _) (glsI (glsI (glsI (glsI (glsI (glsI gls0))))))) (by
  unfold f66;simp only[qxh];simp (disch:=omega) only[↓qxn,↓qxc,↓qxa];have cm:=gR hx hy;simp only[cll,qag,qaf]at cm;refine ah cm ?_;simp (disch:=omega) only[↓qxn,↓qxc,↓qxa];have hg:=cmpC_g x y;by_cases C:gtS x y=true
  case' pos=>rw[p_gtr_t (hg.2 C)]
  case' neg=>rw[p_gtr_f (Int.not_lt.1 λe=>C (hg.1 e))]
  case' pos=>have hk:keyS x y=(y,x):=qd0 C
  case' neg=>have hk:keyS x y=(x,y):=qd1 C
  all_goals
   refine iM (λl h'=>h'=h/\l=[.i (keyS x y).1.1,.i (keyS x y).1.2.1,.i (Int.ofNat (keyS x y).1.2.2),.i (keyS x y).2.1,.i (keyS x y).2.2.1,.i (Int.ofNat (keyS x y).2.2.2)]) ?_ ?_
  case' pos.refine_2=>
   intro jj M;refine p_x ?_;exact M _ _ ⟨rfl,by rw[hk]⟩
  case' neg.refine_2=>
   intro jj M;refine p_x ?_;exact M _ _ ⟨rfl,by rw[hk]⟩
  all_goals
   rintro l h' ⟨e1,rfl⟩;rw[e1];clear e1;generalize keyS x y=k at *;refine p_x ?_;refine dW (ds:=[.map (some c.mm)]) m.bl (by simp[bG]) rfl ?_;refine p_x ?_;refine ac rfl ?_;refine p_y ?_;have bS:az (.map (some c.mm))=true:=rfl;have bI:∀kv' d (g:HL),Bld c P g kv' d->g[c.bm]?=some (.o (.cells (bG c kv') 8 true)):=λkv' d g m=>m.bl;have w:∀(g:HL) (kv':Value) (d:List En) (i:Nat) (q:En),Bld c P g kv' d->d[i]?=some q->keyE q=k->h.length<=g.length->(d=Q∨(k∉Q.map keyE/\∃id,d=Q++[gf k id]))->
     P1.opt (nilP (ptrB c.bm)) (@hid _ ⟨λx50=>P1.chk x50 (@hid _ ⟨P1.opt (fdP 6 x50) (@hid _ ⟨λap=>P1.chk ap (@hid _ ⟨P1.peek (.lg cc 1 ap) g (@hid _ ⟨λa7=>P1.ucV a7 (@hid _ ⟨λar a8=>P1.chk ar (@hid _ ⟨P1.uc0 a8 (@hid _ ⟨P1.peek (.fn (luG cc 92 false (.pointer none) ar (.agg ⟨cc6 k⟩) false)) g (@hid _ ⟨λa9=>P1.ucV a9 (@hid _ ⟨λx56 bd=>P1.chk x56 (@hid _ ⟨P1.uc0 bd (@hid _ ⟨∃(kv':Value) (d:List En) (i:Nat) (q:En),[Lf.v x56]=[.v (ptrB q.id)]/\Bld c P g kv' d/\d[i]?=some q/\keyE q=k/\h.length<=g.length/\(d=Q∨(k∉Q.map keyE/\∃id,d=Q++[gf k id]))⟩)⟩)⟩)⟩)⟩)⟩)⟩)⟩)⟩)⟩)⟩)⟩):=by
    intro g kv' d i q f B t a1 a4;refine dW (ds:=[.map (some c.mm)]) f.bl (by simp[bG]) rfl ?_;refine p_x ?_;refine ac rfl ?_;refine p_y ?_;refine r_luB f B t rfl ?_;refine p_x ?_;refine ac (aX _) ?_;refine p_y ?_;exact⟨kv',d,i,q,rfl,f,B,t,a1,a4⟩
   by_cases s:k∈Q.map keyE
   ·obtain⟨q,a5,t⟩:=qaA.1 s;obtain⟨i,Z⟩:=qaT a5;refine r_luB m Z t rfl ?_;refine p_x ?_;refine ac (aX _) ?_;refine p_y ?_;refine ae (x:=false) rfl ?_;refine p_x ?_;exact w h D Q i q m Z t (qaj _) (.inl rfl)
   obtain⟨b0,ag,U⟩:=m.mp;refine r_luV cc6 difK_6 (by kernel_rfl) (by kernel_rfl) vu U k rfl (λcs e=>by cases e) (λp hp cs e=>?_) (λ_=>?_) λi' u ay=>?_
   ·obtain⟨q',_,rfl⟩:=qaA.1 (ag.mem_iff.1 hp);cases e
   case refine_3=>
    obtain⟨q',B,e⟩:=qaA.1 (ag.mem_iff.1 (qab ay));exact absurd (qaA.2 ⟨q',B,congrArg Prod.fst e⟩) s
   refine p_x ?_;refine ac rfl ?_;refine p_y ?_;refine ae (x:=true) rfl ?_;refine p_x ?_;refine ae (x:=ptrB c.bm) rfl (ac (aX _) (ae (x:=.pointer (some ⟨c.bm,0+6,none⟩)) rfl (ac (bC _ _) ?_)));refine cN (ee (o:=6) (n:=1) m.bl (by simp[bG])) rfl ?_;rw[show((bG c D).drop 6).take 1=[.map (some c.mm)]from rfl];refine p_x ?_;refine ac rfl ?_;refine p_y ?_;have bx:=m.bn;have bU:=m.mn;have bX:=m.sz;have Y:Pre h (h++[HO.o (.cells (aJ (gf k h.length)) 9 true)]):=⟨_,rfl⟩;have z:=m.grow Y;obtain⟨be,an,V⟩:=z.mp;have T:(h++[HO.o (.cells (aJ (gf k h.length)) 9 true)])[h.length]?=some (.o (.cells (aJ (gf k h.length)) 9 true)):=ao;refine r_muV cc6 difK_6 (by kernel_rfl) (by kernel_rfl) vu (h:=h++[HO.o (.cells (aJ (gf k h.length)) 9 true)]) V k (λhm=>s (by have:=(an.map Prod.fst).mem_iff.1 hm;rw[qbU]at this;exact this)) rfl λo a2=>?_;have a0:(h++[HO.o (.cells (aJ (gf k h.length)) 9 true)]).length=h.length+1:=by simp
   have G:((h++[HO.o (.cells (aJ (gf k h.length)) 9 true)]).set c.mm o)[h.length]?=some (.o (.cells (aJ (gf k h.length)) 9 true)):=aV T (by omega);have E:((h++[HO.o (.cells (aJ (gf k h.length)) 9 true)]).set c.mm o)[c.bm]?=some (.o (.cells (bG c D) 8 true)):=aV z.bl (qbR m.ne);have r:OwnL c.n1 ((h++[HO.o (.cells (aJ (gf k h.length)) 9 true)]).set c.mm o) D 6 nM (Q.map keyE):=z.ky.keep λj O L J=>aV L (by have:=(z.ky.blk J).1;omega);have aE:∀(j:Nat) O,h[j]?=some O->j≠c.mm->((h++[HO.o (.cells (aJ (gf k h.length)) 9 true)]).set c.mm o)[j]?=some O:=λj O L a3=>aV (Y.get L) (qbR a3);have bP:((h++[HO.o (.cells (aJ (gf k h.length)) 9 true)]).set c.mm o).length=h.length+1:=by rw[qay,a0]
   generalize (h++[HO.o (.cells (aJ (gf k h.length)) 9 true)]).set c.mm o=R at *;refine ae (x:=()) (fq (disj_pp (by omega)) jE) ?_;refine ae (x:=ptrB c.bm) rfl (ac (aX _) (ae (x:=.pointer (some ⟨c.bm,0+7,none⟩)) rfl (ac (bC _ _) ?_)));refine cN (ee (o:=7) (n:=1) E (by simp[bG])) rfl ?_;rw[show((bG c D).drop 7).take 1=[D]from rfl];refine p_x ?_;refine ac (r.good fG) ?_;refine p_y ?_;refine r.ap1 (a:=k) fG (by omega) rfl rfl rfl (by
    unfold bh;rw[qaB,qal (by omega),qal (by omega)];rfl) ?_
   intro kv' g W ax A bt bs;refine p_x ?_;refine ac ax ?_;refine p_y ?_;have I:∀b,blk D=some b->c.n1<=b:=λb f=>(r.blk f).1;have F:g[c.bm]?=some (.o (.cells (bG c D) 8 true)):=A _ _ E λe=>by have:=I _ e;omega
   refine ae (x:=ptrB c.bm) rfl (ac (aX _) (ae (x:=.pointer (some ⟨c.bm,0+7,none⟩)) rfl (ac (bC _ _) ?_)));have ad:(Hp.st (.pointer (some ⟨c.bm,0+7,none⟩)) [kv']).run (getH aa g) g.length=some ([.set c.bm (.cells (bG c kv') 8 true)],[]):=by
    show stP (.pointer (some ⟨c.bm,0+7,none⟩)) [kv'] (getH aa g) g.length=_;unfold stP;simp only;rw[bN F];simp only;unfold splice;rw[qd0 (by simp[bG])];rfl
   refine cj ad ?_;show P1.opt _ _;have N:∀b,blk kv'=some b->c.n1<=b:=λb f=>(W.blk f).1;have S:=m.new (h':=g.set c.bm (.o (.cells (bG c kv') 8 true))) (kv':=kv') (a:=k.1) (b:=k.2) s (id:=h.length) (qaj _) (aV (A _ _ G λe=>by
     have hs:=cV r e;rw[eR G]at hs;cases hs) (by omega)) ⟨be,an,a2.keep _ λo' X=>aV (A _ _ X λe=>by have:=I _ e;omega) (m.ne)⟩ (W.keep λj O L J=>aV L (by have:=N _ J;omega)) (fc F) (λj O L h1 R h3=>aV (A _ _ (aE j O L R) h3) (qbR h1)) (by rw[qay];omega)
   refine ae (x:=()) (fq (by
    show Sx.disjN [R.length] [c.bm]=true;exact nI (by omega)) jE) ?_
   refine p_y ?_;exact w _ kv' _ Q.length (gf k h.length) S (by simp[gf]) rfl (by show h.length<=(List.set g c.bm _).length;rw[qay];omega) (.inr ⟨s,h.length,rfl⟩))
 obtain⟨rs,h',R,kv',d,i,q,rfl,h3⟩:=a6;exact⟨h',kv',d,i,q,R,h3⟩
def tabCm(w v c:Nat):Bool:=match c with
 |0=>true
 |c+1=>jc 30 (cll (clN w c)++cll (clN w (c+1))) [.i (-1)]
def tabNg(w v c:Nat):Bool:=(List.range 3).all λe=>jc 51 (cll (clN w c)++[.i (Int.ofNat e)]) (cll (nbC (clN w c) e)++[.i 0])
def allCm:∀w v:Nat,1<=w->w<=3->1<=v->v<=3->((List.range (4*w*v)).all λc=>tabCm w v c&&tabNg w v c)=true:=by
 have a:((List.range 3).all λw=>(List.range 3).all λv=>(List.range (4*(w+1)*(v+1))).all λc=>tabCm (w+1) (v+1) c&&tabNg (w+1) (v+1) c)=true:=by kernel_rfl
 intro w v e f g h;have d:=qac.1 a (w - 1) (qae.2 (by omega));have b:=qac.1 d (v - 1) (qae.2 (by omega));rw[show w - 1+1=w by omega,show v - 1+1=v by omega]at b;exact b
def ng_c{w v c e:Nat}(h:S3 w v)(a:c<4*w*v)(b:e<3):Cc 51 (cll (clN w c)++[.i (Int.ofNat e)]) (cll (nbC (clN w c) e)++[.i 0]):=by
 have:=qac.1 (allCm w v h.1 h.2.1 h.2.2.1 h.2.2.2) c (qae.2 a);rw[qaa]at this;have:=qac.1 this.2 e (qae.2 b);exact dw this rfl (by kernel_rfl) rfl
def ck1_c{h:HL}{b n i:Nat}(c:h[b]?=some (.o (.cells [.int .i64 (Int.ofNat n)] 1 true)))(d:i<n):aB cc ab 93 [.i (Int.ofNat i),.v (ptrB b)] (absH aa h) [.b false] (absH aa h):=by
 have a:=dK c;exact xK x93 (glsI (glsV a.good gls0)) (by
  unfold f93;simp only[qxh];refine p_x ?_;rw[p_lss_f (ofnn _)];refine p_x ?_;refine cN a rfl ?_;refine p_x ?_;rw[p_geq_f (ofn_lt d)];simp(disch:=omega)only[↓qXX];trivial)
def st1_c{h:HL}{d e i:Nat}{ix y:Value}{I:List Cl}{c a:Cl}(k:h[d]?=some (.o (.cells [ix] 1 true)))(l:h[e]?=some (.o (.cells [.int .i64 c.1,.int .i64 c.2.1,.int .u8 (Int.ofNat c.2.2),y] 4 true)))(f:LsH h ix 3 bw I)(m:I[i]?=some a) :
  aB cc ab 50 [.i (Int.ofNat i),.v (ptrB d),.v (ptrB e)] (absH aa h) [.b (!decide (a=c))] (absH aa h):=by
 have g:=dK k;have j:=dK l;exact xK x50 (glsI (glsV g.good (glsV j.good gls0))) (by
  unfold f50;simp only[qxh];refine p_x ?_;refine cN g rfl ?_;refine p_x ?_;refine ac f.good ?_;refine p_y ?_;refine aQ f rfl m ?_;rw[show bw a=[.int .i64 a.1,.int .i64 a.2.1,.int .u8 (Int.ofNat a.2.2)]from rfl];refine p_x ?_;refine iB (ds:=[.int .i64 c.1,.int .i64 c.2.1,.int .u8 (Int.ofNat c.2.2)]) j (by simp) rfl ?_;refine p_x ?_;rw[eqsC]
  try simp(disch:=omega)only[↓qXX]
  trivial)
structure Sm where
 k:K6
 ps:List Pq
 ls:List Lq
 es:List Nat
def absE(q:En):Sm:=⟨keyE q,q.ps,q.ls,q.es⟩
def othC(w:Nat)(P:TC)(id e:Nat):Cl:=al (P id) (nbC (clN w id) e)
def imgC(w:Nat)(P:TC)(id:Nat):Cl:=al (P id) (clN w id)
def sidS(w:Nat)(P:TC)(k:K6)(id:Nat):Nat:=if imgC w P id=k.2 then 1 else 0
abbrev _root_.TA:=Nat->Nat
def updS(w v:Nat)(l:Ty)(P:TC)(hg:TA)(id e:Nat)(s:Sm):Sm:=match nbr w v id e with
 |none=>{ s with es:=s.es++[id] }
 |some n=>if n<id then s
  else if rW l (.ofNat (min id n)) (.ofNat e)=0 then(if sidS w P s.k id=0 then { s with ps:=s.ps++[(id,n)] } else { s with ps:=s.ps++[(n,id)] })
  else if hg id<hg n then { s with ls:=s.ls++[(sidS w P s.k id,id,n)] } else { s with ls:=s.ls++[(sidS w P s.k id,n,id)] }
def py(k:K6)(Q:List Sm):List Sm:=if k∈Q.map (·.k)then Q else Q++[⟨k,[],[],[]⟩]
def jY(w v:Nat)(l:Ty)(P:TC)(hg:TA)(Q:List Sm)(id e:Nat):List Sm:=
 (py (keyS (imgC w P id) (othC w P id e)) Q).map λs=>if s.k=keyS (imgC w P id) (othC w P id e)then updS w v l P hg id e s else s
def map_upd{k:K6}{f:Sm->Sm}:∀ {Q:List Sm} {i:Nat} {s:Sm},(Q.map (·.k)).Nodup->Q[i]?=some s->s.k=k->Q.map (λs=>if s.k=k then f s else s)=Q.set i (f s)
 | [],_,_,_,h,_=>by simp at h
 |a :: Q,0,s,b,h,c=>by
  simp at h;subst h;rw[qaF,qcC]at b;rw[qaF,qd0 c,qcR]
  congr 1
  conv=>rhs;rw[←qdU Q]
  refine qbl λt d=>?_;rw[qd1]
  ·rfl
  ·intro e;exact b.1 (qaA.2 ⟨t,d,e.trans c.symm⟩)
 |a :: Q,i+1,s,b,h,c=>by
  rw[qaF,qcC]at b;simp only[qa6]at h;rw[qaF,qd1,qcB,map_upd b.2 h c];intro e;exact b.1 (qaA.2 ⟨s,qab h,c.trans e.symm⟩)
structure CtxB(c:BC)(hS:HL)(l:Ty)(G:TC)(r:Mv)(hg:TA):Prop where
 h3:S3 c.w c.v
 n1:c.n1=hS.length
 sb:szB hS c.bm=some 8
 sm:szB hS c.mm=none
 pl:LsH hS c.pl 3 encM (plL c.w c.v G r)
 im:LsH hS c.im 3 bw (imL c.w c.v G r)
 hg:LsH hS c.hg 1 encN ((List.range (4*c.w*c.v)).map hg)
 xc:LsH hS c.xc 3 encC l
 pat:Pat c.w c.v l
 gok:ConsO c.w c.v l G
 rok:okM 4000 r
 vok:allV c.w G r (4*c.w*c.v)
 nok:∀id e,id<4*c.w*c.v->e<3->vCl (al (af (G id) r) (nbC (clN c.w id) e))=true
def vG{α:Type}{e:Nat}{enc:α->Tk}{l:List α}{h:HL}{v:Value}(d:LsH h v e enc l){j:Nat}(a:blk v=some j):szB h j=some e:=by
 obtain⟨_,_,⟨rfl,_⟩|⟨id,f,i,k,g,rfl,c,_⟩⟩:=d
 ·cases a
 ·have b:id=j:=by simpa[blk]using a
  subst b;exact eR c
def Bld.ls{c:BC}{d h:HL}{n:Value}{Q:List En}(k:Bld c d h n Q){l:Ty}{G:TC}{r:Mv}{hg:TA}(f:CtxB c d l G r hg){α:Type}{e:Nat}{enc:α->Tk}{L:List α}{v:Value}(g:LsH d v e enc L)(m:e≠8):LsH h v e enc L:=
 g.keep λj o i a=>k.low j o (by rw[f.n1];exact aw i) (λb=>by
  have:=vG g a;rw[b,f.sb]at this;exact m (qat this).symm) (λb=>by
  have:=vG g a;rw[b,f.sm]at this;cases this) i
def nlE(q:En):Prop:=(q.ps=[]->q.vp = .slice none 0 0)/\(q.ls=[]->q.vl = .slice none 0 0)/\(q.es=[]->q.ve = .slice none 0 0)
def bndE(B:Nat)(q:En):Prop:=(q.ps.length<=B/\q.ls.length<=B/\q.es.length<=B)/\nlE q
def bndE.mono{B B':Nat}{q:En}(h:bndE B q)(e:B<=B'):bndE B' q:=by
 obtain⟨⟨b,c,d⟩,a⟩:=h;exact⟨⟨by omega,by omega,by omega⟩,a⟩
def touch_at{k:K6}{Q a:List En}{i:Nat}{q:En}(f:a[i]?=some q)(d:keyE q=k)(c:a=Q∨(k∉Q.map keyE/\∃id,a=Q++[gf k id])):a.map absE=py k (Q.map absE):=by
 have b:(Q.map absE).map (·.k)=Q.map keyE:=by rw[qbU];rfl
 unfold py;rw[b];rcases c with rfl|⟨e,id,rfl⟩
 ·rw[qd0 (qaA.2 ⟨q,qab f,d⟩)]
 ·rw[qd1 e,qa3];rfl
def meet_c{c:BC}{hS h:HL}{kv:Value}{Q:List En}{l:Ty}{G:TC}{r:Mv}{hg:TA}(Y:CtxB c hS l G r hg)(d:Bld c hS h kv Q)(hQ:Q.length<=900){B:Nat}(hB:B<=900)(a4:∀q∈Q,bndE B q){id e:Nat}(I:id<4*c.w*c.v)(he:e<3) :
  ∃(h':HL) (kv':Value) (V:List En),aB cc ab 26 [.v (ptrB c.bm),.i (Int.ofNat id),.i (Int.ofNat e)] (absH aa h) [] (absH aa h')/\Bld c hS h' kv' V/\V.map absE=jY c.w c.v l (λn=>af (G n) r) hg (Q.map absE) id e/\V.length<=Q.length+1/\(∀q∈V,bndE (B+1) q)/\h.length<=h'.length:=by
 have h3:=Y.h3;have hs:=h3.sh;obtain⟨b1,b2,b3,b4⟩:=h3.n;have bX:=x26 (ls:=[.v (ptrB c.bm),.i (Int.ofNat id),.i (Int.ofNat e)]) (K:=λrs h'=>∃(kv':Value) (V:List En),rs=[]/\Bld c hS h' kv' V/\V.map absE=jY c.w c.v l (λn=>af (G n) r) hg (Q.map absE) id e/\V.length<=Q.length+1/\(∀q∈V,bndE (B+1) q)/\h.length<=h'.length) (H:=h) (glsV (aX _) (glsI (glsI gls0))) (by
  unfold f26;simp only[qxh];refine p_x ?_;have ax:∀ {g:HL} {kv':Value} {V:List En},Bld c hS g kv' V->∀ {K:Te},K [.int .i64 (Int.ofNat c.w),.int .i64 (Int.ofNat c.v)]->P1.opt (nilP (ptrB c.bm)) (@hid _ ⟨λx=>P1.chk x (@hid _ ⟨P1.opt (fdP 0 x) (@hid _ ⟨λy=>P1.chk y (@hid _ ⟨P1.opt (fdP 0 y) (@hid _ ⟨λz=>P1.chk z (@hid _ ⟨P1.peek (.lg cc 2 z) g (@hid _ ⟨K⟩)⟩)⟩)⟩)⟩)⟩)⟩):=λbt K hK=>
   ae (x:=ptrB c.bm) rfl (ac (aX _) (ae (x:=.pointer (some ⟨c.bm,0+0,none⟩)) rfl (ac (bC _ _) (ae (x:=.pointer (some ⟨c.bm,0+0,none⟩)) rfl (ac (bC _ _) (cN (ee (o:=0) (n:=2) bt.bl (by simp[bG])) rfl hK))))))
  refine ax d ?_;refine p_x ?_;refine ah (cellIn (qQ c.w c.v hs.1 hs.2.1 hs.2.2.1 hs.2.2.2) I) ?_;unfold cellN;refine p_x ?_;have ng:=ng_c h3 I he;simp only[cll,clN,qag,qaf]at ng;refine ah ng ?_;refine p_x ?_;have bd:=d.ls Y Y.pl (by decide);have a6:=d.ls Y Y.im (by decide);refine dW (ds:=[c.pl]) d.bl (by simp[bG]) rfl ?_;refine p_x ?_;refine ac bd.good ?_;refine p_y ?_;refine aQ bd rfl (iC I) ?_;have b0:okM 16384 (af (G id) r):=aO (dJ (Y.gok.ok id I) Y.rok) (by omega);have bP:=dc hs I;have b5:=zd (c:=clN c.w id) (e:=e) bP.2.2.2.2 he;have b6:(clN c.w id).1<=100/\(clN c.w id).2.1<=100/\0<=(clN c.w id).1/\0<=(clN c.w id).2.1:=by
   have d1:id / 4%c.w<=id / 4:=qdW _ _;have d2:id / 4 / c.w<=id / 4:=qdl _ _;refine⟨qdp.2 (show id / 4%c.w<=100 by omega),qdp.2 (show id / 4 / c.w<=100 by omega),qaG _,qaG _⟩
  have mv:=move_w b0 (c:=nbC (clN c.w id) e) (by omega);have bU:=Y.nok id e I he;have b7:=(Y.vok id I).2;rw[qd0 bU]at mv;rw[show encM (af (G id) r)=[.int .u8 (Int.ofNat (af (G id) r).1),.int .i64 (af (G id) r).2.1,.int .i64 (af (G id) r).2.2]from rfl];refine p_x ?_;have bI:(al (af (G id) r) (nbC (clN c.w id) e)).2.2<4:=jb;have bx:(al (af (G id) r) (clN c.w id)).2.2<4:=jb;simp only[clN]at mv;simp only[cll,mvl,qag,qaf]at mv;refine ah mv ?_;refine p_x ?_;refine dW (ds:=[c.im]) d.bl (by simp[bG]) rfl ?_;refine p_x ?_;refine ac a6.good ?_;refine p_y ?_;refine aQ a6 rfl (rR I) ?_;rw[show bw (al (af (G id) r) (clN c.w id))=[.int .i64 (al (af (G id) r) (clN c.w id)).1,.int .i64 (al (af (G id) r) (clN c.w id)).2.1,.int .u8 (Int.ofNat (al (af (G id) r) (clN c.w id)).2.2)]from rfl];refine p_x ?_;obtain⟨h1,a2,Q1,i,q,c1,D,T,a7,a8,a0⟩:=at_c d (by omega) bx bI;simp only[cll,qag,qaf]at c1;refine ai c1 ?_;refine p_x ?_;have bS:=touch_at T a7 a0;have a3:Q1.length<=Q.length+1:=by
   rcases a0 with rfl|⟨_,_,rfl⟩<;>simp
  have ag:∀q∈Q1,bndE B q:=λq hq=>by
   rcases a0 with rfl|⟨_,j,rfl⟩
   ·exact a4 q hq
   ·rcases qaz.1 hq with hq|hq
    ·exact a4 q hq
    ·rw[qaq]at hq;subst hq;exact⟨⟨qaC _,qaC _,qaC _⟩,λ_=>rfl,λ_=>rfl,λ_=>rfl⟩
  have bn:=qab T;have W:=ag q bn;have a5:=W;unfold bndE at a5;have f:=D.en q bn;have N:∀(x:Value) (g:HL),g[q.id]?=some (.o (.cells (aJ q) 9 true))->OwnL c.n1 g (.slice (some ⟨q.id,0,tag 9⟩) 1 0) 9 (λ_:Unit=>aJ q) [()]:=λx g hx=>.inr ⟨q.id,0,rfl,f.idn,by simpa using hx,.inl rfl⟩;have m:=N (.bool true) h1 f.bl;have a9:((Q1.map absE).map (·.k)).Nodup:=by
   rw[qbU];exact D.nd
  have be:(Q1.map absE)[i]?=some (absE q):=by rw[qan,T];rfl
  have an:jY c.w c.v l (λn=>af (G n) r) hg (Q.map absE) id e=(Q1.map absE).set i (updS c.w c.v l (λn=>af (G n) r) hg id e (absE q)):=by
   unfold jY;show(py (keyS (al (af (G id) r) (clN c.w id)) (al (af (G id) r) (nbC (clN c.w id) e))) (Q.map absE)).map _=_;rw[←bS];exact map_upd a9 be a7
  have S:∀(q':En) (h':HL),keyE q'=keyE q->absE q'=updS c.w c.v l (λn=>af (G n) r) hg id e (absE q)->Bld c hS h' a2 (Q1.set i q')->bndE (B+1) q'->h1.length<=h'.length->
    ∃(kv':Value) (V:List En),True/\Bld c hS h' kv' V/\V.map absE=jY c.w c.v l (λn=>af (G n) r) hg (Q.map absE) id e/\V.length<=Q.length+1/\(∀q∈V,bndE (B+1) q)/\h.length<=h'.length:=by
   intro q' h' e1 e2 e3 e4 e5;refine⟨a2,Q1.set i q',trivial,e3,?_,by rw[qay];exact a3,λt ht=>?_,by omega⟩
   ·rw[an,qb4,e2]
   ·rcases qbh ht with ht|rfl
    ·have:=ag t ht;exact this.mono (by omega)
    ·exact e4
  refine ax D ?_;refine p_x ?_;have nb:=nb_c hs I he;unfold ut at nb;refine ah nb ?_;clear ng mv nb c1;cases hx:nbr c.w c.v id e with
  |none=>
   refine p_x ?_;refine dW (ds:=[q.ve]) f.bl (by simp[aJ,bw]) rfl ?_;refine p_x ?_;refine ac (f.oe.good aG) ?_;refine p_y ?_;refine f.oe.ap1 (a:=id) aG (by have:=D.sz;omega) rfl rfl rfl (by
    unfold bh;rw[qal (by omega),qal (by omega)];rfl) ?_
   intro U Z M O p A J;refine p_x ?_;refine ac O ?_;refine p_y ?_;have s:blk q.ve≠some q.id:=λe=>aM f.oe m (by decide) e rfl;refine ki (b:=q.id) (p _ _ f.bl s) (by simp[aJ,bw]) ?_;refine p_y ?_
   exact S ⟨q.a,q.b,q.id,q.vp,q.vl,U,q.ps,q.ls,q.es++[id]⟩ _ rfl (by unfold updS absE;rw[hx];rfl) (D.upd T rfl rfl ⟨f.idn,fc (p _ _ f.bl s),f.op.keep λj F C d=>aV (p j F C λe=>aM f.oe f.op (by decide) e d) (λe=>aM (e:=2) (e':=9) f.op m (by decide) d (by rw[←e];rfl)),f.ol.keep λj F C d=>aV (p j F C λe=>aM f.oe f.ol (by decide) e d) (λe=>aM (e:=3) (e':=9) f.ol m (by decide) d (by rw[←e];rfl)),M.keep λj F C d=>aV C (λe=>aM (n0:=c.n1) (e:=1) (e':=9) M (N U Z (p _ _ f.bl s)) (by decide) d (by rw[←e];rfl))⟩ (λb=>⟨λd=>.inl d,λd=>.inl d,λd=>J.elim (λe=>.inl (e▸d)) λ⟨j,e,R⟩=>.inr (by simp only at d;rw[d]at e;cases e;exact R)⟩) (λj F C L=>aV (p j F C λe=>L (.inr (.inr (.inr e)))) (λe=>L (.inl e.symm))) (by rw[qay];exact A)) (by have u:=W;unfold bndE nlE at u ⊢;simp only[qau,qbT];refine⟨by omega,?_,?_,?_⟩<;>first|exact u.2.1|exact u.2.2.1|exact u.2.2.2|(intro e;simp at e)) (by rw[qay];exact A)
  |some n=>
  refine p_x ?_;by_cases aE:n<id
  ·rw[aD aE];refine p_x ?_;have a1:updS c.w c.v l (λn=>af (G n) r) hg id e (absE q)=absE q:=by
    unfold updS;rw[hx];simp only;rw[qd0 aE]
   refine⟨a2,Q1,by first|rfl|trivial,D,?_,a3,λt ht=>?_,a8⟩
   ·rw[an,a1,bD be]
   ·have:=ag t ht;exact this.mono (by omega)
  rw[aC (by omega)];refine p_x ?_;obtain⟨g1,Z,g3,g4,g5⟩:=eC hs I he hx;have bs:=D.ls Y Y.xc (by decide);have ay:=D.ls Y Y.im (by decide);have X:=D.ls Y Y.hg (by decide);refine dW (ds:=[.int .i64 (Int.ofNat c.w),.int .i64 (Int.ofNat c.v),c.xc]) D.bl (by simp[bG]) rfl ?_;refine p_x ?_;refine ac bs.good ?_;refine p_y ?_;refine ai (kind_c Y.pat bs I he hx (by omega)) ?_;refine p_x ?_;refine dW (ds:=[c.im]) D.bl (by simp[bG]) rfl ?_;refine p_x ?_;refine ac ay.good ?_;refine p_y ?_;refine aQ ay rfl (rR I) ?_;rw[show bw (al (af (G id) r) (clN c.w id))=[.int .i64 (al (af (G id) r) (clN c.w id)).1,.int .i64 (al (af (G id) r) (clN c.w id)).2.1,.int .u8 (Int.ofNat (al (af (G id) r) (clN c.w id)).2.2)]from rfl];refine p_x ?_;refine dW (ds:=[.int .i64 q.b.1,.int .i64 q.b.2.1,.int .u8 (Int.ofNat q.b.2.2)]) f.bl (by simp[aJ,bw]) rfl ?_;refine p_x ?_;rw[eqsC];have E:updS c.w c.v l (λn=>af (G n) r) hg id e (absE q)=if rW l (.ofNat (min id n)) (.ofNat e)=0 then(if sidS c.w (λn=>af (G n) r) (keyE q) id=0 then { absE q with ps:=q.ps++[(id,n)] } else { absE q with ps:=q.ps++[(n,id)] })
    else if hg id<hg n then { absE q with ls:=q.ls++[(sidS c.w (λn=>af (G n) r) (keyE q) id,id,n)] } else { absE q with ls:=q.ls++[(sidS c.w (λn=>af (G n) r) (keyE q) id,n,id)] }:=by
   unfold updS;rw[hx];simp only;rw[qd1 aE];rfl
  have ad:sidS c.w (λn=>af (G n) r) (keyE q) id=if al (af (G id) r) (clN c.w id)=q.b then 1 else 0:=rfl
  have ap:∀j,j<4*c.w*c.v->((List.range (4*c.w*c.v)).map hg)[j]?=some (hg j):=λj C=>by rw[qan,qbc C];rfl
  by_cases ar:al (af (G id) r) (clN c.w id)=q.b
  ·rw[qdZ ar];rw[qd0 ar]at ad;rw[ad]at E;refine p_x ?_;by_cases P:rW l (.ofNat (min id n)) (.ofNat e)=0
   ·rw[p_eql_t P];rw[qd0 P,qd1 (by decide)]at E;simp(disch:=omega)only[↓qXX]
    try rw[p_eql_t P]
    refine p_y ?_;refine dW (ds:=[q.vp]) f.bl (by simp[aJ,bw]) rfl ?_;refine p_x ?_;refine ac (f.op.good eY) ?_;refine p_y ?_;refine f.op.ap1 (a:=((n,id):Pq)) eY (by have:=D.sz;omega) rfl rfl rfl (by
     unfold bh;rw[qal (by omega),qal (by omega)];rfl) ?_
    intro U Z M O p A J;refine p_x ?_;refine ac O ?_;refine p_y ?_;have s:blk q.vp≠some q.id:=λe=>aM f.op m (by decide) e rfl;refine ki (b:=q.id) (p _ _ f.bl s) (by simp[aJ,bw]) ?_;refine p_y ?_
    exact S ⟨q.a,q.b,q.id,U,q.vl,q.ve,q.ps++[((n,id):Pq)],q.ls,q.es⟩ _ rfl (by rw[E];rfl) (D.upd T rfl rfl ⟨f.idn,fc (p _ _ f.bl s),M.keep λj F C d=>aV C (λe=>aM (n0:=c.n1) (e:=2) (e':=9) M (N U Z (p _ _ f.bl s)) (by decide) d (by rw[←e];rfl)),f.ol.keep λj F C d=>aV (p j F C λe=>aM f.op f.ol (by decide) e d) (λe=>aM (e:=3) (e':=9) f.ol m (by decide) d (by rw[←e];rfl)),f.oe.keep λj F C d=>aV (p j F C λe=>aM f.op f.oe (by decide) e d) (λe=>aM (e:=1) (e':=9) f.oe m (by decide) d (by rw[←e];rfl))⟩ (λb=>⟨λd=>J.elim (λe=>.inl (e▸d)) λ⟨j,e,R⟩=>.inr (by simp only at d;rw[d]at e;cases e;exact R),λd=>.inl d,λd=>.inl d⟩) (λj F C L=>aV (p j F C λe=>L (.inr (.inl e))) (λe=>L (.inl e.symm))) (by rw[qay];exact A)) (by have u:=W;unfold bndE nlE at u ⊢;simp only[qau,qbT];refine⟨by omega,?_,?_,?_⟩<;>first|exact u.2.1|exact u.2.2.1|exact u.2.2.2|(intro e;simp at e)) (by rw[qay];exact A)
   ·rw[p_eql_f P];rw[qd1 P]at E;simp(disch:=omega)only[↓qXX]
    try rw[p_eql_f P]
    refine p_y ?_;refine dW (ds:=[c.hg]) D.bl (by simp[bG]) rfl ?_;refine p_x ?_;refine ac X.good ?_;refine p_y ?_;refine aQ X rfl (ap id I) ?_;rw[show encN (hg id)=[.int .i64 (Int.ofNat (hg id))]from rfl];refine p_x ?_;refine dW (ds:=[c.hg]) D.bl (by simp[bG]) rfl ?_;refine p_x ?_;refine ac X.good ?_;refine p_y ?_;refine aQ X rfl (ap n g1) ?_;rw[show encN (hg n)=[.int .i64 (Int.ofNat (hg n))]from rfl];refine p_x ?_;by_cases hh:hg id<hg n
    ·rw[aD hh];rw[qd0 hh]at E;refine p_x ?_;refine dW (ds:=[q.vl]) f.bl (by simp[aJ,bw]) rfl ?_;refine p_x ?_;refine ac (f.ol.good cH) ?_;refine p_y ?_;refine f.ol.ap1 (a:=((1,id,n):Lq)) cH (by have:=D.sz;omega) rfl rfl rfl (by
      unfold bh;rw[qal (by omega),qal (by omega)];rfl) ?_
     intro U Z M O p A J;refine p_x ?_;refine ac O ?_;refine p_y ?_;have s:blk q.vl≠some q.id:=λe=>aM f.ol m (by decide) e rfl;refine ki (b:=q.id) (p _ _ f.bl s) (by simp[aJ,bw]) ?_;refine p_y ?_
     exact S ⟨q.a,q.b,q.id,q.vp,U,q.ve,q.ps,q.ls++[((1,id,n):Lq)],q.es⟩ _ rfl (by rw[E];rfl) (D.upd T rfl rfl ⟨f.idn,fc (p _ _ f.bl s),f.op.keep λj F C d=>aV (p j F C λe=>aM f.ol f.op (by decide) e d) (λe=>aM (e:=2) (e':=9) f.op m (by decide) d (by rw[←e];rfl)),M.keep λj F C d=>aV C (λe=>aM (n0:=c.n1) (e:=3) (e':=9) M (N U Z (p _ _ f.bl s)) (by decide) d (by rw[←e];rfl)),f.oe.keep λj F C d=>aV (p j F C λe=>aM f.ol f.oe (by decide) e d) (λe=>aM (e:=1) (e':=9) f.oe m (by decide) d (by rw[←e];rfl))⟩ (λb=>⟨λd=>.inl d,λd=>J.elim (λe=>.inl (e▸d)) λ⟨j,e,R⟩=>.inr (by simp only at d;rw[d]at e;cases e;exact R),λd=>.inl d⟩) (λj F C L=>aV (p j F C λe=>L (.inr (.inr (.inl e)))) (λe=>L (.inl e.symm))) (by rw[qay];exact A)) (by have u:=W;unfold bndE nlE at u ⊢;simp only[qau,qbT];refine⟨by omega,?_,?_,?_⟩<;>first|exact u.2.1|exact u.2.2.1|exact u.2.2.2|(intro e;simp at e)) (by rw[qay];exact A)
    ·rw[aC (by omega)];rw[qd1 hh]at E;refine p_x ?_;refine dW (ds:=[q.vl]) f.bl (by simp[aJ,bw]) rfl ?_;refine p_x ?_;refine ac (f.ol.good cH) ?_;refine p_y ?_;refine f.ol.ap1 (a:=((1,n,id):Lq)) cH (by have:=D.sz;omega) rfl rfl rfl (by
      unfold bh;rw[qal (by omega),qal (by omega)];rfl) ?_
     intro U Z M O p A J;refine p_x ?_;refine ac O ?_;refine p_y ?_;have s:blk q.vl≠some q.id:=λe=>aM f.ol m (by decide) e rfl;refine ki (b:=q.id) (p _ _ f.bl s) (by simp[aJ,bw]) ?_;refine p_y ?_
     exact S ⟨q.a,q.b,q.id,q.vp,U,q.ve,q.ps,q.ls++[((1,n,id):Lq)],q.es⟩ _ rfl (by rw[E];rfl) (D.upd T rfl rfl ⟨f.idn,fc (p _ _ f.bl s),f.op.keep λj F C d=>aV (p j F C λe=>aM f.ol f.op (by decide) e d) (λe=>aM (e:=2) (e':=9) f.op m (by decide) d (by rw[←e];rfl)),M.keep λj F C d=>aV C (λe=>aM (n0:=c.n1) (e:=3) (e':=9) M (N U Z (p _ _ f.bl s)) (by decide) d (by rw[←e];rfl)),f.oe.keep λj F C d=>aV (p j F C λe=>aM f.ol f.oe (by decide) e d) (λe=>aM (e:=1) (e':=9) f.oe m (by decide) d (by rw[←e];rfl))⟩ (λb=>⟨λd=>.inl d,λd=>J.elim (λe=>.inl (e▸d)) λ⟨j,e,R⟩=>.inr (by simp only at d;rw[d]at e;cases e;exact R),λd=>.inl d⟩) (λj F C L=>aV (p j F C λe=>L (.inr (.inr (.inl e)))) (λe=>L (.inl e.symm))) (by rw[qay];exact A)) (by have u:=W;unfold bndE nlE at u ⊢;simp only[qau,qbT];refine⟨by omega,?_,?_,?_⟩<;>first|exact u.2.1|exact u.2.2.1|exact u.2.2.2|(intro e;simp at e)) (by rw[qay];exact A)
  ·rw[qdY ar];rw[qd1 ar]at ad;rw[ad]at E;refine p_x ?_;by_cases P:rW l (.ofNat (min id n)) (.ofNat e)=0
   ·rw[p_eql_t P];rw[qd0 P,qd0 rfl]at E;simp(disch:=omega)only[↓qXX]
    try rw[p_eql_t P]
    refine p_y ?_;refine dW (ds:=[q.vp]) f.bl (by simp[aJ,bw]) rfl ?_;refine p_x ?_;refine ac (f.op.good eY) ?_;refine p_y ?_;refine f.op.ap1 (a:=((id,n):Pq)) eY (by have:=D.sz;omega) rfl rfl rfl (by
     unfold bh;rw[qal (by omega),qal (by omega)];rfl) ?_
    intro U Z M O p A J;refine p_x ?_;refine ac O ?_;refine p_y ?_;have s:blk q.vp≠some q.id:=λe=>aM f.op m (by decide) e rfl;refine ki (b:=q.id) (p _ _ f.bl s) (by simp[aJ,bw]) ?_;refine p_y ?_
    exact S ⟨q.a,q.b,q.id,U,q.vl,q.ve,q.ps++[((id,n):Pq)],q.ls,q.es⟩ _ rfl (by rw[E];rfl) (D.upd T rfl rfl ⟨f.idn,fc (p _ _ f.bl s),M.keep λj F C d=>aV C (λe=>aM (n0:=c.n1) (e:=2) (e':=9) M (N U Z (p _ _ f.bl s)) (by decide) d (by rw[←e];rfl)),f.ol.keep λj F C d=>aV (p j F C λe=>aM f.op f.ol (by decide) e d) (λe=>aM (e:=3) (e':=9) f.ol m (by decide) d (by rw[←e];rfl)),f.oe.keep λj F C d=>aV (p j F C λe=>aM f.op f.oe (by decide) e d) (λe=>aM (e:=1) (e':=9) f.oe m (by decide) d (by rw[←e];rfl))⟩ (λb=>⟨λd=>J.elim (λe=>.inl (e▸d)) λ⟨j,e,R⟩=>.inr (by simp only at d;rw[d]at e;cases e;exact R),λd=>.inl d,λd=>.inl d⟩) (λj F C L=>aV (p j F C λe=>L (.inr (.inl e))) (λe=>L (.inl e.symm))) (by rw[qay];exact A)) (by have u:=W;unfold bndE nlE at u ⊢;simp only[qau,qbT];refine⟨by omega,?_,?_,?_⟩<;>first|exact u.2.1|exact u.2.2.1|exact u.2.2.2|(intro e;simp at e)) (by rw[qay];exact A)
   ·rw[p_eql_f P];rw[qd1 P]at E;simp(disch:=omega)only[↓qXX]
    try rw[p_eql_f P]
    refine p_y ?_;refine dW (ds:=[c.hg]) D.bl (by simp[bG]) rfl ?_;refine p_x ?_;refine ac X.good ?_;refine p_y ?_;refine aQ X rfl (ap id I) ?_;rw[show encN (hg id)=[.int .i64 (Int.ofNat (hg id))]from rfl];refine p_x ?_;refine dW (ds:=[c.hg]) D.bl (by simp[bG]) rfl ?_;refine p_x ?_;refine ac X.good ?_;refine p_y ?_;refine aQ X rfl (ap n g1) ?_;rw[show encN (hg n)=[.int .i64 (Int.ofNat (hg n))]from rfl];refine p_x ?_;by_cases hh:hg id<hg n
    ·rw[aD hh];rw[qd0 hh]at E;refine p_x ?_;refine dW (ds:=[q.vl]) f.bl (by simp[aJ,bw]) rfl ?_;refine p_x ?_;refine ac (f.ol.good cH) ?_;refine p_y ?_;refine f.ol.ap1 (a:=((0,id,n):Lq)) cH (by have:=D.sz;omega) rfl rfl rfl (by
      unfold bh;rw[qal (by omega),qal (by omega)];rfl) ?_
     intro U Z M O p A J;refine p_x ?_;refine ac O ?_;refine p_y ?_;have s:blk q.vl≠some q.id:=λe=>aM f.ol m (by decide) e rfl;refine ki (b:=q.id) (p _ _ f.bl s) (by simp[aJ,bw]) ?_;refine p_y ?_
     exact S ⟨q.a,q.b,q.id,q.vp,U,q.ve,q.ps,q.ls++[((0,id,n):Lq)],q.es⟩ _ rfl (by rw[E];rfl) (D.upd T rfl rfl ⟨f.idn,fc (p _ _ f.bl s),f.op.keep λj F C d=>aV (p j F C λe=>aM f.ol f.op (by decide) e d) (λe=>aM (e:=2) (e':=9) f.op m (by decide) d (by rw[←e];rfl)),M.keep λj F C d=>aV C (λe=>aM (n0:=c.n1) (e:=3) (e':=9) M (N U Z (p _ _ f.bl s)) (by decide) d (by rw[←e];rfl)),f.oe.keep λj F C d=>aV (p j F C λe=>aM f.ol f.oe (by decide) e d) (λe=>aM (e:=1) (e':=9) f.oe m (by decide) d (by rw[←e];rfl))⟩ (λb=>⟨λd=>.inl d,λd=>J.elim (λe=>.inl (e▸d)) λ⟨j,e,R⟩=>.inr (by simp only at d;rw[d]at e;cases e;exact R),λd=>.inl d⟩) (λj F C L=>aV (p j F C λe=>L (.inr (.inr (.inl e)))) (λe=>L (.inl e.symm))) (by rw[qay];exact A)) (by have u:=W;unfold bndE nlE at u ⊢;simp only[qau,qbT];refine⟨by omega,?_,?_,?_⟩<;>first|exact u.2.1|exact u.2.2.1|exact u.2.2.2|(intro e;simp at e)) (by rw[qay];exact A)
    ·rw[aC (by omega)];rw[qd1 hh]at E;refine p_x ?_;refine dW (ds:=[q.vl]) f.bl (by simp[aJ,bw]) rfl ?_;refine p_x ?_;refine ac (f.ol.good cH) ?_;refine p_y ?_;refine f.ol.ap1 (a:=((0,n,id):Lq)) cH (by have:=D.sz;omega) rfl rfl rfl (by
      unfold bh;rw[qal (by omega),qal (by omega)];rfl) ?_
     intro U Z M O p A J;refine p_x ?_;refine ac O ?_;refine p_y ?_;have s:blk q.vl≠some q.id:=λe=>aM f.ol m (by decide) e rfl;refine ki (b:=q.id) (p _ _ f.bl s) (by simp[aJ,bw]) ?_;refine p_y ?_
     exact S ⟨q.a,q.b,q.id,q.vp,U,q.ve,q.ps,q.ls++[((0,n,id):Lq)],q.es⟩ _ rfl (by rw[E];rfl) (D.upd T rfl rfl ⟨f.idn,fc (p _ _ f.bl s),f.op.keep λj F C d=>aV (p j F C λe=>aM f.ol f.op (by decide) e d) (λe=>aM (e:=2) (e':=9) f.op m (by decide) d (by rw[←e];rfl)),M.keep λj F C d=>aV C (λe=>aM (n0:=c.n1) (e:=3) (e':=9) M (N U Z (p _ _ f.bl s)) (by decide) d (by rw[←e];rfl)),f.oe.keep λj F C d=>aV (p j F C λe=>aM f.ol f.oe (by decide) e d) (λe=>aM (e:=1) (e':=9) f.oe m (by decide) d (by rw[←e];rfl))⟩ (λb=>⟨λd=>.inl d,λd=>J.elim (λe=>.inl (e▸d)) λ⟨j,e,R⟩=>.inr (by simp only at d;rw[d]at e;cases e;exact R),λd=>.inl d⟩) (λj F C L=>aV (p j F C λe=>L (.inr (.inr (.inl e)))) (λe=>L (.inl e.symm))) (by rw[qay];exact A)) (by have u:=W;unfold bndE nlE at u ⊢;simp only[qau,qbT];refine⟨by omega,?_,?_,?_⟩<;>first|exact u.2.1|exact u.2.2.1|exact u.2.2.2|(intro e;simp at e)) (by rw[qay];exact A))
 obtain⟨rs,h',h2,kv',V,rfl,h4⟩:=bX;exact⟨h',kv',V,h2,h4⟩
end Go.Am
namespace Go.Am
open Sx Go.Proofs Go.Shelf Go.Lib Go.Sort
section
variable [Val]
def wr_below [Glo]{C:Cfg}{a:Nat}{mu:HMap}{H:Tp}{w w':World}(h:WR C a mu H w)(d:Go.RowKit.Below w.heap.size w w')(n:w.drawn<=w'.drawn):WR C a mu H w'/\Evo H mu w H mu w':=by
 refine⟨⟨λid o k f=>?_,h.inj,h.own,h.ro,h.dom,λg r q=>?_⟩,⟨qaj _,λ_ _=>rfl,d.size,λb l _=>d.block b l,λb h=>.inr h,d.os,d.tape,d.output,n⟩⟩
 ·obtain⟨p,i,j⟩:=h.obj id o k f;exact⟨p,i,by rw[d.block _ (iy f j)];exact j⟩
 ·obtain⟨k,f,c,e,m,i,j⟩:=h.glob g r q;exact⟨k,f,c,e,m,by rw[d.block _ (qaO.1 i).1];exact i,j⟩
def zG{W w':World}(h1:w'.os=W.os)(d:w'.tape=W.tape)(f:w'.output=W.output)(h:W.drawn<=w'.drawn)(l:W.heap.size<=w'.heap.size)(j:∀b,b<W.heap.size->w'.heap[b]?=W.heap[b]?):∃q a,w'=grow (W.drewN q) a:=by
 refine⟨w'.drawn - W.drawn,w'.heap.extract W.heap.size w'.heap.size,?_⟩;have e:w'.heap=W.heap++w'.heap.extract W.heap.size w'.heap.size:=by
  apply qcA;intro i;rw[Array.getElem?_append];split
  next g=>exact j i g
  next g=>
   rw[Array.getElem?_extract];split
   ·congr 1;omega
   ·rw[qbF (by omega)]
 obtain⟨m,o,c,n,k⟩:=w';simp only at h1 d f h e;subst h1 d f;unfold grow World.drewN;simp only;rw[←e,show W.drawn+(c - W.drawn)=c by omega]
def rJ{α:Type} [Inhabited α]{enc:α->Tk}{e:Nat}(b:∀x,(enc x).length=e){l:List α}{t:Nat}(d:t<l.length*e):(l.flatMap enc)[t]?=some (Go.Sort.flatK enc e l.toArray)[t]!:=by
 rw[Go.Sort.get_flatK enc e l.toArray t (by simpa using d)];have n:0<e:=by
  rcases qdr e with h|h
  ·subst h;simp at d
  ·exact h
 have g:t / e<l.length:=Nat.div_lt_of_lt_mul (by rw[Nat.mul_comm];exact d);have k:=kY (e:=e) (enc:=enc) (l:=l) (λa _=>b a) (i:=t / e) (a:=l[t / e]) (qap g);have c:=qck t n;have j:t=t / e*e+t%e:=by rw[Nat.mul_comm];exact(Nat.div_add_mod t e).symm
 have f:((l.flatMap enc).drop (t / e*e))[t%e]?=(enc l[t / e])[t%e]?:=by
  rw[←k,qbu,qd0 c]
 rw[qbq,←j]at f;rw[f];have m:(l.toArray)[t / e]! = l[t / e]:=by simp[g]
 rw[m,qap (by rw[b];exact c),List.getElem!_eq_getElem?_getD,qap (by rw[b];exact c)];rfl
def xa{α:Type} [Inhabited α]{enc:α->Tk}{e:Nat}(r:∀x,(enc x).length=e)(y:∀x,∀v∈enc x,Am.scalar v=true) [Glo]{mu:HMap}{p:Pl}{w:World}{l:List α}(u:objR mu p w.heap[p.b]? (.cells (l.flatMap enc) e true)):HoldsK enc e w p.b p.o l.toArray:=by
 obtain⟨_,_,_,c,t,z,g,A,i,k⟩:=u;obtain rfl:=i rfl;intro j h;rw[Go.Sort.size_flatK]at h;have f:=rJ (enc:=enc) r (l:=l) (t:=j) (by simpa using h);obtain⟨B,m,n⟩:=k j _ f;have d:Am.scalar (Go.Sort.flatK enc e l.toArray)[j]! = true:=by
  have s:=qab f;obtain⟨a,_,q⟩:=qa8.1 s;exact y a _ q
 have:=cM d n;subst this;exact⟨by simp[World.cell?,g,m],by simp[World.frozen?,g]⟩
def qM{C:Cfg}{d:Nat}{mu:HMap}{H:Tp}{w:World} [Glo](E:WR C d mu H w){α:Type} [Inhabited α]{enc:α->Tk}{e:Nat}(g:∀x,(enc x).length=e)(I:∀x,∀v∈enc x,Am.scalar v=true){id:Nat}{p:Pl}{l l':List α}
  (hid:H[id]?=some (.cells (l.flatMap enc) e true)) (G:mu id=some p) (F:l'.length=l.length) (n:Nat) (os:Array Obj) :
  WR C d mu (H.set id (.cells (l'.flatMap enc) e true)) (sortWorldK enc e w p.b p.o n l'.toArray os)/\Evo H mu w (H.set id (.cells (l'.flatMap enc) e true)) mu (sortWorldK enc e w p.b p.o n l'.toArray os):=by
 obtain⟨T,m,P⟩:=E.obj id _ hid rfl;rw[G]at m;cases m;obtain⟨N,z,R,c,t,y,A,B,O,S⟩:=P;have j:(l'.flatMap enc).length=l'.length*e:=aY λa _=>g a;have h:(l.flatMap enc).length=l.length*e:=aY λa _=>g a;have q:=E.set (w':=Go.Sort.putRowK enc e (Go.Sort.ahead w n) p.b p.o l'.toArray) (x:=.cells (Go.Sort.putCells (λv:Value=>v) p.o (Go.Sort.flatK enc e l'.toArray) c) t y) hid rfl G (by
   apply qcA;intro i;show(w.heap.modify p.b _)[i]?=_;rw[qcZ,qbn];split
   next f=>
    subst f;rw[A,qd0 (qaO.1 A).1];rfl
   ·rfl) rfl rfl rfl (.cells (l'.flatMap enc) e true) (λ_=>rfl) ⟨N,by rw[j,F,←h];exact z,by
    rw[qac];intro v r;obtain⟨a,_,s⟩:=qa8.1 r;exact gq (I a v s),_,t,y,rfl,by simp[Go.Sort.putCells,B],O,λi v r=>by
    have f:i<l'.length*e:=by rw[←j];exact(qbg.1 r).1
    have D:=rJ (enc:=enc) g (l:=l') f;rw[r]at D;obtain⟨u,Q⟩ : ∃u,c[p.o+i]?=some u:=⟨c[p.o+i]'(by rw[B];rw[h]at z;rw[F]at f;omega),qbe _⟩;refine⟨v,?_,?_⟩
    ·simp only[Go.Sort.putCells,Array.getElem?_mapIdx,Q,qaJ];rw[qd0 ⟨by omega,by rw[Go.Sort.size_flatK];simpa using f⟩,show p.o+i - p.o=i by omega,←qat D]
    ·obtain⟨a,_,s⟩:=qa8.1 (qab r);exact .scalar (I a v s)⟩ (Nat.le_add_right _ _)
 obtain⟨J,K⟩:=q;obtain⟨L,M⟩:=wr_below (w':=sortWorldK enc e w p.b p.o n l'.toArray os) J ⟨rfl,rfl,rfl,by unfold sortWorldK grow;simp,λk g=>by
  unfold sortWorldK grow;simp only;rw[qcH g]⟩ (qaj _)
 exact⟨L,K.trans M⟩
def srt{α:Type} [Inhabited α](a:α->α->Int)(l:List α):List α:=(pdq (ltOf a) l.toArray 0 l.length (Lib.bitLen l.length) true true).toList
def uT{α:Type} [Inhabited α]{a:α->α->Int}(b:SWO (ltOf a))(l:List α):PermIn 0 l.length l.toArray (srt a l).toArray/\SortedIn (ltOf a) 0 l.length (srt a l).toArray:=by
 have h:=pdq_sorts (ltOf a) b l.toArray 0 l.length (Lib.bitLen l.length) true true (qaC _) (by simp) (Or.inl rfl);unfold srt;simpa using h
def iS{α:Type} [Inhabited α]{a:α->α->Int}(b:SWO (ltOf a))(l:List α):(srt a l).Perm l:=by
 have h:=(uT b l).1.2.2;have c:(srt a l).length=l.length:=by
  have:=(uT b l).1.1;simpa using this
 simpa[List.extract_eq_take_drop,c,qaH]using h
def sP{α:Type} [Inhabited α]{a:α->α->Int}(c:SWO (ltOf a))(l:List α):(srt a l).Pairwise λx y=>ltOf a y x=false:=by
 have f:(srt a l).length=l.length:=by
  have:=(uT c l).1.1;simpa using this
 rw[qdx];intro i j d e b;have h:=(uT c l).2 i j (qaC _) b (by omega);simpa[d,e]using h
end
def roO(S:Tt)(i:Nat)(o:HObj):HObj:=match S i,o with
 |true,.cells a e _=>.cells a e false
 |_,_=>.dead
def roH(S:Tt)(H:Tp):Tp:=H.mapIdx (roO S)
def oW{S:Tt}{H:Tp}{i:Nat}{o:HObj}(h:(roH S H)[i]?=some o):∃a,H[i]?=some a/\o=roO S i a:=by
 unfold roH at h;rw[List.getElem?_mapIdx]at h;cases b:H[i]? with
 |none=>rw[b]at h;cases h
 |some a=>
  rw[b]at h;exact⟨a,rfl,(qat h).symm⟩
def uI{S:Tt}{i:Nat}{o:HObj}(h:(roO S i o).alive=true):S i=true/\∃vs e rw,o = .cells vs e rw/\roO S i o = .cells vs e false:=by
 unfold roO at h ⊢;split at h
 next a=>
  exact⟨a,_,_,_,rfl,rfl⟩
 ·cases h
def oX{S:Tt}{i:Nat}{o:HObj}:(roO S i o).owned=false:=by
 unfold roO;split<;>rfl
section
variable [Val]
def cmp_laysR{C:Cfg}{α:Type} [Inhabited α]{enc:α->Tk}{e:Nat}{cf:α->α->Int}{g:TK}(hs:∀x,∀v∈enc x,Am.scalar v=true)
  {S:Tt} {H:Tp} {caps:Tk} (hc:∀x y,∃H',dP C g ([.agg ⟨enc x⟩,.agg ⟨enc y⟩]++caps) (roH S H) (.int .i64 (cf x y)) H') [glo:Glo] {f:Nat} {mu:HMap} {w:World} (B:WR C f mu H w) {D:Tk} (Y:VRs noL mu caps D)
  {id:Nat} {vs:Tk} {p:Pl} (hid:H[id]?=some (.cells vs e true)) (hp:mu id=some p) (T:S id=false) (off n:Nat) (hG:∀g vs,C.G g=some vs->vs.all gfl=true):CmpLays C.P g ⟨D⟩ enc e cf p.b off n w:=by
 intro m Q E _ x y cs;have ar:f<=p.b:=B.own id _ p hid rfl hp;have a:∀b t,b≠p.b->w.heap[b]?=some t->(sortWorldK enc e w p.b off m E Q).heap[b]?=some t:=λb t X ht=>by
  unfold sortWorldK grow;simp only;rw[qcH (by rw[show(Go.Sort.putRowK enc e (Go.Sort.ahead w m) p.b off E).heap.size=w.heap.size from Go.Sort.size_putRow _ _ _ _ _];exact(qaO.1 ht).1)];show(w.heap.modify p.b _)[b]?=_;rw[qcZ,qd1 (qbR X)];exact ht
 have ax:w.heap.size<=(sortWorldK enc e w p.b off m E Q).heap.size:=size_sortWorldK_c enc e w p.b off m E Q;generalize sortWorldK enc e w p.b off m E Q=W at *;have l:∀(i:Nat) o q,H[i]?=some o->S i=true->o.alive=true->mu i=some q->W.heap[q.b]?=w.heap[q.b]?/\q.b<w.heap.size:=λi o q K I s A=>by
  obtain⟨q',M,hr⟩:=B.obj i o K s;rw[A]at M;cases M;have z:=iy s hr;have ad:i≠id:=λe=>by subst e;rw[T]at I;cases I
  have V:=B.inj id i _ _ p q hid K rfl s (qbR ad) hp A;exact⟨by rw[a _ _ (qbR V) (qbe z),qbe z],z⟩
 have U:WR C W.heap.size mu (roH S H) W:=by
  refine⟨λi o h s=>?_,λi j oi oj pi pj h h' L=>?_,λi o p h L=>?_,λi o q h s _ A=>?_,λi K=>B.dom i ?_,λg vs hg=>?_⟩
  ·obtain⟨O,r,rfl⟩:=oW h;obtain⟨k,ap,e',an,rfl,N⟩:=uI s;obtain⟨q,A,hr⟩:=B.obj i _ r rfl;refine⟨q,A,?_⟩;rw[N,(l i _ q r k rfl A).1];obtain⟨R,a2,d,c,t,F,a4,a5,_,a7⟩:=hr;exact⟨R,a2,d,c,t,F,a4,a5,(λh=>(by cases h)),a7⟩
  ·obtain⟨O,_,rfl⟩:=oW h;rw[oX]at L;cases L
  ·obtain⟨O,_,rfl⟩:=oW h;rw[oX]at L;cases L
  ·obtain⟨O,r,rfl⟩:=oW h;obtain⟨k,ap,e',an,rfl,N⟩:=uI s;have:=(l i _ q r k rfl A).2;omega
  ·unfold roH at K;simpa using K
  ·obtain⟨r,k,c,t,F,N,h4⟩:=B.glob g vs hg;have h5:=a _ _ (by omega) N;exact⟨(qaO.1 h5).1,k,c,t,F,h5,h4⟩
 have ag:∀b,¬Own mu (roH S H) b:=by
  rintro b ⟨i,o,q,r,k,_⟩;obtain⟨O,_,rfl⟩:=oW r;rw[oX]at k;cases k
 have J:∀x:α,VR noL mu (.agg ⟨enc x⟩) (.agg ⟨enc x⟩):=λx=>.agg rfl λi u v hu hv=>by
  rw[hu]at hv;cases hv;exact .scalar (hs x u (qab (by simpa using hu)))
 obtain⟨H',Z⟩:=hc x y;obtain⟨v,ay,w',R,a2,d,a4,F,b1,b2,b3⟩:=Z glo W.heap.size mu W (#[.agg (enc x).toArray,.agg (enc y).toArray]++⟨D⟩) (qaj _) (by
  have:(#[Value.agg (enc x).toArray,Value.agg (enc y).toArray]++(⟨D⟩ : Array Value)).toList=Value.agg (enc x).toArray :: Value.agg (enc y).toArray :: D:=by simp
  rw[this];exact VRs.cons (J x) (VRs.cons (J y) Y)) U cs
 exact⟨.returned v,w',F,⟨by rw[cM rfl R],zG d.os d.tape d.output d.dr d.size λb V=>d.keep b V (ag b)⟩,b1,b2,b3⟩
def uQ{C:Cfg}(hG:∀g vs,C.G g=some vs->vs.all gfl=true){ρ:Ren}(L:SlLaysF0.n6 C.P ρ){α:Type} [Inhabited α]{enc:α->Tk}{e:Nat}(Y:∀w,(isAgg (ρ.t 24)).run C.P w = .ok true w)(zE:∀w,(Go.sizeOf (ρ.t 24)).run C.P w = .ok e w)
  (F:∀x,(enc x).length=e) (u:∀x,∀v∈enc x,Am.scalar v=true) {c:α->α->Int} (T:SWO (ltOf c)) {g:TK} (eg:∀args w,(callFunc g args).run C.P w = .ok (.enter g args) w)
  {S:Tt} {H:Tp} {caps:Tk} (hc:∀x y,∃H',dP C g ([.agg ⟨enc x⟩,.agg ⟨enc y⟩]++caps) (roH S H) (.int .i64 (c x y)) H') {id n cx:Nat} {l:List α} (hid:H[id]?=some (.cells (l.flatMap enc) e true)) (A:S id=false) (hn:n=l.length) (h0:0<n) (V:n<4611686018427387904) :
  dP C (ρ.f 6) [.slice (some ⟨id,0,tag e⟩) n cx,.func (.func g) ⟨[]⟩ ⟨caps⟩] H (.tuple #[]) (H.set id (.cells ((srt c l).flatMap enc) e true)):=by
 subst hn;intro ad R M w d U k B cs;obtain⟨W,an,h1,h2,h3⟩:=k.uncons;obtain⟨X,ap,rfl,h5,h6⟩:=h3.uncons;obtain rfl:=h6.unnil;have a:d = #[W,X]:=qbk.1 h1;subst a;obtain⟨p,j,I,rfl⟩ : ∃p j,M id=some p/\W = .slice (some ⟨p.b,p.o,none⟩) l.length j:=by
  clear hid V;generalize l.length=N at *;cases h2 with
  |scalar h=>simp[Am.scalar]at h
  |hslice h J ag K=>exact⟨_,_,h,rfl⟩
  |hslice0 K=>omega
 obtain⟨z,s,rfl,D,E⟩ : ∃z s,X = .func (.func g) z s/\z.size=0/\VRs noL M caps s.toList:=by
  cases h5 with
  |scalar h=>simp[Am.scalar]at h
  |func hf D U h7 h8=>exact⟨_,_,rfl,D.symm,⟨by simpa using U,λi x y K hy=>h8 i x y (by simpa using K) (by simpa using hy)⟩⟩
 obtain rfl:=Array.eq_empty_of_size_eq_zero D;obtain⟨p',r,J⟩:=B.obj id _ hid rfl;rw[I]at r;cases r;have m:=AnyQ.slices_SortFunc_eq L e Y zE enc F (λx v hv=>by
  have:=u x v hv;unfold Am.scalar at this;split at this<;>first|rfl|cases this) c T g s p.b p.o j l.toArray w eg (cmp_laysR u hc B E hid I A p.o l.toArray.size hG) (xa F u J) (iy rfl J) (by simpa using V)
 obtain⟨e',w',fr,⟨rfl,n,os,rfl⟩,O,Z,Q⟩:=m cs;have q:(srt c l).length=l.length:=by
  have:=(uT T l).1.1;simpa using this
 obtain⟨c1,c2⟩:=qM (l':=srt c l) B F u hid I q n os;have e2:(pdq (ltOf c) l.toArray 0 l.toArray.size (Lib.bitLen l.toArray.size) true true)=(srt c l).toArray:=by simp[srt]
 rw[e2]at O Q;exact⟨.tuple #[],M,_,.tuple (by simp) rfl (λi x y h=>by simp at h),c1,c2,L.f6.enters rfl _ _,fr,O,Z,Q⟩
end
section
variable [Val]
def gV(x:Int):Tk:=[.int .i64 x]
def flat1i{l:Tz}{k:Nat}(b:k<l.length):(Go.Sort.flatK gV 1 l.toArray)[k]! = Value.int .i64 (l.toArray)[k]!:=by
 have c:=rJ (enc:=gV) (e:=1) (λ_=>rfl) (l:=l) (t:=k) (by omega);have d:(l.flatMap gV)[k]?=some (.int .i64 l[k]):=by
  have:∀(l:Tz) (k:Nat) (b:k<l.length),(l.flatMap gV)[k]?=some (.int .i64 l[k]):=by
   intro l
   induction l with
   |nil=>intro k b;simp at b
   |cons a l g=>
    intro k b;rw[qaV];cases k with
    |zero=>rfl
    |succ k=>
     show(Value.int .i64 a :: l.flatMap gV)[k+1]?=_;rw[qa6,g k (by simpa using b)];rfl
  exact this l k b
 rw[d]at c;have f:=(qat c).symm;rw[f];simp[b]
def putRow_K{w:World}{b o:Nat}{l:Tz}:putRow (Value.int .i64) w b o l.toArray=putRowK gV 1 w b o l.toArray:=by
 unfold putRowK putRow
 congr 1
 funext c
 apply qcA;intro k;simp only[Go.Sort.putCells,Array.getElem?_mapIdx];cases c[k]? with
 |none=>rfl
 |some x=>
  simp only[qaJ];have a:(Go.Sort.flatK gV 1 l.toArray).size=l.toArray.size:=by rw[Go.Sort.size_flatK];omega
  rw[a];by_cases h:o<=k/\k<o+l.toArray.size
  ·rw[qd0 h,qd0 h];have d:k - o<l.length:=by have:=h.2;simp at this;omega
   rw[flat1i d];rfl
  ·rw[qd1 h,qd1 h]
def holds_1{w:World}{b o:Nat}{l:Tz}(h:HoldsK gV 1 w b o l.toArray):Holds (Value.int .i64) w b o l.toArray:=by
 intro j d;have a:(Go.Sort.flatK gV 1 l.toArray).size=l.toArray.size:=by rw[Go.Sort.size_flatK];omega
 have c:=h j (by rw[a];exact d);have e:j<l.length:=by simpa using d
 rw[flat1i e]at c;exact c
def srtI(l:Tz):Tz:=l.mergeSort λx y=>decide (x<=y)
def uS(l:Tz):(srtI l).Perm l:=List.mergeSort_perm _ _
def srtI_pair(l:Tz):(srtI l).Pairwise λx y=>x<=y:=by
 have:=List.pairwise_mergeSort (le:=λx y:Int=>decide (x<=y)) (λa b c d e=>by
  rw[qdX]at *;omega) (λa b=>by
  rw[qaS,qdX,qdX];omega) l
 exact this.imp λh=>of_decide_eq_true h
def uR{C:Cfg}{ρ:Ren}(L:Lays.n189 C.P ρ)(O:∀args w,(callFunc (ρ.f 189) args).run C.P w = .ok (.enter (ρ.f 189) args) w){H:Tp}{id n cx:Nat}{l:Tz}(hid:H[id]?=some (.cells (l.flatMap gV) 1 true))(W:n=l.length)(h0:0<n)(A:n<4611686018427387904) :
  dP C (ρ.f 189) [.slice (some ⟨id,0,tag 1⟩) n cx] H (.tuple #[]) (H.set id (.cells ((srtI l).flatMap gV) 1 true)):=by
 subst W;intro R t F w c hb e u K;obtain⟨G,Z,S,T,U⟩:=e.uncons;obtain rfl:=U.unnil;have a:c = #[G]:=qbk.1 S;subst a;obtain⟨p,d,B,rfl⟩ : ∃p d,F id=some p/\G = .slice (some ⟨p.b,p.o,none⟩) l.length d:=by
  clear hid A;generalize l.length=N at *;have E:tag 1≠some 1:=by simp[tag]
  generalize tag 1=tg at *;cases T with
  |scalar h=>simp[Am.scalar]at h
  |hslice h m V Y=>exact⟨_,_,h,rfl⟩
  |hslice0 Y=>omega
  |gslice=>exact absurd rfl E
  |gslice0=>exact absurd rfl E
 have z:∀x:Int,(gV x).length=1:=λ_=>rfl;have D:∀x:Int,∀v∈gV x,Am.scalar v=true:=λx v X=>by
  rw[qaq.1 X];rfl
 obtain⟨p',k,m⟩:=u.obj id _ hid rfl;rw[B]at k;cases k;have g:=Any.slices_Sort_int L p.b p.o d l w (holds_1 (xa z D m)) (iy rfl m) A;obtain⟨e',w',Q,⟨rfl,n,q,rfl⟩,r,I,s⟩:=g K;have j:(srtI l).length=l.length:=(uS l).length_eq;obtain⟨J,c2⟩:=qM (l':=srtI l) u z D hid B j n q;have M:grow (putRow (Value.int .i64) (Go.Sort.ahead w n) p.b p.o (l.mergeSort λx y=>decide (x<=y)).toArray) q=sortWorldK gV 1 w p.b p.o n (srtI l).toArray q:=by
  unfold sortWorldK;rw[putRow_K];rfl
 rw[M]at r s;exact⟨.tuple #[],F,_,.tuple (by simp) rfl (λi x y h=>by simp at h),J,c2,O _ _,Q,r,I,s⟩
end
def nmOf(P:TD)(f:TK):String:=match P.funcs[f]? with
 |some g=>g.name
 |none => ""
def mJ {P:TD} {f:TK} {B:Func} (h1:(nmOf P f == "runtime.NumGoroutine")=false) (a:P.funcs[f]?=some { B with name:=nmOf P f }):Bears P f B:=⟨_,h1,a⟩
def renK:Ren:=⟨fun|6=>27|15=>70|14=>69|28=>115|29=>116|20=>107|21=>108|22=>109|23=>110|24=>111|25=>112|26=>113|27=>114|46=>139|47=>140|48=>141|49=>142|50=>143|57=>176|n=>n,
 fun|22=>83|24=>92|25=>94|39=>155|53=>200|55=>202|46=>193|45=>192|50=>197|66=>234|70=>238|76=>263|77=>222|n=>n,λn=>n⟩
def layK:SlLaysF0.n6 Tryz.prog renK:=by
 constructor
 all_goals first
  |kernel_rfl
  |exact mJ (by kernel_rfl) (by kernel_rfl)
  |exact λ_=>by kernel_rfl
def renP:Ren:=⟨fun|6=>72|15=>70|14=>117|28=>115|29=>116|20=>144|21=>145|22=>146|23=>147|24=>148|25=>149|26=>150|27=>151|46=>177|47=>140|48=>141|49=>178|50=>179|57=>186|n=>n,
 fun|22=>49|24=>112|25=>158|39=>155|53=>200|55=>202|46=>193|45=>192|50=>197|66=>234|70=>238|76=>263|77=>222|n=>n,λn=>n⟩
def layP:SlLaysF0.n6 Tryz.prog renP:=by
 constructor
 all_goals first
  |kernel_rfl
  |exact mJ (by kernel_rfl) (by kernel_rfl)
  |exact λ_=>by kernel_rfl
def renO:Ren:=⟨fun|6=>74|15=>70|14=>118|28=>115|29=>116|20=>152|21=>153|22=>154|23=>155|24=>156|25=>157|26=>158|27=>159|46=>180|47=>140|48=>141|49=>181|50=>182|57=>187|n=>n,
 fun|22=>50|24=>115|25=>161|39=>155|53=>200|55=>202|46=>193|45=>192|50=>197|66=>234|70=>238|76=>263|77=>222|n=>n,λn=>n⟩
def layO:SlLaysF0.n6 Tryz.prog renO:=by
 constructor
 all_goals first
  |kernel_rfl
  |exact mJ (by kernel_rfl) (by kernel_rfl)
  |exact λ_=>by kernel_rfl
def renI:Ren:=⟨fun|189=>77|125=>70|257=>120|128=>115|129=>116|294=>160|295=>161|296=>162|297=>163|298=>164|299=>165|216=>166|300=>167|301=>168|328=>183|329=>140|330=>141|331=>184|332=>185|215=>92|343=>188|n=>n,
 fun|28=>51|46=>155|51=>200|53=>202|183=>193|182=>192|131=>197|218=>234|222=>238|228=>263|229=>222|n=>n,λn=>n⟩
def layI:Lays.n189 Tryz.prog renI:=by
 constructor
 all_goals first
  |kernel_rfl
  |exact mJ (by kernel_rfl) (by kernel_rfl)
  |exact λ_=>by kernel_rfl
def roL(S:Tt)(h:HL):HL:=(roH S (absH aa h)).map HO.o
def qW{S:Tt}{h:HL}:absH aa (roL S h)=roH S (absH aa h):=by
 unfold roL absH;rw[qbU]
 conv=>rhs;rw[←qdU (roH S (List.map (absO aa) h))]
 rfl
def wg{S:Tt}{h:HL}{i:Nat}{vs:Tk}{e:Nat}{a:Bool}(c:h[i]?=some (.o (.cells vs e a)))(b:S i=true):(roL S h)[i]?=some (.o (.cells vs e false)):=by
 unfold roL roH absH;rw[qan,List.getElem?_mapIdx,qan,c];simp only[qaJ,absO,roO,b]
def sortG{α:Type} [Inhabited α]{enc:α->Tk}{e:Nat}{ρ:Ren}(L:SlLaysF0.n6 cc.P ρ)(m:∀w,(isAgg (ρ.t 24)).run cc.P w = .ok true w)(u:∀w,(Go.sizeOf (ρ.t 24)).run cc.P w = .ok e w)(r:∀x,(enc x).length=e)(s:∀x,∀v∈enc x,Am.scalar v=true)
  {a:α->α->Int} (p:SWO (ltOf a)) {g:TK} (n:∀args w,(callFunc g args).run cc.P w = .ok (.enter g args) w) {S:Tt} {H:HL} {caps:Tk} (j:az (.func (.func g) ⟨[]⟩ ⟨caps⟩)=true)
  (q:∀x y,∃H',dP cc g ([.agg ⟨enc x⟩,.agg ⟨enc y⟩]++caps) (roH S (absH aa H)) (.int .i64 (a x y)) H') {id cx:Nat} {J:List α} (hid:H[id]?=some (.o (.cells (J.flatMap enc) e true))) (i:S id=false) (h0:0<J.length) (z:J.length<=100000)
  (l:ab (ρ.f 6)=some ⟨[lv,lv],[]⟩) (k:neuN (ρ.f 6)=none) :
  aB cc ab (ρ.f 6) [.v (.slice (some ⟨id,0,tag e⟩) J.length cx),.v (.func (.func g) ⟨[]⟩ ⟨caps⟩)] (absH aa H) [] (absH aa (H.set id (.o (.cells ((srt a J).flatMap enc) e true)))):=by
 have b:(absH aa H)[id]?=some (.cells (J.flatMap enc) e true):=by
  unfold absH;rw[qan,hid];rfl
 have c:=uQ (C:=cc) rO L (enc:=enc) (e:=e) m u r s p n q (cx:=cx) b i rfl h0 (by omega);have d:(absH aa H).set id (.cells ((srt a J).flatMap enc) e true)=absH aa (H.set id (.o (.cells ((srt a J).flatMap enc) e true))):=by
  rw[ti];rfl
 rw[d]at c;exact⟨⟨[lv,lv],[]⟩,[.leaf (.v (.slice (some ⟨id,0,tag e⟩) J.length cx)),.leaf (.v (.func (.func g) ⟨[]⟩ ⟨caps⟩))],[],l,⟨rfl,rfl,λy h=>by
  simp only[qax,qb5,or_false]at h;rcases h with rfl|rfl
  ·exact aA (show az (.slice (some ⟨id,0,tag e⟩) J.length cx)=true by simp[az,noLoc,aR,aZ,aT,aI,av,tag])
  ·exact aA j⟩,⟨rfl,rfl,λy h=>by cases h⟩,⟨0,.inr ⟨.inl k,c⟩⟩⟩
def jV{α β:Type}{f:α->β}:∀ {l:List β},(∀b∈l,∃a,f a=b)->∃d:List α,d.map f=l
 | [],_=>⟨[],rfl⟩
 |b :: l,h=>by
  obtain⟨a,rfl⟩:=h b qaN;obtain⟨d,rfl⟩:=jV λc e=>h c (qav _ e);exact⟨a :: d,rfl⟩
def wx{α:Type}{b:α->α->Int}{R:α->α->Prop}(h:∀x y,b x y<0↔R x y)(f:∀x,¬R x x)(i:∀x y z,R x y->R y z->R x z)(g:∀x y z,¬R x y->¬R y z->¬R x z):SWO (ltOf b):=by
 have c:∀x y,ltOf b x y=true↔R x y:=λx y=>by
  unfold ltOf;rw[qdX];exact h x y
 have a:∀x y,ltOf b x y=false↔¬R x y:=λx y=>by
  rw[←c x y];cases ltOf b x y<;>simp
 exact⟨λx=>(a x x).2 (f x),λx y z d e=>(c x z).2 (i x y z ((c x y).1 d) ((c y z).1 e)),λx y z d e=>(a x z).2 (g x y z ((a x y).1 d) ((a y z).1 e))⟩
def cmpI_l{a b:Int}:cmpI a b<0↔a<b:=by
 unfold cmpI
 repeat' split
 all_goals omega
end Go.Am
end

/-
  PART 7 OF THE PROOF (no conditions).
-/
import Derived.Test.YtoeibflkihlloaaGreatDoorCW6
import Derived.Shelf.SlSortCmp.WholeK
set_option linter.unusedSectionVars false
set_option linter.unusedSimpArgs false
set_option linter.unusedVariables false
set_option linter.constructorNameAsVariable false
set_option linter.defProp false
noncomputable section
set_option maxRecDepth 100000
set_option maxHeartbeats 16000000
namespace Go.Am
namespace Tw
open Sx
abbrev Sq:=Int×Int
def bes(c:Sq)(k:Nat):Sq:=match k with
 |0=>(c.1+1,c.2)
 |1=>(c.1,c.2+1)
 |2=>(c.1 - 1,c.2)
 |_=>(c.1,c.2 - 1)
def qb(c:Sq){k:Nat}(hk:k<4):bes (bes c k) ((k+2)%4)=c:=by
 have:k=0∨k=1∨k=2∨k=3:=by omega
 obtain⟨x,y⟩:=c
 rcases this with rfl|rfl|rfl|rfl<;>simp[bes]
def wayN:Nat->List Nat
 |0=>[1]
 |1=>[2,4,1]
 |2=>[2,1]
 |_=>[2,3,1]
structure TS where
 been:List Sq
 steps:List Nat
 head:Nat
 last:Nat
def goT(s:TS)(k:Nat):TS:={ s with steps:=s.steps++wayN ((k+4 - s.head)%4),head:=k }
def rndT(v:Sq->TS->TS)(L:List Sq)(c:Sq)(s:TS)(k:Nat):TS:=
 if bes c k∈L/\bes c k∉s.been then goT (v (bes c k) (goT s k)) ((k+2)%4)else s
def rnds(v:Sq->TS->TS)(L:List Sq)(c:Sq)(s:TS):Nat->TS
 |0=>s
 |j+1=>rndT v L c (rnds v L c s j) j
def inT(s:TS)(c:Sq):TS:={ s with been:=s.been++[c],last:=s.steps.length }
def visT(L:List Sq):Nat->Sq->TS->TS
 |0,_,s=>s
 |n+1,c,s=>rnds (visT L n) L c (inT s c) 4
def Ok3(l:TA):Prop:=∀(i a b:Nat),l[i]?=some a->l[i+1]?=some b->¬(3<=a/\3<=b)
def wK(d:Nat):Ok3 (wayN d)/\(∀a∈wayN d,1<=a/\a<=4)/\(wayN d).length<=3/\∃a r,wayN d=a :: r/\a<3:=by
 match d with
 |0=>exact⟨λi a b h1 h2=>by simp[wayN]at h2,by simp[wayN],by simp[wayN],1,[],rfl,by omega⟩
 |1=>exact⟨λi a b h1 h2=>by
   match i with
   |0=>simp[wayN]at h1 h2;omega
   |1=>simp[wayN]at h1 h2;omega
   |i+2=>simp[wayN]at h2,by simp[wayN],by simp[wayN],2,[4,1],rfl,by omega⟩
 |2=>exact⟨λi a b h1 h2=>by
   match i with
   |0=>simp[wayN]at h1 h2;omega
   |i+1=>simp[wayN]at h2,by simp[wayN],by simp[wayN],2,[1],rfl,by omega⟩
 |d+3=>exact⟨λi a b h1 h2=>by
   match i with
   |0=>simp[wayN]at h1 h2;omega
   |1=>simp[wayN]at h1 h2;omega
   |i+2=>simp[wayN]at h2,by simp[wayN],by simp[wayN],2,[3,1],rfl,by omega⟩
def Ok3.way{l:TA}(h:Ok3 l)(d:Nat):Ok3 (l++wayN d):=by
 obtain⟨w1,_,_,a0,r,w4,w5⟩:=wK d
 intro i a b h1 h2
 by_cases e1:i+1<l.length
 ·rw[qah (by omega)]at h1
  rw[qah e1]at h2
  exact h i a b h1 h2
 ·rw[qaq (by omega)]at h2
  by_cases e2:i+1=l.length
  ·rw[e2,qbC,w4]at h2
   simp only[qaR,qas]at h2
   omega
  ·rw[qaq (by omega)]at h1
   rw[show i+1 - l.length=i - l.length+1 by omega]at h2
   exact w1 _ a b h1 h2
def Ok3.take{l:TA}(h:Ok3 l)(n:Nat):Ok3 (l.take n):=by
 intro i a b h1 h2
 rw[qaT]at h1 h2
 split at h1
 ·split at h2
  ·exact h i a b h1 h2
  ·cases h2
 ·cases h1
def free(L been:List Sq):Nat:=(L.filter λx=>decide (x∉been)).length
def fo{L b b':List Sq}(h:∀x∈b,x∈b'):free L b'<=free L b:=by
 unfold free
 induction L with
 |nil=>simp
 |cons x L ih=>
  simp only[qb3]
  by_cases h1:x∈b'
  ·by_cases h2:x∈b
   ·simpa[h1,h2]using ih
   ·simp[h1,h2];simp at ih;omega
  ·have h2:x∉b:=λh2=>h1 (h x h2)
   simpa[h1,h2]using ih
def jV{L b b':List Sq}(h:∀x∈b,x∈b'){c:Sq}(hc:c∈L)(h1:c∉b)(h2:c∈b'):free L b'<free L b:=by
 unfold free
 induction L with
 |nil=>cases hc
 |cons x L ih=>
  simp only[qb3]
  by_cases hx:x=c
  ·subst hx
   have:=fo (L:=L) h
   unfold free at this
   simp[h1,h2];simp at this;omega
  ·have hc':c∈L:=by
    rcases qal.1 hc with e|e
    ·exact absurd e.symm hx
    ·exact e
   have ih:=ih hc'
   by_cases g1:x∈b'
   ·by_cases g2:x∈b
    ·simpa[g1,g2]using ih
    ·simp[g1,g2];simp at ih;omega
   ·have g2:x∉b:=λg2=>g1 (h x g2)
    simpa[g1,g2]using ih
structure Ev(L:List Sq)(s t:TS):Prop where
 g:∃G,t.been=s.been++G
 nd:t.been.Nodup
 sub:∀x∈t.been,x∈L
 hd:t.head<4
 st:∀a∈t.steps,1<=a/\a<=4
 ok:Ok3 t.steps
 la:t.last<=t.steps.length
 le:t.steps.length+6*s.been.length<=s.steps.length+6*t.been.length
def Ev.self{L:List Sq}{s t:TS}(h:Ev L s t):Ev L t t:=⟨⟨[],by simp⟩,h.nd,h.sub,h.hd,h.st,h.ok,h.la,qaf _⟩
def Ev.trans{L:List Sq}{s t u:TS}(h:Ev L s t)(k:Ev L t u):Ev L s u:=by
 obtain⟨G,hG⟩:=h.g
 obtain⟨G',hG'⟩:=k.g
 have:=h.le
 have:=k.le
 exact⟨⟨G++G',by rw[hG',hG,qaP]⟩,k.nd,k.sub,k.hd,k.st,k.ok,k.la,by omega⟩
def Ev.mem{L:List Sq}{s t:TS}(h:Ev L s t){x:Sq}(hx:x∈s.been):x∈t.been:=by
 obtain⟨G,hG⟩:=h.g
 rw[hG];exact qaH _ hx
def cW{α:Type} [DecidableEq α]:∀ {a b:List α},a.Nodup->(∀x∈a,x∈b)->a.length<=b.length
 | [],b,_,_=>qaX _
 |x :: a,b,h,hs=>by
  rw[qcg]at h
  have hx:=hs x qaB
  have:=cW (a:=a) (b:=b.erase x) h.2 (λy hy=>by
   have hne:y≠x:=λe=>h.1 (e▸hy)
   exact(List.mem_erase_of_ne hne).2 (hs y (qan _ hy)))
  rw[List.length_erase_of_mem hx]at this
  have:0<b.length:=List.length_pos_of_mem hx
  simp only[qaG];omega
def Ev.small{L:List Sq}{s t:TS}(h:Ev L s t):t.been.length<=L.length:=cW h.nd h.sub
def go_ev{L:List Sq}{s t:TS}(h:Ev L s t){k:Nat}(hk:k<4):(goT t k).been=t.been/\(goT t k).steps.length<=t.steps.length+3/\(∀a∈(goT t k).steps,1<=a/\a<=4)/\Ok3 (goT t k).steps/\(goT t k).last<=(goT t k).steps.length/\(goT t k).head<4:=by
 obtain⟨w1,w2,w3,_⟩:=wK ((k+4 - t.head)%4)
 have:=h.la
 refine⟨rfl,?_,?_,h.ok.way _,?_,hk⟩
 ·show(t.steps++wayN _).length<=_
  rw[qaC];omega
 ·intro a ha
  rcases qao.1 ha with ha|ha
  ·exact h.st a ha
  ·exact w2 a ha
 ·show t.last<=(t.steps++wayN _).length
  rw[qaC];omega
def VOk(L:List Sq)(n:Nat)(v:Sq->TS->TS):Prop:=∀d t,Ev L t t->d∈L->d∉t.been->free L t.been<=n->Ev L t (v d t)/\(v d t).steps.length+6*t.been.length+6<=t.steps.length+6*(v d t).been.length
def rnd_ev{L:List Sq}{n:Nat}{v:Sq->TS->TS}(hv:VOk L n v){s:TS}{c:Sq}(hs:Ev L s s)(hf:free L s.been<=n){k:Nat}(hk:k<4):Ev L s (rndT v L c s k):=by
 unfold rndT
 split
 next h=>
  obtain⟨a1,a2,a3,a4,a5,a6⟩:=go_ev hs hk
  have hg:Ev L (goT s k) (goT s k):=⟨⟨[],by simp⟩,hs.nd,hs.sub,a6,a3,a4,a5,qaf _⟩
  obtain⟨b1,b2⟩:=hv (bes c k) (goT s k) hg h.1 h.2 hf
  obtain⟨c1,c2,c3,c4,c5,c6⟩:=go_ev b1 (k:=(k+2)%4) (by omega)
  refine⟨?_,b1.nd,b1.sub,c6,c3,c4,c5,?_⟩
  ·obtain⟨G,hG⟩:=b1.g
   exact⟨G,hG⟩
  ·rw[a1]at b2
   have e:(goT (v (bes c k) (goT s k)) ((k+2)%4)).been.length=(v (bes c k) (goT s k)).been.length:=rfl
   rw[e]
   omega
 ·exact hs
def iS{L:List Sq}{n:Nat}{v:Sq->TS->TS}(hv:VOk L n v){s:TS}{c:Sq}(hs:Ev L s s)(hf:free L s.been<=n):∀j,j<=4->Ev L s (rnds v L c s j)
 |0,_=>hs
 |j+1,hj=>by
  have h:=iS hv (c:=c) hs hf j (by omega)
  exact h.trans (rnd_ev hv h.self (qbj (fo λx hx=>h.mem hx) hf) (by omega))
def in_ev{L:List Sq}{s:TS}{c:Sq}(hs:Ev L s s)(hc:c∈L)(hn:c∉s.been):Ev L (inT s c) (inT s c):=by
 refine⟨⟨[],by simp⟩,?_,?_,hs.hd,hs.st,hs.ok,qaf _,qaf _⟩
 ·show(s.been++[c]).Nodup
  rw[qbZ]
  refine⟨hs.nd,by simp,?_⟩
  intro a ha b hb
  simp only[qap]at hb
  subst hb
  exact λe=>hn (e▸ha)
 ·intro x hx
  rcases qao.1 hx with hx|hx
  ·exact hs.sub x hx
  ·simp only[qap]at hx
   subst hx;exact hc
def qJ{L:List Sq}{s:TS}{c:Sq}(hc:c∈L)(hn:c∉s.been):free L (inT s c).been<free L s.been:=jV (λx hx=>qaH _ hx) hc hn (qaK _ (by simp))
def ge(L:List Sq):∀n,VOk L n (visT L n)
 |0=>λd t _ hd hn hf=>by
  have:=jV (L:=L) (b:=t.been) (b':=t.been++[d]) (λx hx=>qaH _ hx) hd hn (qaK _ (by simp))
  omega
 |n+1=>λd t ht hd hn hf=>by
  have h1:=in_ev ht hd hn
  have h2:=qJ (s:=t) hd hn
  have h3:=iS (ge L n) (c:=d) h1 (by omega) 4 (by omega)
  have h4:=h3.le
  have e1:(inT t d).been.length=t.been.length+1:=by
   show(t.been++[d]).length=_
   simp
  have e2:(inT t d).steps=t.steps:=rfl
  rw[e1,e2]at h4
  show Ev L t (rnds (visT L n) L d (inT t d) 4)/\(rnds (visT L n) L d (inT t d) 4).steps.length+6*t.been.length+6<=t.steps.length+6*(rnds (visT L n) L d (inT t d) 4).been.length
  refine⟨⟨?_,h3.nd,h3.sub,h3.hd,h3.st,h3.ok,h3.la,by omega⟩,by omega⟩
  obtain⟨G,hG⟩:=h3.g
  exact⟨d :: G,by rw[hG];show(t.been++[d])++G=_;simp⟩
def Con(L:List Sq):Prop:=∀(i:Nat) (c:Sq),L[i]?=some c->0<i->∃(j:Nat) (d:Sq) (k:Nat),j<i/\L[j]?=some d/\k<4/\bes d k=c
def con_all{L:List Sq}(hL:Con L){S:List Sq}(hs:∀x∈S,x∈L)(hne:∃x,x∈S)(hcl:∀x∈S,∀k,k<4->bes x k∈L->bes x k∈S):∀x∈L,x∈S:=by
 have h0:∀(i:Nat) (c:Sq),L[i]?=some c->c∈S->∃c0,L[0]?=some c0/\c0∈S:=by
  intro i
  induction i using Nat.strongRecOn with
  |ind i ih=>
   intro c hc hm
   by_cases hi:i=0
   ·subst hi
    exact⟨c,hc,hm⟩
   ·obtain⟨j,d,k,hj,hd,hk,e⟩:=hL i c hc (by omega)
    have hdS:d∈S:=by
     have hb:=qb d hk
     rw[e]at hb
     rw[←hb]
     exact hcl c hm _ (by omega) (by rw[hb];exact qab hd)
    exact ih j hj d hd hdS
 obtain⟨x,hx⟩:=hne
 obtain⟨i,hi⟩:=qaW (hs x hx)
 obtain⟨c0,hc0,hm0⟩:=h0 i x hi hx
 have h1:∀(i:Nat) (c:Sq),L[i]?=some c->c∈S:=by
  intro i
  induction i using Nat.strongRecOn with
  |ind i ih=>
   intro c hc
   by_cases hi:i=0
   ·subst hi
    rw[hc0]at hc
    cases hc
    exact hm0
   ·obtain⟨j,d,k,hj,hd,hk,e⟩:=hL i c hc (by omega)
    rw[←e]
    exact hcl d (ih j hj d hd) k hk (by rw[e];exact qab hc)
 intro y hy
 obtain⟨i,hi⟩:=qaW hy
 exact h1 i y hi
end Tw
namespace Tw
open Sx
def qd(c:Sq)(a:K3):Prop:=(a.1,a.2.1)=c/\a.2.2<4
def qc(p:Sq)(head q:Nat):K3:=(p.1,p.2,(head+q+1)%4)
def bp:Nat->List Nat
 |0=>[0,1,2,3]
 |1=>[1,2]
 |_=>[2,3]
def hdN:Nat->Nat
 |0=>0
 |1=>1
 |_=>3
def Cv(p:Sq)(head t:Nat)(cov:K3->Prop):K3->Prop:=λa=>cov a∨∃q,q∈bp t/\a=qc p head q
def AllC(L:List Sq)(cov:K3->Prop):Prop:=∀a:K3,(a.1,a.2.1)∈L->a.2.2<4->cov a
def LP(L:List Sq):Nat->Sq->Nat->(K3->Prop)->Prop
 |0,p,head,cov=>∃t,t<3/\AllC L (Cv p head t cov)
 |m+1,p,head,cov=>∃t,t<3/\(AllC L (Cv p head t cov)∨(bes p ((head+hdN t)%4)∈L/\LP L m (bes p ((head+hdN t)%4)) ((head+hdN t)%4) (Cv p head t cov))∨LP L m p (((head+hdN t)%4+2)%4) (Cv p head t cov))
def cv0{p:Sq}{head:Nat}{cov:K3->Prop}:Cv p head 0 cov=λa=>cov a∨qd p a:=by
 funext a
 apply propext
 obtain⟨x,y,r⟩:=a
 obtain⟨u,v⟩:=p
 unfold Cv qd qc bp
 simp only[qb6]
 constructor
 ·rintro(h|⟨q,_,rfl,rfl,rfl⟩)
  ·exact .inl h
  ·exact .inr ⟨⟨rfl,rfl⟩,qbz _ (by omega)⟩
 ·rintro(h|⟨⟨rfl,rfl⟩,hr⟩)
  ·exact .inl h
  ·refine .inr ⟨(r+7 - head%4)%4,?_,rfl,rfl,by omega⟩
   have:(r+7 - head%4)%4<4:=qbz _ (by omega)
   simp;omega
def cv_t{p:Sq}{head t:Nat}{cov:K3->Prop}:Cv p head t (λa=>cov a∨qd p a)=λa=>cov a∨qd p a:=by
 funext a
 apply propext
 constructor
 ·rintro(h|⟨q,_,rfl⟩)
  ·exact h
  ·exact .inr ⟨rfl,qbz _ (by omega)⟩
 ·exact λh=>.inl h
def nmv(l:TA):Nat:=(l.filter λa=>decide (a<3)).length
def nmv_app(a b:TA):nmv (a++b)=nmv a+nmv b:=by simp[nmv]
def way_lp{L:List Sq}{p:Sq}{k head m:Nat}{cov:K3->Prop}(hk:k<4)(hh:head<4)(hn:bes p k∈L)(h:LP L m (bes p k) k λa=>cov a∨qd p a):LP L (m+nmv (wayN ((k+4 - head)%4))) p head cov:=by
 have hd:(k+4 - head)%4=0∨(k+4 - head)%4=1∨(k+4 - head)%4=2∨(k+4 - head)%4=3:=by omega
 rcases hd with e|e|e|e<;>rw[e]
 ·have e1:(head+hdN 0)%4=k:=by simp only[hdN];omega
  refine⟨0,by omega,.inr (.inl ?_)⟩
  rw[e1,cv0]
  exact⟨hn,h⟩
 ·have e1:((head+hdN 0)%4+2)%4=(k+1)%4:=by simp only[hdN];omega
  have e2:((k+1)%4+hdN 2)%4=k:=by simp only[hdN];omega
  refine⟨0,by omega,.inr (.inr ?_)⟩
  rw[e1,cv0]
  refine⟨2,by omega,.inr (.inl ?_)⟩
  rw[e2,cv_t]
  exact⟨hn,h⟩
 ·have e1:((head+hdN 0)%4+2)%4=k:=by simp only[hdN];omega
  have e2:(k+hdN 0)%4=k:=by simp only[hdN];omega
  refine⟨0,by omega,.inr (.inr ?_)⟩
  rw[e1,cv0]
  refine⟨0,by omega,.inr (.inl ?_)⟩
  rw[e2,cv_t]
  exact⟨hn,h⟩
 ·have e1:((head+hdN 0)%4+2)%4=(k+3)%4:=by simp only[hdN];omega
  have e2:((k+3)%4+hdN 1)%4=k:=by simp only[hdN];omega
  refine⟨0,by omega,.inr (.inr ?_)⟩
  rw[e1,cv0]
  refine⟨1,by omega,.inr (.inl ?_)⟩
  rw[e2,cv_t]
  exact⟨hn,h⟩
def Fol(L:List Sq)(c0:Sq)(ws:TA)(p:Sq)(hd:Nat)(cov:K3->Prop):Prop:=∀m,LP L m p hd cov->LP L (m+nmv ws) c0 0 λ_=>False
def Good(L:List Sq)(c0:Sq)(s:TS)(p:Sq):Prop:=∃cov,Fol L c0 s.steps p s.head cov/\∀b∈s.been,b≠p->∀a,qd b a->cov a
def GLast(L:List Sq)(c0:Sq)(s:TS):Prop:=∃p hd cov,Fol L c0 (s.steps.take s.last) p hd cov/\∀b∈s.been,b≠p->∀a,qd b a->cov a
def good_go{L:List Sq}{c0 p:Sq}{s:TS}{k:Nat}(hk:k<4)(hh:s.head<4)(hn:bes p k∈L)(h:Good L c0 s p):Good L c0 (goT s k) (bes p k):=by
 obtain⟨cov,h1,h2⟩:=h
 refine⟨λa=>cov a∨qd p a,λm hm=>?_,λb hb hne a ha=>?_⟩
 ·have:=h1 _ (way_lp hk hh hn hm)
  show LP L (m+nmv (s.steps++wayN ((k+4 - s.head)%4))) c0 0 _
  rw[nmv_app,show m+(nmv s.steps+nmv (wayN ((k+4 - s.head)%4)))=m+nmv (wayN ((k+4 - s.head)%4))+nmv s.steps by omega]
  exact this
 ·by_cases hp:b=p
  ·exact .inr (hp▸ha)
  ·exact .inl (h2 b hb hp a ha)
def last_go{L:List Sq}{c0:Sq}{s:TS}{k:Nat}(hl:s.last<=s.steps.length)(h:GLast L c0 s):GLast L c0 (goT s k):=by
 obtain⟨p,hd,cov,h1,h2⟩:=h
 refine⟨p,hd,cov,?_,h2⟩
 show Fol L c0 ((s.steps++wayN _).take s.last) p hd cov
 rw[qb4 hl]
 exact h1
def VGood(L:List Sq)(c0:Sq)(n:Nat)(v:Sq->TS->TS):Prop:=∀d t,Ev L t t->d∈L->d∉t.been->free L t.been<=n->Good L c0 t d->
 Good L c0 (v d t) d/\GLast L c0 (v d t)/\d∈(v d t).been/\∀x∈(v d t).been,x∉t.been->∀k,k<4->bes x k∈L->bes x k∈(v d t).been
def wI(L:List Sq)(c0:Sq):∀n,VGood L c0 n (visT L n)
 |0=>λd t _ hd hn hf _=>by
  have:=jV (L:=L) (b:=t.been) (b':=t.been++[d]) (λx hx=>qaH _ hx) hd hn (qaK _ (by simp))
  omega
 |n+1=>λd t ht hd hn hf hg=>by
  have h1:=in_ev ht hd hn
  have h2:=qJ (s:=t) hd hn
  have key:∀j,j<=4->Good L c0 (rnds (visT L n) L d (inT t d) j) d/\GLast L c0 (rnds (visT L n) L d (inT t d) j)/\(∀x∈(rnds (visT L n) L d (inT t d) j).been,x∉(inT t d).been->∀k,k<4->bes x k∈L->bes x k∈(rnds (visT L n) L d (inT t d) j).been)/\∀k,k<j->bes d k∈L->bes d k∈(rnds (visT L n) L d (inT t d) j).been:=by
   intro j
   induction j with
   |zero=>
    intro _
    obtain⟨cov,g1,g2⟩:=hg
    have hb:∀b∈(inT t d).been,b≠d->∀a,qd b a->cov a:=λb hb hne a ha=>by
     rcases qao.1 hb with hb|hb
     ·exact g2 b hb hne a ha
     ·exact absurd (by simpa using hb) hne
    refine⟨⟨cov,g1,hb⟩,⟨d,t.head,cov,?_,hb⟩,λx hx hn=>absurd hx hn,λk hk=>by omega⟩
    show Fol L c0 (t.steps.take t.steps.length) d t.head cov
    rw[qbh]
    exact g1
   |succ j ih=>
    intro hj
    obtain⟨i1,i2,i3,i4⟩:=ih (by omega)
    have e1:=iS (ge L n) (c:=d) h1 (by omega) j (by omega)
    show Good L c0 (rndT (visT L n) L d (rnds (visT L n) L d (inT t d) j) j) d/\GLast L c0 (rndT (visT L n) L d (rnds (visT L n) L d (inT t d) j) j)/\(∀x∈(rndT (visT L n) L d (rnds (visT L n) L d (inT t d) j) j).been,x∉(inT t d).been->∀k,k<4->bes x k∈L->bes x k∈(rndT (visT L n) L d (rnds (visT L n) L d (inT t d) j) j).been)/\∀k,k<j+1->bes d k∈L->bes d k∈(rndT (visT L n) L d (rnds (visT L n) L d (inT t d) j) j).been
    have hf:free L (rnds (visT L n) L d (inT t d) j).been<=n:=qbj (fo λy hy=>e1.mem hy) (by omega)
    generalize rnds (visT L n) L d (inT t d) j=u at *
    unfold rndT
    split
    next hc=>
     have e2:=e1.self
     have hj4:j<4:=by omega
     obtain⟨g1,g2,g3,g4,g5,g6⟩:=go_ev e2 hj4
     have hev:Ev L (goT u j) (goT u j):=⟨⟨[],by simp⟩,e2.nd,e2.sub,g6,g3,g4,g5,qaf _⟩
     have hv:=ge L n (bes d j) (goT u j) hev hc.1 hc.2 hf
     obtain⟨v1,v2,v3,v4⟩:=wI L c0 n (bes d j) (goT u j) hev hc.1 hc.2 hf (good_go hj4 e2.hd hc.1 i1)
     have hb:=qb d hj4
     have hsub:∀x∈u.been,x∈(visT L n (bes d j) (goT u j)).been:=λx hx=>hv.1.mem hx
     refine⟨?_,last_go hv.1.la v2,λx hx hnx k hk hbk=>?_,λk hk hbk=>?_⟩
     ·have:=good_go (k:=(j+2)%4) (qbz _ (by omega)) hv.1.hd (by rw[hb];exact hd) v1
      rw[hb]at this
      exact this
     ·by_cases hxu:x∈u.been
      ·exact hsub _ (i3 x hxu hnx k hk hbk)
      ·exact v4 x hx hxu k hk hbk
     ·by_cases hkj:k=j
      ·subst hkj
       exact v3
      ·exact hsub _ (i4 k (by omega) hbk)
    next hc=>
     refine⟨i1,i2,i3,λk hk hbk=>?_⟩
     by_cases hkj:k=j
     ·subst hkj
      exact Decidable.byContradiction λh=>hc ⟨hbk,h⟩
     ·exact i4 k (by omega) hbk
  obtain⟨k1,k2,k3,k4⟩:=key 4 (by omega)
  have e3:=iS (ge L n) (c:=d) h1 (by omega) 4 (by omega)
  refine⟨k1,k2,e3.mem (qaK _ (by simp)),λx hx hnx k hk hbk=>?_⟩
  show bes x k∈(rnds (visT L n) L d (inT t d) 4).been
  by_cases hxd:x=d
  ·subst hxd
   exact k4 k hk hbk
  ·refine k3 x hx (λe=>?_) k hk hbk
   rcases qao.1 e with e|e
   ·exact hnx e
   ·exact hxd (by simpa using e)
def ev0{L:List Sq}:Ev L ⟨[],[],0,0⟩ ⟨[],[],0,0⟩:=⟨⟨[],rfl⟩,qcN,λx hx=>(by cases hx),(by show 0<4;omega),λa ha=>(by cases ha),λi a b h=>(by simp at h),qaf _,qaf _⟩
def topT(L:List Sq)(c:Sq):TS:=visT L (free L []) c ⟨[],[],0,0⟩
def top_all{L:List Sq}{c:Sq}(hc:c∈L)(hL:Con L):(∀x∈L,x∈(topT L c).been)/\LP L (nmv ((topT L c).steps.take (topT L c).last)) c 0 λ_=>False:=by
 obtain⟨h1,h2,h3,h4⟩:=wI L c (free L []) c ⟨[],[],0,0⟩ ev0 hc (by simp) (qaf _) ⟨λ_=>False,λm hm=>hm,λb hb=>(by cases hb)⟩
 have hev:=(ge L (free L []) c ⟨[],[],0,0⟩ ev0 hc (by simp) (qaf _)).1
 have hall:=con_all hL hev.sub ⟨c,h3⟩ λx hx k hk hb=>h4 x hx (by simp) k hk hb
 refine⟨hall,?_⟩
 obtain⟨p,hd,cov,f1,f2⟩:=h2
 have:=f1 0 ⟨0,by omega,λa ha ha4=>?_⟩
 ·rw[qaL]at this
  exact this
 ·rw[cv0]
  by_cases hp:(a.1,a.2.1)=p
  ·exact .inr ⟨hp,ha4⟩
  ·exact .inl (f2 _ (hall _ ha) hp a ⟨rfl,ha4⟩)
end Tw
end Go.Am
namespace Go.Am
open Sx Go.Proofs Tw
namespace St
abbrev SqD:=Nat×Bool×Nat×Int×Int
def ribL:TA->Nat->Nat->Int->Int->List SqD
 | [],f,t,x,y=>[(f,false,t,x,y)]
 |z :: ws,f,t,x,y=>
  if z=1 then(f,false,t,x,y) :: ribL ws 0 (ex f t) (x+mA (ex f t)) (y+mC (ex f t))
  else if z=2 then(f,true,t,x,y) :: ribL ws 0 (mulT 4 (ex f t)) x y
  else ribL ws (if decide (z=3)=decide (t<4)then 1 else 2) t x y
def fU:∀(ws:TA) (f t:Nat) (x y:Int),(∀z∈ws,1<=z/\z<=4)->(ribL ws f t x y).length=1+nmv ws
 | [],_,_,_,_,_=>rfl
 |z :: ws,f,t,x,y,h=>by
  have hz:=h z qaB
  have ih:=λf t x y=>fU ws f t x y λa ha=>h a (qan _ ha)
  have hn:nmv (z :: ws)=(if z<3 then 1 else 0)+nmv ws:=by
   unfold nmv
   rw[qb3]
   by_cases h3:z<3
   ·simp[h3];omega
   ·simp[h3]
  unfold ribL
  rw[hn]
  split
  ·rw[qaG,ih,qdy (by omega)];omega
  ·split
   ·rw[qaG,ih,qdy (by omega)];omega
   ·rw[ih,qdz (by omega)];omega
def jx:∀(ws:TA) (f t:Nat) (x y:Int) (d:SqD),(ribL ws f t x y)[0]?=some d->d.2.2=(t,x,y)
 | [],f,t,x,y,d,h=>by
  simp only[ribL,qaR,qas]at h
  subst h;rfl
 |z :: ws,f,t,x,y,d,h=>by
  unfold ribL at h
  split at h
  ·simp only[qaR,qas]at h
   subst h;rfl
  ·split at h
   ·simp only[qaR,qas]at h
    subst h;rfl
   ·exact jx ws _ t x y d h
def Nxt(d e:SqD):Prop:=e.2.2.1=(if d.2.1 then mulT 4 (ex d.1 d.2.2.1)else ex d.1 d.2.2.1)/\e.2.2.2.1=(if d.2.1 then d.2.2.2.1 else d.2.2.2.1+mA (ex d.1 d.2.2.1))/\e.2.2.2.2=(if d.2.1 then d.2.2.2.2 else d.2.2.2.2+mC (ex d.1 d.2.2.1))
def md:∀(ws:TA) (f t:Nat) (x y:Int) (s:Nat) (d e:SqD),(ribL ws f t x y)[s]?=some d->(ribL ws f t x y)[s+1]?=some e->Nxt d e
 | [],f,t,x,y,s,d,e,_,h2=>by simp[ribL]at h2
 |z :: ws,f,t,x,y,s,d,e,h1,h2=>by
  unfold ribL at h1 h2
  split at h1
  next hz=>
   rw[qdy hz]at h2
   rw[qbf]at h2
   cases s with
   |zero=>
    simp only[qaR,qas]at h1
    have:=jx ws _ _ _ _ e h2
    subst h1
    exact⟨by rw[this];rfl,by rw[this];rfl,by rw[this];rfl⟩
   |succ s=>
    rw[qbf]at h1
    exact md ws _ _ _ _ s d e h1 h2
  next hz=>
   rw[qdz hz]at h2
   split at h1
   next hz2=>
    rw[qdy hz2]at h2
    rw[qbf]at h2
    cases s with
    |zero=>
     simp only[qaR,qas]at h1
     have:=jx ws _ _ _ _ e h2
     subst h1
     exact⟨by rw[this];rfl,by rw[this];rfl,by rw[this];rfl⟩
    |succ s=>
     rw[qbf]at h1
     exact md ws _ _ _ _ s d e h1 h2
   next hz2=>
    rw[qdz hz2]at h2
    exact md ws _ _ _ _ s d e h1 h2
def dAt(L:List SqD)(s:Nat):SqD:=(L[s]?).getD (0,false,0,0,0)
def iE{L:List SqD}{s:Nat}(h:s<L.length):L[s]?=some (dAt L s):=by
 unfold dAt
 rw[qai h];rfl
def rib_of(ws:TA):Rib (ribL ws 0 0 0 0).length (λs=>(dAt (ribL ws 0 0 0 0) s).1) (λs=>(dAt (ribL ws 0 0 0 0) s).2.1) (λs=>(dAt (ribL ws 0 0 0 0) s).2.2.1) (λs=>(dAt (ribL ws 0 0 0 0) s).2.2.2.1) (λs=>(dAt (ribL ws 0 0 0 0) s).2.2.2.2):=by
 have hpos:0<(ribL ws 0 0 0 0).length:=by
  have:∀(ws:TA) (f t:Nat) (x y:Int),0<(ribL ws f t x y).length:=by
   intro ws
   induction ws with
   |nil=>intro f t x y;simp[ribL]
   |cons z ws ih=>
    intro f t x y
    unfold ribL
    split
    ·simp
    ·split
     ·simp
     ·exact ih _ _ _ _
  exact this _ _ _ _ _
 have h0:=jx ws 0 0 0 0 _ (iE hpos)
 have hn:∀s,s+1<(ribL ws 0 0 0 0).length->Nxt (dAt (ribL ws 0 0 0 0) s) (dAt (ribL ws 0 0 0 0) (s+1)):=λs hs=>md ws 0 0 0 0 s _ _ (iE (by omega)) (iE hs)
 exact⟨by rw[h0],by rw[h0],by rw[h0],λs hs=>(hn s hs).1,λs hs=>(hn s hs).2.1,λs hs=>(hn s hs).2.2⟩
def ly(t:Nat):Nat:=if t<4 then t else(t+2)%4
def imgs(d:SqD):List K3:=(List.range 4).map λq=>(d.2.2.2.1,d.2.2.2.2,qT (if half d.1 q then ex d.1 d.2.2.1 else d.2.2.1) q)
def aD:TA->Bool->Sq->Nat->List K3
 | [],laid,p,h=>if laid then(bp 0).map (qc p h)else []
 |z :: ws,laid,p,h=>(if laid then(bp (if z=3 then 1 else if z=4 then 2 else 0)).map (qc p h)else [])++(if z=1 then aD ws true (bes p h) h else if z=2 then aD ws true p ((h+2)%4)else if z=3 then aD ws false p ((h+1)%4)else aD ws false p ((h+3)%4))
def imgs_0{t:Nat}(ht:t<8){b:Bool}{x y:Int}(a:K3):a∈imgs (0,b,t,x,y)↔a∈(bp 0).map (qc (x,y) (ly t)):=by
 obtain⟨u,v,q⟩:=a
 rcases t8 ht with rfl|rfl|rfl|rfl|rfl|rfl|rfl|rfl<;>simp[imgs,half,qT,ly,bp,qc,qc4]<;>omega
def imgs_f{t z:Nat}(ht:t<8)(hz:z=3∨z=4){b:Bool}{x y:Int}(a:K3):a∈imgs ((if decide (z=3)=decide (t<4)then 1 else 2),b,t,x,y)↔a∈(bp (if z=3 then 1 else if z=4 then 2 else 0)).map (qc (x,y) (ly t)):=by
 obtain⟨u,v,q⟩:=a
 rcases hz with rfl|rfl<;>rcases t8 ht with rfl|rfl|rfl|rfl|rfl|rfl|rfl|rfl<;>simp[imgs,half,ex,mulT,qT,ly,bp,qc,qc4]<;>omega
def head_b{t:Nat}(ht:t<8):ly (mulT 4 t)=(ly t+2)%4:=by
 rcases t8 ht with rfl|rfl|rfl|rfl|rfl|rfl|rfl|rfl<;>rfl
def head_f{t z:Nat}(ht:t<8)(hz:z=3∨z=4):ly (ex (if decide (z=3)=decide (t<4)then 1 else 2) t)=(ly t+(if z=3 then 1 else 3))%4:=by
 rcases hz with rfl|rfl<;>rcases t8 ht with rfl|rfl|rfl|rfl|rfl|rfl|rfl|rfl<;>rfl
def bes_h{t:Nat}(ht:t<8){x y:Int}:bes (x,y) (ly t)=(x+mA t,y+mC t):=by
 rcases t8 ht with rfl|rfl|rfl|rfl|rfl|rfl|rfl|rfl<;>simp[ly,bes,mA,mC]<;>omega
def vM{z:Nat}{ws:TA}(h:Ok3 (z :: ws)):Ok3 ws:=λi a b h1 h2=>h (i+1) a b (by simpa using h1) (by simpa using h2)
def js{z:Nat}{ws:TA}(h:Ok3 (z :: ws))(hz:3<=z):∀a,ws.head? = some a->a<3:=λa ha=>by
 have:=h 0 z a rfl (by cases ws with|nil=>simp at ha|cons b ws=>simpa using ha)
 omega
def cov_iff:∀(ws:TA),(∀z∈ws,1<=z/\z<=4)->Ok3 ws->∀(t:Nat) (x y:Int),t<8->∀a:K3,
  ((∃d,d∈ribL ws 0 t x y/\a∈imgs d)↔a∈aD ws true (x,y) (ly t))/\
  ∀f,(f=1∨f=2)->(∀z,ws.head? = some z->z<3)->((∃d,d∈ribL ws f t x y/\a∈imgs d)↔a∈imgs (f,false,t,x,y)∨a∈aD ws false (x,y) (ly (ex f t)))
 | [],_,_,t,x,y,ht,a=>by
  refine⟨?_,λf hf _=>?_⟩
  ·simp only[ribL,qap,aD,if_true]
   rw[←imgs_0 ht (b:=false)]
   exact⟨λ⟨d,h1,h2⟩=>h1▸h2,λh=>⟨_,rfl,h⟩⟩
  ·simp only[ribL,qap,aD,qam,if_false,qbq,or_false]
   exact⟨λ⟨d,h1,h2⟩=>h1▸h2,λh=>⟨_,rfl,h⟩⟩
 |z :: ws,hok,h3,t,x,y,ht,a=>by
  have hz:=hok z qaB
  have h3':Ok3 ws:=vM h3
  have ih:=cov_iff ws (λb hb=>hok b (qan _ hb)) h3'
  have hb:∀(f:Nat) (b b':Bool),a∈imgs (f,b,t,x,y)↔a∈imgs (f,b',t,x,y):=λf b b'=>Iff.rfl
  have z4:z=1∨z=2∨z=3∨z=4:=by omega
  refine⟨?_,λf hf hh=>?_⟩
  ·rcases z4 with rfl|rfl|rfl|rfl
   ·have h1:=(ih t (x+mA t) (y+mC t) ht a).1
    simp only[ribL,aD,if_true,qal,qao]
    show(∃d,(d=_∨d∈ribL ws 0 t (x+mA t) (y+mC t))/\a∈imgs d)↔_
    rw[bes_h ht,←h1]
    have h2:=imgs_0 ht (b:=false) (x:=x) (y:=y) a
    simp only[Nat.reduceEqDiff,if_false]
    rw[←h2]
    constructor
    ·rintro⟨d,rfl|hd,hm⟩
     ·exact .inl hm
     ·exact .inr ⟨d,hd,hm⟩
    ·rintro(hm|⟨d,hd,hm⟩)
     ·exact⟨_,.inl rfl,hm⟩
     ·exact⟨d,.inr hd,hm⟩
   ·have h1:=(ih (mulT 4 t) x y gK a).1
    simp only[ribL,aD,if_true,qal,qao,Nat.reduceEqDiff,if_false]
    show(∃d,(d=_∨d∈ribL ws 0 (mulT 4 t) x y)/\a∈imgs d)↔_
    rw[←head_b ht,←h1]
    have h2:=imgs_0 ht (b:=true) (x:=x) (y:=y) a
    rw[←h2]
    constructor
    ·rintro⟨d,rfl|hd,hm⟩
     ·exact .inl hm
     ·exact .inr ⟨d,hd,hm⟩
    ·rintro(hm|⟨d,hd,hm⟩)
     ·exact⟨_,.inl rfl,hm⟩
     ·exact⟨d,.inr hd,hm⟩
   ·have h1:=(ih t x y ht a).2 (if decide (3=3)=decide (t<4)then 1 else 2) (by split<;>simp) (js h3 (by omega))
    have h2:=head_f ht (z:=3) (.inl rfl)
    have h4:=imgs_f ht (z:=3) (.inl rfl) (b:=false) (x:=x) (y:=y) a
    rw[h2]at h1
    simp only[ribL,aD,if_true,qao,Nat.reduceEqDiff,if_false]at h1 h4 ⊢
    rw[h1,h4]
   ·have h1:=(ih t x y ht a).2 (if decide (4=3)=decide (t<4)then 1 else 2) (by split<;>simp) (js h3 (by omega))
    have h2:=head_f ht (z:=4) (.inr rfl)
    have h4:=imgs_f ht (z:=4) (.inr rfl) (b:=false) (x:=x) (y:=y) a
    rw[h2]at h1
    simp only[ribL,aD,if_true,qao,Nat.reduceEqDiff,if_false]at h1 h4 ⊢
    rw[h1,h4]
  ·have hlt:=hh z rfl
   have hex:=je (f:=f) ht
   have z2:z=1∨z=2:=by omega
   rcases z2 with rfl|rfl
   ·have h1:=(ih (ex f t) (x+mA (ex f t)) (y+mC (ex f t)) hex a).1
    simp only[ribL,aD,if_true,qal,qam,if_false,qaS]
    rw[bes_h hex,←h1]
    constructor
    ·rintro⟨d,rfl|hd,hm⟩
     ·exact .inl hm
     ·exact .inr ⟨d,hd,hm⟩
    ·rintro(hm|⟨d,hd,hm⟩)
     ·exact⟨_,.inl rfl,hm⟩
     ·exact⟨d,.inr hd,hm⟩
   ·have h1:=(ih (mulT 4 (ex f t)) x y gK a).1
    simp only[ribL,aD,if_true,qal,qam,if_false,qaS,Nat.reduceEqDiff]
    rw[←head_b hex,←h1]
    constructor
    ·rintro⟨d,rfl|hd,hm⟩
     ·exact .inl hm
     ·exact .inr ⟨d,hd,hm⟩
    ·rintro(hm|⟨d,hd,hm⟩)
     ·exact⟨_,.inl rfl,hm⟩
     ·exact⟨d,.inr hd,hm⟩
end St
end Go.Am
namespace Go.Am
open Sx Go.Proofs
namespace St
def unit_c(c:Crs):Cc 99 [.i c.1,.i c.2.1,.i c.2.2] [.i c.1,.i c.2.1]:=by
 refine q99 rfl ?_;unfold f99;simp only[qxh]
 simp(disch:=omega)only[↓qXX]
def order_c{a b:Crs}(h:0<=a.1/\a.1<=1000/\0<=b.1/\b.1<=1000/\0<=a.2.1/\a.2.1<=255/\0<=b.2.1/\b.2.1<=255):∃d:Int,Cc 100 [.i a.1,.i a.2.1,.i b.1,.i b.2.1] [.i d]/\(d<0↔ltC a b=true):=by
 by_cases h1:a.1=b.1
 ·refine⟨a.2.1 - b.2.1,?_,by simp only[ltC,qbr,qaa,qdv];omega⟩
  refine q100 rfl ?_;unfold f100;simp only[qxh]
  simp(disch:=omega)only[↓qXX]
 ·refine⟨a.1 - b.1,?_,by simp only[ltC,qbr,qaa,qdv];omega⟩
  refine q100 rfl ?_;unfold f100;simp only[qxh]
  simp(disch:=omega)only[↓qXX]
def okU(w:Nat)(c:Crs):Prop:=(∃u e:Nat,c.1=Int.ofNat u/\c.2.1=Int.ofNat e/\(u,e)∈jI w 1)/\1<=c.2.2/\c.2.2<=3
def okU.rng{w:Nat}(hw:w<=60){c:Crs}(h:okU w c):0<=c.1/\c.1<=1000/\0<=c.2.1/\c.2.1<=2:=by
 obtain⟨⟨u,e,h1,h2,h3⟩,_⟩:=h
 obtain⟨a1,a2,_⟩:=wG h3
 rw[h1,h2]
 refine⟨qav _,?_,qav _,?_⟩
 ·show(u:Int)<=1000;omega
 ·show(e:Int)<=2;omega
def check_c{w:Nat}(hw:1<=w/\w<=60){h:HL}{x:Value}{l:TC}(hl:LsH h x 3 encC l)(hk:∀c∈l,okU w c)(hasc:l.Pairwise λa b=>ltC a b=true)(hn:l.length<=1000) :
  aK cc ab 69 [.i (.ofNat w),.i 1,.v x] (absH aa h) [.i 0] (absH aa h):=by
 have hSh:Sh w 1:=⟨hw.1,hw.2,rfl⟩
 have hb:l.all isK=true:=qag.2 λc hc=>by
  have:=(hk c hc).2
  unfold isK
  rw[qdx this.1,qdx this.2];rfl
 obtain⟨rs,h',h3,rfl,rfl⟩:=x69 (K:=λrs h'=>rs=[.i 0]/\h'=h) (H:=h) (glsI (glsI (glsV hl.good gls0))) (by
  unfold f69;simp only[qxh]
  refine p_x ?_
  refine ae (kM hw) ?_
  refine p_x ?_
  refine am (wX hl (by omega)) ?_
  rw[hb]
  simp(disch:=omega)only[↓qXX,qaE]
  refine bc hl ?_
  refine dU l.length (λj=>True) rfl (qaX _) trivial ?_
  intro j hj _ self hself
  refine p_x ?_
  by_cases hlt:j<l.length
  ·rw[aR hlt]
   refine p_x ?_
   obtain⟨c,hc⟩:=aY hlt
   have hmem:=qab hc
   obtain⟨u,e,h1,h2,h3⟩:=(hk c hmem).1
   obtain⟨a1,a2,n,a3,a4⟩:=wG h3
   have hnm:=name_c hSh a1 a2 a3
   rw[qa8 (by omega),←h1,←h2]at hnm
   refine aV hl rfl hc ?_
   unfold encC
   refine p_x ?_
   refine ae hnm ?_
   repeat (first|simp(disch:=omega)only[↓qXX]|refine ae (unit_c c) ?_)
   simp(disch:=omega)only[↓qXX,qaE]
   rw[aU (by omega)]
   exact hself hlt trivial
  ·obtain rfl:j=l.length:=by omega
   rw[bi (qaf _)]
   refine p_x ?_
   refine dU (j0:=1) (max 1 l.length) (λj=>1<=j) rfl (qcK _ _) (qaf _) ?_
   intro j hj' h1 self hself
   refine p_x ?_
   refine bc hl ?_
   by_cases hlt:j<l.length
   ·rw[aR hlt]
    refine p_x ?_
    rw[fP h1 (by omega)]
    obtain⟨c,hc⟩:=aY (l:=l) (i:=j - 1) (by omega)
    obtain⟨d,hd⟩:=aY hlt
    have hc1:=(hk c (qab hc)).rng hw.2
    have hd1:=(hk d (qab hd)).rng hw.2
    refine aV hl rfl hc ?_
    unfold encC
    repeat (first|simp(disch:=omega)only[↓qXX]|refine ae (unit_c c) ?_)
    refine aV hl rfl hd ?_
    unfold encC
    repeat (first|simp(disch:=omega)only[↓qXX]|refine ae (unit_c d) ?_)
    obtain⟨o,ho,hoi⟩:=order_c (a:=c) (b:=d) (by omega)
    refine ae ho ?_
    refine p_x ?_
    have hlo:o<0:=hoi.2 (by
     have hlc:=aM hc
     rw[qai hlc]at hc
     rw[qai hlt]at hd
     have:=qb0.1 hasc (j - 1) j hlc hlt (by omega)
     rw[qae hc,qae hd]at this
     exact this)
    refine p_x ?_
    rw[aU (by omega)]
    exact hself (by omega) (by omega)
   ·rw[bi (by omega)]
    simp(disch:=omega)only[↓qXX]
    trivial)
 exact h3
end St
end Go.Am
namespace Go.Am
open Sx Go.Proofs Tw
namespace St
def kd(up:Bool):Int:=if up then 2 else 1
def outW:TA->Nat->Bool->List Crs
 | [],_,_=>[]
 |z :: ws,s,up=>
  if z=1 then outW ws (s+1) up
  else if z=2 then(Int.ofNat (4*s+1),0,kd up) :: outW ws (s+1) (!up)
  else if decide (z=3)=up then(Int.ofNat (4*s),2,kd up) :: (Int.ofNat (4*s+1),2,kd up) :: outW ws s (!up)
  else(Int.ofNat (4*s),1,kd up) :: (Int.ofNat (4*s+2),1,kd up) :: outW ws s (!up)
def oc(s f:Nat):List Ku:=if f=1 then [(Int.ofNat (4*s),2),(Int.ofNat (4*s+1),2)]else if f=2 then [(Int.ofNat (4*s),1),(Int.ofNat (4*s+2),1)]else []
def keyD(s:Nat)(d:SqD):List Ku:=oc s d.1++if d.2.1 then [(Int.ofNat (4*s+1),0)]else []
def ki:List SqD->Nat->List Ku
 | [],_=>[]
 |d :: L,s=>keyD s d++ki L (s+1)
def up_b{t:Nat}(ht:t<8):decide (mulT 4 t<4) = !decide (t<4):=by
 rcases t8 ht with rfl|rfl|rfl|rfl|rfl|rfl|rfl|rfl<;>rfl
def up_f{f t:Nat}(ht:t<8)(hf:f=1∨f=2):decide (ex f t<4) = !decide (t<4):=by
 rcases hf with rfl|rfl<;>rcases t8 ht with rfl|rfl|rfl|rfl|rfl|rfl|rfl|rfl<;>rfl
def ex0(t:Nat):ex 0 t=t:=rfl
def vP:∀(ws:TA),(∀z∈ws,1<=z/\z<=4)->Ok3 ws->∀(s f t:Nat) (x y:Int),t<8->(f=0∨(f=1∨f=2)/\∀z,ws.head? = some z->z<3)->
  oc s f++(outW ws s (decide (ex f t<4))).map cN=ki (ribL ws f t x y) s
 | [],_,_,s,f,t,x,y,ht,hf=>by simp[outW,ribL,ki,keyD]
 |z :: ws,hok,h3,s,f,t,x,y,ht,hf=>by
  have hz:=hok z qaB
  have hex:=je (f:=f) ht
  have ih:=vP ws (λb hb=>hok b (qan _ hb)) (vM h3)
  have z4:z=1∨z=2∨z=3∨z=4:=by omega
  rcases z4 with rfl|rfl|hz3
  ·have h1:=ih (s+1) 0 (ex f t) (x+mA (ex f t)) (y+mC (ex f t)) hex (.inl rfl)
   simp only[outW,ribL,if_true,ki,keyD,qam,if_false,qa4]
   rw[←h1,ex0]
   simp[oc]
  ·have h1:=ih (s+1) 0 (mulT 4 (ex f t)) x y gK (.inl rfl)
   simp only[outW,ribL,Nat.reduceEqDiff,if_true,if_false,ki,keyD,qau]
   rw[←h1,ex0,up_b hex]
   simp[oc,cN]
  ·have h0:f=0:=by
    rcases hf with hf|⟨_,hf⟩
    ·exact hf
    ·have:=hf z rfl
     omega
   subst h0
   rw[ex0]
   have hf':(if decide (z=3)=decide (t<4)then 1 else 2)=1∨(if decide (z=3)=decide (t<4)then 1 else 2)=2:=by split<;>simp
   have h1:=ih s (if decide (z=3)=decide (t<4)then 1 else 2) t x y ht (.inr ⟨hf',js h3 (by omega)⟩)
   rw[up_f ht hf']at h1
   have hr:ribL (z :: ws) 0 t x y=ribL ws (if decide (z=3)=decide (t<4)then 1 else 2) t x y:=by
    conv=>lhs;unfold ribL
    rw[qdz (by omega),qdz (by omega)]
   have ho:outW (z :: ws) s (decide (t<4))=if decide (z=3)=decide (t<4)then(Int.ofNat (4*s),2,kd (decide (t<4))) :: (Int.ofNat (4*s+1),2,kd (decide (t<4))) :: outW ws s (!decide (t<4))else(Int.ofNat (4*s),1,kd (decide (t<4))) :: (Int.ofNat (4*s+2),1,kd (decide (t<4))) :: outW ws s (!decide (t<4)):=by
    conv=>lhs;unfold outW
    rw[qdz (by omega),qdz (by omega)]
   rw[hr,←h1,ho]
   by_cases hc:decide (z=3)=decide (t<4)
   ·rw[qdy hc,qdy hc]
    simp[oc,cN]
   ·rw[qdz hc,qdz hc]
    simp[oc,cN]
def jp:∀ {L:List SqD} {s0:Nat} {k:Ku},k∈ki L s0↔∃i d,L[i]?=some d/\k∈keyD (s0+i) d
 | [],s0,k=>by simp[ki]
 |d :: L,s0,k=>by
  unfold ki
  rw[qao,jp (L:=L)]
  constructor
  ·rintro(h|⟨i,e,h1,h2⟩)
   ·exact⟨0,d,rfl,h⟩
   ·exact⟨i+1,e,by simpa using h1,by rw[show s0+(i+1)=s0+1+i by omega];exact h2⟩
  ·rintro⟨i,e,h1,h2⟩
   cases i with
   |zero=>
    simp only[qaR,qas]at h1
    subst h1
    exact .inl h2
   |succ i=>exact .inr ⟨i,e,by simpa using h1,by rw[show s0+1+i=s0+(i+1)by omega];exact h2⟩
def kg{s:Nat}{d:SqD}{u:Nat}{e:Int}:((Int.ofNat u,e):Ku)∈keyD s d↔(d.1=1/\e=2/\(u=4*s∨u=4*s+1))∨(d.1=2/\e=1/\(u=4*s∨u=4*s+2))∨(d.2.1=true/\e=0/\u=4*s+1):=by
 have hi:∀a b:Nat,(Int.ofNat a=Int.ofNat b)↔a=b:=λa b=>⟨λh=>qca h,λh=>by rw[h]⟩
 unfold keyD oc
 by_cases h1:d.1=1
 ·cases hb:d.2.1<;>simp[h1,hi]<;>omega
 ·by_cases h2:d.1=2
  ·cases hb:d.2.1<;>simp[h2,hi]<;>omega
  ·cases hb:d.2.1<;>simp[h1,h2,hi]<;>omega
def key_sq{s:Nat}{d:SqD}{k:Ku}(h:k∈keyD s d):∃u:Nat,k.1=Int.ofNat u/\u / 4=s:=by
 unfold keyD oc at h
 rw[qao]at h
 rcases h with h|h
 ·split at h
  ·simp only[qal,qbq,or_false]at h
   rcases h with rfl|rfl
   ·exact⟨_,rfl,by omega⟩
   ·exact⟨_,rfl,by omega⟩
  ·split at h
   ·simp only[qal,qbq,or_false]at h
    rcases h with rfl|rfl
    ·exact⟨_,rfl,by omega⟩
    ·exact⟨_,rfl,by omega⟩
   ·cases h
 ·split at h
  ·simp only[qap]at h
   subst h
   exact⟨_,rfl,by omega⟩
  ·cases h
def keyD_nd(s:Nat)(d:SqD):(keyD s d).Nodup:=by
 have hi:∀a b:Nat,(Int.ofNat a=Int.ofNat b)↔a=b:=λa b=>⟨λh=>qca h,λh=>by rw[h]⟩
 unfold keyD oc
 by_cases h1:d.1=1
 ·cases hb:d.2.1<;>simp[h1,hi]<;>omega
 ·by_cases h2:d.1=2
  ·cases hb:d.2.1<;>simp[h2,hi]<;>omega
  ·cases hb:d.2.1<;>simp[h1,h2]
def vz:∀(L:List SqD) (s:Nat),(ki L s).Nodup
 | [],_=>qcN
 |d :: L,s=>by
  unfold ki
  rw[qbZ]
  refine⟨keyD_nd s d,vz L (s+1),λa ha b hb e=>?_⟩
  subst e
  obtain⟨u,h1,h2⟩:=key_sq ha
  obtain⟨i,e,_,h3⟩:=jp.1 hb
  obtain⟨v,h4,h5⟩:=key_sq h3
  rw[h1]at h4
  have:=qca h4
  omega
def crof{ws:TA}{l:TC}(hl:∀k,k∈l.map cN↔k∈ki (ribL ws 0 0 0 0) 0):CrOf (ribL ws 0 0 0 0).length l (λs=>(dAt (ribL ws 0 0 0 0) s).1) (λs=>(dAt (ribL ws 0 0 0 0) s).2.1):=by
 have key:∀(s u e:Nat),s<(ribL ws 0 0 0 0).length->u / 4=s->isCr l u e=decide (((Int.ofNat u,Int.ofNat e):Ku)∈keyD s (dAt (ribL ws 0 0 0 0) s)):=by
  intro s u e hs hu
  unfold isCr
  rw[decide_eq_decide,hl,jp]
  constructor
  ·rintro⟨i,d,h1,h2⟩
   obtain⟨v,h3,h4⟩:=key_sq h2
   have h5:u=v:=qca h3
   have hi:i=s:=by omega
   subst hi
   rw[iE hs]at h1
   cases h1
   rwa [qaL]at h2
  ·intro h
   exact⟨s,_,iE hs,by rwa [qaL]⟩
 refine⟨λs hs=>?_,λs hs=>?_,λs hs=>?_,λs hs=>?_,λs hs=>?_⟩
 ·rw[key s _ _ hs (by omega),decide_eq_decide,kg]
  constructor
  ·rintro(h|h|h)
   ·exact h.1
   ·exact absurd h.2.1 (by decide)
   ·exact absurd h.2.1 (by decide)
  ·exact λh=>.inl ⟨h,rfl,.inl rfl⟩
 ·rw[key s _ _ hs (by omega),decide_eq_decide,kg]
  constructor
  ·rintro(h|h|h)
   ·exact h.1
   ·exact absurd h.2.1 (by decide)
   ·exact absurd h.2.1 (by decide)
  ·exact λh=>.inl ⟨h,rfl,.inr rfl⟩
 ·rw[key s _ _ hs (by omega),decide_eq_decide,kg]
  constructor
  ·rintro(h|h|h)
   ·exact absurd h.2.1 (by decide)
   ·exact h.1
   ·exact absurd h.2.1 (by decide)
  ·exact λh=>.inr (.inl ⟨h,rfl,.inl rfl⟩)
 ·rw[key s _ _ hs (by omega),decide_eq_decide,kg]
  constructor
  ·rintro(h|h|h)
   ·exact absurd h.2.1 (by decide)
   ·exact h.1
   ·exact absurd h.2.1 (by decide)
  ·exact λh=>.inr (.inl ⟨h,rfl,.inr rfl⟩)
 ·rw[key s _ _ (by omega) (by omega)]
  cases hb:(dAt (ribL ws 0 0 0 0) s).2.1 with
  |true=>
   rw[qdv,kg]
   exact .inr (.inr ⟨hb,rfl,rfl⟩)
  |false=>
   rw[decide_eq_false_iff_not,kg]
   rintro(h|h|h)
   ·exact absurd h.2.1 (by decide)
   ·exact absurd h.2.1 (by decide)
   ·rw[hb]at h
    exact absurd h.1 (by simp)
end St
namespace St
def jy:∀(ws:TA) (f t:Nat) (x y:Int) (i:Nat) (d:SqD),(ribL ws f t x y)[i]?=some d->d.2.1=true->i+1<(ribL ws f t x y).length
 | [],f,t,x,y,i,d,h,hb=>by
  have hi:=aM h
  simp only[ribL,qaG,qbG]at hi
  obtain rfl:i=0:=by omega
  simp only[ribL,qaR,qas]at h
  subst h
  cases hb
 |z :: ws,f,t,x,y,i,d,h,hb=>by
  have hpos:∀(ws:TA) (f t:Nat) (x y:Int),0<(ribL ws f t x y).length:=by
   intro ws
   induction ws with
   |nil=>intro f t x y;simp[ribL]
   |cons z ws ih=>
    intro f t x y
    unfold ribL
    split
    ·simp
    ·split
     ·simp
     ·exact ih _ _ _ _
  unfold ribL at h ⊢
  split at h
  next hz=>
   rw[qdy hz,qaG]
   cases i with
   |zero=>have:=hpos ws 0 (ex f t) (x+mA (ex f t)) (y+mC (ex f t));omega
   |succ i=>
    rw[qbf]at h
    have:=jy ws _ _ _ _ i d h hb
    omega
  next hz=>
   rw[qdz hz]
   split at h
   next hz2=>
    rw[qdy hz2,qaG]
    cases i with
    |zero=>have:=hpos ws 0 (mulT 4 (ex f t)) x y;omega
    |succ i=>
     rw[qbf]at h
     have:=jy ws _ _ _ _ i d h hb
     omega
   next hz2=>
    rw[qdz hz2]
    exact jy ws _ _ _ _ i d h hb
def jt:∀(ws:TA) (s:Nat) (up:Bool) (c:Crs),c∈outW ws s up->1<=c.2.2/\c.2.2<=3
 | [],_,_,c,h=>by cases h
 |z :: ws,s,up,c,h=>by
  have hk:∀up,1<=kd up/\kd up<=3:=λup=>by cases up<;>simp[kd]
  unfold outW at h
  split at h
  ·exact jt ws _ _ c h
  ·split at h
   ·rcases qal.1 h with rfl|h
    ·exact hk _
    ·exact jt ws _ _ c h
   ·split at h
    ·rcases qal.1 h with rfl|h
     ·exact hk _
     ·rcases qal.1 h with rfl|h
      ·exact hk _
      ·exact jt ws _ _ c h
    ·rcases qal.1 h with rfl|h
     ·exact hk _
     ·rcases qal.1 h with rfl|h
      ·exact hk _
      ·exact jt ws _ _ c h
def key_un{w i:Nat}{d:SqD}{k:Ku}(h:k∈keyD i d)(hi:i<w)(hl:d.2.1=true->i+1<w):∃u e:Nat,k.1=Int.ofNat u/\k.2=Int.ofNat e/\(u,e)∈jI w 1:=by
 have un:∀q e p,q<4->e<3->nbr w 1 (4*i+q) e=some (4*i+p)->q<p->(4*i+q,e)∈jI w 1:=λq e p hq he hn hp=>vI (by omega) he hn (by omega)
 unfold keyD oc at h
 rw[qao]at h
 rcases h with h|h
 ·split at h
  ·simp only[qal,qbq,or_false]at h
   rcases h with rfl|rfl
   ·exact⟨4*i+0,2,rfl,rfl,un 0 2 3 (by omega) (by omega) (by rw[eO hi (by omega)];rfl) (by omega)⟩
   ·exact⟨4*i+1,2,rfl,rfl,un 1 2 2 (by omega) (by omega) (by rw[eO hi (by omega)];rfl) (by omega)⟩
  ·split at h
   ·simp only[qal,qbq,or_false]at h
    rcases h with rfl|rfl
    ·exact⟨4*i+0,1,rfl,rfl,un 0 1 1 (by omega) (by omega) (by rw[eO hi (by omega)];rfl) (by omega)⟩
    ·exact⟨4*i+2,1,rfl,rfl,un 2 1 3 (by omega) (by omega) (by rw[eO hi (by omega)];rfl) (by omega)⟩
   ·cases h
 ·split at h
  next hb=>
   simp only[qap]at h
   subst h
   have hw:=hl hb
   refine⟨4*i+1,0,rfl,rfl,vI (by omega) (by omega) (n:=4*(i+1)+3) ?_ (by omega)⟩
   rw[eO hi (by omega)]
   exact qdy hw
  ·cases h
def nq{ws:TA}(hok:∀z∈ws,1<=z/\z<=4)(h3:Ok3 ws):(outW ws 0 true).map cN=ki (ribL ws 0 0 0 0) 0:=by
 have:=vP ws hok h3 0 0 0 0 0 (by omega) (.inl rfl)
 exact this
def out_ok{ws:TA}(hok:∀z∈ws,1<=z/\z<=4)(h3:Ok3 ws){c:Crs}(hc:c∈outW ws 0 true):okU (ribL ws 0 0 0 0).length c:=by
 have hm:cN c∈ki (ribL ws 0 0 0 0) 0:=by
  rw[←nq hok h3]
  exact qck hc
 obtain⟨i,d,h1,h2⟩:=jp.1 hm
 rw[qaL]at h2
 exact⟨key_un h2 (aM h1) (jy ws _ _ _ _ i d h1),jt ws _ _ c hc⟩
def pat_ok{ws:TA}(hok:∀z∈ws,1<=z/\z<=4)(h3:Ok3 ws){l:TC}(hp:l.Perm (outW ws 0 true)) :
  (∀c∈l,okU (ribL ws 0 0 0 0).length c)/\(l.map cN).Nodup/\CrOf (ribL ws 0 0 0 0).length l (λs=>(dAt (ribL ws 0 0 0 0) s).1) (λs=>(dAt (ribL ws 0 0 0 0) s).2.1):=by
 refine⟨λc hc=>out_ok hok h3 (hp.mem_iff.1 hc),?_,crof λk=>?_⟩
 ·rw[(hp.map cN).nodup_iff,nq hok h3]
  exact vz _ _
 ·rw[(hp.map cN).mem_iff,nq hok h3]
end St
end Go.Am
namespace Go.Am
open Sx Go.Proofs Go.Shelf Go.Lib Go.Sort
section
variable [Val]
def wr_below [Glo]{C:Cfg}{base:Nat}{mu:HMap}{H:Ts}{w w':World}(h:WR C base mu H w)(hb:Go.RowKit.Below w.heap.size w w')(hd:w.drawn<=w'.drawn):WR C base mu H w'/\Evo H mu w H mu w':=by
 refine⟨⟨λid o h1 h2=>?_,h.inj,h.own,h.ro,h.dom,λg vs hg=>?_⟩,⟨qaf _,λ_ _=>rfl,hb.size,λb hb' _=>hb.block b hb',λb h=>.inr h,hb.os,hb.tape,hb.output,hd⟩⟩
 ·obtain⟨p,h3,h4⟩:=h.obj id o h1 h2
  exact⟨p,h3,by rw[hb.block _ (gL h2 h4)];exact h4⟩
 ·obtain⟨h1,h2,c,e,fr,h3,h4⟩:=h.glob g vs hg
  exact⟨h1,h2,c,e,fr,by rw[hb.block _ (qat.1 h3).1];exact h3,h4⟩
def xI{W w':World}(h1:w'.os=W.os)(h2:w'.tape=W.tape)(h3:w'.output=W.output)(h4:W.drawn<=w'.drawn)(h5:W.heap.size<=w'.heap.size)(h6:∀b,b<W.heap.size->w'.heap[b]?=W.heap[b]?):∃q os',w'=grow (W.drewN q) os':=by
 refine⟨w'.drawn - W.drawn,w'.heap.extract W.heap.size w'.heap.size,?_⟩
 have e:w'.heap=W.heap++w'.heap.extract W.heap.size w'.heap.size:=by
  apply qcE
  intro i
  rw[Array.getElem?_append]
  split
  next hi=>exact h6 i hi
  next hi=>
   rw[Array.getElem?_extract]
   split
   ·congr 1;omega
   ·rw[qbb (by omega)]
 obtain⟨hp,tp,dr,os,out⟩:=w'
 simp only at h1 h2 h3 h4 e
 subst h1 h2 h3
 unfold grow World.drewN
 simp only
 rw[←e,show W.drawn+(dr - W.drawn)=dr by omega]
def vt{α:Type} [Inhabited α]{enc:α->Tl}{e:Nat}(hk:∀x,(enc x).length=e){l:List α}{t:Nat}(ht:t<l.length*e):(l.flatMap enc)[t]?=some (Go.Sort.flatK enc e l.toArray)[t]!:=by
 rw[Go.Sort.get_flatK enc e l.toArray t (by simpa using ht)]
 have he:0<e:=by
  rcases qcJ e with h|h
  ·subst h;simp at ht
  ·exact h
 have hq:t / e<l.length:=Nat.div_lt_of_lt_mul (by rw[Nat.mul_comm];exact ht)
 have h1:=jT (e:=e) (enc:=enc) (l:=l) (λa _=>hk a) (i:=t / e) (a:=l[t / e]) (qai hq)
 have hr:=qbz t he
 have e1:t=t / e*e+t%e:=by rw[Nat.mul_comm];exact(Nat.div_add_mod t e).symm
 have h2:((l.flatMap enc).drop (t / e*e))[t%e]?=(enc l[t / e])[t%e]?:=by
  rw[←h1,qaT,qdy hr]
 rw[qaU,←e1]at h2
 rw[h2]
 have h3:(l.toArray)[t / e]! = l[t / e]:=by simp[hq]
 rw[h3,qai (by rw[hk];exact hr),List.getElem!_eq_getElem?_getD,qai (by rw[hk];exact hr)]
 rfl
def holds_of{α:Type} [Inhabited α]{enc:α->Tl}{e:Nat}(hk:∀x,(enc x).length=e)(hs:∀x,∀v∈enc x,Am.scalar v=true) [Glo]{mu:HMap}{p:Pl}{w:World}{l:List α}(hr:objR mu p w.heap[p.b]? (.cells (l.flatMap enc) e true)):HoldsK enc e w p.b p.o l.toArray:=by
 obtain⟨_,_,_,c,t,fr,h4,h5,h6,h7⟩:=hr
 obtain rfl:=h6 rfl
 intro j hj
 rw[Go.Sort.size_flatK]at hj
 have h1:=vt (enc:=enc) hk (l:=l) (t:=j) (by simpa using hj)
 obtain⟨v',h8,h9⟩:=h7 j _ h1
 have hsc:Am.scalar (Go.Sort.flatK enc e l.toArray)[j]! = true:=by
  have hm:=qab h1
  obtain⟨a,_,ha⟩:=qbH.1 hm
  exact hs a _ ha
 have:=bq hsc h9
 subst this
 exact⟨by simp[World.cell?,h4,h8],by simp[World.frozen?,h4]⟩
def xD{C:Cfg}{base:Nat}{mu:HMap}{H:Ts}{w:World} [Glo](hW:WR C base mu H w){α:Type} [Inhabited α]{enc:α->Tl}{e:Nat}(hk:∀x,(enc x).length=e)(hs:∀x,∀v∈enc x,Am.scalar v=true){id:Nat}{p:Pl}{l l':List α}
  (hid:H[id]?=some (.cells (l.flatMap enc) e true)) (hp:mu id=some p) (hl:l'.length=l.length) (n:Nat) (os:Array Obj) :
  WR C base mu (H.set id (.cells (l'.flatMap enc) e true)) (sortWorldK enc e w p.b p.o n l'.toArray os)/\Evo H mu w (H.set id (.cells (l'.flatMap enc) e true)) mu (sortWorldK enc e w p.b p.o n l'.toArray os):=by
 obtain⟨p',hp',hr⟩:=hW.obj id _ hid rfl
 rw[hp]at hp'
 cases hp'
 obtain⟨h1,h2,h3,c,t,fr,h4,h5,h6,h7⟩:=hr
 have hll:(l'.flatMap enc).length=l'.length*e:=aG λa _=>hk a
 have hl0:(l.flatMap enc).length=l.length*e:=aG λa _=>hk a
 have hset:=hW.set (w':=Go.Sort.putRowK enc e (Go.Sort.ahead w n) p.b p.o l'.toArray) (x:=.cells (Go.Sort.putCells (λv:Value=>v) p.o (Go.Sort.flatK enc e l'.toArray) c) t fr) hid rfl hp (by
   apply qcE
   intro i
   show(w.heap.modify p.b _)[i]?=_
   rw[qcQ,qbm]
   split
   next hi=>
    subst hi
    rw[h4,qdy (qat.1 h4).1]
    rfl
   ·rfl) rfl rfl rfl (.cells (l'.flatMap enc) e true) (λ_=>rfl) ⟨h1,by rw[hll,hl,←hl0];exact h2,by
    rw[qag]
    intro v hv
    obtain⟨a,_,ha⟩:=qbH.1 hv
    exact ej (hs a v ha),_,t,fr,rfl,by simp[Go.Sort.putCells,h5],h6,λi v hv=>by
    have hi:i<l'.length*e:=by rw[←hll];exact(qaN.1 hv).1
    have hF:=vt (enc:=enc) hk (l:=l') hi
    rw[hv]at hF
    obtain⟨u,hu⟩ : ∃u,c[p.o+i]?=some u:=⟨c[p.o+i]'(by rw[h5];rw[hl0]at h2;rw[hl]at hi;omega),qbo _⟩
    refine⟨v,?_,?_⟩
    ·simp only[Go.Sort.putCells,Array.getElem?_mapIdx,hu,qaz]
     rw[qdy ⟨by omega,by rw[Go.Sort.size_flatK];simpa using hi⟩,show p.o+i - p.o=i by omega,←qae hF]
    ·obtain⟨a,_,ha⟩:=qbH.1 (qab hv)
     exact .scalar (hs a v ha)⟩ (Nat.le_add_right _ _)
 obtain⟨a1,a2⟩:=hset
 obtain⟨b1,b2⟩:=wr_below (w':=sortWorldK enc e w p.b p.o n l'.toArray os) a1 ⟨rfl,rfl,rfl,by unfold sortWorldK grow;simp,λk hk=>by
  unfold sortWorldK grow
  simp only
  rw[qcz hk]⟩ (qaf _)
 exact⟨b1,a2.trans b2⟩
def cmp_lays{C:Cfg}(hG:∀g vs,C.G g=some vs->vs.all gfl=true){α:Type} [Inhabited α]{enc:α->Tl}{e:Nat}{cf:α->α->Int}{g:TM}(hs:∀x,∀v∈enc x,Am.scalar v=true)
  (hc:∀x y,cO C g [.agg ⟨enc x⟩,.agg ⟨enc y⟩] [] (.int .i64 (cf x y)) []) [glo:Glo] {base:Nat} {mu:HMap} {H:Ts} {w:World} (hW:WR C base mu H w) {blk:Nat} (hblk:base<=blk) (off n:Nat):CmpLays C.P g #[] enc e cf blk off n w:=by
 intro m os dk _ x y cs
 have hsame:∀b t,b<base->w.heap[b]?=some t->(sortWorldK enc e w blk off m dk os).heap[b]?=some t:=λb t hb' ht=>by
  unfold sortWorldK grow
  simp only
  rw[qcz (by rw[show(Go.Sort.putRowK enc e (Go.Sort.ahead w m) blk off dk).heap.size=w.heap.size from Go.Sort.size_putRow _ _ _ _ _];exact(qat.1 ht).1)]
  show(w.heap.modify blk _)[b]?=_
  rw[qcQ,qdz (by omega)]
  exact ht
 generalize sortWorldK enc e w blk off m dk os=W at *
 have hW0:WR C W.heap.size (λ_=>none) [] W:=
  ⟨λid o h=>by simp at h,λi j oi oj pi pj h=>by simp at h,λi o p h=>by simp at h,λi o p h=>by simp at h,λ_ _=>rfl,λg vs hg=>by
   obtain⟨h1,h2,c,t,fr,h3,h4⟩:=hW.glob g vs hg
   have h5:=hsame _ _ h1 h3
   exact⟨(qat.1 h5).1,h2,c,t,fr,h5,lU (hG g vs hg) h4⟩⟩
 have hag:∀x:α,VR noL (λ_=>none) (.agg ⟨enc x⟩) (.agg ⟨enc x⟩):=λx=>.agg rfl λi u v hu hv=>by
  rw[hu]at hv
  cases hv
  exact .scalar (hs x u (qab (by simpa using hu)))
 obtain⟨v,mu',w',a1,a2,a3,a4,fr,b1,b2,b3⟩:=hc x y glo W.heap.size (λ_=>none) W #[.agg (enc x).toArray,.agg (enc y).toArray] (qaf _) (VRs.cons (hag x) (VRs.cons (hag y) .nil)) hW0 cs
 rw[show(#[Value.agg (enc x).toArray,Value.agg (enc y).toArray] ++ #[]) = #[Value.agg (enc x).toArray,Value.agg (enc y).toArray]by simp]
 exact⟨.returned v,w',fr,⟨by rw[bq rfl a1],xI a3.os a3.tape a3.output a3.dr a3.size λb hb=>a3.keep b hb no_own⟩,b1,b2,b3⟩
def srt{α:Type} [Inhabited α](cf:α->α->Int)(l:List α):List α:=(pdq (ltOf cf) l.toArray 0 l.length (Lib.bitLen l.length) true true).toList
def tO{α:Type} [Inhabited α]{cf:α->α->Int}(hO:SWO (ltOf cf))(l:List α):PermIn 0 l.length l.toArray (srt cf l).toArray/\SortedIn (ltOf cf) 0 l.length (srt cf l).toArray:=by
 have h:=pdq_sorts (ltOf cf) hO l.toArray 0 l.length (Lib.bitLen l.length) true true (qaX _) (by simp) (Or.inl rfl)
 unfold srt
 simpa using h
def wy{α:Type} [Inhabited α]{cf:α->α->Int}(hO:SWO (ltOf cf))(l:List α):(srt cf l).Perm l:=by
 have h:=(tO hO l).1.2.2
 have hl:(srt cf l).length=l.length:=by
  have:=(tO hO l).1.1
  simpa using this
 simpa[List.extract_eq_take_drop,hl,qaQ]using h
def wx{α:Type} [Inhabited α]{cf:α->α->Int}(hO:SWO (ltOf cf))(l:List α):(srt cf l).Pairwise λx y=>ltOf cf y x=false:=by
 have hl:(srt cf l).length=l.length:=by
  have:=(tO hO l).1.1
  simpa using this
 rw[qb0]
 intro i j hi hj hij
 have h:=(tO hO l).2 i j (qaX _) hij (by omega)
 simpa[hi,hj]using h
def nL{C:Cfg}(hG:∀g vs,C.G g=some vs->vs.all gfl=true){ρ:Ren}(L:SlLaysF0.n6 C.P ρ){α:Type} [Inhabited α]{enc:α->Tl}{e:Nat}(aE:∀w,(isAgg (ρ.t 24)).run C.P w = .ok true w)(zE:∀w,(Go.sizeOf (ρ.t 24)).run C.P w = .ok e w)
  (hk:∀x,(enc x).length=e) (hs:∀x,∀v∈enc x,Am.scalar v=true) {cf:α->α->Int} (hO:SWO (ltOf cf)) {g:TM} (eg:∀args w,(callFunc g args).run C.P w = .ok (.enter g args) w)
  (hc:∀x y,cO C g [.agg ⟨enc x⟩,.agg ⟨enc y⟩] [] (.int .i64 (cf x y)) []) {H:Ts} {id n cx:Nat} {l:List α} (hid:H[id]?=some (.cells (l.flatMap enc) e true)) (hn:n=l.length) (h0:0<n) (hl:n<4611686018427387904) :
  cO C (ρ.f 6) [.slice (some ⟨id,0,tag e⟩) n cx,.func (.func g) ⟨[]⟩ ⟨[]⟩] H (.tuple #[]) (H.set id (.cells ((srt cf l).flatMap enc) e true)):=by
 subst hn
 intro glo base mu w args' hb hargs hW cs
 obtain⟨v1,vs1,h1,h2,h3⟩:=hargs.uncons
 obtain⟨v2,vs2,rfl,h5,h6⟩:=h3.uncons
 obtain rfl:=h6.unnil
 have hargs':args' = #[v1,v2]:=qa6.1 h1
 subst hargs'
 obtain⟨p,cap,hp,rfl⟩ : ∃p cap,mu id=some p/\v1 = .slice (some ⟨p.b,p.o,none⟩) l.length cap:=by
  clear hid hl
  generalize l.length=N at *
  cases h2 with
  |scalar h=>simp[Am.scalar]at h
  |hslice h hr hl' hx=>exact⟨_,_,h,rfl⟩
  |hslice0 hx=>omega
 obtain⟨a',b',rfl,ha,hb'⟩ : ∃a' b',v2 = .func (.func g) a' b'/\a'.size=0/\b'.size=0:=by
  cases h5 with
  |scalar h=>simp[Am.scalar]at h
  |func hf ha hb _ _=>exact⟨_,_,rfl,ha.symm,hb.symm⟩
 obtain rfl:=qcP ha
 obtain rfl:=qcP hb'
 obtain⟨p',hp',hr⟩:=hW.obj id _ hid rfl
 rw[hp]at hp'
 cases hp'
 have hcon:=AnyQ.slices_SortFunc_eq L e aE zE enc hk (λx v hv=>by
  have:=hs x v hv
  unfold Am.scalar at this
  split at this<;>first|rfl|cases this) cf hO g #[] p.b p.o cap l.toArray w eg (cmp_lays hG hs hc hW (hW.own id _ p hid rfl hp) p.o l.toArray.size) (holds_of hk hs hr) (gL rfl hr) (by simpa using hl)
 obtain⟨e',w',fr,⟨rfl,n,os,rfl⟩,b1,b2,b3⟩:=hcon cs
 have hlen:(srt cf l).length=l.length:=by
  have:=(tO hO l).1.1
  simpa using this
 obtain⟨c1,c2⟩:=xD (l':=srt cf l) hW hk hs hid hp hlen n os
 have e2:(pdq (ltOf cf) l.toArray 0 l.toArray.size (Lib.bitLen l.toArray.size) true true)=(srt cf l).toArray:=by simp[srt]
 rw[e2]at b1 b3
 exact⟨.tuple #[],mu,_,.tuple (by simp) rfl (λi x y h=>by simp at h),c1,c2,L.f6.enters rfl _ _,fr,b1,b2,b3⟩
end
def renS:Ren:=⟨fun|6=>52|15=>65|14=>64|28=>83|29=>84|20=>75|21=>76|22=>77|23=>78|24=>79|25=>80|26=>81|27=>82|46=>114|47=>115|48=>116|49=>117|50=>118|57=>129|n=>n,
 fun|22=>25|24=>30|25=>68|39=>127|53=>148|55=>150|46=>141|45=>140|50=>145|66=>185|70=>189|76=>207|77=>176|n=>n,λn=>n⟩
def nmOf(P:TE)(f:TM):String:=match P.funcs[f]? with
 |some g=>g.name
 |none => ""
def uZ {P:TE} {f:TM} {B:Func} (h1:(nmOf P f == "runtime.NumGoroutine")=false) (h2:P.funcs[f]?=some { B with name:=nmOf P f }):Bears P f B:=⟨_,h1,h2⟩
def layS:SlLaysF0.n6 Tryz.prog renS:=by
 constructor
 all_goals first
  |kernel_rfl
  |exact uZ (by kernel_rfl) (by kernel_rfl)
  |exact λ_=>by kernel_rfl
def renC:Ren:=⟨fun|6=>59|15=>65|14=>68|28=>83|29=>84|20=>86|21=>87|22=>88|23=>89|24=>90|25=>91|26=>92|27=>93|46=>119|47=>115|48=>116|49=>120|50=>121|57=>130|n=>n,
 fun|22=>89|24=>117|25=>119|39=>127|53=>148|55=>150|46=>141|45=>140|50=>145|66=>185|70=>189|76=>207|77=>176|n=>n,λn=>n⟩
def layC:SlLaysF0.n6 Tryz.prog renC:=by
 constructor
 all_goals first
  |kernel_rfl
  |exact uZ (by kernel_rfl) (by kernel_rfl)
  |exact λ_=>by kernel_rfl
end Go.Am
namespace Go.Am
namespace Sx
open Go.ChangeShapes Go.WideShapes Go.ChangeAt Go.WideMaps Go.WideElems Go.RowKit
def FitC:TG->Tl->Prop
 | [],[]=>True
 | .i k :: ks,v :: vs=>(∃n,v = .int k n/\(Lit.int k n).wf=true)/\FitC ks vs
 | .b :: ks,v :: vs=>(∃t,v = .bool t)/\FitC ks vs
 |_,_=>False
def FitL:TG->TD->Prop
 | [],[]=>True
 | .i k :: ks,.i n :: ls=>(Lit.int k n).wf=true/\FitL ks ls
 | .b :: ks,.b _ :: ls=>FitL ks ls
 |_,_=>False
def FitC.len:∀ {ks:TG} {vs:Tl},FitC ks vs->vs.length=ks.length
 | [],[],_=>rfl
 | .i k :: ks,v :: vs,h=>by simp[FitC.len h.2]
 | .b :: ks,v :: vs,h=>by simp[FitC.len h.2]
 | .v :: _,_,h=>by cases h
 | [],_ :: _,h=>by cases h
 | .i _ :: _,[],h=>by cases h
 | .b :: _,[],h=>by cases h
def FitC.app:∀ {ks ks':TG} {vs vs':Tl},FitC ks vs->FitC ks' vs'->FitC (ks++ks') (vs++vs')
 | [],_,[],_,_,h=>h
 | .i k :: ks,_,v :: vs,_,h,h'=>⟨h.1,FitC.app h.2 h'⟩
 | .b :: ks,_,v :: vs,_,h,h'=>⟨h.1,FitC.app h.2 h'⟩
 | .v :: _,_,_,_,h,_=>by cases h
 | [],_,_ :: _,_,h,_=>by cases h
 | .i _ :: _,_,[],_,h,_=>by cases h
 | .b :: _,_,[],_,h,_=>by cases h
def FitL.app:∀ {ks ks':TG} {vs vs':TD},FitL ks vs->FitL ks' vs'->FitL (ks++ks') (vs++vs')
 | [],_,[],_,_,h=>h
 | .i k :: ks,_,.i v :: vs,_,h,h'=>⟨h.1,FitL.app h.2 h'⟩
 | .b :: ks,_,.b v :: vs,_,h,h'=>FitL.app (ks:=ks) h h'
 | .v :: _,_,_,_,h,_=>by cases h
 | [],_,_ :: _,_,h,_=>by cases h
 | .i _ :: _,_,[],_,h,_=>by cases h
 | .b :: _,_,[],_,h,_=>by cases h
 | .i _ :: _,_,.b _ :: _,_,h,_=>by cases h
 | .i _ :: _,_,.v _ :: _,_,h,_=>by cases h
 | .b :: _,_,.i _ :: _,_,h,_=>by cases h
 | .b :: _,_,.v _ :: _,_,h,_=>by cases h
def FitC.sl:∀ {ks:TG} {vs:Tl},FitC ks vs->∃xs:List SL,xs.map SL.val=vs/\aT xs ks=true/\(∀x∈xs,x.good)/\FitL ks (xs.map SL.lf)
 | [],[],_=>⟨[],rfl,rfl,λ_ h=>(by cases h),trivial⟩
 | .i k :: ks,v :: vs,h=>by
  obtain⟨⟨n,rfl,hw⟩,h2⟩:=h
  obtain⟨xs,a,b,c,d⟩:=FitC.sl h2
  exact⟨.i k n :: xs,by simp[a,SL.val],by simp[aT,b,SL.is,dF],λx hx=>by
   rcases qal.1 hx with rfl|hx
   ·trivial
   ·exact c x hx,hw,d⟩
 | .b :: ks,v :: vs,h=>by
  obtain⟨⟨n,rfl⟩,h2⟩:=h
  obtain⟨xs,a,b,c,d⟩:=FitC.sl h2
  exact⟨.b n :: xs,by simp[a,SL.val],by simp[aT,b,SL.is],λx hx=>by
   rcases qal.1 hx with rfl|hx
   ·trivial
   ·exact c x hx,d⟩
 | .v :: _,_,h=>by cases h
 | [],_ :: _,h=>by cases h
 | .i _ :: _,[],h=>by cases h
 | .b :: _,[],h=>by cases h
def flatF(F:TK->Option (TG)):List Field->Nat->Option (TG)
 | [],_=>some []
 |f :: fs,off=>match Nat.beq f.offset off,F f.type with
  |true,some ks=>(flatF F fs (off+ks.length)).map (ks ++ ·)
  |_,_=>none
def xf(P:TE):Nat->TK->Option (TG)
 |0,_=>none
 |d+1,t=>match P.underlying t with
  |some (.int k)=>some [.i k]
  |some .bool=>some [.b]
  |some (.struct fs)=>match flatF (xf P d) fs.toList 0 with
   |some ks=>match Nat.beq ks.length (P.cellsOf t)with
    |true=>some ks
    |false=>none
   |none=>none
  |some (.array n e)=>match xf P d e with
   |some ks=>match Nat.beq (P.cellsOf e) ks.length&&Nat.beq (P.cellsOf t) (n*ks.length)with
    |true=>some (List.replicate n ks).flatten
    |false=>none
   |none=>none
  |_=>none
section
variable {H:Type} {enc:TypeId×Value->H} {P:TE}
def jE{α:Type}(l:List α)(c:Nat):l.take (l.take c).length=l.take c:=by
 rw[qaI]
 rcases Nat.le_total c l.length with h|h
 ·rw[qa8 h]
 ·rw[qbW h,qaQ h,qaQ (qaf _)]
def vr{F:TK->Option (TG)}{w:World}{base:Nat}{sp:Ty}{held:Bool}{fuel:Nat}
  (hF:∀t ks,F t=some ks->∀cs (x:DataW H×List MemPlace),DataW.trod enc P w base sp held fuel t cs=some x->x.2=[]/\FitC ks cs/\∀w' b' s' h',DataW.trod enc P w' b' s' h' fuel t cs=some x) (cs:Tl) :
  ∀(fs:List Field) (off:Nat) (ks:TG) (xs:List (DataW H×List MemPlace)),flatF F fs off=some ks->fs.mapM (λf=>DataW.trod enc P w base sp held fuel f.type ((cs.drop f.offset).take (P.cellsOf f.type)))=some xs->
   xs.flatMap (·.2)=[]/\FitC ks ((cs.drop off).take ks.length)/\∀w' b' s' h',fs.mapM (λf=>DataW.trod enc P w' b' s' h' fuel f.type ((cs.drop f.offset).take (P.cellsOf f.type)))=some xs
 | [],off,ks,xs,h1,h2=>by
  simp only[flatF,qas]at h1
  subst h1
  simp only[qdh,qc6,qas]at h2
  subst h2
  refine⟨rfl,by simp[FitC],λ_ _ _ _=>by simp⟩
 |f :: fs,off,ks,xs,h1,h2=>by
  simp only[flatF]at h1
  split at h1
  next k1 e1 e2=>
   obtain⟨k2,e3,rfl⟩:=qac.1 h1
   have e1:=qad e1
   rw[qbT]at h2
   obtain⟨x,h3,h2⟩:=qar.1 h2
   obtain⟨ys,h4,h2⟩:=qar.1 h2
   cases h2
   obtain⟨a1,a2,a3⟩:=hF _ _ e2 _ _ h3
   obtain⟨b1,b2,b3⟩:=vr hF cs fs _ k2 ys e3 h4
   refine⟨by simp[a1,b1],?_,λw' b' s' h'=>?_⟩
   ·rw[qaC,qdi]
    refine FitC.app ?_ (by rw[qbS];exact b2)
    have hl:=FitC.len a2
    rw[e1]at a2 hl
    rw[←hl,jE]
    exact a2
   ·rw[qbT,a3 w' b' s' h',b3 w' b' s' h']
    rfl
  ·cases h1
def arr_ok{w:World}{base:Nat}{sp:Ty}{held:Bool}{fuel c:Nat}{e:TK}{ks:TG}(hc:c=ks.length)
  (hF:∀cs (x:DataW H×List MemPlace),DataW.trod enc P w base sp held fuel e cs=some x->x.2=[]/\FitC ks cs/\∀w' b' s' h',DataW.trod enc P w' b' s' h' fuel e cs=some x) (cs:Tl) :
  ∀(n:Nat) (xs:List (DataW H×List MemPlace)),(List.range n).mapM (λi=>DataW.trod enc P w base sp held fuel e ((cs.drop (i*c)).take c))=some xs->
   xs.flatMap (·.2)=[]/\FitC (List.replicate n ks).flatten (cs.take (n*c))/\∀w' b' s' h',(List.range n).mapM (λi=>DataW.trod enc P w' b' s' h' fuel e ((cs.drop (i*c)).take c))=some xs
 |0,xs,h=>by
  simp only[List.range_zero,qdh,qc6,qas]at h
  subst h
  exact⟨rfl,by simp[FitC],λ_ _ _ _=>by simp⟩
 |n+1,xs,h=>by
  rw[qc4,List.mapM_append]at h
  obtain⟨ys,h1,h⟩:=qar.1 h
  obtain⟨zs,h2,h⟩:=qar.1 h
  cases h
  rw[qbT]at h2
  obtain⟨z,h3,h2⟩:=qar.1 h2
  cases h2
  obtain⟨a1,a2,a3⟩:=arr_ok hc hF cs n ys h1
  obtain⟨b1,b2,b3⟩:=hF _ _ h3
  refine⟨by simp[a1,b1],?_,λw' b' s' h'=>?_⟩
  ·rw[List.replicate_succ',List.flatten_append,qbF,qb9,qdi]
   refine FitC.app a2 ?_
   simpa using b2
  ·rw[qc4,List.mapM_append,a3 w' b' s' h',qbT,b3 w' b' s' h']
   rfl
def lS:∀(d:Nat) (t:TK) (ks:TG),xf P d t=some ks->∀(w:World) (base:Nat) (sp:Ty) (held:Bool) (fuel:Nat) (cs:Tl) (x:DataW H×List MemPlace),DataW.trod enc P w base sp held fuel t cs=some x->
  x.2=[]/\FitC ks cs/\∀w' b' s' h',DataW.trod enc P w' b' s' h' fuel t cs=some x
 |0,_,_,h=>by cases h
 |d+1,t,ks,h=>by
  intro w base sp held fuel cs x hx
  simp only[xf]at h
  split at h
  next k e=>
   cases h
   obtain⟨n,rfl,rfl,hw⟩:=DataW.trod_int e hx
   refine⟨rfl,⟨⟨n,rfl,hw⟩,trivial⟩,λw' b' s' h'=>?_⟩
   cases fuel with
   |zero=>simp[DataW.trod]at hx
   |succ m=>simp[DataW.trod,e,hw]
  next e=>
   cases h
   obtain⟨n,rfl,rfl⟩:=DataW.trod_bool e hx
   refine⟨rfl,⟨⟨n,rfl⟩,trivial⟩,λw' b' s' h'=>?_⟩
   cases fuel with
   |zero=>simp[DataW.trod]at hx
   |succ m=>simp[DataW.trod,e]
  next fs e=>
   split at h
   next k2 e2=>
    split at h
    next e3=>
     cases h
     have e3:=qad e3
     cases fuel with
     |zero=>simp[DataW.trod]at hx
     |succ m=>
      simp only[DataW.trod,e]at hx
      split at hx
      next hl=>
       obtain⟨xs,h5,rfl⟩:=qac.1 hx
       obtain⟨a1,a2,a3⟩:=vr (λt ks h cs x hx=>lS d t ks h w base sp held m cs x hx) cs fs.toList 0 ks xs e2 h5
       rw[qa1,qaQ (by omega)]at a2
       refine⟨a1,a2,λw' b' s' h'=>?_⟩
       simp only[DataW.trod,e,hl,if_true]
       rw[a3 w' b' s' h']
       rfl
      ·cases hx
    ·cases h
   ·cases h
  next n e e1=>
   split at h
   next k2 e2=>
    split at h
    next e3=>
     cases h
     rw[qaa]at e3
     have e4:=qad e3.1
     have e5:=qad e3.2
     cases fuel with
     |zero=>simp[DataW.trod]at hx
     |succ m=>
      simp only[DataW.trod,e1]at hx
      split at hx
      next hl=>
       obtain⟨xs,h5,rfl⟩:=qac.1 hx
       obtain⟨a1,a2,a3⟩:=arr_ok e4 (λcs x hx=>lS d e k2 e2 w base sp held m cs x hx) cs n xs h5
       rw[qaQ (by rw[hl,e5,e4];exact qaf _)]at a2
       refine⟨a1,a2,λw' b' s' h'=>?_⟩
       simp only[DataW.trod,e1,hl,if_true]
       rw[a3 w' b' s' h']
       rfl
      ·cases hx
    ·cases h
   ·cases h
  ·cases h
end
section
variable [Val]
end
end Sx
end Go.Am
namespace Go.Am
namespace Sx
def FitL.i{k:TH}{ks:TG}{ls:TD}(h:FitL (.i k :: ks) ls):∃n r,ls = .i n :: r/\(Lit.int k n).wf=true/\FitL ks r:=by
 match ls,h with
 | .i n :: r,h=>exact⟨n,r,rfl,h.1,h.2⟩
def FitL.b{ks:TG}{ls:TD}(h:FitL (.b :: ks) ls):∃n r,ls = .b n :: r/\FitL ks r:=by
 match ls,h with
 | .b n :: r,h=>exact⟨n,r,rfl,h⟩
def FitL.nil{ls:TD}(h:FitL [] ls):ls=[]:=by
 match ls,h with
 | [],_=>rfl
def wf_u8{n:Int}(h:(Lit.int .u8 n).wf=true):0<=n/\n<=255:=by
 simp only[Lit.wf,qaa,qdv]at h
 exact h
def nP{H:Type}{enc:TypeId×Value->H}{P:TE}{w:World}{base:Nat}{sp:Ty}{held:Bool}:∀ {ts:List TypeId} {vs:Tl} {ds:List (DataW H)} {ps:List MemPlace},DataW.TrodAll enc P w base sp held ts vs ds ps->ds.length=ts.length
 | [],[],[],_,_=>rfl
 |_ :: _,_ :: _,_ :: _,_,h=>by
  obtain⟨p,q,_,h2,_⟩:=h
  simp[nP h2]
 | [],_ :: _,_,_,h=>by cases h
 | [],[],_ :: _,_,h=>by cases h
 |_ :: _,[],_,_,h=>by cases h
 |_ :: _,_ :: _,[],_,h=>by cases h
end Sx
namespace Sx
open Go.ChangeShapes Go.WideShapes Go.ChangeAt Go.WideMaps Go.WideElems Go.RowKit
inductive CK2 where
 |i (k:TH)
 |b
 |s (ks:TG)
def CK2.lk:CK2->LK
 | .i k=>.i k
 | .b=>.b
 | .s _=>.v
def SlFit(w:World)(ks:TG)(v:Value):Prop:=
 v = .slice none 0 0∨∃(a:Addr) (len cap:Nat) (c:Tj) (t:TK) (fr:Nat×Nat) (cells:Tl),v = .slice (some a) len cap/\a.spot=none/\len<=cap/\cap<=maxLen/\
  w.heap[a.block]?=some (.cells c t fr)/\(cap=0∨a.off+cap*ks.length<=c.size)/\cells.length=len*ks.length/\(∀(i:Nat) v,cells[i]?=some v->c[a.off+i]?=some v)/\
  ∀i,i<len->FitC ks ((cells.drop (i*ks.length)).take ks.length)
def CellFit(w:World):CK2->Value->Prop
 | .i k,v=>∃n,v = .int k n/\(Lit.int k n).wf=true
 | .b,v=>∃t,v = .bool t
 | .s ks,v=>SlFit w ks v
def dM(w:World):List CK2->Tl->Prop
 | [],[]=>True
 |k :: ks,v :: vs=>CellFit w k v/\dM w ks vs
 |_,_=>False
def bo(h:HL):List CK2->TD->Prop
 | [],[]=>True
 | .i k :: ks,.i n :: ls=>(Lit.int k n).wf=true/\bo h ks ls
 | .b :: ks,.b _ :: ls=>bo h ks ls
 | .s es :: ks,.v x :: ls=>(∃n cells,SlC h x es.length n cells/\n<=maxLen/\∀i,i<n->FitC es ((cells.drop (i*es.length)).take es.length))/\bo h ks ls
 |_,_=>False
def dM.len{w:World}:∀ {ks:List CK2} {vs:Tl},dM w ks vs->vs.length=ks.length
 | [],[],_=>rfl
 |_ :: _,_ :: _,h=>by simp[dM.len h.2]
 | [],_ :: _,h=>by cases h
 |_ :: _,[],h=>by cases h
def dM.app{w:World}:∀ {ks ks':List CK2} {vs vs':Tl},dM w ks vs->dM w ks' vs'->dM w (ks++ks') (vs++vs')
 | [],_,[],_,_,h=>h
 |_ :: _,_,_ :: _,_,h,h'=>⟨h.1,dM.app h.2 h'⟩
 | [],_,_ :: _,_,h,_=>by cases h
 |_ :: _,_,[],_,h,_=>by cases h
def bo.app{h:HL}:∀ {ks ks':List CK2} {vs vs':TD},bo h ks vs->bo h ks' vs'->bo h (ks++ks') (vs++vs')
 | [],_,[],_,_,h=>h
 | .i _ :: ks,_,.i _ :: _,_,h,h'=>⟨h.1,bo.app (ks:=ks) h.2 h'⟩
 | .b :: ks,_,.b _ :: _,_,h,h'=>bo.app (ks:=ks) h h'
 | .s _ :: ks,_,.v _ :: _,_,h,h'=>⟨h.1,bo.app (ks:=ks) h.2 h'⟩
 | [],_,_ :: _,_,h,_=>by cases h
 | .i _ :: _,_,[],_,h,_=>by cases h
 | .b :: _,_,[],_,h,_=>by cases h
 | .s _ :: _,_,[],_,h,_=>by cases h
 | .i _ :: _,_,.b _ :: _,_,h,_=>by cases h
 | .i _ :: _,_,.v _ :: _,_,h,_=>by cases h
 | .b :: _,_,.i _ :: _,_,h,_=>by cases h
 | .b :: _,_,.v _ :: _,_,h,_=>by cases h
 | .s _ :: _,_,.i _ :: _,_,h,_=>by cases h
 | .s _ :: _,_,.b _ :: _,_,h,_=>by cases h
def ckF(F:TK->Option (List CK2)):List Field->Nat->Option (List CK2)
 | [],_=>some []
 |f :: fs,off=>match Nat.beq f.offset off,F f.type with
  |true,some ks=>(ckF F fs (off+ks.length)).map (ks ++ ·)
  |_,_=>none
def kby:LK->Nat
 | .i .i64=>8
 |_=>0
def kbs:TG->Nat
 | []=>0
 |k :: ks=>kby k+kbs ks
def ckT(P:TE):Nat->TK->Option (List CK2)
 |0,_=>none
 |d+1,t=>match P.underlying t with
  |some (.int k)=>some [.i k]
  |some .bool=>some [.b]
  |some (.slice e)=>match xf P 20 e with
   |some ks=>match Nat.beq (P.cellsOf e) ks.length&&Nat.blt 0 ks.length&&Nat.ble (kbs ks) (P.bytesOf e)with
    |true=>some [.s ks]
    |false=>none
   |none=>none
  |some (.struct fs)=>match ckF (ckT P d) fs.toList 0 with
   |some ks=>match Nat.beq ks.length (P.cellsOf t)with
    |true=>some ks
    |false=>none
   |none=>none
  |_=>none
section
variable {H:Type} {enc:TypeId×Value->H} {P:TE}
def Lies(w:World)(v:Value):Prop:=∀a len cap,v = .slice (some a) len cap->a.spot=none/\∃c t fr,w.heap[a.block]?=some (.cells c t fr)
def iM{α β:Type}{f g:α->Option β}:∀ {l:List α},(∀x∈l,f x=g x)->l.mapM f=l.mapM g
 | [],_=>rfl
 |a :: l,h=>by
  rw[qbT,qbT,h a qaB,iM λx hx=>h x (qan _ hx)]
def bH{a:Addr}(h:a.spot=none)(i:Nat):a.add i=⟨a.block,a.off+i,none⟩:=by
 obtain⟨b,o,s⟩:=a
 cases h
 unfold Addr.add
 simp
def slice_ok{w:World}{t e:TK}{ks:TG}(ht:P.underlying t=some (.slice e))(he:xf P 20 e=some ks)(hc:P.cellsOf e=ks.length)(h0:0<ks.length){base:Nat}(hbase:base=0){held:Bool}{fuel:Nat}{cs:Tl}{x:DataW H×List MemPlace}
  (hx:DataW.trod enc P w base (λ_=>true) held fuel t cs=some x) (hl:∀v∈cs,Lies w v) :
  ∃v,cs=[v]/\SlFit w ks v/\∀(w':World) (s':Ty),(∀b,b<w.heap.size->w'.heap[b]?=w.heap[b]?)->(∀b,b<w.heap.size->s' b=true)->DataW.trod enc P w' base s' held fuel t cs=some x:=by
 subst hbase
 have hx0:=hx
 rcases DataW.trod_slice ht hx with⟨rfl,rfl⟩|⟨a,len,cap,elems,rest,n,rfl,rfl,rfl,hb,hlc,hm,hlen,hel,hsp,_⟩
 ·refine⟨_,rfl,.inl rfl,λw' s' _ _=>?_⟩
  cases fuel with
  |zero=>simp[DataW.trod]at hx
  |succ m=>simp[DataW.trod,ht]
 ·obtain⟨hs,c,t',fr,hblk⟩:=hl _ qaB a len cap rfl
  obtain⟨hrl,hr⟩:=hsp rfl
  rw[hc]at hel hr
  have hlt:a.block<w.heap.size:=by
   rcases qaO a.block w.heap.size with h|h
   ·exact h
   ·rw[qbb h]at hblk;cases hblk
  have each:∀i,i<cap->∃ci y,w.cells? 0 (a.add (i*ks.length)) ks.length=some ci/\DataW.trod enc P w 0 (λ_=>true) held n e ci=some y/\(elems++rest)[i]?=some y:=by
   intro i hi
   by_cases h1:i<len
   ·have h2:=hel i h1
    have h3:elems[i]?=some elems[i]:=qai (by omega)
    rw[h3]at h2
    obtain⟨ci,h4,h5⟩:=qar.1 h2
    exact⟨ci,_,h4,h5,by rw[qah (by omega)];exact h3⟩
   ·have h2:=hr (i - len) (by omega)
    rw[show len+(i - len)=i by omega]at h2
    have h3:rest[i - len]?=some (rest[i - len]'(by omega)):=qai (by omega)
    rw[h3]at h2
    obtain⟨ci,h4,h5⟩:=qar.1 h2
    exact⟨ci,_,h4,h5,by rw[qaq (by omega),hlen];exact h3⟩
  have rd:∀i,i<cap->∀j,j<ks.length->∀ci,w.cells? 0 (a.add (i*ks.length)) ks.length=some ci->c[a.off+i*ks.length+j]?=ci[j]?:=by
   intro i hi j hj ci hci
   have h1:=(World.cells?_some hci).2.2 j hj
   rw[bH hs,bH rfl]at h1
   rw[←h1]
   unfold World.cell?
   simp[hblk]
  have hsz:cap=0∨a.off+cap*ks.length<=c.size:=by
   by_cases hcap:cap=0
   ·exact .inl hcap
   ·right
    obtain⟨ci,y,h1,_,_⟩:=each (cap - 1) (by omega)
    have h2:=rd (cap - 1) (by omega) (ks.length - 1) (by omega) ci h1
    have hcl:=(World.cells?_some h1).2.1
    rw[qai (by omega)]at h2
    have h3:=(qat.1 h2).1
    have h4:cap*ks.length=(cap - 1)*ks.length+ks.length:=by
     rw[←Nat.succ_mul];congr 1;omega
    omega
  have hsz2:a.off+len*ks.length<=c.size∨len=0:=by
   rcases hsz with h|h
   ·right;omega
   ·left
    have:=qbl ks.length hlc
    omega
  refine⟨_,rfl,.inr ⟨a,len,cap,c,t',fr,(c.toList.drop a.off).take (len*ks.length),rfl,hs,hlc,hm,hblk,hsz,?_,?_,?_⟩,?_⟩
  ·rw[qaI,qbN]
   have hcz:c.toList.length=c.size:=qcB
   rcases hsz2 with h|h
   ·omega
   ·subst h;omega
  ·intro i v hv
   rw[qaT]at hv
   split at hv
   ·rw[qaU]at hv
    simpa using hv
   ·cases hv
  ·intro i hi
   obtain⟨ci,y,h1,h2,_⟩:=each i (by omega)
   obtain⟨_,h3,_⟩:=lS 20 e ks he w 0 _ held n ci y h2
   have hcl:=(World.cells?_some h1).2.1
   have:(((c.toList.drop a.off).take (len*ks.length)).drop (i*ks.length)).take ks.length=ci:=by
    apply qaZ
    intro j
    by_cases hj:j<ks.length
    ·have hle:i*ks.length+ks.length<=len*ks.length:=by
      have:=qbl ks.length (show i+1<=len by omega)
      rw[qbF,qb9]at this;exact this
     rw[qaT,qdy hj,qaU,qaT,qdy (by omega),qaU,←rd i (by omega) j hj ci h1]
     rw[qcR,qbE]
    ·rw[qaj (by rw[qaI];omega),qaj (by omega)]
   rw[this];exact h3
  ·intro w' s' hw hs'
   have hcell:∀i,i<cap->w'.cells? 0 (a.add (i*ks.length)) ks.length=w.cells? 0 (a.add (i*ks.length)) ks.length:=by
    intro i hi
    unfold World.cells?
    have:∀j,w'.cell? ((a.add (i*ks.length)).add j)=w.cell? ((a.add (i*ks.length)).add j):=by
     intro j
     rw[bH hs,bH rfl]
     unfold World.cell?
     rw[hw _ hlt]
    simp only[this]
   have el:∀i,i<cap->(w'.cells? 0 (a.add (i*P.cellsOf e)) (P.cellsOf e)).bind (DataW.trod enc P w' 0 s' held n e)=(elems++rest)[i]?:=by
    intro i hi
    rw[hc,hcell i hi]
    obtain⟨ci,y,h1,h2,h3⟩:=each i hi
    rw[h1,h3,qak]
    exact(lS 20 e ks he w 0 _ held n ci y h2).2.2 w' 0 s' held
   have el0:∀i,i<cap->(w.cells? 0 (a.add (i*P.cellsOf e)) (P.cellsOf e)).bind (DataW.trod enc P w 0 (λ_=>true) held n e)=(elems++rest)[i]?:=by
    intro i hi
    rw[hc]
    obtain⟨ci,y,h1,h2,h3⟩:=each i hi
    rw[h1,h3,qak]
    exact h2
   unfold DataW.trod at hx0 ⊢
   simp only[ht]at hx0 ⊢
   rw[qdy ⟨qaX _,hlc,hm⟩]at hx0 ⊢
   rw[iM (λi hi=>(el i (by have:=qaD.1 hi;omega)).trans (el0 i (by have:=qaD.1 hi;omega)).symm)]
   rw[iM (l:=List.range (cap - len)) (λj hj=>(el (len+j) (by have:=qaD.1 hj;omega)).trans (el0 (len+j) (by have:=qaD.1 hj;omega)).symm)]
   rw[hs' _ hlt]
   exact hx0
def ckF_ok{F:TK->Option (List CK2)}{w:World}{held:Bool}{fuel:Nat}(cs:Tl)(hl:∀v∈cs,Lies w v)
  (hF:∀t ks,F t=some ks->∀cs (x:DataW H×List MemPlace),(∀v∈cs,Lies w v)->DataW.trod enc P w 0 (λ_=>true) held fuel t cs=some x->dM w ks cs/\∀(w':World) (s':Ty),(∀b,b<w.heap.size->w'.heap[b]?=w.heap[b]?)->(∀b,b<w.heap.size->s' b=true)->DataW.trod enc P w' 0 s' held fuel t cs=some x) :
  ∀(fs:List Field) (off:Nat) (ks:List CK2) (xs:List (DataW H×List MemPlace)),ckF F fs off=some ks->fs.mapM (λf=>DataW.trod enc P w 0 (λ_=>true) held fuel f.type ((cs.drop f.offset).take (P.cellsOf f.type)))=some xs->
   dM w ks ((cs.drop off).take ks.length)/\∀(w':World) (s':Ty),(∀b,b<w.heap.size->w'.heap[b]?=w.heap[b]?)->(∀b,b<w.heap.size->s' b=true)->fs.mapM (λf=>DataW.trod enc P w' 0 s' held fuel f.type ((cs.drop f.offset).take (P.cellsOf f.type)))=some xs
 | [],off,ks,xs,h1,h2=>by
  simp only[ckF,qas]at h1
  subst h1
  simp only[qdh,qc6,qas]at h2
  subst h2
  refine⟨by simp[dM],λ_ _ _ _=>by simp⟩
 |f :: fs,off,ks,xs,h1,h2=>by
  simp only[ckF]at h1
  split at h1
  next k1 e1 e2=>
   obtain⟨k2,e3,rfl⟩:=qac.1 h1
   have e1:=qad e1
   rw[qbT]at h2
   obtain⟨x,h3,h2⟩:=qar.1 h2
   obtain⟨ys,h4,h2⟩:=qar.1 h2
   cases h2
   obtain⟨a2,a3⟩:=hF _ _ e2 _ _ (λv hv=>hl v (qbO (qbd hv))) h3
   obtain⟨b2,b3⟩:=ckF_ok cs hl hF fs _ k2 ys e3 h4
   refine⟨?_,λw' s' hw hs'=>?_⟩
   ·rw[qaC,qdi]
    refine dM.app ?_ (by rw[qbS];exact b2)
    have hl:=dM.len a2
    rw[e1]at a2 hl
    rw[←hl,jE]
    exact a2
   ·rw[qbT,a3 w' s' hw hs',b3 w' s' hw hs']
    rfl
  ·cases h1
def ckT_ok:∀(d:Nat) (t:TK) (ks:List CK2),ckT P d t=some ks->∀(w:World) (held:Bool) (fuel:Nat) (cs:Tl) (x:DataW H×List MemPlace),(∀v∈cs,Lies w v)->DataW.trod enc P w 0 (λ_=>true) held fuel t cs=some x->
  dM w ks cs/\∀(w':World) (s':Ty),(∀b,b<w.heap.size->w'.heap[b]?=w.heap[b]?)->(∀b,b<w.heap.size->s' b=true)->DataW.trod enc P w' 0 s' held fuel t cs=some x
 |0,_,_,h=>by cases h
 |d+1,t,ks,h=>by
  intro w held fuel cs x hl hx
  simp only[ckT]at h
  split at h
  next k e=>
   cases h
   obtain⟨n,rfl,rfl,hw⟩:=DataW.trod_int e hx
   refine⟨⟨⟨n,rfl,hw⟩,trivial⟩,λw' s' _ _=>?_⟩
   cases fuel with
   |zero=>simp[DataW.trod]at hx
   |succ m=>simp[DataW.trod,e,hw]
  next e=>
   cases h
   obtain⟨n,rfl,rfl⟩:=DataW.trod_bool e hx
   refine⟨⟨⟨n,rfl⟩,trivial⟩,λw' s' _ _=>?_⟩
   cases fuel with
   |zero=>simp[DataW.trod]at hx
   |succ m=>simp[DataW.trod,e]
  next e e0=>
   split at h
   next k2 e2=>
    split at h
    next e3=>
     cases h
     simp only[qaa,qbc]at e3
     obtain⟨v,rfl,a2,a3⟩:=slice_ok e0 e2 (qad e3.1.1) e3.1.2 rfl hx hl
     exact⟨⟨a2,trivial⟩,a3⟩
    ·cases h
   ·cases h
  next fs e=>
   split at h
   next k2 e2=>
    split at h
    next e3=>
     cases h
     have e3:=qad e3
     cases fuel with
     |zero=>simp[DataW.trod]at hx
     |succ m=>
      simp only[DataW.trod,e]at hx
      split at hx
      next hlen=>
       obtain⟨xs,h5,rfl⟩:=qac.1 hx
       obtain⟨a2,a3⟩:=ckF_ok cs hl (λt ks h cs x hl hx=>ckT_ok d t ks h w held m cs x hl hx) fs.toList 0 ks xs e2 h5
       rw[qa1,qaQ (by omega)]at a2
       refine⟨a2,λw' s' hw hs'=>?_⟩
       simp only[DataW.trod,e,hlen,if_true]
       rw[a3 w' s' hw hs']
       rfl
      ·cases hx
    ·cases h
   ·cases h
  ·cases h
abbrev Blk2:=HObj×Option Pl
def rQ(w:World)(b:Blk2):Prop:=b.1 = .dead∨∃vs e p c t fr,b.1 = .cells vs e false/\b.2=some p/\p.esz=e/\vs.all flat=true/\vs.all aX=true/\vs.length<=p.room/\w.heap[p.b]?=some (.cells c t fr)/\c.size=p.o+p.room/\∀(i:Nat) v,vs[i]?=some v->c[p.o+i]?=some v
def mN:∀ {ks:TG} {vs:Tl},FitC ks vs->vs.all flat=true/\vs.all aX=true
 | [],[],_=>⟨rfl,rfl⟩
 | .i k :: ks,v :: vs,h=>by
  obtain⟨⟨n,rfl,_⟩,h2⟩:=h
  obtain⟨a,b⟩:=mN h2
  exact⟨by simp[a,flat,eM,scalar],by simp[b];rfl⟩
 | .b :: ks,v :: vs,h=>by
  obtain⟨⟨n,rfl⟩,h2⟩:=h
  obtain⟨a,b⟩:=mN h2
  exact⟨by simp[a,flat,eM,scalar],by simp[b];rfl⟩
 | .v :: _,_,h=>by cases h
 | [],_ :: _,h=>by cases h
 | .i _ :: _,[],h=>by cases h
 | .b :: _,[],h=>by cases h
def tZ{ks:TG}(hk:0<ks.length){cells:Tl}{n:Nat}(hl:cells.length=n*ks.length)(h:∀i,i<n->FitC ks ((cells.drop (i*ks.length)).take ks.length)):cells.all flat=true/\cells.all aX=true:=by
 have main:∀j,j<cells.length->∃v,cells[j]?=some v/\flat v=true/\aX v=true:=by
  intro j hj
  have h1:j / ks.length<n:=by
   rw[Nat.div_lt_iff_lt_mul hk];omega
  obtain⟨a,b⟩:=mN (h _ h1)
  have hm:=qbz j hk
  have hd:=Nat.div_add_mod j ks.length
  have hmem:((cells.drop (j / ks.length*ks.length)).take ks.length)[j%ks.length]?=some cells[j]:=by
   rw[qaT,qdy hm,qaU]
   rw[show j / ks.length*ks.length+j%ks.length=j by rw[Nat.mul_comm];exact hd]
   exact qai hj
  exact⟨_,qai hj,qag.1 a _ (qab hmem),qag.1 b _ (qab hmem)⟩
 constructor<;>
 ·rw[qag]
  intro v hv
  obtain⟨j,hj⟩:=qaW hv
  have hlt:j<cells.length:=by
   rcases qaO j cells.length with h|h
   ·exact h
   ·rw[qaj h]at hj;cases hj
  obtain⟨v',h1,h2,h3⟩:=main j hlt
  rw[hj]at h1
  cases h1
  first|exact h2|exact h3
section
variable [Val] [Glo]
def cell_abs{w:World}{ck:CK2}{v:Value}(hp:∀ks,ck = .s ks->0<ks.length)(h:CellFit w ck v)(n0:Nat):∃(x:SL) (bl:List Blk2),(∀b∈bl,rQ w b)/\x.is ck.lk=true/\x.good/\
  (∀mu:HMap,(∀(i:Nat) b,bl[i]?=some b->mu (n0+i)=b.2)->VR noL mu x.val v)/\∀hp:HL,(∀(i:Nat) b,bl[i]?=some b->hp[n0+i]?=some (.o b.1))->bo hp [ck] [x.lf]:=by
 cases ck with
 |i k=>
  obtain⟨n,rfl,hw⟩:=h
  exact⟨.i k n,[],by simp,by simp[SL.is,CK2.lk,dF],trivial,λmu _=>.scalar rfl,λhp _=>⟨hw,trivial⟩⟩
 |b=>
  obtain⟨t,rfl⟩:=h
  exact⟨.b t,[],by simp,rfl,trivial,λmu _=>.scalar rfl,λhp _=>trivial⟩
 |s ks=>
  have hk:=hp ks rfl
  rcases h with rfl|⟨a,len,cap,c,t,fr,cells,rfl,hs,hlc,hm,hblk,hsz,hcl,hget,hfit⟩
  ·refine⟨.v (.slice none 0 0),[],by simp,rfl,rfl,λmu _=>.scalar rfl,λhp _=>⟨⟨0,[],⟨by simp,.inl ⟨rfl,rfl⟩⟩,qaX _,λi hi=>by omega⟩,trivial⟩⟩
  ·obtain⟨hf1,hf2⟩:=tZ hk hcl hfit
   have gd:aW (.slice (some ⟨n0,0,tag ks.length⟩) len 0)=true:=by simp[aW,noLoc,bj,bB,bu,aS,aJ,tag]
   have ha:a=⟨a.block,a.off,none⟩:=by cases a;cases hs;rfl
   have fit:∀hp:HL,hp[n0]?=some (.o (.cells cells ks.length false))->bo hp [.s ks] [.v (.slice (some ⟨n0,0,tag ks.length⟩) len 0)]:=λhp h1=>
    ⟨⟨len,cells,⟨hcl,.inr ⟨n0,0,0,cells,false,rfl,h1,cut_all hcl⟩⟩,by omega,hfit⟩,trivial⟩
   by_cases hcap:cap=0
   ·subst hcap
    obtain rfl:len=0:=by omega
    have hce:cells=[]:=List.eq_nil_of_length_eq_zero (by omega)
    subst hce
    refine⟨.v (.slice (some ⟨n0,0,tag ks.length⟩) 0 0),[(.cells [] ks.length false,some ⟨a.block,c.size,0,ks.length⟩)],λb hb=>?_,rfl,gd,λmu _=>.hslice0 (qaX _),λhp h1=>fit hp (h1 0 _ rfl)⟩
    simp only[qap]at hb
    subst hb
    exact .inr ⟨[],ks.length,_,c,t,fr,rfl,rfl,rfl,rfl,rfl,qaX _,hblk,by simp,λi v hv=>by simp at hv⟩
   ·have hsz:a.off+cap*ks.length<=c.size:=hsz.resolve_left hcap
    have hle:=qbl ks.length hlc
    refine⟨.v (.slice (some ⟨n0,0,tag ks.length⟩) len 0),[(.cells cells ks.length false,some ⟨a.block,a.off,c.size - a.off,ks.length⟩)],λb hb=>?_,rfl,gd,λmu h1=>?_,λhp h1=>fit hp (h1 0 _ rfl)⟩
    ·simp only[qap]at hb
     subst hb
     exact .inr ⟨cells,ks.length,_,c,t,fr,rfl,rfl,rfl,hf1,hf2,by show cells.length<=c.size - a.off;omega,hblk,by show c.size=a.off+(c.size - a.off);omega,hget⟩
    ·have h2:=h1 0 _ rfl
     rw[ha]
     have:=VR.hslice (la:=noL) (mu:=mu) (id:=n0) (off:=0) (len:=len) (cap:=cap) (cx:=0) h2 (by show 0+cap*ks.length<=c.size - a.off;omega) hlc (.inl rfl)
     exact this
def sd{w:World}:∀ {cks:List CK2} {vs:Tl},(∀ks,CK2.s ks∈cks->0<ks.length)->dM w cks vs->∀n0,∃(xs:List SL) (bl:List Blk2),(∀b∈bl,rQ w b)/\aT xs (cks.map CK2.lk)=true/\(∀x∈xs,x.good)/\xs.length=vs.length/\
  (∀mu:HMap,(∀(i:Nat) b,bl[i]?=some b->mu (n0+i)=b.2)->VRs noL mu (xs.map SL.val) vs)/\∀hp:HL,(∀(i:Nat) b,bl[i]?=some b->hp[n0+i]?=some (.o b.1))->bo hp cks (xs.map SL.lf)
 | [],[],_,_,n0=>⟨[],[],by simp,rfl,by simp,rfl,λmu _=>⟨rfl,λi x y h=>by simp at h⟩,λhp _=>trivial⟩
 |ck :: cks,v :: vs,hp,h,n0=>by
  obtain⟨x,bl,a1,a2,a3,a4,a5⟩:=cell_abs (λks e=>hp ks (by rw[e];exact qaB)) h.1 n0
  obtain⟨xs,bl',b1,b2,b3,b4,b5,b6⟩:=sd (λks e=>hp ks (qan _ e)) h.2 (n0+bl.length)
  have g1:∀ {α:Type} {f:Nat->α} {g:Blk2->α},(∀(i:Nat) b,(bl++bl')[i]?=some b->f (n0+i)=g b)->(∀(i:Nat) b,bl[i]?=some b->f (n0+i)=g b)/\∀(i:Nat) b,bl'[i]?=some b->f (n0+bl.length+i)=g b:=by
   intro α f g h
   refine⟨λi b hb=>h i b ?_,λi b hb=>?_⟩
   ·rw[qah (by
     rcases qaO i bl.length with h|h
     ·exact h
     ·rw[qaj h]at hb;cases hb)];exact hb
   ·rw[qbE]
    refine h _ b ?_
    rw[qaq (by omega),qcI];exact hb
  refine⟨x :: xs,bl++bl',λb hb=>?_,by simp[aT,a2,b2],λy hy=>?_,by simp[b4],λmu hmu=>?_,λhp hh=>?_⟩
  ·rcases qao.1 hb with h|h
   ·exact a1 b h
   ·exact b1 b h
  ·rcases qal.1 hy with rfl|hy
   ·exact a3
   ·exact b3 y hy
  ·obtain⟨h1,h2⟩:=g1 (f:=mu) (g:=λb=>b.2) hmu
   have c1:=a4 mu h1
   obtain⟨c2,c3⟩:=b5 mu h2
   refine⟨by simpa using c2,λi p q hi hj=>?_⟩
   cases i with
   |zero=>
    simp only[qau,qaR,qas]at hi hj
    subst hi hj;exact c1
   |succ i=>exact c3 i p q (by simpa using hi) (by simpa using hj)
  ·obtain⟨h1,h2⟩:=g1 (f:=λi=>hp[i]?) (g:=λb=>some (HO.o b.1)) hh
   exact bo.app (a5 hp h1) (b6 hp h2)
 | [],_ :: _,_,h,_=>by cases h
 |_ :: _,[],_,h,_=>by cases h
end
end
end Sx
namespace Sx
open Go.ChangeShapes Go.WideShapes Go.ChangeAt Go.WideMaps Go.WideElems Go.RowKit
section
variable {H:Type} {enc:TypeId×Value->H} {P:TE}
def mX{w:World}{r:Reach}{b0:Nat}{u:TK}{v:Value}(h:Cell.okWide P w r b0 u v):Lies w v:=by
 rintro a len cap rfl
 have h1:∃e,w.has P r b0 a e cap:=by
  unfold Cell.okWide at h
  split at h<;>first|(rename_i e1 e2;cases e2;done)|(rename_i e1;cases e1;done)|skip
  all_goals
   unfold Cell.ok at h
   split at h<;>first|(cases h;done)|(rename_i e1 e2;cases e2;done)|skip
   all_goals first|(rename_i heq;injection heq with q1 q2 q3;subst q2 q3;cases q1;exact⟨_,h.2.2⟩)|skip
 obtain⟨e,_,h2,row,cells,h3,_⟩:=h1
 refine⟨h2,?_⟩
 unfold World.shape? at h3
 split at h3
 next c el fr e1=>
  exact⟨c,el,fr,e1⟩
 ·cases h3
def lies_val{w:World}{r:Reach}{b0:Nat}{t:TK}{v:Value}(h:Value.okWide P w r b0 t v):∀x∈v.cells.toList,Lies w x:=by
 intro x hx
 unfold Value.okWide at h
 split at h
 ·obtain⟨cs,rfl,_,ts,_,_,h2⟩:=h
  obtain⟨i,hi⟩:=qaW hx
  obtain⟨u,_,h3⟩:=h2 i x (by simpa[Value.cells]using hi)
  exact mX h3
 ·obtain⟨cs,rfl,_,ts,_,_,h2⟩:=h
  obtain⟨i,hi⟩:=qaW hx
  obtain⟨u,_,h3⟩:=h2 i x (by simpa[Value.cells]using hi)
  exact mX h3
 ·have:x=v∨∃cs,v = .agg cs:=by
   cases v<;>first|(right;exact⟨_,rfl⟩)|(left;simpa[Value.cells]using hx)
  rcases this with rfl|⟨cs,rfl⟩
  ·exact mX h
  ·exfalso
   unfold Cell.okWide at h
   split at h<;>first|(rename_i e1 e2;cases e2;done)|(rename_i e1;cases e1;done)|skip
   all_goals
    unfold Cell.ok at h
    split at h<;>first|(cases h;done)|(rename_i e1 e2;cases e2;done)|skip
def skC(P:TE)(t:TK)(cks:List CK2):Option SK:=
 match P.underlying t,cks with
 |some (.struct _),cks=>some (.agg (cks.map CK2.lk))
 |some (.int _),[k]=>some (.leaf k.lk)
 |some .bool,[k]=>some (.leaf k.lk)
 |some (.slice _),[k]=>some (.leaf k.lk)
 |_,_=>none
def posK(cks:List CK2):Bool:=cks.all λk=>match k with
 | .s ks=>Nat.blt 0 ks.length
 |_=>true
def posK_ok{cks:List CK2}(h:posK cks=true):∀ks,CK2.s ks∈cks->0<ks.length:=by
 intro ks hk
 have:=qag.1 h _ hk
 simpa[qbc]using this
section
variable [Val] [Glo]
structure Abs(W:World)(n0:Nat)(bl:List Blk2):Prop where
 ok:∀b∈bl,rQ W b
abbrev MuAt(mu:HMap)(n0:Nat)(bl:List Blk2):Prop:=∀(i:Nat) b,bl[i]?=some b->mu (n0+i)=b.2
abbrev HpAt(hp:HL)(n0:Nat)(bl:List Blk2):Prop:=∀(i:Nat) b,bl[i]?=some b->hp[n0+i]?=some (.o b.1)
abbrev Stays(W W':World):Prop:=∀b,b<W.heap.size->W'.heap[b]?=W.heap[b]?
def open_arg2{W:World}{r:Reach}{b0:Nat}{held:Bool}{t:TK}{cks:List CK2}{sk:SK}{v:Value}{d:DataW H}{ps:List MemPlace}(h:ckT P 20 t=some cks)(hsk:skC P t cks=some sk)(hpos:posK cks=true)(hval:Value.okWide P W r b0 t v)(hd:DataW.Trod enc P W 0 (λ_=>true) held t v d ps)(n0:Nat) :
  ∃(x:S0) (bl:List Blk2),(∀b∈bl,rQ W b)/\x.is sk=true/\x.good/\(∀mu:HMap,MuAt mu n0 bl->VR noL mu x.val v)/\(∀hp:HL,HpAt hp n0 bl->bo hp cks (x.cells.map SL.lf))/\
   ∀(W':World) (s':Ty),Stays W W'->(∀b,b<W.heap.size->s' b=true)->DataW.Trod enc P W' 0 s' held t v d ps:=by
 obtain⟨fuel,hf⟩:=hd
 obtain⟨a1,a2⟩:=ckT_ok 20 t cks h W held fuel _ _ (lies_val hval) hf
 obtain⟨xs,bl,b1,b2,b3,b4,b5,b6⟩:=sd (posK_ok hpos) a1 n0
 have close:∀(W':World) (s':Ty),Stays W W'->(∀b,b<W.heap.size->s' b=true)->DataW.Trod enc P W' 0 s' held t v d ps:=λW' s' h1 h2=>⟨fuel,a2 W' s' h1 h2⟩
 have leaf:(∀fs,P.underlying t≠some (.struct fs))->(∀n e,P.underlying t≠some (.array n e))->∀k,cks=[k]->sk = .leaf k.lk->∃(x:S0) (bl:List Blk2),(∀b∈bl,rQ W b)/\x.is sk=true/\x.good/\(∀mu:HMap,MuAt mu n0 bl->VR noL mu x.val v)/\(∀hp:HL,HpAt hp n0 bl->bo hp cks (x.cells.map SL.lf))/\
   ∀(W':World) (s':Ty),Stays W W'->(∀b,b<W.heap.size->s' b=true)->DataW.Trod enc P W' 0 s' held t v d ps:=by
  rintro hs1 hs2 k rfl rfl
  have hv:v.cells.toList=[v]:=by
   have h1:=dM.len a1
   cases v with
   |agg cs=>
    exfalso
    unfold Value.okWide at hval
    split at hval
    next e=>exact hs1 _ e
    next e=>exact hs2 _ _ e
    ·unfold Cell.okWide at hval
     split at hval<;>first|(rename_i e1 e2;cases e2;done)|(rename_i e1;cases e1;done)|skip
     all_goals
      unfold Cell.ok at hval
      split at hval<;>first|(cases hval;done)|(rename_i e1 e2;cases e2;done)|skip
   |_=>simp[Value.cells]
  rw[hv]at a1 b4 b5
  obtain⟨x,rfl⟩ : ∃x,xs=[x]:=List.length_eq_one_iff.1 b4
  refine⟨.leaf x,bl,b1,?_,λl hl=>?_,λmu hmu=>?_,λhp hh=>b6 hp hh,close⟩
  ·show x.is k.lk=true
   simpa[aT]using b2
  ·simp only[S0.cells,qap]at hl
   subst hl;exact b3 _ qaB
  ·exact(b5 mu hmu).2 0 _ _ rfl rfl
 unfold skC at hsk
 split at hsk
 next fs e=>
  cases hsk
  obtain⟨cs,rfl,_⟩:=okWide_struct e hval
  refine⟨.agg xs,bl,b1,b2,b3,λmu hmu=>?_,λhp hh=>b6 hp hh,close⟩
  obtain⟨c1,c2⟩:=b5 mu hmu
  refine .agg (by simpa[Value.cells]using c1) λi x y hx hy=>c2 i x y (by simpa using hx) (by simpa[Value.cells]using hy)
 next k e=>cases hsk;exact leaf (λ_ h=>by rw[e]at h;cases h) (λ_ _ h=>by rw[e]at h;cases h) _ rfl rfl
 next e=>cases hsk;exact leaf (λ_ h=>by rw[e]at h;cases h) (λ_ _ h=>by rw[e]at h;cases h) _ rfl rfl
 next e' e=>cases hsk;exact leaf (λ_ h=>by rw[e]at h;cases h) (λ_ _ h=>by rw[e]at h;cases h) _ rfl rfl
 ·cases hsk
def argK(P:TE):List TypeId->Option (List (List CK2)×List SK)
 | []=>some ([],[])
 |t :: ts=>match ckT P 20 t,argK P ts with
  |some cks,some (l,sks)=>match skC P t cks,posK cks with
   |some sk,true=>some (cks :: l,sk :: sks)
   |_,_=>none
  |_,_=>none
def at_app{α:Type}{bl bl':List Blk2}{f:Nat->α}{g:Blk2->α}{n0:Nat}(h:∀(i:Nat) b,(bl++bl')[i]?=some b->f (n0+i)=g b):(∀(i:Nat) b,bl[i]?=some b->f (n0+i)=g b)/\∀(i:Nat) b,bl'[i]?=some b->f (n0+bl.length+i)=g b:=by
 refine⟨λi b hb=>h i b ?_,λi b hb=>?_⟩
 ·rw[qah (by
   rcases qaO i bl.length with h|h
   ·exact h
   ·rw[qaj h]at hb;cases hb)];exact hb
 ·rw[qbE]
  refine h _ b ?_
  rw[qaq (by omega),qcI];exact hb
def pe{W:World}{r:Reach}{b0:Nat}{held:Bool}:∀(ts:List TypeId) (l:List (List CK2)) (sks:TI) (vs:Tl) (ds:List (DataW H)) (ps:List MemPlace) (n0:Nat),argK P ts=some (l,sks)->
  (∀(j:Nat) t v,ts[j]?=some t->vs[j]?=some v->Value.okWide P W r b0 t v)->DataW.TrodAll enc P W 0 (λ_=>true) held ts vs ds ps->
  ∃(xs:List S0) (bl:List Blk2),(∀b∈bl,rQ W b)/\ca xs sks=true/\(∀x∈xs,x.good)/\(∀mu:HMap,MuAt mu n0 bl->VRs noL mu (ah xs) vs)/\(∀hp:HL,HpAt hp n0 bl->bo hp l.flatten (cg xs))/\
   ∀(W':World) (s':Ty),Stays W W'->(∀b,b<W.heap.size->s' b=true)->DataW.TrodAll enc P W' 0 s' held ts vs ds ps
 | [],l,sks,[],[],ps,n0,h,_,ht=>by
  cases h
  exact⟨[],[],by simp,rfl,by simp,λmu _=>⟨rfl,λi x y h=>by simp[ah]at h⟩,λhp _=>trivial,λ_ _ _ _=>ht⟩
 |t :: ts,l,sks,v :: vs,d :: ds,ps,n0,h,hv,ht=>by
  simp only[argK]at h
  split at h
  next cks l' sks' e1 e2=>
   split at h
   next sk e3 e4=>
    cases h
    obtain⟨p,q,h1,h2,rfl⟩:=ht
    obtain⟨x,bl,a1,a2,a3,a4,a5,a6⟩:=open_arg2 e1 e3 e4 (hv 0 t v rfl rfl) h1 n0
    obtain⟨xs,bl',b1,b2,b3,b4,b5,b6⟩:=pe ts l' sks' vs ds q (n0+bl.length) e2 (λj t v h1 h2=>hv (j+1) t v h1 h2) h2
    refine⟨x :: xs,bl++bl',λb hb=>?_,by simp[ca,a2,b2],λy hy=>?_,λmu hmu=>?_,λhp hh=>?_,λW' s' h1 h2=>⟨p,q,a6 W' s' h1 h2,b6 W' s' h1 h2,rfl⟩⟩
    ·rcases qao.1 hb with h|h
     ·exact a1 b h
     ·exact b1 b h
    ·rcases qal.1 hy with rfl|hy
     ·exact a3
     ·exact b3 y hy
    ·obtain⟨h1,h2⟩:=at_app (f:=mu) (g:=λb=>b.2) hmu
     have c1:=a4 mu h1
     obtain⟨c2,c3⟩:=b4 mu h2
     refine⟨by simpa[ah]using c2,λi p q hi hj=>?_⟩
     cases i with
     |zero=>
      simp only[ah,qau,qaR,qas]at hi hj
      subst hi hj;exact c1
     |succ i=>exact c3 i p q (by simpa[ah]using hi) (by simpa using hj)
    ·obtain⟨h1,h2⟩:=at_app (f:=λi=>hp[i]?) (g:=λb=>some (HO.o b.1)) hh
     rw[qcf]
     exact bo.app (a5 hp h1) (b5 hp h2)
   ·cases h
  ·cases h
 | [],_,_,_ :: _,_,_,_,_,_,ht=>by cases ht
 | [],_,_,[],_ :: _,_,_,_,_,ht=>by cases ht
 |_ :: _,_,_,[],_,_,_,_,_,ht=>by cases ht
 |_ :: _,_,_,_ :: _,[],_,_,_,_,ht=>by cases ht
def tX{C:Cfg}{f:TM}{args:Tl}{r:Value}{H':Ts}{bl:List Blk2}{W:World}(hbl:∀b∈bl,rQ W b)(h:cO C f args (bl.map (·.1)) r H'){args':Tj}(hargs:∀mu:HMap,MuAt mu 0 bl->VRs noL mu args args'.toList)(hr:flat r=true)
  (hG:∀g vs,C.G g=some vs->gBlk g<W.heap.size/\vs.all aX=true/\∃c e fr,W.heap[gBlk g]?=some (.cells c e fr)/\bL (λ_=>none) vs c (gOff g)) (hf:∀g vs,C.G g=some vs->vs.all gfl=true) :
  Calls C.P f args' W λe W'=>e = .returned r/\W'.os=W.os/\W'.output=W.output/\W'.tape=W.tape/\∀b,b<W.heap.size->W'.heap[b]?=W.heap[b]?:=by
 let mu:HMap:=λid=>(bl[id]?).bind (·.2)
 have hmu:MuAt mu 0 bl:=λi b hb=>by simp only[mu,qaL,hb,qak]
 have hob:∀(id:Nat) o,(bl.map (·.1))[id]?=some o->∃b,bl[id]?=some b/\o=b.1/\rQ W b:=by
  intro id o ho
  rw[qax]at ho
  obtain⟨b,h1,rfl⟩:=qac.1 ho
  exact⟨b,h1,rfl,hbl b (qab h1)⟩
 have hun:∀(id:Nat) o,(bl.map (·.1))[id]?=some o->o.owned=false:=by
  intro id o ho
  obtain⟨b,_,rfl,h3⟩:=hob id o ho
  rcases h3 with h3|⟨vs,e,p,c,t,fr,h3,_⟩<;>rw[h3]<;>rfl
 have hno:∀b,¬Own mu (bl.map (·.1)) b:=by
  rintro b ⟨id,o,p,h1,h2,_⟩
  rw[hun id o h1]at h2;cases h2
 have hW0:WR C W.heap.size mu (bl.map (·.1)) W:=by
  refine⟨λid o h1 h2=>?_,λi j oi oj pi pj h1 h2 h3=>?_,λi o p h1 h2=>?_,λi o p h1 h2 _ h4=>?_,λid h1=>?_,λg vs hg=>?_⟩
  ·obtain⟨b,q1,rfl,q3⟩:=hob id o h1
   rcases q3 with q3|⟨vs,e,p,c,t,fr,q3,q4,q5,q6,q7,q8,q9,q10,q11⟩
   ·rw[q3]at h2;cases h2
   ·refine⟨p,by simp only[mu,q1,qak,q4],?_⟩
    rw[q3]
    refine⟨q5,q8,q7,c,t,fr,q9,q10,λh=>by(cases h),λi v hv=>⟨v,q11 i v hv,.of_flat (qag.1 q6 v (qab hv))⟩⟩
  ·rw[hun i oi h1]at h3;cases h3
  ·rw[hun i o h1]at h2;cases h2
  ·obtain⟨b,q1,rfl,q3⟩:=hob i o h1
   rcases q3 with q3|⟨vs,e,p',c,t,fr,q3,q4,q5,q6,q7,q8,q9,q10,q11⟩
   ·rw[q3]at h2;cases h2
   ·simp only[mu,q1,qak,q4,qas]at h4
    subst h4
    rcases qaO p'.b W.heap.size with h|h
    ·exact h
    ·rw[qbb h]at q9;cases q9
  ·simp only[mu]
   rw[qaj (by simpa using h1)];rfl
  ·obtain⟨h1,h2,c,e,fr,h4,h5⟩:=hG g vs hg
   exact⟨h1,h2,c,e,fr,h4,lU (hf g vs hg) h5⟩
 intro cs
 obtain⟨v,mu',w',a1,a2,a3,_,a5⟩:=h _ W.heap.size mu W args' (qaf _) (hargs mu hmu) hW0 cs
 rw[fg hr a1]at a5
 obtain⟨fr,b1,b2,b3⟩:=a5
 exact⟨.returned r,w',fr,⟨rfl,a3.os,a3.output,a3.tape,λb hb=>a3.keep b hb (hno b)⟩,b1,b2,b3⟩
def post_sl{P:TE}{f:Func}{s:ChangeSpec}{apart fresh handsOn:Bool}{W W':World}{args:Tj}{v:Value}{ds gs:List (DataW H)}{before pa:List MemPlace}
  (hW:DataW.Whole enc P f.params.toList s.vars apart W args.toList ds gs before)
  (hres:∀(b:Nat) (sp:Ty) (hd:Bool),DataW.TrodAll enc P W' b sp hd f.resultTypes.toList (v.resultList f.resultTypes.size) (s.fn H (ds++gs)).results [])
  (hargs:DataW.TrodAll enc P W' 0 (λb=>decide (b<W.heap.size)) true f.params.toList args.toList (s.fn H (ds++gs)).args pa)
  (hvars:∀sp:Nat->Bool,DataW.TrodVars enc P W' sp s.vars (s.fn H (ds++gs)).vars [])
  (h1:W'.os=W.os) (h2:W'.output=W.output) (h3:∀b,b<W.heap.size->W'.heap[b]?=W.heap[b]?) :
  s.post enc P f apart fresh handsOn false W args v W':=
 ⟨ds,gs,before,[],pa,[],hW,hres _ _ _,hargs,hvars _,kept_of h1 h2 h3 _,λh=>by cases h⟩
end
end
section
variable [Val]
def gj{C:Cfg}{N:Tb}{Sg:Tc}(hm:C.P.follows .mixedOrders=true){g:TM}{sg:Sig}(hs:Sg g=some sg){ls rs:TD}{H H':Ts}(hc:let _:Kno:=KnoC C N;aK C Sg g ls H rs H'){xs ys:List S0}(h1:ca xs sg.ps=true)(h2:cg xs=ls)(h3:ca ys sg.rs=true)(h4:cg ys=rs) :
  cO C g (ah xs) H (fq (ah ys)) H':=by
 let _:Kno:=KnoC C N
 obtain⟨sg',xs',ys',c1,c2,c3,c4⟩:=hc
 rw[hs]at c1
 cases c1
 obtain⟨w1,_⟩:=cH c2.1 h1 (c2.2.1.trans h2.symm)
 obtain⟨w2,_⟩:=cH c3.1 h3 (c3.2.1.trans h4.symm)
 rw[w1,w2]at c4
 exact jG hm c4
end
end Sx
end Go.Am
namespace Go.Am
open Sx Go.Proofs Go.Shelf Go.Lib Go.Sort
namespace St
abbrev C5:=Fin 1024×Fin 3×Fin 4
def crF(a:C5):Crs:=(Int.ofNat a.1.val,Int.ofNat a.2.1.val,Int.ofNat a.2.2.val)
def enc5(a:C5):Tl:=encC (crF a)
def k5(a:C5):Int:=4*Int.ofNat a.1.val+Int.ofNat a.2.1.val
def cf5(a b:C5):Int:=k5 a - k5 b
def lt5(a b:C5):Go.Proofs.ltOf cf5 a b=decide (k5 a<k5 b):=by
 unfold Go.Proofs.ltOf cf5
 rw[decide_eq_decide]
 omega
def swo5:Go.Sort.SWO (Go.Proofs.ltOf cf5) where
 irrefl x:=by rw[lt5,qdw];omega
 trans x y z h1 h2:=by
  rw[lt5,qdv]at *
  omega
 ntrans x y z h1 h2:=by
  rw[lt5,decide_eq_false_iff_not]at *
  omega
def pat1_c{a b c a' b' c':Int}(h:0<=a/\a<=1023/\0<=b/\b<=2/\0<=a'/\a'<=1023/\0<=b'/\b'<=2):Cc 60 [.i a,.i b,.i c,.i a',.i b',.i c'] [.i (4*a+b - (4*a'+b'))]:=by
 refine q60 rfl ?_;unfold f60;simp only[qxh]
 repeat (first|simp(disch:=omega)only[↓qXX]|rw[p_sub (by omega) (by omega)]|rw[p_mul (by omega) (by omega)]|rw[p_add (by omega) (by omega)]|rw[p_conv (by omega) (by omega)])
 simp only[qay,Lf.i.injEq,and_true]
 omega
def cmp5(a b:C5):cO cc 60 [.agg ⟨enc5 a⟩,.agg ⟨enc5 b⟩] [] (.int .i64 (cf5 a b)) []:=by
 have ha:=a.1.isLt
 have hb:=b.1.isLt
 have ha2:=a.2.1.isLt
 have hb2:=b.2.1.isLt
 have hc:=pat1_c (a:=Int.ofNat a.1.val) (b:=Int.ofNat a.2.1.val) (c:=Int.ofNat a.2.2.val) (a':=Int.ofNat b.1.val) (b':=Int.ofNat b.2.1.val) (c':=Int.ofNat b.2.2.val) (by simp only[qaV];omega) []
 exact gj (N:=neuN) mixed (Sg:=ab) (sg:=⟨[.agg [.i .i64,.i .u8,.i .u8],.agg [.i .i64,.i .u8,.i .u8]],[li]⟩) rfl hc (xs:=[.agg [.i .i64 (Int.ofNat a.1.val),.i .u8 (Int.ofNat a.2.1.val),.i .u8 (Int.ofNat a.2.2.val)],.agg [.i .i64 (Int.ofNat b.1.val),.i .u8 (Int.ofNat b.2.1.val),.i .u8 (Int.ofNat b.2.2.val)]]) rfl rfl (ys:=[.leaf (.i .i64 (cf5 a b))]) rfl rfl
abbrev wV:Value:=.func (.func 60) ⟨[]⟩ ⟨[]⟩
def sort5_c{H:HL}{id cx:Nat}{J:List C5}(hid:H[id]?=some (.o (.cells ((J.map crF).flatMap encC) 3 true)))(h0:0<J.length)(hl:J.length<=100000) :
  ∃D:List C5,D.Perm J/\(D.Pairwise λx y=>¬k5 y<k5 x)/\aK cc ab 59 [.v (.slice (some ⟨id,0,tag 3⟩) J.length cx),.v wV] (absH aa H) [] (absH aa (putE H id 3 encC (D.map crF))):=by
 have e1:∀L:List C5,(L.map crF).flatMap encC=L.flatMap enc5:=λL=>by rw[List.flatMap_map];rfl
 refine⟨srt cf5 J,wy swo5 J,?_,?_⟩
 ·refine(wx swo5 J).imp λ{x y} h=>?_
  rw[lt5,decide_eq_false_iff_not]at h
  exact h
 ·have hid2:(absH aa H)[id]?=some (.cells (J.flatMap enc5) 3 true):=by
   rw[←e1]
   unfold absH
   rw[qax,hid]
   rfl
  have hok:=nL (C:=cc) gH layC (enc:=enc5) (e:=3) (λw=>by kernel_rfl) (λw=>by kernel_rfl) (λ_=>rfl) (λx v hv=>by
   simp only[enc5,encC,qal,qbq,or_false]at hv
   rcases hv with rfl|rfl|rfl<;>rfl) swo5 (g:=60) (λargs w=>by kernel_rfl) cmp5 (cx:=cx) hid2 rfl h0 (by omega)
  have hset:(absH aa H).set id (.cells ((srt cf5 J).flatMap enc5) 3 true)=absH aa (putE H id 3 encC ((srt cf5 J).map crF)):=by
   unfold putE
   rw[e1,rR]
   rfl
  rw[hset]at hok
  exact⟨⟨[lv,lv],[]⟩,[.leaf (.v (.slice (some ⟨id,0,tag 3⟩) J.length cx)),.leaf (.v wV)],[],rfl,⟨rfl,rfl,λy hy=>by
   simp only[qal,qbq,or_false]at hy
   rcases hy with rfl|rfl
   ·exact au (show aW (.slice (some ⟨id,0,tag 3⟩) J.length cx)=true by simp[aW,noLoc,bj,bB,bu,aS,aJ,tag])
   ·exact au rfl⟩,⟨rfl,rfl,λy hy=>by cases hy⟩,⟨0,.inr ⟨.inl (by kernel_rfl),hok⟩⟩⟩
end St
end Go.Am
namespace Go.Am
open Sx Go.Proofs Tw
def has_c{h:HL}{x:Value}{l:List K3}(hl:LsH h x 3 cc3 l)(hn:l.length<=100000)(a:K3){p q r:Int}(ha:p=a.1/\q=a.2.1/\r=Int.ofNat a.2.2) :
  aK cc ab 18 [.v x,.i p,.i q,.i r] (absH aa h) [.b (decide (a∈l))] (absH aa h):=by
 obtain⟨rfl,rfl,rfl⟩:=ha
 exact xK x18 (glsV hl.good (glsI (glsI (glsI gls0)))) (by
  unfold f18;simp only[qxh]
  refine p_x ?_
  refine dU l.length (λj=>∀i,i<j->l[i]?≠some a) (j0:=0) rfl (qaX _) (λi hi=>by omega) ?_
  intro j hj he self hself
  refine p_x ?_
  refine bc hl ?_
  by_cases hlt:j<l.length
  ·rw[aR hlt]
   refine p_x ?_
   obtain⟨b,hb⟩:=aY hlt
   refine aV hl rfl hb ?_
   unfold cc3
   refine p_x ?_
   rw[eqs3]
   by_cases hba:b=a
   ·subst hba
    rw[qdx rfl]
    refine p_x ?_
    exact⟨by rw[qdx (qab hb)],by trivial⟩
   ·rw[qdw hba]
    refine p_x ?_
    rw[aU (by omega)]
    refine hself hlt λi hi=>?_
    by_cases hij:i=j
    ·subst hij
     rw[hb]
     exact λe=>hba (qae e)
    ·exact he i (by omega)
  ·rw[bi (by omega)]
   refine p_x ?_
   refine⟨?_,by trivial⟩
   rw[qdw]
   intro hm
   obtain⟨i,hi⟩:=qaW hm
   exact he i (by have:=aM hi;omega) hi)
def sqC(c:Sq):K3:=(c.1,c.2,0)
def nM{a b:Sq}(h:sqC a=sqC b):a=b:=by
 unfold sqC at h
 simp only[qb6,and_true]at h
 exact qcO h.1 h.2
def nN{a:Sq}{l:List Sq}:sqC a∈l.map sqC↔a∈l:=by
 rw[qaM]
 constructor
 ·rintro⟨b,hb,e⟩
  exact nM e▸hb
 ·exact λh=>⟨a,h,rfl⟩
structure Grown(b:Int)(L:List Sq):Prop where
 ne:0<L.length
 le:L.length<=12
 nd:L.Nodup
 con:Con L
 bd:∀c∈L,-b<=c.1/\c.1<=b/\-b<=c.2/\c.2<=b
def Grown.mono{b b':Int}{L:List Sq}(h:Grown b L)(hb:b<=b'):Grown b' L:=⟨h.ne,h.le,h.nd,h.con,λc hc=>by have:=h.bd c hc;omega⟩
def Grown.push{b:Int}{L:List Sq}(h:Grown b L){d:Sq}{k:Nat}(hd:d∈L)(hk:k<4)(hn:bes d k∉L)(hl:L.length<12):Grown (b+1) (L++[bes d k]):=by
 refine⟨by simp,by simp;omega,?_,?_,?_⟩
 ·rw[qbZ]
  refine⟨h.nd,by simp,?_⟩
  intro a ha c hc
  simp only[qap]at hc
  subst hc
  exact λe=>hn (e▸ha)
 ·intro i c hi h0
  by_cases hlt:i<L.length
  ·rw[qah hlt]at hi
   obtain⟨j,d',k',a1,a2,a3,a4⟩:=h.con i c hi h0
   exact⟨j,d',k',a1,by rw[qah (aM a2)];exact a2,a3,a4⟩
  ·have hi':=aM hi
   simp only[qaC,qaG,qbG]at hi'
   obtain rfl:i=L.length:=by omega
   rw[qaq (qaf _),qbC]at hi
   simp only[qaR,qas]at hi
   obtain⟨j,hj⟩:=qaW hd
   exact⟨j,d,k,aM hj,by rw[qah (aM hj)];exact hj,hk,hi⟩
 ·intro c hc
  rcases qao.1 hc with hc|hc
  ·have:=h.bd c hc;omega
  ·simp only[qap]at hc
   subst hc
   have:=h.bd d hd
   have hk':k=0∨k=1∨k=2∨k=3:=by omega
   rcases hk' with rfl|rfl|rfl|rfl<;>simp only[bes]<;>omega
def OwnL.lenB{α:Type}{n0 e:Nat}{enc:α->Tl}{l:List α}{h:HL}{v:Value}(ho:OwnL n0 h v e enc l):lenS v=some (.ofNat l.length):=by
 rcases ho with⟨rfl,rfl⟩|⟨id,cx,rfl,_⟩<;>rfl
def uN{n:Nat}(h:n<=1000000):bO n 24=true:=by
 unfold bO
 rw[qa5 (by omega),qa5 (by omega)];rfl
def qo(p:Int×Int):Tl:=[.int .u8 p.1,.int .u8 p.2]
def sx(p:Int×Int):(qo p).length=2:=rfl
def r_idx{h:HL}{v:Value}{l:List (Int×Int)}{i o:Nat}{a:Int×Int}{n:Int}{cs:Tl}{K:Te}(hs:LsH h v 2 qo l)(hn:n=Int.ofNat i)(hi:l[i]?=some a)(ho:o<2)(hcs:cs=((qo a).drop o).take 1)(hk:K cs) :
  P1.opt (idS 2 v n) (@hid _ ⟨λx=>P1.opt (idP 2 1 x (Int.ofNat o)) (@hid _ ⟨λy=>P1.chk y (@hid _ ⟨P1.peek (.lg cc 1 y) h (@hid _ ⟨K⟩)⟩)⟩)⟩):=by
 subst hn hcs
 obtain⟨p,h1,h2⟩:=hs.at hi
 obtain⟨q,h3,h4⟩:=h2.fd o 1 (by rw[sx];omega)
 refine af h1 (af (x:=q) ?_ (aq h4.good (ee (h4.lg ?_) hk)))
 ·obtain⟨id,o',vs,e,rw',rfl,_,_⟩:=h2
  have ho':o=0∨o=1:=by omega
  rcases ho' with rfl|rfl<;>· rw[←h3];rfl
 ·rw[qaI,qbN,sx];omega
def rem_nat{k:TH}{a b:Nat}{K:Tu}(hb:0<b):P1.ari .rem k (Int.ofNat a) (Int.ofNat b) (@hid _ ⟨K⟩)=K (Int.ofNat (a%b)):=by
 rw[p_rem_nn (show(0:Int)<=Int.ofNat a from qav a) (by show(0:Int)<(b:Int);omega)]
 rfl
def OfOk(H:HL)(rs:TD)(h':HL):Prop:=∃v L,rs=[.v v]/\Grown 43 L/\OwnL H.length h' v 3 cc3 (L.map sqC)/\Low H.length H h'/\H.length<=h'.length
def of_c{H:HL}{x:Value}{G:List (Int×Int)}(hG:LsH H x 2 qo G)(hb:∀a∈G,(0<=a.1/\a.1<=255)/\0<=a.2/\a.2<=255){X Y:Int}(hX:0<=X/\X<=255)(hY:0<=Y/\Y<=255) :
  ∃rs h',aK cc ab 5 [.i X,.i Y,.v x] (absH aa H) rs (absH aa h')/\OfOk H rs h':=by
 exact x5 (K:=OfOk H) (glsI (glsI (glsV hG.good gls0))) (by
  unfold f5;simp only[qxh]
  refine p_x ?_
  have hx7:0<=X%7/\X%7<7:=by omega
  have hy7:0<=Y%7/\Y%7<7:=by omega
  generalize X%7=x7 at *
  generalize Y%7=y7 at *
  refine cF (σ:=Value×HL×List Sq) G.length (λj s=>[.v s.1,.i (Int.ofNat j)]) (λ_ s=>s.2.1) (λj s=>OwnL H.length s.2.1 s.1 3 cc3 (s.2.2.map sqC)/\Grown (3+Int.ofNat (min j 40)) s.2.2/\Low H.length H s.2.1/\H.length<=s.2.1.length) (j0:=0)
   (s0:=(.slice (some ⟨H.length,0,some 13⟩) 1 2,H++[.o (.cells [.int .i64 (x7 - 3),.int .i64 (y7 - 3),.int .u8 0] 3 true)],[(x7 - 3,y7 - 3)])) rfl rfl (qaX _) ⟨.inr ⟨H.length,2,rfl,qaf _,aH,.inr rfl⟩,⟨by simp,by simp,by simp,λi c hi h0=>by
    have:=aM hi
    simp only[qaG,qbG]at this
    omega,λc hc=>by
    simp only[qap]at hc
    subst hc
    simp only[qaX,qa8]
    show -(3+((0:Nat):Int))<=x7 - 3/\x7 - 3<=3+((0:Nat):Int)/\-(3+((0:Nat):Int))<=y7 - 3/\y7 - 3<=3+((0:Nat):Int)
    omega⟩,(Low.refl H).app _,by simp⟩ ?_
  rintro j ⟨v,h,L⟩ hj ⟨ho,hg,hlow,hlen⟩ self hself
  simp only at ho hg hlow hlen hself
  have hfin:OfOk H [.v v] h:=⟨v,L,rfl,hg.mono (by
   have:=Nat.min_le_right j 40
   show 3+((min j 40:Nat):Int)<=43
   omega),ho,hlow,hlen⟩
  refine p_x ?_
  refine bc (hG.low hlow) ?_
  by_cases hlt:j<G.length
  case neg=>
   rw[bi (by omega)]
   refine p_x ?_
   exact hfin
  rw[aR hlt]
  refine p_x ?_
  refine af ho.lenB ?_
  rw[qaF]
  by_cases h12:L.length<12
  case neg=>
   rw[p_lss_f (by show(12:Int)<=(L.length:Int);omega)]
   refine p_x ?_
   exact hfin
  rw[p_lss_t (by show(L.length:Int)<12;omega)]
  refine p_x ?_
  by_cases h40:j<40
  case neg=>
   rw[p_lss_f (by show(40:Int)<=(j:Int);omega)]
   refine p_x ?_
   exact hfin
  rw[p_lss_t (by show(j:Int)<40;omega)]
  refine p_x ?_
  obtain⟨a,ha⟩:=aY hlt
  obtain⟨⟨a1,a2⟩,a3,a4⟩:=hb a (qab ha)
  refine r_idx (o:=0) (hG.low hlow) rfl ha (by omega) rfl ?_
  simp only[qo,qa1,qa7,qbB]
  refine p_x ?_
  refine af ho.lenB ?_
  rw[qaF]
  obtain⟨u,hu⟩ : ∃u:Nat,a.1=Int.ofNat u:=⟨a.1.toNat,by show a.1=((a.1.toNat:Nat):Int);omega⟩
  rw[hu,rem_nat hg.ne]
  have hlt2:u%L.length<L.length:=qbz _ hg.ne
  obtain⟨c,hc⟩:=aY hlt2
  refine aV (ho.ls bM) rfl (by rw[qax,hc];rfl) ?_
  simp only[sqC,cc3]
  refine p_x ?_
  refine r_idx (o:=1) (hG.low hlow) rfl ha (by omega) rfl ?_
  simp only[qo,qbK,qa1,qa7,qbB]
  refine p_x ?_
  have hcm:=qab hc
  have hcb:=hg.bd c hcm
  have hmn:Int.ofNat (min j 40)=(j:Int):=by
   rw[qa8 (by omega)];rfl
  have hm1:Int.ofNat (min (j+1) 40)=(j:Int)+1:=by
   rw[qa8 (by omega)];rfl
  rw[hmn]at hg hcb
  have body:∀k,k<4->∀v',(bes c k∉L->∀h',OwnL H.length h' v' 3 cc3 ((L++[bes c k]).map sqC)->Low H.length H h'->H.length<=h'.length->self [.v v',.i (Int.ofNat j+1)] h')/\(bes c k∈L->self [.v v,.i (Int.ofNat j+1)] h):=λk hk v'=>⟨λhn h' b1 b2 b3=>hself (v',h',L++[bes c k]) hlt ⟨b1,by
   rw[hm1]
   have:=hg.push hcm hk hn h12
   exact this.mono (by omega),b2,b3⟩,λ_=>hself (v,h,L) hlt ⟨ho,by rw[hm1];exact hg.mono (by omega),hlow,hlen⟩⟩
  refine p_eqlT λt ht=>?_
  refine rg (λl' h'=>∃k,k<4/\l'=[.i (bes c k).1,.i (bes c k).2,.i 0]/\h'=h) ?_ ?_
  ·rintro _ _ ⟨k,hk,rfl,rfl⟩
   refine p_x ?_
   refine am (has_c (ho.ls bM) (by rw[qaF];have:=hg.le;omega) (sqC (bes c k)) ⟨rfl,rfl,rfl⟩) ?_
   refine p_x ?_
   by_cases hm:bes c k∈L
   ·rw[qdx (nN.2 hm)]
    simp(disch:=omega)only[↓qXX,qaE]
    rw[aU (by omega)]
    exact(body k hk v).2 hm
   ·rw[qdw (λe=>hm (nN.1 e))]
    simp(disch:=omega)only[↓qXX,qba]
    refine ho.ap1 (a:=sqC (bes c k)) bM hlen rfl rfl rfl (uN (by rw[qaF];omega)) λv' h' b1 b2 b3 b4 b5=>?_
    refine p_x ?_
    refine aq b2 ?_
    refine p_x ?_
    rw[aU (by omega)]
    refine(body k hk v').1 hm h' (by rw[qbL];exact b1) (λi o hi hoo=>b3 i o (hlow i o hi hoo) λe=>?_) (by omega)
    have:=ho.blk e
    omega
  ·intro jn hjn
   have e4:a.2%4=0∨a.2%4=1∨a.2%4=2∨a.2%4=3:=by omega
   have k0:=hjn _ _ ⟨0,by omega,rfl,rfl⟩
   have k1:=hjn _ _ ⟨1,by omega,rfl,rfl⟩
   have k2:=hjn _ _ ⟨2,by omega,rfl,rfl⟩
   have k3:=hjn _ _ ⟨3,by omega,rfl,rfl⟩
   simp only[bes]at k0 k1 k2 k3
   rcases e4 with e|e|e|e<;>rw[e]at ht ⊢
   ·obtain rfl:t=true:=ht
    refine p_x ?_
    exact k0
   ·obtain rfl:t=false:=ht
    refine p_x ?_
    exact k1
   ·obtain rfl:t=false:=ht
    refine p_x ?_
    exact k2
   ·obtain rfl:t=false:=ht
    refine p_x ?_
    exact k3)
end Go.Am
namespace Go.Am
open Sx Go.Proofs
section
variable {α:Type} {key:α->Int}
def SP(a b:Nat)(l l':List α):Prop:=l'.Perm l/\∀i,(i<a∨b<=i)->l'[i]?=l[i]?
def SP.refl(a b:Nat)(l:List α):SP a b l l:=⟨List.Perm.refl _,λ_ _=>rfl⟩
def SP.len{a b:Nat}{l l':List α}(h:SP a b l l'):l'.length=l.length:=h.1.length_eq
def SP.trans{a b:Nat}{l l' l'':List α}(h:SP a b l l')(k:SP a b l' l''):SP a b l l'':=⟨k.1.trans h.1,λi hi=>(k.2 i hi).trans (h.2 i hi)⟩
def SP.mono{a b a' b':Nat}{l l':List α}(h:SP a b l l')(ha:a'<=a)(hb:b<=b'):SP a' b' l l':=⟨h.1,λi hi=>h.2 i (by omega)⟩
def get_eq{l:List α}{i:Nat}{x:α}(h:l[i]?=some x):∃hi:i<l.length,l[i]=x:=qaN.1 h
def SP.swap{a b i j:Nat}{l:List α}{x y:α}(hx:l[i]?=some x)(hy:l[j]?=some y)(hi:a<=i/\i<b)(hj:a<=j/\j<b):SP a b l ((l.set i y).set j x):=by
 obtain⟨h1,e1⟩:=get_eq hx
 obtain⟨h2,e2⟩:=get_eq hy
 refine⟨?_,λk hk=>?_⟩
 ·have:=@List.set_set_perm α l i j h1 h2
  rw[e1,e2]at this
  exact this
 ·rw[qaA (by omega),qaA (by omega)]
def wA{l:List α}{i j k:Nat}{x y:α}(hx:l[i]?=some x)(hy:l[j]?=some y):((l.set i y).set j x)[k]?=if k=j then some x else if k=i then some y else l[k]?:=by
 have h1:=aM hx
 have h2:=aM hy
 by_cases hj:k=j
 ·subst hj
  rw[qdy rfl,qaJ (by rw[qbx];exact h2)]
 ·rw[qdz hj,qaA (qcq hj)]
  by_cases hi:k=i
  ·subst hi
   rw[qdy rfl,qaJ h1]
  ·rw[qdz hi,qaA (qcq hi)]
def seg_eq{a b:Nat}{l:List α}(hab:a<=b):l=l.take a++((l.drop a).take (b - a)++l.drop b):=by
 have h1:=qbt a l
 have h2:=qbt (b - a) (l.drop a)
 rw[qbS,show a+(b - a)=b by omega]at h2
 rw[h2,h1]
def SP.mem{a b:Nat}{l l':List α}(h:SP a b l l')(hab:a<=b)(hb:b<=l.length){i:Nat}{x:α}(hi:a<=i/\i<b)(hx:l'[i]?=some x):∃j,a<=j/\j<b/\l[j]?=some x:=by
 have e1:l'.take a=l.take a:=by
  apply qaZ
  intro k
  rw[qaT,qaT]
  split
  ·exact h.2 k (.inl (by omega))
  ·rfl
 have e2:l'.drop b=l.drop b:=by
  apply qaZ
  intro k
  rw[qaU,qaU]
  exact h.2 _ (.inr (by omega))
 have hp:=h.1
 rw[seg_eq (l:=l) hab,seg_eq (l:=l') hab,e1,e2,List.perm_append_left_iff,List.perm_append_right_iff]at hp
 have hm:x∈(l'.drop a).take (b - a):=by
  refine qab (i:=i - a) ?_
  rw[qaT,qdy (by omega),qaU,show a+(i - a)=i by omega]
  exact hx
 obtain⟨k,hk⟩:=qaW (hp.mem_iff.1 hm)
 rw[qaT]at hk
 split at hk
 ·rw[qaU]at hk
  exact⟨a+k,by omega,by omega,hk⟩
 ·cases hk
def SS(key:α->Int)(a b:Nat)(l:List α):Prop:=∀i j x y,a<=i->i<j->j<b->l[i]?=some x->l[j]?=some y->key x<=key y
def SS.one{a b:Nat}{l:List α}(h:b<=a+1):SS key a b l:=λi j x y h1 h2 h3=>by omega
def BL(key:α->Int)(a b c d:Nat)(l:List α):Prop:=∀i j x y,a<=i->i<b->c<=j->j<d->l[i]?=some x->l[j]?=some y->key x<=key y
def SS.join{a m b:Nat}{l:List α}(h1:SS key a m l)(h2:SS key m b l)(h:BL key a m m b l):SS key a b l:=by
 intro i j x y hi hij hj hx hy
 by_cases h3:j<m
 ·exact h1 i j x y hi hij h3 hx hy
 ·by_cases h4:m<=i
  ·exact h2 i j x y h4 hij hj hx hy
  ·exact h i j x y hi (by omega) (by omega) hj hx hy
def SS.keep{a b c d:Nat}{l l':List α}(h:SS key a b l)(hp:SP c d l l')(hd:b<=c∨d<=a):SS key a b l':=by
 intro i j x y hi hij hj hx hy
 rw[hp.2 i (by omega)]at hx
 rw[hp.2 j (by omega)]at hy
 exact h i j x y hi hij hj hx hy
def BL.keep{a b c d p q:Nat}{l l':List α}(h:BL key a b c d l)(hp:SP p q l l')(hpq:p<=q/\q<=l.length)(h1:(a<=p/\q<=b)∨b<=p∨q<=a)(h2:(c<=p/\q<=d)∨d<=p∨q<=c):BL key a b c d l':=by
 intro i j x y hi hib hj hjd hx hy
 have fx:∃i',a<=i'/\i'<b/\l[i']?=some x:=by
  by_cases hin:p<=i/\i<q
  ·obtain⟨k,k1,k2,k3⟩:=hp.mem hpq.1 hpq.2 hin hx
   exact⟨k,by omega,by omega,k3⟩
  ·rw[hp.2 i (by omega)]at hx
   exact⟨i,hi,hib,hx⟩
 have fy:∃j',c<=j'/\j'<d/\l[j']?=some y:=by
  by_cases hin:p<=j/\j<q
  ·obtain⟨k,k1,k2,k3⟩:=hp.mem hpq.1 hpq.2 hin hy
   exact⟨k,by omega,by omega,k3⟩
  ·rw[hp.2 j (by omega)]at hy
   exact⟨j,hj,hjd,hy⟩
 obtain⟨i',i1,i2,i3⟩:=fx
 obtain⟨j',j1,j2,j3⟩:=fy
 exact h i' j' x y i1 i2 j1 j2 i3 j3
structure InsI(key:α->Int)(a i j:Nat)(l:List α):Prop where
 srt:∀p q x y,a<=p->p<q->q<=i->p≠j->q≠j->l[p]?=some x->l[q]?=some y->key x<=key y
 low:∀q x y,j<q->q<=i->l[j]?=some x->l[q]?=some y->key x<=key y
def InsI.start{a i:Nat}{l:List α}(h:SS key a i l):InsI key a i i l:=⟨λp q x y h1 h2 h3 h4 h5=>h p q x y h1 h2 (by omega),λq x y h1 h2=>by omega⟩
def InsI.done{a i j:Nat}{l:List α}(h:InsI key a i j l)(hj:a<=j/\j<=i)(hl:j=a∨∃x y,l[j]?=some x/\l[j - 1]?=some y/\key y<=key x):SS key a (i+1) l:=by
 intro p q x y hp hpq hq hx hy
 by_cases h1:p=j
 ·subst h1
  exact h.low q x y hpq (by omega) hx hy
 ·by_cases h2:q=j
  ·subst h2
   rcases hl with hl|⟨u,v,hu,hv,huv⟩
   ·omega
   ·rw[hy]at hu
    cases hu
    by_cases h3:p=q - 1
    ·subst h3
     rw[hx]at hv
     cases hv
     exact huv
    ·have:=h.srt p (q - 1) x v hp (by omega) (by omega) h1 (by omega) hx hv
     omega
  ·exact h.srt p q x y hp hpq (by omega) h1 h2 hx hy
def InsI.step{a i j:Nat}{l:List α}{x y:α}(h:InsI key a i j l)(hj:a<j/\j<=i)(hx:l[j]?=some x)(hy:l[j - 1]?=some y)(hlt:key x<key y):InsI key a i (j - 1) ((l.set j y).set (j - 1) x):=by
 have g:∀k,((l.set j y).set (j - 1) x)[k]?=if k=j - 1 then some x else if k=j then some y else l[k]?:=λk=>wA hx hy
 refine⟨λp q u v hp hpq hq h1 h2 hu hv=>?_,λq u v hq hqi hu hv=>?_⟩
 ·rw[g,qdz h1]at hu
  rw[g,qdz h2]at hv
  by_cases hpj:p=j
  ·rw[qdy hpj]at hu
   cases hu
   rw[qdz (by omega)]at hv
   exact h.srt (j - 1) q y v (by omega) (by omega) hq (by omega) (by omega) hy hv
  ·rw[qdz hpj]at hu
   by_cases hqj:q=j
   ·rw[qdy hqj]at hv
    cases hv
    exact h.srt p (j - 1) u y hp (by omega) (by omega) (by omega) (by omega) hu hy
   ·rw[qdz hqj]at hv
    exact h.srt p q u v hp hpq hq hpj hqj hu hv
 ·rw[g,qdy rfl]at hu
  cases hu
  rw[g,qdz (by omega)]at hv
  by_cases hqj:q=j
  ·rw[qdy hqj]at hv
   cases hv
   omega
  ·rw[qdz hqj]at hv
   exact h.low q x v (by omega) hqi hx hv
def HpX(key:α->Int)(lo hi f r:Nat)(l:List α):Prop:=∀k c x y,lo<=k->k≠r->(c=2*k+1∨c=2*k+2)->c<hi->l[f+k]?=some x->l[f+c]?=some y->key y<=key x
def Hp1(key:α->Int)(lo hi f:Nat)(l:List α):Prop:=∀k c x y,lo<=k->(c=2*k+1∨c=2*k+2)->c<hi->l[f+k]?=some x->l[f+c]?=some y->key y<=key x
def HpP(key:α->Int)(lo hi f r:Nat)(l:List α):Prop:=∀k c x y,lo<=k->(r=2*k+1∨r=2*k+2)->(c=2*r+1∨c=2*r+2)->c<hi->l[f+k]?=some x->l[f+c]?=some y->key y<=key x
def Hp1.max{hi f:Nat}{l:List α}(h:Hp1 key 0 hi f l)(hl:f+hi<=l.length){x:α}(hx:l[f]?=some x):∀(i:Nat) y,i<hi->l[f+i]?=some y->key y<=key x:=by
 intro i
 induction i using Nat.strongRecOn with
 |ind i ih=>
  intro y hi' hy
  by_cases h0:i=0
  ·subst h0
   rw[qcb,hx]at hy
   cases hy
   exact Int.le_refl _
  ·obtain⟨z,hz⟩:=aY (l:=l) (i:=f+(i - 1) / 2) (by omega)
   have h1:=ih ((i - 1) / 2) (by omega) z (by omega) hz
   have h2:=h ((i - 1) / 2) i z y (qaX _) (by omega) hi' hz hy
   omega
def HpX.done{lo hi f r:Nat}{l:List α}(h:HpX key lo hi f r l)(hr:∀c x y,(c=2*r+1∨c=2*r+2)->c<hi->l[f+r]?=some x->l[f+c]?=some y->key y<=key x):Hp1 key lo hi f l:=by
 intro k c x y hk hc hch hx hy
 by_cases e:k=r
 ·subst e
  exact hr c x y hc hch hx hy
 ·exact h k c x y hk e hc hch hx hy
def HpX.step{lo hi f r c:Nat}{l:List α}{x y:α}(h:HpX key lo hi f r l)(hp:HpP key lo hi f r l)(hr:lo<=r)(hc:c=2*r+1∨c=2*r+2)(hch:c<hi)(hx:l[f+r]?=some x)(hy:l[f+c]?=some y)(hxy:key x<key y)
  (hmax:∀d z,(d=2*r+1∨d=2*r+2)->d<hi->l[f+d]?=some z->key z<=key y):HpX key lo hi f c ((l.set (f+r) y).set (f+c) x)/\HpP key lo hi f c ((l.set (f+r) y).set (f+c) x):=by
 have g:∀k,((l.set (f+r) y).set (f+c) x)[f+k]?=if k=c then some x else if k=r then some y else l[f+k]?:=λk=>by
  rw[wA hx hy]
  simp only[Nat.add_left_cancel_iff]
 refine⟨λk d u v hk hkc hd hdh hu hv=>?_,λk d u v hk hkc hd hdh hu hv=>?_⟩
 ·rw[g,qdz hkc]at hu
  rw[g]at hv
  by_cases hkr:k=r
  ·rw[qdy hkr]at hu
   cases hu
   by_cases hdc:d=c
   ·rw[qdy hdc]at hv
    cases hv
    omega
   ·rw[qdz hdc,qdz (by omega)]at hv
    exact hmax d v (by omega) hdh hv
  ·rw[qdz hkr]at hu
   by_cases hdc:d=c
   ·omega
   ·rw[qdz hdc]at hv
    by_cases hdr:d=r
    ·rw[qdy hdr]at hv
     cases hv
     exact hp k c u y hk (by omega) hc hch hu hy
    ·rw[qdz hdr]at hv
     exact h k d u v hk hkr hd hdh hu hv
 ·rw[g]at hu hv
  have hkr:k=r:=by omega
  rw[qdz (by omega),qdy hkr]at hu
  cases hu
  rw[qdz (by omega),qdz (by omega)]at hv
  exact h c d y v (by omega) (by omega) hd hdh hy hv
end
end Go.Am
namespace Go.Am
open Sx Go.Proofs Tw
def OwnL.set{α:Type}{n0 e:Nat}{enc:α->Tl}{l:List α}{h:HL}{v:Value}(henc:∀a,(enc a).length=e)(ho:OwnL n0 h v e enc l){i:Nat}{a:α}{n:Int}{new:Tl}{K:Ta}(hn:n=Int.ofNat i)(hi:i<l.length)(hnew:new=enc a)
  (hk:∀h',OwnL n0 h' v e enc (l.set i a)->(∀(j:Nat) o,h[j]?=some o->Sx.blk v≠some j->h'[j]?=some o)->h'.length=h.length->K [] h'):P1.opt (idS e v n) (@hid _ ⟨λx=>P1.heap (.st x new) h (@hid _ ⟨K⟩)⟩):=by
 rcases ho with⟨rfl,rfl⟩|⟨id,cx,rfl,h1,h2,h3⟩
 ·simp at hi
 ·have hp:putE h id e enc l=h:=by
   unfold putE
   exact fw h2
  have:=r_set (C:=cc) (Sg:=ab) (T:=aa) (h:=h) (id:=id) (cx:=cx) (len:=l.length) (l:=l) (K:=K) henc (aM h2) hn hi rfl hnew (hk (putE h id e enc (l.set i a)) (.inr ⟨id,cx,by rw[qbx],h1,dK (aM h2),by rw[qbx];exact h3⟩) (λj o hj hb=>by
   unfold putE
   rw[qaA (λe=>hb (by subst e;rfl))]
   exact hj) (by simp[putE]))
  rw[hp]at this
  exact this
def quad(c:Sq):List K3:=[(c.1,c.2,0),(c.1,c.2,1),(c.1,c.2,2),(c.1,c.2,3)]
def rr{c:Sq}{a:K3}:a∈quad c↔(a.1,a.2.1)=c/\a.2.2<4:=by
 obtain⟨x,y,q⟩:=a
 obtain⟨u,v⟩:=c
 simp only[quad,qal,qbq,or_false,qb6]
 omega
def quad_take{c:Sq}{q:Nat}(hq:q<4):(quad c).take (q+1)=(quad c).take q++[(c.1,c.2,q)]:=by
 have:q=0∨q=1∨q=2∨q=3:=by omega
 rcases this with rfl|rfl|rfl|rfl<;>rfl
def nA(L:List Sq):(L.flatMap quad).length=4*L.length:=by
 induction L with
 |nil=>rfl
 |cons a L ih=>rw[qbI,qaC,ih,qaG];show 4+_=_;omega
def wk{L:List Sq}(h:L.Nodup):(L.flatMap quad).Nodup:=by
 induction L with
 |nil=>simp
 |cons a L ih=>
  rw[qcg]at h
  rw[qbI,qbZ]
  refine⟨by simp[quad],ih h.2,?_⟩
  intro x hx y hy e
  subst e
  obtain⟨b,hb,hxb⟩:=qbH.1 hy
  rw[rr]at hx hxb
  exact h.1 (hx.1.symm.trans hxb.1▸hb)
def nB{L:List Sq}{a:K3}:a∈L.flatMap quad↔(a.1,a.2.1)∈L/\a.2.2<4:=by
 rw[qbH]
 constructor
 ·rintro⟨c,hc,h⟩
  rw[rr]at h
  exact⟨h.1▸hc,h.2⟩
 ·rintro⟨h1,h2⟩
  exact⟨_,h1,rr.2 ⟨rfl,h2⟩⟩
def keyC(a:K3):Int:=(a.2.1*1000+a.1)*4+Int.ofNat a.2.2
def inC(a:K3):Prop:=(-100<=a.1/\a.1<=100)/\(-100<=a.2.1/\a.2.1<=100)/\a.2.2<4
def ltC3(a b:K3):Prop:=a.2.1<b.2.1∨(a.2.1=b.2.1/\(a.1<b.1∨(a.1=b.1/\a.2.2<b.2.2)))
instance (a b : K3) : Decidable (ltC3 a b) := by unfold ltC3; exact inferInstance
def key_lt{a b:K3}(ha:inC a)(hb:inC b):keyC a<keyC b↔ltC3 a b:=by
 obtain⟨⟨a1,a2⟩,⟨a3,a4⟩,a5⟩:=ha
 obtain⟨⟨b1,b2⟩,⟨b3,b4⟩,b5⟩:=hb
 unfold keyC ltC3
 show(a.2.1*1000+a.1)*4+((a.2.2:Nat):Int)<(b.2.1*1000+b.1)*4+((b.2.2:Nat):Int)↔_
 omega
def before_c{a b:K3}(ha:inC a)(hb:inC b){p q r p' q' r':Int}(h1:p=a.1/\q=a.2.1/\r=Int.ofNat a.2.2)(h2:p'=b.1/\q'=b.2.1/\r'=Int.ofNat b.2.2):Cc 19 [.i p,.i q,.i r,.i p',.i q',.i r'] [.b (decide (keyC a<keyC b))]:=by
 obtain⟨rfl,rfl,rfl⟩:=h1
 obtain⟨rfl,rfl,rfl⟩:=h2
 rw[show decide (keyC a<keyC b)=decide (ltC3 a b)from decide_eq_decide.2 (key_lt ha hb)]
 have hq:∀u w:Nat,(Int.ofNat u<Int.ofNat w)=(u<w):=λu w=>by
  show((u:Int)<(w:Int))=_
  simp
 refine q19 rfl ?_;unfold f19;simp only[qxh]
 unfold ltC3
 by_cases hy:a.2.1=b.2.1
 ·by_cases hx:a.1=b.1
  ·by_cases hz:a.2.2<b.2.2
   ·have hz':Int.ofNat a.2.2<Int.ofNat b.2.2:=by rw[hq];exact hz
    refine p_x ?_
    simp[hx,hy,hz]
   ·have hz':¬Int.ofNat a.2.2<Int.ofNat b.2.2:=by rw[hq];exact hz
    refine p_x ?_
    simp[hx,hy,hz]
  ·by_cases hz:a.1<b.1
   ·simp(disch:=omega)only[↓qXX]
    simp[hx,hy,hz]
   ·simp(disch:=omega)only[↓qXX]
    simp[hx,hy,hz]
 ·by_cases hz:a.2.1<b.2.1
  ·simp(disch:=omega)only[↓qXX]
   simp[hy,hz]
  ·simp(disch:=omega)only[↓qXX]
   simp[hy,hz]
structure SetOf(L:List Sq)(D:List K3):Prop where
 perm:D.Perm (L.flatMap quad)
 srt:∀(i j:Nat) x y,i<j->D[i]?=some x->D[j]?=some y->ltC3 x y
def SetOf.mem{L:List Sq}{D:List K3}(h:SetOf L D){a:K3}:a∈D↔(a.1,a.2.1)∈L/\a.2.2<4:=h.perm.mem_iff.trans nB
def SetOf.len{L:List Sq}{D:List K3}(h:SetOf L D):D.length=4*L.length:=h.perm.length_eq.trans (nA L)
def set_of{L:List Sq}{D:List K3}(hL:L.Nodup)(hb:∀c∈L,-100<=c.1/\c.1<=100/\-100<=c.2/\c.2<=100)(hp:D.Perm (L.flatMap quad))(hs:SS keyC 0 D.length D):SetOf L D:=by
 refine⟨hp,λi j x y hij hx hy=>?_⟩
 have hin:∀a∈D,inC a:=λa ha=>by
  have h:=nB.1 (hp.mem_iff.1 ha)
  have:=hb _ h.1
  exact⟨⟨this.1,this.2.1⟩,⟨this.2.2.1,this.2.2.2⟩,h.2⟩
 have hx':=hin x (qab hx)
 have hy':=hin y (qab hy)
 have hle:=hs i j x y (qaX _) hij (aM hy) hx hy
 rw[←key_lt hx' hy']
 have hne:x≠y:=by
  have hnd:D.Nodup:=hp.nodup_iff.2 (wk hL)
  intro e
  subst e
  have h1:=aM hx
  have h2:=aM hy
  rw[qai h1]at hx
  rw[qai h2]at hy
  exact qb0.1 hnd i j h1 h2 hij ((qae hx).trans (qae hy).symm)
 have:¬keyC x=keyC y:=by
  intro e
  apply hne
  obtain⟨⟨a1,a2⟩,⟨a3,a4⟩,a5⟩:=hx'
  obtain⟨⟨b1,b2⟩,⟨b3,b4⟩,b5⟩:=hy'
  have e':(x.2.1*1000+x.1)*4+((x.2.2:Nat):Int)=(y.2.1*1000+y.1)*4+((y.2.2:Nat):Int):=e
  exact qcO (by omega) (qcO (by omega) (by omega))
 omega
def SetOk(H:HL)(L:List Sq)(rs:TD)(h':HL):Prop:=∃v D,rs=[.v v]/\SetOf L D/\OwnL H.length h' v 3 cc3 D/\Low H.length H h'/\H.length<=h'.length
def set_c{H:HL}{x:Value}{L:List Sq}(hG:LsH H x 3 cc3 (L.map sqC))(h0:0<L.length)(hn:L.length<=1000)(hnd:L.Nodup)(hb:∀c∈L,-100<=c.1/\c.1<=100/\-100<=c.2/\c.2<=100) :
  ∃rs h',aK cc ab 6 [.v x] (absH aa H) rs (absH aa h')/\SetOk H L rs h':=by
 exact x6 (K:=SetOk H L) (glsV hG.good gls0) (by
  unfold f6;simp only[qxh]
  refine p_x ?_
  refine cF (σ:=Value×HL) L.length (λj s=>[.v s.1,.i (Int.ofNat j)]) (λ_ s=>s.2) (λj s=>OwnL H.length s.2 s.1 3 cc3 ((L.take j).flatMap quad)/\Low H.length H s.2/\H.length<=s.2.length) (j0:=0) (s0:=(.slice none 0 0,H)) rfl rfl (qaX _) ⟨OwnL.nil _ _ _ _,Low.refl H,qaf _⟩ ?_
  rintro j ⟨v,h⟩ hj ⟨ho,hlow,hlen⟩ self hself
  simp only at ho hlow hlen hself
  have hGh:=hG.low hlow
  refine p_x ?_
  refine bc hGh ?_
  rw[qaF]
  by_cases hlt:j<L.length
  ·rw[aR hlt]
   refine p_x ?_
   obtain⟨c,hc⟩:=aY hlt
   refine cF (σ:=Value×HL) 4 (λq s=>[.v s.1,.i (Int.ofNat q)]) (λ_ s=>s.2) (λq s=>OwnL H.length s.2 s.1 3 cc3 ((L.take j).flatMap quad++(quad c).take q)/\Low H.length H s.2/\H.length<=s.2.length) (j0:=0) (s0:=(v,h)) rfl rfl (qaX _) ⟨by simpa using ho,hlow,hlen⟩ ?_
   rintro q ⟨v2,h2⟩ hq ⟨ho2,hlow2,hlen2⟩ self2 hself2
   simp only at ho2 hlow2 hlen2 hself2
   have hG2:=hG.low hlow2
   refine p_x ?_
   by_cases hq4:q<4
   ·rw[p_lss_t (by show(q:Int)<4;omega)]
    refine p_x ?_
    refine tz (o:=0) (k:=1) (a:=sqC c) hG2 rfl (by rw[qax,hc];rfl) rfl (by omega) ?_
    simp only[sqC,cc3,qa1,qa7,qbB]
    refine p_x ?_
    refine tz (o:=1) (k:=1) (a:=sqC c) hG2 rfl (by rw[qax,hc];rfl) rfl (by omega) ?_
    simp only[sqC,cc3,qbK,qa1,qa7,qbB]
    refine p_x ?_
    refine ho2.ap1 (a:=(c.1,c.2,q)) bM hlen2 rfl rfl rfl (uN ?_) λv' h' b1 b2 b3 b4 b5=>?_
    ·have:=nA (L.take j)
     rw[qaC,this,qaI,qaI]
     have:=Nat.min_le_left q (quad c).length
     omega
    refine p_x ?_
    refine aq b2 ?_
    refine p_x ?_
    rw[p_add8 (by show(0:Int)<=(q:Int)+1;omega) (by show(q:Int)+1<=255;omega)]
    refine hself2 (v',h') hq4 ⟨?_,λi o hi hoo=>b3 i o (hlow2 i o hi hoo) λe=>?_,by show H.length<=h'.length;omega⟩
    ·rw[quad_take hq4,←qaP]
     exact b1
    ·have:=ho2.blk e
     omega
   ·obtain rfl:q=4:=by omega
    rw[p_lss_f (by show(4:Int)<=((4:Nat):Int);omega)]
    refine p_x ?_
    rw[aU (by omega)]
    refine hself (v2,h2) hlt ⟨?_,hlow2,hlen2⟩
    have e1:(L.take (j+1)).flatMap quad=(L.take j).flatMap quad++quad c:=by
     rw[qby,hc,qb8]
     simp
    rw[e1]
    exact ho2
  ·obtain rfl:j=L.length:=by omega
   rw[bi (qaf _)]
   refine p_x ?_
   rw[qbh]at ho
   have hD:=nA L
   refine cF (σ:=HL×List K3) (4*L.length) (λi _=>[.i (Int.ofNat i)]) (λ_ s=>s.1) (λi s=>OwnL H.length s.1 v 3 cc3 s.2/\Low H.length H s.1/\H.length<=s.1.length/\s.2.Perm (L.flatMap quad)/\SS keyC 0 i s.2) (j0:=1) (s0:=(h,L.flatMap quad)) rfl rfl (by omega) ⟨ho,hlow,hlen,List.Perm.refl _,SS.one (by omega)⟩ ?_
   clear ho hlow hlen hself hGh
   rintro i ⟨h,D⟩ hi ⟨ho,hlow,hlen,hp,hs⟩ self hself
   simp only at ho hlow hlen hp hs hself
   have hDl:D.length=4*L.length:=hp.length_eq.trans hD
   refine p_x ?_
   refine af ho.lenB ?_
   rw[hDl]
   by_cases hlt:i<4*L.length
   case neg=>
    obtain rfl:i=4*L.length:=by omega
    rw[bi (qaf _)]
    refine p_x ?_
    exact⟨v,D,rfl,set_of hnd hb hp (by rw[hDl];exact hs),ho,hlow,hlen⟩
   rw[aR hlt]
   simp only[p_cond_t]
   refine rg (λl' h'=>l'=[]/\∃D',OwnL H.length h' v 3 cc3 D'/\Low H.length H h'/\H.length<=h'.length/\D'.Perm (L.flatMap quad)/\SS keyC 0 (i+1) D') ?_ ?_
   ·rintro _ h' ⟨rfl,D',b1,b2,b3,b4,b5⟩
    refine p_x ?_
    rw[aU (by omega)]
    exact hself (h',D') hlt ⟨b1,b2,b3,b4,b5⟩
   ·intro jn hjn
    refine gZ (m:=i) (λm ls h'=>∃k D',ls=[.i (Int.ofNat k)]/\k=m/\k<=i/\OwnL H.length h' v 3 cc3 D'/\Low H.length H h'/\H.length<=h'.length/\D'.Perm (L.flatMap quad)/\InsI keyC 0 i k D') ⟨i,D,rfl,rfl,qaf _,ho,hlow,hlen,hp,InsI.start hs⟩ ?_
    clear ho hlow hlen hp hs hDl
    rintro m ls h' ⟨k,D',rfl,rfl,hki,ho,hlow,hlen,hp,hI⟩ self2 hself2
    have hDl:D'.length=4*L.length:=hp.length_eq.trans hD
    have hin:∀a∈D',inC a:=λa ha=>by
     have h:=nB.1 (hp.mem_iff.1 ha)
     have:=hb _ h.1
     exact⟨⟨this.1,this.2.1⟩,⟨this.2.2.1,this.2.2.2⟩,h.2⟩
    refine hidL ?_
    refine p_x ?_
    by_cases hk0:k=0
    ·subst hk0
     rw[p_gtr_f (by show((0:Nat):Int)<=0;omega)]
     refine p_x ?_
     exact hjn _ _ ⟨rfl,D',ho,hlow,hlen,hp,hI.done ⟨qaf _,by omega⟩ (.inl rfl)⟩
    ·rw[p_gtr_t (by show(0:Int)<(k:Int);omega)]
     refine p_x ?_
     obtain⟨a,ha⟩:=aY (l:=D') (i:=k) (by omega)
     obtain⟨b,hb'⟩:=aY (l:=D') (i:=k - 1) (by omega)
     have hia:=hin a (qab ha)
     have hib:=hin b (qab hb')
     refine aV (ho.ls bM) rfl ha ?_
     simp only[cc3]
     refine p_x ?_
     rw[fP (by omega) (by omega)]
     refine aV (ho.ls bM) rfl hb' ?_
     simp only[cc3]
     refine p_x ?_
     refine ae (before_c (a:=a) (b:=b) hia hib ⟨rfl,rfl,rfl⟩ ⟨rfl,rfl,rfl⟩) ?_
     refine p_x ?_
     by_cases hlt2:keyC a<keyC b
     ·rw[qdx hlt2]
      refine p_x ?_
      rw[fP (by omega) (by omega)]
      try rw[fP (by omega) (by omega)]
      refine aV (ho.ls bM) rfl hb' ?_
      simp only[cc3]
      refine p_x ?_
      refine aV (ho.ls bM) rfl ha ?_
      simp only[cc3]
      refine p_x ?_
      refine ho.set (i:=k) (a:=b) bM rfl (by omega) rfl λh3 c1 c2 c3=>?_
      try simp(disch:=omega)only[↓qXX]
      refine c1.set (i:=k - 1) (a:=a) bM rfl (by rw[qbx];omega) rfl λh4 d1 d2 d3=>?_
      try simp(disch:=omega)only[↓qXX]
      try rw[fP (by omega) (by omega)]
      refine hself2 (k - 1) _ _ (by omega) ⟨k - 1,_,rfl,rfl,by omega,d1,λi' o hi' hoo=>d2 i' o (c2 i' o (hlow i' o hi' hoo) λe=>?_) λe=>?_,by omega,?_,hI.step ⟨by omega,hki⟩ ha hb' hlt2⟩
      ·have:=ho.blk e;omega
      ·have:=ho.blk e;omega
      ·exact(SP.swap (a:=0) (b:=4*L.length) ha hb' (by omega) (by omega)).1.trans hp
     ·rw[qdw hlt2]
      refine p_x ?_
      exact hjn _ _ ⟨rfl,D',ho,hlow,hlen,hp,hI.done ⟨qaX _,hki⟩ (.inr ⟨a,b,ha,hb',by omega⟩)⟩)
def cmpI(a b:Int):Int:=if a<b then -1 else if b<a then 1 else 0
def orI:List Int->Int
 | []=>0
 |a :: l=>if a=0 then orI l else a
theorem cmpI_0{a b:Int}:cmpI a b=0↔a=b:=by
 unfold cmpI
 split
 ·constructor
  ·intro h;omega
  ·intro h;omega
 ·split
  ·constructor
   ·intro h;omega
   ·intro h;omega
  ·constructor
   ·intro _;omega
   ·intro _;rfl
def encQ(p:Int×Int):Tl:=[.int .i64 p.1,.int .i64 p.2]
def qp(p:Int×Int):(encQ p).length=2:=rfl
def nan_c(a:Int):Cc 67 [.i a] [.b false]:=by
 refine q67 rfl ?_;unfold f67;simp only[qxh]
 simp(disch:=omega)only[↓qXX]
def cmp_c(a b:Int):Cc 58 [.i a,.i b] [.i (cmpI a b)]:=by
 refine q58 rfl ?_;unfold f58;simp only[qxh]
 repeat (first|simp(disch:=omega)only[↓qXX]|refine ae (nan_c a) ?_|refine ae (nan_c b) ?_)
 unfold cmpI
 by_cases h1:a<b
 ·simp(disch:=omega)only[↓qXX]
  simp[h1]
 ·by_cases h2:b<a
  ·simp(disch:=omega)only[↓qXX]
   simp[h1,h2]
  ·simp(disch:=omega)only[↓qXX]
   simp[h1,h2]
def re{l:List Int}{j:Nat}{a:Int}(ha:l[j]?=some a):orI (l.drop j)=if a=0 then orI (l.drop (j+1))else a:=by
 rw[qaY (aM ha)]
 have h1:l[j]'(aM ha)=a:=by rw[qai (aM ha)]at ha;exact qae ha
 rw[h1]
 rfl
def ord_c{h:HL}{x:Value}{l:List (Int×Int)}(hl:LsH h x 2 encQ l)(hb:l.length<=1000) :
  aK cc ab 44 [.v x] (absH aa h) [.i (orI (l.map λp=>cmpI p.1 p.2))] (absH aa h):=by
 exact xK x44 (glsV hl.good gls0) (by
  unfold f44;simp only[qxh]
  refine p_x ?_
  refine bc hl ?_
  refine dU l.length (λj=>orI (l.map λp=>cmpI p.1 p.2)=orI ((l.map λp=>cmpI p.1 p.2).drop j)) (j0:=0) rfl (qaX _) rfl ?_
  intro j hj he self hself
  refine p_x ?_
  by_cases hlt:j<l.length
  ·rw[aR hlt]
   refine p_x ?_
   obtain⟨p,hp⟩:=aY hlt
   refine aV hl rfl hp ?_
   unfold encQ
   repeat (first|simp(disch:=omega)only[↓qXX]|refine ae (cmp_c p.1 p.2) ?_)
   rw[re (a:=cmpI p.1 p.2) (by rw[qax,hp];rfl)]at he
   by_cases h0:cmpI p.1 p.2=0
   ·rw[p_neq_f h0]
    refine p_x ?_
    rw[aU (by omega)]
    rw[qdy h0]at he
    exact hself hlt he
   ·rw[p_neq_t h0]
    refine p_x ?_
    rw[qdz h0]at he
    exact⟨by rw[he],by trivial⟩
  ·obtain rfl:j=l.length:=by omega
   rw[bi (qaf _)]
   refine p_x ?_
   refine⟨?_,by trivial⟩
   rw[he,qbu (by rw[qaF];exact qaf _)]
   rfl)
def vd{x y q x' y' q':Int}(hq:0<=q/\q<=255)(hq':0<=q'/\q'<=255):Cc 30 [.i x,.i y,.i q,.i x',.i y',.i q'] [.i (orI [cmpI y y',cmpI x x',cmpI q q'])]:=by
 refine q30 rfl ?_;unfold f30;simp only[qxh]
 refine p_x ?_
 refine am (h':=[]++[HO.o (.cells [.int .i64 y,.int .i64 y',.int .i64 x,.int .i64 x',.int .i64 q,.int .i64 q'] 2 true)]) (ord_c (l:=[(y,y'),(x,x'),(q,q')]) ?_ (by simp)) ?_
 ·exact newE_ls (h:=[]) (e:=2) (enc:=encQ) (l:=[(y,y'),(x,x'),(q,q')]) qp (by rfl)
 ·simp(disch:=omega)only[↓qXX]
  rfl
def cell_lt{a b:K3}(ha:a.2.2<4)(hb:b.2.2<4)(h:ltC3 a b):Cc 30 [.i a.1,.i a.2.1,.i (Int.ofNat a.2.2),.i b.1,.i b.2.1,.i (Int.ofNat b.2.2)] [.i (-1)]:=by
 have hc:=vd (x:=a.1) (y:=a.2.1) (q:=Int.ofNat a.2.2) (x':=b.1) (y':=b.2.1) (q':=Int.ofNat b.2.2) (by show(0:Int)<=((a.2.2:Nat):Int)/\((a.2.2:Nat):Int)<=255;omega) (by show(0:Int)<=((b.2.2:Nat):Int)/\((b.2.2:Nat):Int)<=255;omega)
 have e:orI [cmpI a.2.1 b.2.1,cmpI a.1 b.1,cmpI (Int.ofNat a.2.2) (Int.ofNat b.2.2)] = -1:=by
  have e3:(Int.ofNat a.2.2<Int.ofNat b.2.2)=(a.2.2<b.2.2):=by
   show((a.2.2:Int)<(b.2.2:Int))=_
   simp
  unfold ltC3 at h
  simp only[orI,cmpI,e3]
  rcases h with h|⟨h1,h|⟨h2,h⟩⟩
  ·simp[h]
  ·simp[h1,h]
  ·simp[h1,h2,h]
 rw[e]at hc
 exact hc
abbrev cloW:Value:=.func (.func 42) ⟨[]⟩ ⟨[]⟩
def sa{a:K3}(h:inC a):Cc 43 [.i a.1,.i a.2.1,.i (Int.ofNat a.2.2)] [.i 0]:=by
 obtain⟨⟨a1,a2⟩,⟨a3,a4⟩,a5⟩:=h
 have hq:Int.ofNat a.2.2<=3:=by show((a.2.2:Nat):Int)<=3;omega
 refine q43 rfl ?_;unfold f43;simp only[qxh]
 simp(disch:=omega)only[↓qXX]
def rL{a:K3}(h:inC a):Cc 42 [.i a.1,.i a.2.1,.i (Int.ofNat a.2.2)] [.b false]:=by
 refine q42 rfl ?_;unfold f42;simp only[qxh]
 refine p_x ?_
 refine ae (sa h) ?_
 simp(disch:=omega)only[↓qXX]
def qL{h:HL}{x:Value}{l:List K3}(hl:LsH h x 3 cc3 l)(hok:∀c∈l,inC c)(hn:l.length<=100000):aK cc ab 57 [.v x,.v cloW] (absH aa h) [.i (-1)] (absH aa h):=by
 exact xK x57 (glsV hl.good (glsV rfl gls0)) (by
  unfold f57;simp only[qxh]
  refine p_x ?_
  refine bc hl ?_
  refine dU l.length (λ_=>True) rfl (qaX _) trivial ?_
  intro j hj _ self hself
  refine p_x ?_
  by_cases hlt:j<l.length
  ·rw[aR hlt]
   refine p_x ?_
   obtain⟨c,hc⟩:=aY hlt
   refine aV hl rfl hc ?_
   unfold cc3
   repeat (first|simp(disch:=omega)only[↓qXX]|refine fR (lJ (rL (hok c (qab hc)) _) rfl [.agg [.i .i64 c.1,.i .i64 c.2.1,.i .u8 (Int.ofNat c.2.2)]] rfl rfl) ?_)
   rw[aU (by omega)]
   exact hself hlt trivial
  ·rw[bi (by omega)]
   simp(disch:=omega)only[↓qXX]
   trivial)
def uV{h:HL}{x:Value}{l:List K3}(hl:LsH h x 3 cc3 l)(hok:∀c∈l,inC c)(hn:l.length<=100000):aK cc ab 29 [.v x] (absH aa h) [.b false] (absH aa h):=by
 have h1:=qL hl hok hn
 have h3:aK cc ab 41 [.v x,.v cloW] (absH aa h) [.b false] (absH aa h):=xK x41 (glsV hl.good (glsV rfl gls0)) (by
  unfold f41;simp only[qxh]
  repeat (first|simp(disch:=omega)only[↓qXX]|refine am h1 ?_)
  trivial)
 exact xK x29 (glsV hl.good gls0) (by
  unfold f29;simp only[qxh]
  repeat (first|simp(disch:=omega)only[↓qXX]|refine aq rfl ?_|refine am h3 ?_)
  trivial)
def scheck_c{h:HL}{x:Value}{l:List K3}(hl:LsH h x 3 cc3 l)(hok:∀c∈l,inC c)(hn:l.length<=1000)(hs:∀(i j:Nat) a b,i<j->l[i]?=some a->l[j]?=some b->ltC3 a b):aK cc ab 13 [.v x] (absH aa h) [.i 0] (absH aa h):=by
 exact xK x13 (glsV hl.good gls0) (by
  unfold f13;simp only[qxh]
  refine p_x ?_
  refine bc hl ?_
  rw[p_gtr_f (by show(l.length:Int)<=1024;omega)]
  repeat (first|simp(disch:=omega)only[↓qXX]|refine am (uV hl hok (by omega)) ?_)
  refine gZ (m:=l.length) (λm ls h'=>h'=h/\∃j:Nat,ls=[.i (Int.ofNat j)]/\1<=j/\m=l.length+1 - j/\j<=l.length+1) ⟨rfl,1,rfl,qaf _,by omega,by omega⟩ ?_
  rintro m ls _ ⟨rfl,j,rfl,hj1,rfl,hj2⟩ self hself
  refine hidL ?_
  refine p_x ?_
  refine bc hl ?_
  by_cases hlt:j<l.length
  ·rw[aR hlt]
   refine p_x ?_
   obtain⟨a,ha⟩:=aY (l:=l) (i:=j - 1) (by omega)
   obtain⟨b,hb⟩:=aY hlt
   rw[fP hj1 (by omega)]
   refine aV hl rfl ha ?_
   unfold cc3
   refine p_x ?_
   refine aV hl rfl hb ?_
   unfold cc3
   refine p_x ?_
   refine ae (cell_lt (hok a (qab ha)).2.2 (hok b (qab hb)).2.2 (hs (j - 1) j a b (by omega) ha hb)) ?_
   refine p_x ?_
   rw[aU (by omega)]
   exact hself _ _ _ (by omega) ⟨rfl,j+1,rfl,by omega,rfl,by omega⟩
  ·rw[bi (by omega)]
   simp(disch:=omega)only[↓qXX]
   trivial)
def eP:aggT cc.P 30=some true:=by kernel_rfl
def dO:flatK cc.P 10000 30=some kk3:=by kernel_rfl
def tN{H:HL}{x:Value}{L:List Sq}{D:List K3}(hD:SetOf L D)(hl:LsH H x 3 cc3 D)(hn:D.length<=1000) :
  ∃rs h',aK cc ab 20 [.v x] (absH aa H) rs (absH aa h')/\∃o ks,rs=[.v (.map (some H.length))]/\h'=H++[o]/\Set3 h' H.length ks/\ks.Nodup/\∀a,a∈ks↔∃c,c∈L/\a=sqC c:=by
 exact x20 (K:=λrs h'=>∃o ks,rs=[.v (.map (some H.length))]/\h'=H++[o]/\Set3 h' H.length ks/\ks.Nodup/\∀a,a∈ks↔∃c,c∈L/\a=sqC c) (glsV hl.good gls0) (by
  unfold f20;simp only[qxh]
  refine p_x ?_
  refine bc hl ?_
  refine cF (σ:=HO×List K3) D.length (λj _=>[.i (Int.ofNat j)]) (λ_ s=>H++[s.1]) (λj s=>Set3 (H++[s.1]) H.length s.2/\s.2.Nodup/\∀a,a∈s.2↔∃d i,i<j/\D[i]?=some d/\a=sqC (d.1,d.2.1)) (j0:=0) (s0:=(.o (.map [] 0),[])) rfl rfl (qaX _) ⟨⟨[],0,aH,rfl,λe he=>by cases he⟩,qcN,λa=>⟨λh=>(by cases h),λ⟨d,i,hi,_⟩=>(by omega)⟩⟩ ?_
  rintro j ⟨o,ks⟩ hj ⟨hs,hnd,hm⟩ self hself
  simp only at hs hnd hm hself
  refine p_x ?_
  by_cases hlt:j<D.length
  ·rw[aR hlt]
   refine p_x ?_
   obtain⟨d,hd⟩:=aY hlt
   refine aV (hl.pre (h':=H++[o]) ⟨_,rfl⟩) rfl hd ?_
   unfold cc3
   refine p_x ?_
   refine r_mu3 (kt:=30) eP dO hs (sqC (d.1,d.2.1)) λo' hs'=>?_
   have e1:(H++[o]).set H.length o'=H++[o']:=dL
   rw[e1]at hs' ⊢
   rw[aU (by omega)]
   generalize hke:(if sqC (d.1,d.2.1)∈ks then ks else ks++[sqC (d.1,d.2.1)])=ks' at hs'
   refine hself (o',ks') hlt ⟨hs',?_,λa=>?_⟩
   ·show ks'.Nodup
    rw[←hke]
    split
    ·exact hnd
    next hk=>
     rw[qbZ]
     refine⟨hnd,by simp,λa ha b hb=>?_⟩
     simp only[qap]at hb
     subst hb
     exact λe=>hk (e▸ha)
   ·show a∈ks'↔_
    rw[←hke]
    have e2:a∈(if sqC (d.1,d.2.1)∈ks then ks else ks++[sqC (d.1,d.2.1)])↔a∈ks∨a=sqC (d.1,d.2.1):=by
     split
     next hk=>
      exact⟨.inl,λh=>h.elim id λe=>e▸hk⟩
     ·simp
    rw[e2,hm]
    constructor
    ·rintro(⟨d',i,hi,h1,h2⟩|h)
     ·exact⟨d',i,by omega,h1,h2⟩
     ·exact⟨d,j,by omega,hd,h⟩
    ·rintro⟨d',i,hi,h1,h2⟩
     by_cases hij:i=j
     ·subst hij
      rw[hd]at h1
      cases h1
      exact .inr h2
     ·exact .inl ⟨d',i,by omega,h1,h2⟩
  ·obtain rfl:j=D.length:=by omega
   rw[bi (qaf _)]
   refine p_x ?_
   refine⟨o,ks,by trivial,by trivial,hs,hnd,λa=>(hm a).trans ⟨?_,?_⟩⟩
   ·rintro⟨d,i,_,h1,h2⟩
    exact⟨_,(hD.mem.1 (qab h1)).1,h2⟩
   ·rintro⟨c,hc,h2⟩
    have hq:((c.1,c.2,0):K3)∈D:=hD.mem.2 ⟨hc,by show 0<4;omega⟩
    obtain⟨i,hi⟩:=qaW hq
    exact⟨_,i,aM hi,hi,h2⟩)
def va{c:Sq}{k:Nat}(hk:k<4)(hc:(-1000<=c.1/\c.1<=1000)/\-1000<=c.2/\c.2<=1000){q:Int}:Cc 22 [.i c.1,.i c.2,.i q,.i (Int.ofNat k)] [.i (bes c k).1,.i (bes c k).2,.i 0]:=by
 have hk':k=0∨k=1∨k=2∨k=3:=by omega
 refine q22 rfl ?_;unfold f22;simp only[qxh]
 rcases hk' with rfl|rfl|rfl|rfl
 ·try simp(disch:=omega)only[↓qXX]
  try refine af (x:=()) (by kernel_rfl) ?_
  refine af (x:=[.int .i64 1]) (by kernel_rfl) ?_
  simp(disch:=omega)only[↓qXX]
  try refine af (x:=()) (by kernel_rfl) ?_
  refine af (x:=[.int .i64 0]) (by kernel_rfl) ?_
  refine p_x ?_
  simp[bes]
  try omega
 ·try simp(disch:=omega)only[↓qXX]
  try refine af (x:=()) (by kernel_rfl) ?_
  refine af (x:=[.int .i64 0]) (by kernel_rfl) ?_
  simp(disch:=omega)only[↓qXX]
  try refine af (x:=()) (by kernel_rfl) ?_
  refine af (x:=[.int .i64 1]) (by kernel_rfl) ?_
  refine p_x ?_
  simp[bes]
  try omega
 ·try simp(disch:=omega)only[↓qXX]
  try refine af (x:=()) (by kernel_rfl) ?_
  refine af (x:=[.int .i64 (-1)]) (by kernel_rfl) ?_
  simp(disch:=omega)only[↓qXX]
  try refine af (x:=()) (by kernel_rfl) ?_
  refine af (x:=[.int .i64 0]) (by kernel_rfl) ?_
  refine p_x ?_
  simp[bes]
  try omega
 ·try simp(disch:=omega)only[↓qXX]
  try refine af (x:=()) (by kernel_rfl) ?_
  refine af (x:=[.int .i64 0]) (by kernel_rfl) ?_
  simp(disch:=omega)only[↓qXX]
  try refine af (x:=()) (by kernel_rfl) ?_
  refine af (x:=[.int .i64 (-1)]) (by kernel_rfl) ?_
  refine p_x ?_
  simp[bes]
  try omega
def bes_bd{c:Sq}{k:Nat}(hk:k<4){b:Int}(hc:(-b<=c.1/\c.1<=b)/\-b<=c.2/\c.2<=b):(-(b+1)<=(bes c k).1/\(bes c k).1<=b+1)/\-(b+1)<=(bes c k).2/\(bes c k).2<=b+1:=by
 have hk':k=0∨k=1∨k=2∨k=3:=by omega
 rcases hk' with rfl|rfl|rfl|rfl<;>simp only[bes]<;>omega
def Keys(L:List Sq)(ks:List K3):Prop:=ks.Nodup/\∀a,a∈ks↔∃c,c∈L/\a=sqC c
def Keys.sq{L:List Sq}{ks:List K3}(h:Keys L ks){c:Sq}:sqC c∈ks↔c∈L:=by
 rw[h.2]
 exact⟨λ⟨d,hd,e⟩=>nM e▸hd,λhc=>⟨c,hc,rfl⟩⟩
def Keys.len{L:List Sq}{ks:List K3}(h:Keys L ks)(hL:L.Nodup):ks.length=L.length:=by
 have h1:(L.map sqC).Nodup:=by
  exact qcy.2 (List.Pairwise.imp (λh e=>h (nM e)) hL)
 have h2:=cW (a:=ks) (b:=L.map sqC) h.1 λa ha=>by
  obtain⟨c,hc,rfl⟩:=(h.2 a).1 ha
  exact qck hc
 have h3:=cW (a:=L.map sqC) (b:=ks) h1 λa ha=>by
  obtain⟨c,hc,rfl⟩:=qaM.1 ha
  exact(h.2 _).2 ⟨c,hc,rfl⟩
 simp only[qaF]at h2 h3
 omega
abbrev cloK(b:Nat):Value:=.func (.func 33) ⟨[]⟩ ⟨[ptrB (b+1),ptrB (b+3),ptrB (b+4)]⟩
structure CS(b:Nat)(L:List Sq)(h:HL)(S:List Sq):Prop where
 al:∃ks,Set3 h b ks/\Keys L ks
 pa:h[b+1]?=some (.o (.cells [.map (some b)] 1 true))
 st:Set3 h (b+2) (S.map sqC)
 ps:h[b+3]?=some (.o (.cells [.map (some (b+2))] 1 true))
 pv:h[b+4]?=some (.o (.cells [cloK b] 1 true))
def CS.put{b:Nat}{L:List Sq}{h:HL}{S S':List Sq}(hc:CS b L h S){o:HO}(hs:Set3 (h.set (b+2) o) (b+2) (S'.map sqC)):CS b L (h.set (b+2) o) S':=by
 obtain⟨ks,h1,h2⟩:=hc.al
 exact⟨⟨ks,h1.keep λo' ho=>bA ho (by omega),h2⟩,bA hc.pa (by omega),hs,bA hc.ps (by omega),bA hc.pv (by omega)⟩
def seen_c{b:Nat}{L:List Sq}(hL:∀c∈L,(-100<=c.1/\c.1<=100)/\-100<=c.2/\c.2<=100):∀n,∀(c:Sq) (h:HL) (S:List Sq),CS b L h S->S.Nodup->(∀x∈S,x∈L)->((-200<=c.1/\c.1<=200)/\-200<=c.2/\c.2<=200)->free L S<=n->
  ∃rs h',aK cc ab 33 [.i c.1,.i c.2,.i 0,.v (ptrB (b+1)),.v (ptrB (b+3)),.v (ptrB (b+4))] (absH aa h) rs (absH aa h')/\rs=[]/\
   ∃S',CS b L h' S'/\Low b h h'/\h'.length=h.length/\(∀x∈S,x∈S')/\S'.Nodup/\(∀x∈S',x∈L)/\(c∈L->c∈S')/\∀x∈S',x∉S->∀k,k<4->bes x k∈L->bes x k∈S':=by
 intro n
 induction n using Nat.strongRecOn with
 |ind n ih=>
  intro c h S hS hnd hsub hc hf
  refine x33 (K:=λrs h'=>rs=[]/\∃S',CS b L h' S'/\Low b h h'/\h'.length=h.length/\(∀x∈S,x∈S')/\S'.Nodup/\(∀x∈S',x∈L)/\(c∈L->c∈S')/\∀x∈S',x∉S->∀k,k<4->bes x k∈L->bes x k∈S') (glsI (glsI (glsI (glsV (eW _) (glsV (eW _) (glsV (eW _) gls0)))))) ?_
  obtain⟨ks,hall,hkeys⟩:=hS.al
  unfold f33;simp only[qxh]
  refine p_x ?_
  refine cP (bG hS.pa) rfl ?_
  refine p_x ?_
  refine aq rfl ?_
  refine p_x ?_
  refine r_lu3 (kt:=30) eP dO hall (sqC c) ?_
  refine p_x ?_
  by_cases hcL:c∈L
  case neg=>
   rw[qdw (λe=>hcL (hkeys.sq.1 e))]
   simp(disch:=omega)only[↓qXX,qba]
   exact⟨trivial,S,hS,Low.refl _,by trivial,λx hx=>hx,hnd,hsub,λe=>absurd e hcL,λx hx hn=>absurd hx hn⟩
  rw[qdx (hkeys.sq.2 hcL)]
  simp(disch:=omega)only[↓qXX,qaE]
  refine cP (bG hS.ps) rfl ?_
  refine p_x ?_
  refine aq rfl ?_
  refine p_x ?_
  refine r_lu3 (kt:=30) eP dO hS.st (sqC c) ?_
  refine p_x ?_
  by_cases hcS:c∈S
  ·rw[qdx (nN.2 hcS)]
   refine p_x ?_
   exact⟨trivial,S,hS,Low.refl _,by trivial,λx hx=>hx,hnd,hsub,λ_=>hcS,λx hx hn=>absurd hx hn⟩
  rw[qdw (λe=>hcS (nN.1 e))]
  refine p_x ?_
  refine cP (bG hS.ps) rfl ?_
  refine p_x ?_
  refine aq rfl ?_
  refine p_x ?_
  refine r_mu3 (kt:=30) eP dO hS.st (sqC c) λo ho=>?_
  rw[qdz (λe=>hcS (nN.1 e))]at ho
  have ho':Set3 (h.set (b+2) o) (b+2) ((S++[c]).map sqC):=by rw[qbL];exact ho
  have hS1:=hS.put ho'
  have hf1:free L (S++[c])<free L S:=jV (λx hx=>qaH _ hx) hcL hcS (qaK _ (by simp))
  have hnd1:(S++[c]).Nodup:=by
   rw[qbZ]
   refine⟨hnd,by simp,λa ha d hd=>?_⟩
   simp only[qap]at hd
   subst hd
   exact λe=>hcS (e▸ha)
  have hsub1:∀x∈S++[c],x∈L:=λx hx=>by
   rcases qao.1 hx with hx|hx
   ·exact hsub x hx
   ·simp only[qap]at hx
    subst hx;exact hcL
  have hcb:=hL c hcL
  refine cF (σ:=HL×List Sq) 4 (λj _=>[.i (Int.ofNat j)]) (λ_ s=>s.1) (λj s=>CS b L s.1 s.2/\Low b h s.1/\s.1.length=h.length/\(∀x∈S++[c],x∈s.2)/\s.2.Nodup/\(∀x∈s.2,x∈L)/\(∀x∈s.2,x∉S++[c]->∀k,k<4->bes x k∈L->bes x k∈s.2)/\∀k,k<j->bes c k∈L->bes c k∈s.2) (j0:=0) (s0:=(h.set (b+2) o,S++[c])) rfl rfl (qaX _) ⟨hS1,(Low.refl h).set (by omega) _,by simp,λx hx=>hx,hnd1,hsub1,λx hx hn=>absurd hx hn,λk hk=>by omega⟩ ?_
  rintro j ⟨h2,S2⟩ hj ⟨hS2,hlow,hlen,hin,hnd2,hsub2,hcl,hdone⟩ self hself
  simp only at hS2 hlow hlen hin hnd2 hsub2 hcl hdone hself
  refine p_x ?_
  by_cases hlt:j<4
  ·rw[p_lss_t (by show(j:Int)<4;omega)]
   refine p_x ?_
   refine cP (bG hS2.pv) rfl ?_
   refine p_x ?_
   refine aq rfl ?_
   refine p_x ?_
   refine ae (va (c:=c) hlt ⟨by omega,by omega⟩) ?_
   refine p_x ?_
   have hbb:=bes_bd hlt hcb
   obtain⟨rs,h3,hcall,rfl,S3,hS3,hlow3,hlen3,hin3,hnd3,hsub3,hc3,hcl3⟩:=ih (free L (S++[c])) (by omega) (bes c j) h2 S2 hS2 hnd2 hsub2 ⟨by omega,by omega⟩ (fo hin)
   refine fR (gk (args:=[.agg ⟨cc3 (sqC (bes c j))⟩]) hcall rfl [.agg [.i .i64 (bes c j).1,.i .i64 (bes c j).2,.i .u8 0],.leaf (.v (ptrB (b+1))),.leaf (.v (ptrB (b+3))),.leaf (.v (ptrB (b+4)))] rfl rfl rfl) ?_
   refine p_x ?_
   rw[aU (by omega)]
   refine hself (h3,S3) hlt ⟨hS3,hlow.trans hlow3,by show h3.length=h.length;omega,λx hx=>hin3 x (hin x hx),hnd3,hsub3,λx hx hn k hk hb=>?_,λk hk hb=>?_⟩
   ·by_cases hx2:x∈S2
    ·exact hin3 _ (hcl x hx2 hn k hk hb)
    ·exact hcl3 x hx hx2 k hk hb
   ·by_cases hkj:k=j
    ·subst hkj
     exact hc3 hb
    ·exact hin3 _ (hdone k (by omega) hb)
  ·obtain rfl:j=4:=by omega
   rw[p_lss_f (by show(4:Int)<=((4:Nat):Int);omega)]
   refine p_x ?_
   refine⟨trivial,S2,hS2,hlow,hlen,λx hx=>hin x (qaH _ hx),hnd2,hsub2,λ_=>hin c (qaK _ (by simp)),λx hx hn k hk hb=>?_⟩
   by_cases hxc:x=c
   ·subst hxc
    exact hdone k hk hb
   ·exact hcl x hx (λe=>by
     rcases qao.1 e with e|e
     ·exact hn e
     ·exact hxc (by simpa using e)) k hk hb
def check_c{H:HL}{x:Value}{L:List Sq}{D:List K3}(hl:LsH H x 3 cc3 D)(hD:SetOf L D)(h0:0<L.length)(hn:L.length<=200)(hnd:L.Nodup)(hcon:Con L)(hb:∀c∈L,(-100<=c.1/\c.1<=100)/\-100<=c.2/\c.2<=100) :
  ∃h',aK cc ab 16 [.v x] (absH aa H) [.i 0] (absH aa h')/\Low H.length H h'/\H.length<=h'.length:=by
 have hDl:=hD.len
 have hin:∀a∈D,inC a:=λa ha=>by
  have h:=hD.mem.1 ha
  have:=hb _ h.1
  exact⟨this.1,this.2,h.2⟩
 obtain⟨a0,ha0⟩:=aY (l:=D) (i:=0) (by omega)
 have hm0:=(hD.mem.1 (qab ha0)).1
 have hb0:=hb _ hm0
 obtain⟨rs,h',e1,rfl,e2⟩:=x16 (ls:=[.v x]) (H:=H) (K:=λrs h'=>rs=[.i 0]/\Low H.length H h'/\H.length<=h'.length) (glsV hl.good gls0) (by
  unfold f16;simp only[qxh]
  repeat (first|simp(disch:=omega)only[↓qXX]|refine am (scheck_c hl hin (by omega) hD.srt) ?_)
  refine bc hl ?_
  rw[p_eql_f (by show((D.length:Nat):Int)≠0;omega)]
  refine p_x ?_
  obtain⟨rs,h1,hcall,o,ks,rfl,rfl,hset,hknd,hkm⟩:=tN hD hl (by omega)
  refine am hcall ?_
  have hkeys:Keys L ks:=⟨hknd,hkm⟩
  refine p_x ?_
  have g0:(H++[o]).length=H.length+1:=by simp
  refine io aH rfl ?_
  rw[dL,g0]
  try simp(disch:=omega)only[↓qXX]
  refine cP (bG (h:=H++[o]++[HO.o (.cells [.map (some H.length)] 1 true)]) (b:=H.length+1) (by rw[←g0];exact aH)) rfl ?_
  refine p_x ?_
  refine aq rfl ?_
  refine p_x ?_
  have hset2:Set3 (H++[o]++[HO.o (.cells [.map (some H.length)] 1 true)]) H.length ks:=hset.keep λ_ ho=>bv ho
  refine r_len3 hset2 ?_
  refine p_x ?_
  rw[hkeys.len hnd]
  rw[p_mul (by show(-9223372036854775808:Int)<=4*(L.length:Int);omega) (by show 4*(L.length:Int)<=9223372036854775807;omega)]
  refine bc (hl.pre (h':=H++[o]++[HO.o (.cells [.map (some H.length)] 1 true)]) ((Pre.refl H).app _ |>.app _)) ?_
  rw[p_neq_f (by show 4*(L.length:Int)=(D.length:Int);omega)]
  refine p_x ?_
  have hp1:(H++[o]++[HO.o (.cells [.map (some H.length)] 1 true)])[H.length+1]?=some (.o (.cells [.map (some H.length)] 1 true)):=by rw[←g0];exact aH
  have hP1:Pre H (H++[o]++[HO.o (.cells [.map (some H.length)] 1 true)]):=(Pre.refl H).app _ |>.app _
  have g1:(H++[o]++[HO.o (.cells [.map (some H.length)] 1 true)]).length=H.length+2:=by simp
  generalize H++[o]++[HO.o (.cells [.map (some H.length)] 1 true)]=h1 at *
  have g2:(h1++[HO.o (.map [] 0)]).length=H.length+3:=by simp[g1]
  rw[g1,g2]
  refine io (vs:=[.map none]) (by rw[←g2];exact aH) rfl ?_
  rw[←g2,dL,g2]
  try simp(disch:=omega)only[↓qXX]
  have g3:(h1++[HO.o (.map [] 0)]++[HO.o (.cells [.map (some (H.length+2))] 1 true)]).length=H.length+4:=by simp[g1]
  have hS0:Set3 (h1++[HO.o (.map [] 0)]++[HO.o (.cells [.map (some (H.length+2))] 1 true)]) (H.length+2) []:=⟨[],0,bv (by rw[←g1];exact aH),rfl,λe he=>by cases he⟩
  have hA:Set3 (h1++[HO.o (.map [] 0)]++[HO.o (.cells [.map (some (H.length+2))] 1 true)]) H.length ks:=hset2.keep λ_ ho=>bv (bv ho)
  have hp1':(h1++[HO.o (.map [] 0)]++[HO.o (.cells [.map (some (H.length+2))] 1 true)])[H.length+1]?=some (.o (.cells [.map (some H.length)] 1 true)):=bv (bv hp1)
  have hp3:(h1++[HO.o (.map [] 0)]++[HO.o (.cells [.map (some (H.length+2))] 1 true)])[H.length+3]?=some (.o (.cells [.map (some (H.length+2))] 1 true)):=by rw[←g2];exact aH
  have hP2:Pre H (h1++[HO.o (.map [] 0)]++[HO.o (.cells [.map (some (H.length+2))] 1 true)]):=(hP1.app _).app _
  generalize h1++[HO.o (.map [] 0)]++[HO.o (.cells [.map (some (H.length+2))] 1 true)]=h2 at *
  clear hset2 hp1 hP1 g1 g2
  rw[g3]
  refine aq rfl ?_
  refine io (vs:=[.nilFunc]) (by rw[←g3];exact aH) rfl ?_
  rw[←g3,dL,g3]
  try simp(disch:=omega)only[↓qXX]
  have hv:(h2++[HO.o (.cells [cloK H.length] 1 true)])[H.length+4]?=some (.o (.cells [cloK H.length] 1 true)):=by rw[←g3];exact aH
  have hCS:CS H.length L (h2++[HO.o (.cells [cloK H.length] 1 true)]) []:=⟨⟨ks,hA.keep λ_ ho=>bv ho,hkeys⟩,bv hp1',hS0.keep λ_ ho=>bv ho,bv hp3,hv⟩
  have hP3:Pre H (h2++[HO.o (.cells [cloK H.length] 1 true)]):=hP2.app _
  refine cP (bG hv) rfl ?_
  refine p_x ?_
  refine aq rfl ?_
  refine p_x ?_
  refine tz (o:=0) (k:=1) (a:=a0) (i:=0) (hl.pre hP3) rfl ha0 rfl (by omega) ?_
  simp only[cc3,qa1,qa7,qbB]
  refine p_x ?_
  refine tz (o:=1) (k:=1) (a:=a0) (i:=0) (hl.pre hP3) rfl ha0 rfl (by omega) ?_
  simp only[cc3,qbK,qa1,qa7,qbB]
  refine p_x ?_
  obtain⟨rs,h3,hcall,rfl,S3,hS3,hlow3,hlen3,hin3,hnd3,hsub3,hc3,hcl3⟩:=seen_c (b:=H.length) hb (free L []) (a0.1,a0.2.1) _ [] hCS qcN (λx hx=>by cases hx) ⟨by omega,by omega⟩ (qaf _)
  refine fR (gk (args:=[.agg ⟨cc3 (sqC (a0.1,a0.2.1))⟩]) hcall rfl [.agg [.i .i64 a0.1,.i .i64 a0.2.1,.i .u8 0],.leaf (.v (ptrB (H.length+1))),.leaf (.v (ptrB (H.length+3))),.leaf (.v (ptrB (H.length+4)))] rfl rfl rfl) ?_
  refine p_x ?_
  have hall:=con_all hcon hsub3 ⟨_,hc3 hm0⟩ λx hx k hk hb=>hcl3 x hx (by simp) k hk hb
  have hlenS:S3.length=L.length:=Nat.le_antisymm (cW hnd3 hsub3) (cW hnd hall)
  obtain⟨ks3,hall3,hkeys3⟩:=hS3.al
  refine cP (bG hS3.ps) rfl ?_
  refine p_x ?_
  refine aq rfl ?_
  refine p_x ?_
  refine r_len3 hS3.st ?_
  refine p_x ?_
  refine cP (bG hS3.pa) rfl ?_
  refine p_x ?_
  refine aq rfl ?_
  refine p_x ?_
  refine r_len3 hall3 ?_
  refine p_x ?_
  rw[qaF,hlenS,hkeys3.len hnd]
  rw[p_neq_f rfl]
  refine p_x ?_
  refine⟨by trivial,λj o hj ho=>hlow3 j o hj (hP3.get ho),?_⟩
  rw[hlen3]
  exact hP3.len)
 exact⟨h',e1,e2⟩
def encS(z:Nat):Tl:=[.int .u8 (Int.ofNat z)]
def fH(z:Nat):(encS z).length=1:=rfl
def rem4{a:Nat}{K:Tu}:P1.ari .rem .i64 (Int.ofNat a) 4 (@hid _ ⟨K⟩)=K (Int.ofNat (a%4)):=by
 rw[p_rem_nn (show(0:Int)<=Int.ofNat a from qav a) (by omega)]
 rfl
def size1{n:Nat}(h:n<=1000000):bO n 1=true:=by
 unfold bO
 rw[qa5 (by omega),qa5 (by omega)];rfl
def waySl(d:Nat):Value:=.slice (some ⟨1000000+d,0,some 1⟩) (wayN d).length 0
def wL{d:Nat}(hd:d<4){K:Unit->Prop}{K2:Te}(hK:K ()):P1.opt (inB 4 (Int.ofNat d)) (@hid _ ⟨K⟩):=by
 refine af (x:=()) ?_ hK
 rw[inB_eq,qdy ⟨qav d,by show(d:Int)<((4:Nat):Int);omega⟩]
def tQ{d:Nat}(hd:d<4):cX gl0 0 [(Int.ofNat d,1)] 1=some [waySl d]:=by
 have:d=0∨d=1∨d=2∨d=3:=by omega
 rcases this with rfl|rfl|rfl|rfl<;>rfl
def wJ(d:Nat):aW (waySl d)=true:=by simp[waySl,aW,noLoc,bj,bB,bu,aS,aJ]
def way_slG{d:Nat}(hd:d<4)(g:bV):slG cc 1 g (waySl d)=some ((wayN d).flatMap encS,(wayN d).length):=by
 have h0:cc.G 1000000=some gl4:=by kernel_rfl
 have h1:cc.G 1000001=some gl5:=by kernel_rfl
 have h2:cc.G 1000002=some gl6:=by kernel_rfl
 have h3:cc.G 1000003=some gl7:=by kernel_rfl
 have:d=0∨d=1∨d=2∨d=3:=by omega
 rcases this with rfl|rfl|rfl|rfl
 ·show(((cc.G 1000000).bind λvs=>cut vs 0 (1*1)).map λx=>(x,1))=_
  rw[h0];rfl
 ·show(((cc.G 1000001).bind λvs=>cut vs 0 (3*1)).map λx=>(x,3))=_
  rw[h1];rfl
 ·show(((cc.G 1000002).bind λvs=>cut vs 0 (2*1)).map λx=>(x,2))=_
  rw[h2];rfl
 ·show(((cc.G 1000003).bind λvs=>cut vs 0 (3*1)).map λx=>(x,3))=_
  rw[h3];rfl
abbrev cloV(bw b:Nat):Value:=.func (.func 21) ⟨[]⟩ ⟨[ptrB (b+1),ptrB bw,ptrB (b+3),ptrB (b+2),ptrB (b+4)]⟩
structure WS(bw b:Nat)(L:List Sq)(h:HL)(s:TS)(x:Value):Prop where
 lt:bw<b
 mp:∃ks,Set3 h b ks/\ks.Nodup/\∀a,a∈ks↔∃c,c∈L/\c∉s.been/\a=sqC c
 pl:h[b+1]?=some (.o (.cells [.map (some b)] 1 true))
 pw:h[bw]?=some (.o (.cells [x] 1 true))
 ow:OwnL (b+5) h x 1 encS s.steps
 ph:h[b+2]?=some (.o (.cells [.int .i64 (.ofNat s.head)] 1 true))
 pt:h[b+3]?=some (.o (.cells [.int .i64 (.ofNat s.last)] 1 true))
 pv:h[b+4]?=some (.o (.cells [cloV bw b] 1 true))
 ln:b+5<=h.length
section
variable {bw b:Nat} {L:List Sq} {h:HL} {s:TS} {x:Value}
def WS.has(hw:WS bw b L h s x):∃ks,Set3 h b ks/\∀c,sqC c∈ks↔c∈L/\c∉s.been:=by
 obtain⟨ks,h1,_,h2⟩:=hw.mp
 exact⟨ks,h1,λc=>(h2 _).trans ⟨λ⟨d,h3,h4,e⟩=>nM e▸⟨h3,h4⟩,λ⟨h3,h4⟩=>⟨c,h3,h4,rfl⟩⟩⟩
def WS.go(hw:WS bw b L h s x){k:Nat}{h':HL}{x':Value}(ho:OwnL (b+5) h' x' 1 encS (s.steps++wayN ((k+4 - s.head)%4)))(hk:∀(j:Nat) o,h[j]?=some o->blk x≠some j->h'[j]?=some o)(hl:h.length<=h'.length) :
  WS bw b L ((h'.set bw (.o (.cells [x'] 1 true))).set (b+2) (.o (.cells [.int .i64 (.ofNat k)] 1 true))) (goT s k) x':=by
 have hlt:=hw.lt
 have hln:=hw.ln
 have old:∀(j:Nat) o,j<b+5->h[j]?=some o->h'[j]?=some o:=λj o hj ho'=>hk j o ho' λe=>by
  have:=(hw.ow.blk e).1
  omega
 obtain⟨ks,m1,m2,m3⟩:=hw.mp
 refine⟨hlt,⟨ks,(m1.keep λo ho'=>bA (bA (old _ _ (by omega) ho') (by omega)) (by omega)),m2,m3⟩,bA (bA (old _ _ (by omega) hw.pl) (by omega)) (by omega),bA (qG (old _ _ (by omega) hw.pw)) (by omega),?_,qG (bA (old _ _ (by omega) hw.ph) (by omega)),bA (bA (old _ _ (by omega) hw.pt) (by omega)) (by omega),bA (bA (old _ _ (by omega) hw.pv) (by omega)) (by omega),by simp;omega⟩
 refine ho.keep λj o hj hb=>?_
 have:=(ho.blk hb).1
 exact bA (bA hj (by omega)) (by omega)
def WS.go_low(hw:WS bw b L h s x){h':HL}{o1 o2:HO}(hk:∀(j:Nat) o,h[j]?=some o->blk x≠some j->h'[j]?=some o):Low bw h ((h'.set bw o1).set (b+2) o2):=by
 have hlt:=hw.lt
 intro j o hj ho
 refine bA (bA (hk j o ho λe=>?_) (by omega)) (by omega)
 have:=(hw.ow.blk e).1
 omega
def WS.vis(hw:WS bw b L h s x){c:Sq}{ks:List K3}(hks:ks.Nodup/\∀a,a∈ks↔∃c,c∈L/\c∉s.been/\a=sqC c){h':HL}(h1:h'=h∨∃o,h'=h.set b o)(h2:Set3 h' b (ks.erase (sqC c))) :
  WS bw b L (h'.set (b+3) (.o (.cells [.int .i64 (.ofNat s.steps.length)] 1 true))) (inT s c) x/\Low bw h (h'.set (b+3) (.o (.cells [.int .i64 (.ofNat s.steps.length)] 1 true))):=by
 have hlt:=hw.lt
 have hln:=hw.ln
 have old:∀(j:Nat) o,j≠b->h[j]?=some o->h'[j]?=some o:=λj o hj ho=>by
  rcases h1 with rfl|⟨o',rfl⟩
  ·exact ho
  ·exact bA ho (by omega)
 have hlen:h'.length=h.length:=by
  rcases h1 with rfl|⟨o',rfl⟩
  ·rfl
  ·simp
 refine⟨⟨hlt,⟨ks.erase (sqC c),h2.keep λo ho'=>bA ho' (by omega),hks.1.erase _,λa=>?_⟩,bA (old _ _ (by omega) hw.pl) (by omega),bA (old _ _ (by omega) hw.pw) (by omega),?_,bA (old _ _ (by omega) hw.ph) (by omega),qG (old _ _ (by omega) hw.pt),bA (old _ _ (by omega) hw.pv) (by omega),by simp;omega⟩,λj o hj ho=>bA (old j o (by omega) ho) (by omega)⟩
 ·rw[hks.1.mem_erase_iff,hks.2]
  constructor
  ·rintro⟨hne,d,hd,hn,rfl⟩
   refine⟨d,hd,λhm=>?_,rfl⟩
   rcases qao.1 hm with hm|hm
   ·exact hn hm
   ·simp only[qap]at hm
    exact hne (hm▸rfl)
  ·rintro⟨d,hd,hn,rfl⟩
   refine⟨λe=>hn (qaK _ ?_),d,hd,λhm=>hn (qaH _ hm),rfl⟩
   rw[nM e]
   exact List.mem_singleton_self _
 ·refine hw.ow.keep λj o hj hb=>?_
  have:=(hw.ow.blk hb).1
  exact bA (old j o (by omega) hj) (by omega)
end
def sub4{a b:Nat}(hb:b<4)(ha:a<=100):Int.ofNat a - Int.ofNat b+4=Int.ofNat (a+4 - b):=by
 show((a:Nat):Int) - ((b:Nat):Int)+4=((a+4 - b:Nat):Int)
 omega
def walk1_c{bw b:Nat}{L:List Sq}(hL:∀c∈L,(-100<=c.1/\c.1<=100)/\-100<=c.2/\c.2<=100)(hLn:L.length<=1000):∀n,∀(c:Sq) (h:HL) (s:TS) (x:Value),WS bw b L h s x->Ev L s s->s.steps.length<=6*s.been.length->c∈L->c∉s.been->free L s.been<=n->
  ∃rs h',aK cc ab 21 [.i c.1,.i c.2,.i 0,.v (ptrB (b+1)),.v (ptrB bw),.v (ptrB (b+3)),.v (ptrB (b+2)),.v (ptrB (b+4))] (absH aa h) rs (absH aa h')/\rs=[]/\
   ∃x',WS bw b L h' (visT L n c s) x'/\Low bw h h':=by
 intro n
 induction n with
 |zero=>
  intro c h s x _ _ _ hc hn hf
  have:=jV (L:=L) (b:=s.been) (b':=s.been++[c]) (λx hx=>qaH _ hx) hc hn (qaK _ (by simp))
  omega
 |succ n ih=>
  intro c h s x hw hev hbd hc hn hf
  refine x21 (K:=λrs h'=>rs=[]/\∃x',WS bw b L h' (visT L (n+1) c s) x'/\Low bw h h') (glsI (glsI (glsI (glsV (eW _) (glsV (eW _) (glsV (eW _) (glsV (eW _) (glsV (eW _) gls0)))))))) ?_
  have hlt:=hw.lt
  have hsm:=hev.small
  have hcb:=hL c hc
  obtain⟨ks,hset,hks⟩:=hw.mp
  unfold f21;simp only[qxh]
  refine p_x ?_
  refine cP (bG hw.pl) rfl ?_
  refine p_x ?_
  refine aq rfl ?_
  refine p_x ?_
  refine r_de3 (kt:=30) eP dO hset (sqC c) λh1 e1 hs1=>?_
  obtain⟨hw1,hlow1⟩:=hw.vis hks e1 hs1
  have hpw1:h1[bw]?=some (.o (.cells [x] 1 true)):=by
   rcases e1 with rfl|⟨o',rfl⟩
   ·exact hw.pw
   ·exact bA hw.pw (by omega)
  have hpt1:h1[b+3]?=some (.o (.cells [.int .i64 (.ofNat s.last)] 1 true)):=by
   rcases e1 with rfl|⟨o',rfl⟩
   ·exact hw.pt
   ·exact bA hw.pt (by omega)
  refine cP (bG hpw1) rfl ?_
  refine p_x ?_
  refine aq (hw.ow.good fH) ?_
  refine p_x ?_
  refine af hw.ow.lenB ?_
  refine io hpt1 rfl ?_
  try simp(disch:=omega)only[↓qXX]
  generalize h1.set (b+3) (.o (.cells [.int .i64 (.ofNat s.steps.length)] 1 true))=h2 at *
  clear hset hks hpw1 hpt1 hs1 e1
  have hev1:=in_ev hev hc hn
  have hfr1:=qJ (L:=L) (s:=s) hc hn
  have hbd1:(inT s c).steps.length+6<=6*(inT s c).been.length:=by
   show s.steps.length+6<=6*(s.been++[c]).length
   simp;omega
  refine cF (σ:=HL×Value) 4 (λj _=>[.i (Int.ofNat j)]) (λ_ s=>s.1) (λj t=>WS bw b L t.1 (rnds (visT L n) L c (inT s c) j) t.2/\Low bw h t.1) (j0:=0) (s0:=(h2,x)) rfl rfl (qaX _) ⟨hw1,hlow1⟩ ?_
  rintro j ⟨h3,x3⟩ hj ⟨hw3,hlow3⟩ self hself
  simp only at hw3 hlow3 hself
  have hev3:=iS (ge L n) (c:=c) hev1 (by omega) j hj
  have hbd3:(rnds (visT L n) L c (inT s c) j).steps.length+6<=6*(rnds (visT L n) L c (inT s c) j).been.length:=by
   have:=hev3.le
   omega
  refine p_x ?_
  by_cases hj4:j<4
  case neg=>
   obtain rfl:j=4:=by omega
   rw[p_lss_f (by show(4:Int)<=((4:Nat):Int);omega)]
   refine p_x ?_
   exact⟨trivial,x3,hw3,hlow3⟩
  rw[p_lss_t (by show(j:Int)<4;omega)]
  have hstep:∀(h':HL) (x':Value),WS bw b L h' (rndT (visT L n) L c (rnds (visT L n) L c (inT s c) j) j) x'->Low bw h h'->self [.i (Int.ofNat j+1)] h':=λh' x' a1 a2=>hself (h',x') hj4 ⟨a1,a2⟩
  have hfj:free L (rnds (visT L n) L c (inT s c) j).been<=n:=qbj (fo λy hy=>hev3.mem hy) (by omega)
  generalize rnds (visT L n) L c (inT s c) j=t at *
  clear hself hw1 hlow1 hev1 hbd1
  simp only[p_cond_t]
  refine rg (λl' h'=>l'=[]/\∃x',WS bw b L h' (rndT (visT L n) L c t j) x'/\Low bw h h') ?_ ?_
  ·rintro _ h' ⟨rfl,x',a1,a2⟩
   refine p_x ?_
   rw[aU (by omega)]
   exact hstep h' x' a1 a2
  intro jn hjn
  refine p_x ?_
  refine ae (va (c:=c) hj4 ⟨by omega,by omega⟩) ?_
  refine p_x ?_
  obtain⟨ks,hset,hks⟩:=hw3.has
  refine cP (bG hw3.pl) rfl ?_
  refine p_x ?_
  refine aq rfl ?_
  refine p_x ?_
  refine r_lu3 (kt:=30) eP dO hset (sqC (bes c j)) ?_
  refine p_x ?_
  by_cases hnew:bes c j∈L/\bes c j∉t.been
  case neg=>
   rw[qdw (λe=>hnew ((hks _).1 e))]
   simp(disch:=omega)only[↓qXX,qba]
   exact hjn _ _ ⟨rfl,x3,by unfold rndT;rw[qdz hnew];exact hw3,hlow3⟩
  rw[qdx ((hks _).2 hnew)]
  simp(disch:=omega)only[↓qXX,qaE]
  unfold rndT at hjn
  rw[qdy hnew]at hjn
  have hev4:=hev3.self
  have hsm4:=hev4.small
  have hhd:=hev4.hd
  refine cP (bG hw3.pw) rfl ?_
  refine p_x ?_
  refine aq (hw3.ow.good fH) ?_
  refine p_x ?_
  refine cP (bG hw3.ph) rfl ?_
  refine p_x ?_
  rw[p_sub (by show(-9223372036854775808:Int)<=((j:Nat):Int) - ((t.head:Nat):Int);omega) (by show((j:Nat):Int) - ((t.head:Nat):Int)<=9223372036854775807;omega),p_add (by show(-9223372036854775808:Int)<=((j:Nat):Int) - ((t.head:Nat):Int)+4;omega) (by show((j:Nat):Int) - ((t.head:Nat):Int)+4<=9223372036854775807;omega),sub4 hhd (by omega),rem4]
  have hd4:(j+4 - t.head)%4<4:=qbz _ (by omega)
  refine wL (K2:=λ_=>True) hd4 ?_
  refine af (tQ hd4) ?_
  refine p_x ?_
  refine aq (wJ _) ?_
  refine p_x ?_
  have hw4len:=(wK ((j+4 - t.head)%4)).2.2.1
  refine hw3.ow.ap (k:=(wayN ((j+4 - t.head)%4)).length) (new:=wayN ((j+4 - t.head)%4)) fH hw3.ln (way_slG hd4 _) rfl (size1 (by omega)) λx4 h4 b1 b2 b3 b4 b5=>?_
  refine p_x ?_
  refine aq b2 ?_
  refine p_x ?_
  have hw5:=hw3.go (k:=j) b1 b3 b4
  have hlow5:=hlow3.trans (hw3.go_low (o1:=.o (.cells [x4] 1 true)) (o2:=.o (.cells [.int .i64 (.ofNat j)] 1 true)) b3)
  have old4:∀(i:Nat) o,i<b+5->h3[i]?=some o->h4[i]?=some o:=λi o hi ho=>b3 i o ho λe=>by
   have:=(hw3.ow.blk e).1
   omega
  refine io (old4 _ _ (by omega) hw3.pw) rfl ?_
  try simp(disch:=omega)only[↓qXX]
  refine io (bA (old4 _ _ (by omega) hw3.ph) (by omega)) rfl ?_
  try simp(disch:=omega)only[↓qXX]
  generalize (h4.set bw (.o (.cells [x4] 1 true))).set (b+2) (.o (.cells [.int .i64 (.ofNat j)] 1 true))=h5 at *
  clear old4 b1 b2 b3 b4 b5 hset hks
  refine cP (bG hw5.pv) rfl ?_
  refine p_x ?_
  refine aq rfl ?_
  refine p_x ?_
  obtain⟨g1,g2,g3,g4,g5,g6⟩:=go_ev hev4 hj4
  have hev5:Ev L (goT t j) (goT t j):=⟨⟨[],by simp⟩,hev4.nd,hev4.sub,g6,g3,g4,g5,qaf _⟩
  have hbd5:(goT t j).steps.length<=6*(goT t j).been.length:=by
   rw[g1]
   omega
  have hev6:=(ge L n (bes c j) (goT t j) hev5 hnew.1 hnew.2 hfj).1
  have hbd6:(visT L n (bes c j) (goT t j)).steps.length<=6*(visT L n (bes c j) (goT t j)).been.length:=by
   have:=hev6.le
   omega
  have key:=ih (bes c j) h5 (goT t j) x4 hw5 hev5 hbd5 hnew.1 hnew.2 hfj
  obtain⟨rs,h6,hcall,rfl,x6,hw6,hlow6⟩:=key
  refine fR (gk (args:=[.agg ⟨cc3 (sqC (bes c j))⟩]) hcall rfl [.agg [.i .i64 (bes c j).1,.i .i64 (bes c j).2,.i .u8 0],.leaf (.v (ptrB (b+1))),.leaf (.v (ptrB bw)),.leaf (.v (ptrB (b+3))),.leaf (.v (ptrB (b+2))),.leaf (.v (ptrB (b+4)))] rfl rfl rfl) ?_
  refine p_x ?_
  have hsm6:=hev6.small
  have hhd6:=hev6.hd
  generalize visT L n (bes c j) (goT t j)=u at *
  have hlow6':=hlow5.trans hlow6
  clear hw5 hev5 ih
  have e2:Int.ofNat j+2=Int.ofNat (j+2):=rfl
  rw[p_add (by show(-9223372036854775808:Int)<=((j:Nat):Int)+2;omega) (by show((j:Nat):Int)+2<=9223372036854775807;omega),e2,rem4]
  have hk4:(j+2)%4<4:=qbz _ (by omega)
  generalize (j+2)%4=k at *
  refine cP (bG hw6.pw) rfl ?_
  refine p_x ?_
  refine aq (hw6.ow.good fH) ?_
  refine p_x ?_
  refine cP (bG hw6.ph) rfl ?_
  refine p_x ?_
  rw[p_sub (by show(-9223372036854775808:Int)<=((k:Nat):Int) - ((u.head:Nat):Int);omega) (by show((k:Nat):Int) - ((u.head:Nat):Int)<=9223372036854775807;omega),p_add (by show(-9223372036854775808:Int)<=((k:Nat):Int) - ((u.head:Nat):Int)+4;omega) (by show((k:Nat):Int) - ((u.head:Nat):Int)+4<=9223372036854775807;omega),sub4 hhd6 (by omega),rem4]
  have hd4':(k+4 - u.head)%4<4:=qbz _ (by omega)
  refine wL (K2:=λ_=>True) hd4' ?_
  refine af (tQ hd4') ?_
  refine p_x ?_
  refine aq (wJ _) ?_
  refine p_x ?_
  have hw4len':=(wK ((k+4 - u.head)%4)).2.2.1
  refine hw6.ow.ap (k:=(wayN ((k+4 - u.head)%4)).length) (new:=wayN ((k+4 - u.head)%4)) fH hw6.ln (way_slG hd4' _) rfl (size1 (by omega)) λx7 h7 b1 b2 b3 b4 b5=>?_
  refine p_x ?_
  refine aq b2 ?_
  refine p_x ?_
  have hw8:=hw6.go (k:=k) b1 b3 b4
  have hlow8:=hlow6'.trans (hw6.go_low (o1:=.o (.cells [x7] 1 true)) (o2:=.o (.cells [.int .i64 (.ofNat k)] 1 true)) b3)
  have old7:∀(i:Nat) o,i<b+5->h6[i]?=some o->h7[i]?=some o:=λi o hi ho=>b3 i o ho λe=>by
   have:=(hw6.ow.blk e).1
   omega
  refine io (old7 _ _ (by omega) hw6.pw) rfl ?_
  try simp(disch:=omega)only[↓qXX]
  refine io (bA (old7 _ _ (by omega) hw6.ph) (by omega)) rfl ?_
  try simp(disch:=omega)only[↓qXX]
  exact hjn _ _ ⟨rfl,x7,hw8,hlow8⟩
def sl_take{α:Type}{h:HL}{v:Value}{e:Nat}{enc:α->Tl}{l:List α}(hs:LsH h v e enc l){n:Nat}(hn:n<=l.length):∃v',slS e v none (some (Int.ofNat n)) none=some v'/\LsH h v' e enc (l.take n)/\aW v'=true/\blk v'=blk v:=by
 have hl:=aG (l:=l) hs.1
 have hl2:=aG (l:=l.take n) λa ha=>hs.1 a (qbd ha)
 have hlen:(l.take n).length=n:=by rw[qaI];omega
 obtain⟨h1,h2,⟨rfl,h3⟩|⟨id,off,cx,vs,rw',rfl,h3,h4⟩⟩:=hs
 ·have hn0:n=0:=by omega
  have hl0:l=[]:=qbn.1 h3
  subst hn0 hl0
  exact⟨.slice none 0 0,rfl,LsH.nil _ _ _,rfl,rfl⟩
 ·have hr:slS e (.slice (some ⟨id,off,tag e⟩) l.length cx) none (some (Int.ofNat n)) none=some (.slice (some ⟨id,off,tag e⟩) n cx):=by
   unfold slS
   have e1:¬(tag e≠some 1/\tag e≠tag e):=by simp
   simp only[qdz e1]
   have e2:(0:Int)<=(none:Tq).getD 0/\(none:Tq).getD 0<=(some (Int.ofNat n)).getD ((l.length:Nat):Int)/\bP l.length cx (some (Int.ofNat n)) none:=by
    refine⟨by simp,by simp,?_⟩
    unfold bP
    left
    show((n:Nat):Int)<=(l.length:Int)
    omega
   rw[qdy e2,dq,dq,dq]
   simp[bD]
  have hls:LsH h (.slice (some ⟨id,off,tag e⟩) n cx) e enc (l.take n):=by
   refine⟨λa ha=>h1 a (qbd ha),by rw[hl2],.inr ⟨id,off,cx,vs,rw',by rw[hlen],h3,?_⟩⟩
   have hc:=qk h4 (o:=0) (k:=n*e) (by
    rw[qaL]
    exact qbl e hn)
   rw[qcb,qa1]at hc
   rw[hlen,hc]
   congr 1
   have e1:l.flatMap enc=(l.take n).flatMap enc++(l.drop n).flatMap enc:=by rw[←qb8,qbt]
   rw[e1,qb4 (by rw[hl2,hlen];exact qaf _),qaQ (by rw[hl2,hlen];exact qaf _)]
  exact⟨_,hr,hls,hls.good,rfl⟩
def sl_clip{α:Type}{h:HL}{v:Value}{e:Nat}{enc:α->Tl}{l:List α}(hs:LsH h v e enc l):∃v',slS e v none (some (Int.ofNat l.length)) (some (Int.ofNat l.length))=some v'/\LsH h v' e enc l/\aW v'=true/\blk v'=blk v/\capS v'=some (Int.ofNat l.length):=by
 have hs':=hs
 obtain⟨h1,h2,⟨rfl,h3⟩|⟨id,off,cx,vs,rw',rfl,h3,h4⟩⟩:=hs
 ·have hl0:l=[]:=qbn.1 h3
  subst hl0
  exact⟨.slice none 0 0,rfl,LsH.nil _ _ _,rfl,rfl,rfl⟩
 ·have hr:slS e (.slice (some ⟨id,off,tag e⟩) l.length cx) none (some (Int.ofNat l.length)) (some (Int.ofNat l.length))=some (.slice (some ⟨id,off,tag e⟩) l.length (l.length+1)):=by
   unfold slS
   have e1:¬(tag e≠some 1/\tag e≠tag e):=by simp
   simp only[qdz e1]
   have e2:(0:Int)<=(none:Tq).getD 0/\(none:Tq).getD 0<=(some (Int.ofNat l.length)).getD ((l.length:Nat):Int)/\bP l.length cx (some (Int.ofNat l.length)) (some (Int.ofNat l.length)):=by
    refine⟨by simp,by simp,?_⟩
    unfold bP
    refine⟨rfl,by simp,.inl (by show(l.length:Int)<=(l.length:Int);omega)⟩
   rw[qdy e2,dq,dq,dq]
   simp[bD]
  have hls:LsH h (.slice (some ⟨id,off,tag e⟩) l.length (l.length+1)) e enc l:=⟨h1,h2,.inr ⟨id,off,_,vs,rw',rfl,h3,h4⟩⟩
  exact⟨_,hr,hls,hls.good,rfl,rfl⟩
def clipS_c{h:HL}{x:Value}{l:TA}(hl:LsH h x 1 encS l):∃x',aK cc ab 23 [.v x] (absH aa h) [.v x'] (absH aa h)/\LsH h x' 1 encS l/\aW x'=true/\blk x'=blk x/\capS x'=some (Int.ofNat l.length):=by
 obtain⟨x',h1,h2,h3,h4,h5⟩:=sl_clip hl
 refine⟨x',xK x23 (glsV hl.good gls0) ?_,h2,h3,h4,h5⟩
 unfold f23;simp only[qxh]
 refine p_x ?_
 refine bc hl (bc hl (af h1 (aq h3 ?_)))
 trivial
def kO{a:Nat}(h:1<=a/\a<=4):Cc 27 [.i (Int.ofNat a)] [.b (decide (3<=a))]:=by
 have:a=1∨a=2∨a=3∨a=4:=by omega
 refine q27 rfl ?_;unfold f27;simp only[qxh]
 rcases this with rfl|rfl|rfl|rfl
 all_goals
  simp only[show Int.ofNat 1=(1:Int)from rfl,show Int.ofNat 2=(2:Int)from rfl,show Int.ofNat 3=(3:Int)from rfl,show Int.ofNat 4=(4:Int)from rfl]
  simp(disch:=omega)only[↓qXX]
  try rfl
abbrev cloP:Value:=.func (.func 35) ⟨[]⟩ ⟨[]⟩
def check1_c{a:Nat}(h:1<=a/\a<=4):Cc 35 [.i (Int.ofNat a)] [.b false]:=by
 have:a=1∨a=2∨a=3∨a=4:=by omega
 refine q35 rfl ?_;unfold f35;simp only[qxh]
 rcases this with rfl|rfl|rfl|rfl
 all_goals
  simp only[show Int.ofNat 1=(1:Int)from rfl,show Int.ofNat 2=(2:Int)from rfl,show Int.ofNat 3=(3:Int)from rfl,show Int.ofNat 4=(4:Int)from rfl]
  simp(disch:=omega)only[↓qXX]
  try rfl
def anyP_c{h:HL}{x:Value}{l:TA}(hl:LsH h x 1 encS l)(hok:∀a∈l,1<=a/\a<=4)(hn:l.length<=100000):aK cc ab 34 [.v x,.v cloP] (absH aa h) [.b false] (absH aa h):=by
 have h1:aK cc ab 46 [.v x,.v cloP] (absH aa h) [.i (-1)] (absH aa h):=by
  refine xK x46 (glsV hl.good (glsV rfl gls0)) ?_
  unfold f46;simp only[qxh]
  refine p_x ?_
  refine bc hl ?_
  refine dU l.length (λ_=>True) rfl (qaX _) trivial ?_
  intro j hj _ self hself
  refine p_x ?_
  by_cases hlt:j<l.length
  ·rw[aR hlt]
   refine p_x ?_
   obtain⟨c,hc⟩:=aY hlt
   refine aV hl rfl hc ?_
   unfold encS
   repeat (first|simp(disch:=omega)only[↓qXX]|refine fR (lJ (check1_c (hok c (qab hc)) _) rfl [.leaf (.i .u8 (Int.ofNat c))] rfl rfl) ?_)
   rw[aU (by omega)]
   exact hself hlt trivial
  ·rw[bi (by omega)]
   simp(disch:=omega)only[↓qXX]
   trivial
 refine xK x34 (glsV hl.good (glsV rfl gls0)) ?_
 unfold f34;simp only[qxh]
 repeat (first|simp(disch:=omega)only[↓qXX]|refine am h1 ?_)
 trivial
def wl{h:HL}{x:Value}{l:TA}(hl:LsH h x 1 encS l)(hok:∀a∈l,1<=a/\a<=4)(h3:Ok3 l)(hn:l.length<=255):aK cc ab 17 [.v x] (absH aa h) [.i 0] (absH aa h):=by
 exact xK x17 (glsV hl.good gls0) (by
  unfold f17;simp only[qxh]
  simp(disch:=omega)only[↓qXX]
  try refine aq rfl ?_
  refine am (anyP_c hl hok (by omega)) ?_
  refine p_x ?_
  refine bc hl ?_
  refine cF (σ:=Nat) l.length (λj s=>[.i (Int.ofNat s),.i (Int.ofNat j)]) (λ_ _=>h) (λj s=>s<=1+j) (j0:=0) (s0:=1) rfl rfl (qaX _) (qaf _) ?_
  intro j s hj hs self hself
  refine p_x ?_
  by_cases hlt:j<l.length
  ·rw[aR hlt]
   refine p_x ?_
   obtain⟨a,ha⟩:=aY hlt
   have ha4:=hok a (qab ha)
   refine aV hl rfl ha ?_
   unfold encS
   refine p_x ?_
   refine ae (kO ha4) ?_
   refine p_x ?_
   by_cases ht:3<=a
   ·have hnext:=hself s hlt (by omega)
    rw[qdx ht]
    refine p_x ?_
    by_cases hj0:j=0
    ·subst hj0
     rw[p_gtr_f (by show((0:Nat):Int)<=0;omega)]
     refine p_x ?_
     refine ae (kO ha4) ?_
     refine p_x ?_
     rw[qdx ht]
     simp(disch:=omega)only[↓qXX,qaE]
     rw[aU (by omega)]
     exact hnext
    ·rw[p_gtr_t (by show(0:Int)<(j:Int);omega)]
     refine p_x ?_
     rw[fP (by omega) (by omega)]
     obtain⟨b,hb⟩:=aY (l:=l) (i:=j - 1) (by omega)
     refine aV hl rfl hb ?_
     unfold encS
     refine p_x ?_
     refine ae (kO (hok b (qab hb))) ?_
     have hb3:¬3<=b:=λh=>h3 (j - 1) b a hb (by rw[show j - 1+1=j by omega];exact ha) ⟨h,ht⟩
     refine p_x ?_
     rw[qdw hb3]
     refine p_x ?_
     refine ae (kO ha4) ?_
     refine p_x ?_
     rw[qdx ht]
     simp(disch:=omega)only[↓qXX,qaE]
     rw[aU (by omega)]
     exact hnext
   ·have hnext:=hself (s+1) hlt (by omega)
    rw[qdw ht]
    refine p_x ?_
    refine ae (kO ha4) ?_
    refine p_x ?_
    rw[qdw ht]
    simp(disch:=omega)only[↓qXX,qba]
    rw[aU (by omega)]
    refine p_x ?_
    rw[aU (by omega)]
    exact hnext
  ·rw[bi (by omega)]
   refine p_x ?_
   rw[p_gtr_f (by show(s:Int)<=256;omega)]
   simp(disch:=omega)only[↓qXX]
   trivial)
def top_ev{L:List Sq}{c:Sq}(hc:c∈L):Ev L ⟨[],[],0,0⟩ (topT L c):=by
 exact(ge L (free L []) c ⟨[],[],0,0⟩ ev0 hc (by simp) (qaf _)).1
def top_len{L:List Sq}{c:Sq}(hc:c∈L):(topT L c).steps.length<=6*L.length:=by
 have h:=top_ev hc
 have h1:=h.le
 have h2:=h.small
 simp only[qbG]at h1
 omega
def WalkOk(H:HL)(L:List Sq)(c:Sq)(rs:TD)(h':HL):Prop:=∃v,rs=[.v v,.i c.1,.i c.2,.i 0,.i 0]/\LsH h' v 1 encS ((topT L c).steps.take (topT L c).last)/\Low H.length H h'/\H.length<=h'.length/\(∀i,blk v=some i->H.length<=i)/\capS v=some (Int.ofNat ((topT L c).steps.take (topT L c).last).length)
def walk_c{H:HL}{x:Value}{L:List Sq}{D:List K3}(hl:LsH H x 3 cc3 D)(hD:SetOf L D)(h0:0<L.length)(hn:L.length<=40)(hnd:L.Nodup)(hcon:Con L)(hb:∀c∈L,(-100<=c.1/\c.1<=100)/\-100<=c.2/\c.2<=100){a0:K3}(ha0:D[0]?=some a0) :
  ∃rs h',aK cc ab 7 [.v x] (absH aa H) rs (absH aa h')/\WalkOk H L (a0.1,a0.2.1) rs h':=by
 have hDl:=hD.len
 have hm0:=(hD.mem.1 (qab ha0)).1
 have hb0:=hb _ hm0
 have htl:=top_len hm0
 have hte:=top_ev hm0
 exact x7 (K:=WalkOk H L (a0.1,a0.2.1)) (glsV hl.good gls0) (by
  unfold f7;simp only[qxh]
  refine p_x ?_
  have hl1:LsH (H++[HO.o (.cells [.slice none 0 0] 1 true)]) x 3 cc3 D:=hl.pre ⟨_,rfl⟩
  have hlen1:(H++[HO.o (.cells [.slice none 0 0] 1 true)]).length=H.length+1:=by simp
  obtain⟨h2,hcall,hlow2,hle2⟩:=check_c hl1 hD h0 (by omega) hnd hcon hb
  refine am hcall ?_
  have hl2:=hl1.low hlow2
  have hw2:h2[H.length]?=some (.o (.cells [.slice none 0 0] 1 true)):=hlow2 _ _ (by rw[hlen1];omega) aH
  have hH2:Low H.length H h2:=((Low.refl H).app _).trans (hlow2.le (by rw[hlen1];omega))
  rw[hlen1]at hle2
  clear hcall hlow2 hl1 hlen1
  refine p_x ?_
  obtain⟨rs,h3,hcall,o,ks,rfl,rfl,hset,hknd,hkm⟩:=tN hD hl2 (by omega)
  refine am hcall ?_
  have hl3:LsH (h2++[o]) x 3 cc3 D:=hl2.pre ⟨_,rfl⟩
  have hw3:(h2++[o])[H.length]?=some (.o (.cells [.slice none 0 0] 1 true)):=bv hw2
  have hH3:Low H.length H (h2++[o]):=hH2.app _
  have g3:(h2++[o]).length=h2.length+1:=by simp
  clear hcall hl2 hw2 hH2
  refine p_x ?_
  generalize h2++[o]=h3 at *
  generalize hbd:h2.length=b at *
  rw[g3]
  refine io (vs:=[.map none]) (by rw[←g3];exact aH) rfl ?_
  rw[←g3,dL,g3]
  have p4:(h3++[HO.o (.cells [.map (some b)] 1 true)])[b+1]?=some (.o (.cells [.map (some b)] 1 true)):=by rw[←g3];exact aH
  have s4:Set3 (h3++[HO.o (.cells [.map (some b)] 1 true)]) b ks:=hset.keep λ_ ho=>bv ho
  have w4:(h3++[HO.o (.cells [.map (some b)] 1 true)])[H.length]?=some (.o (.cells [.slice none 0 0] 1 true)):=bv hw3
  have l4:LsH (h3++[HO.o (.cells [.map (some b)] 1 true)]) x 3 cc3 D:=hl3.pre ⟨_,rfl⟩
  have H4:Low H.length H (h3++[HO.o (.cells [.map (some b)] 1 true)]):=hH3.app _
  have g4:(h3++[HO.o (.cells [.map (some b)] 1 true)]).length=b+2:=by simp[g3]
  clear hset hw3 hl3 hH3 g3
  generalize h3++[HO.o (.cells [.map (some b)] 1 true)]=h4 at *
  try simp(disch:=omega)only[↓qXX]
  refine tz (o:=0) (k:=1) (a:=a0) (i:=0) l4 rfl ha0 rfl (by omega) ?_
  simp only[cc3,qa1,qa7,qbB]
  refine p_x ?_
  refine tz (o:=1) (k:=1) (a:=a0) (i:=0) l4 rfl ha0 rfl (by omega) ?_
  simp only[cc3,qbK,qa1,qa7,qbB]
  refine p_x ?_
  rw[g4]
  refine io (vs:=[.int .i64 0]) (by rw[←g4];exact aH) rfl ?_
  rw[←g4,dL,g4]
  try simp(disch:=omega)only[↓qXX]
  have g5:(h4++[HO.o (.cells [.int .i64 0] 1 true)]).length=b+3:=by simp[g4]
  rw[g5]
  refine io (vs:=[.int .i64 0]) (by rw[←g5];exact aH) rfl ?_
  rw[←g5,dL,g5]
  try simp(disch:=omega)only[↓qXX]
  have g6:(h4++[HO.o (.cells [.int .i64 0] 1 true)]++[HO.o (.cells [.int .i64 0] 1 true)]).length=b+4:=by simp[g4]
  rw[g6]
  refine aq rfl ?_
  refine io (vs:=[.nilFunc]) (by rw[←g6];exact aH) rfl ?_
  rw[←g6,dL,g6]
  try simp(disch:=omega)only[↓qXX]
  have hWS:WS H.length b L (h4++[HO.o (.cells [.int .i64 0] 1 true)]++[HO.o (.cells [.int .i64 0] 1 true)]++[HO.o (.cells [cloV H.length b] 1 true)]) ⟨[],[],0,0⟩ (.slice none 0 0):=
   ⟨by omega,⟨ks,s4.keep λ_ ho=>bv (bv (bv ho)),hknd,λa=>(hkm a).trans ⟨λ⟨c,h1,h2⟩=>⟨c,h1,(by simp),h2⟩,λ⟨c,h1,_,h2⟩=>⟨c,h1,h2⟩⟩⟩,bv (bv (bv p4)),bv (bv (bv w4)),OwnL.nil _ _ _ _,bv (bv (by rw[←g4];exact aH)),bv (by rw[←g5];exact aH),by rw[←g6];exact aH,by simp[g4]⟩
  have H7:Low H.length H (h4++[HO.o (.cells [.int .i64 0] 1 true)]++[HO.o (.cells [.int .i64 0] 1 true)]++[HO.o (.cells [cloV H.length b] 1 true)]):=((H4.app _).app _).app _
  generalize h4++[HO.o (.cells [.int .i64 0] 1 true)]++[HO.o (.cells [.int .i64 0] 1 true)]++[HO.o (.cells [cloV H.length b] 1 true)]=h7 at *
  clear g4 g5 g6 p4 s4 w4 l4 H4
  refine cP (bG hWS.pv) rfl ?_
  refine p_x ?_
  refine aq rfl ?_
  refine p_x ?_
  obtain⟨rs,h8,hcall,rfl,x8,hw8,hlow8⟩:=walk1_c hb (by omega) (free L []) (a0.1,a0.2.1) h7 ⟨[],[],0,0⟩ (.slice none 0 0) hWS ev0 (qaf _) hm0 (by simp) (qaf _)
  refine fR (gk (args:=[.agg ⟨cc3 (sqC (a0.1,a0.2.1))⟩]) hcall rfl [.agg [.i .i64 a0.1,.i .i64 a0.2.1,.i .u8 0],.leaf (.v (ptrB (b+1))),.leaf (.v (ptrB H.length)),.leaf (.v (ptrB (b+3))),.leaf (.v (ptrB (b+2))),.leaf (.v (ptrB (b+4)))] rfl rfl rfl) ?_
  clear hWS hcall
  have H8:=H7.trans hlow8
  change WS H.length b L h8 (topT L (a0.1,a0.2.1)) x8 at hw8
  obtain⟨t,ht⟩ : ∃t,t=topT L (a0.1,a0.2.1):=⟨_,rfl⟩
  rw[←ht]at hw8 hte htl
  refine p_x ?_
  refine cP (bG hw8.pw) rfl ?_
  refine p_x ?_
  refine aq (hw8.ow.good fH) ?_
  refine p_x ?_
  refine cP (bG hw8.pt) rfl ?_
  refine p_x ?_
  obtain⟨x9,e9,l9,gd9,b9⟩:=sl_take (hw8.ow.ls fH) hte.la
  refine af e9 ?_
  refine aq gd9 ?_
  obtain⟨x10,hcall,l10,gd10,b10,c10⟩:=clipS_c l9
  refine am hcall ?_
  refine p_x ?_
  refine io hw8.pw rfl ?_
  try simp(disch:=omega)only[↓qXX]
  have hbk:∀i,blk x10=some i->b+5<=i:=λi hi=>by
   rw[b10,b9]at hi
   exact(hw8.ow.blk hi).1
  have hlt:=hw8.lt
  have hlnn:=hw8.ln
  have l11:LsH (h8.set H.length (.o (.cells [x10] 1 true))) x10 1 encS (t.steps.take t.last):=l10.keep λj o hj hb=>by
   have:=hbk j hb
   exact bA hj (by omega)
  have w11:(h8.set H.length (.o (.cells [x10] 1 true)))[H.length]?=some (.o (.cells [x10] 1 true)):=qG hw8.pw
  have H11:Low H.length H (h8.set H.length (.o (.cells [x10] 1 true))):=H8.set (qaf _) _
  have n11:(h8.set H.length (.o (.cells [x10] 1 true))).length=h8.length:=by simp
  generalize h8.set H.length (.o (.cells [x10] 1 true))=h11 at *
  refine cP (bG w11) rfl ?_
  refine p_x ?_
  refine aq gd10 ?_
  refine p_x ?_
  refine am (wl l11 (λa ha=>hte.st a (qbd ha)) (hte.ok.take _) (by rw[qaI];omega)) ?_
  refine p_x ?_
  refine cP (bG w11) rfl ?_
  refine p_x ?_
  refine aq gd10 ?_
  refine p_x ?_
  refine io w11 rfl ?_
  try simp(disch:=omega)only[↓qXX]
  have e12:h11.set H.length (.o (.cells [x10] 1 true))=h11:=fw w11
  rw[e12]
  refine ee ((bG w11).ld rfl) ?_
  refine p_x ?_
  refine aq gd10 ?_
  refine p_x ?_
  exact⟨x10,rfl,ht▸l11,H11,by omega,(λi hi=>by
   have:=hbk i hi
   omega),ht▸c10⟩)
def ur{h:HL}{x:Value}{l:List K3}(hl:LsH h x 3 cc3 l)(hn:l.length<=100000)(a:K3){p q r:Int}(ha:p=a.1/\q=a.2.1/\r=Int.ofNat a.2.2) :
  ∃n:Int,aK cc ab 31 [.v x,.i p,.i q,.i r] (absH aa h) [.i n] (absH aa h)/\((n = -1/\a∉l)∨∃i,n=Int.ofNat i/\l[i]?=some a):=by
 obtain⟨rfl,rfl,rfl⟩:=ha
 obtain⟨rs,h',h1,n,rfl,rfl,h2⟩:=x31 (ls:=[.v x,.i a.1,.i a.2.1,.i (Int.ofNat a.2.2)]) (H:=h) (K:=λrs h'=>∃n:Int,rs=[.i n]/\h'=h/\((n = -1/\a∉l)∨∃i,n=Int.ofNat i/\l[i]?=some a)) (glsV hl.good (glsI (glsI (glsI gls0)))) (by
  unfold f31;simp only[qxh]
  refine p_x ?_
  refine bc hl ?_
  refine dU l.length (λj=>∀i,i<j->l[i]?≠some a) (j0:=0) rfl (qaX _) (λi hi=>by omega) ?_
  intro j hj he self hself
  refine p_x ?_
  by_cases hlt:j<l.length
  ·rw[aR hlt]
   refine p_x ?_
   obtain⟨b,hb⟩:=aY hlt
   refine aV hl rfl hb ?_
   unfold cc3
   refine p_x ?_
   rw[eqs3]
   by_cases hba:a=b
   ·subst hba
    rw[qdx rfl]
    refine p_x ?_
    exact⟨_,rfl,by trivial,.inr ⟨j,rfl,hb⟩⟩
   ·rw[qdw hba]
    refine p_x ?_
    rw[aU (by omega)]
    refine hself hlt λi hi=>?_
    by_cases hij:i=j
    ·subst hij
     rw[hb]
     exact λe=>hba (qae e).symm
    ·exact he i (by omega)
  ·rw[bi (by omega)]
   refine p_x ?_
   refine⟨_,rfl,by trivial,.inl ⟨rfl,λhm=>?_⟩⟩
   obtain⟨i,hi⟩:=qaW hm
   exact he i (by have:=aM hi;omega) hi)
 exact⟨n,h1,h2⟩
def hasS_c{h:HL}{x:Value}{l:List K3}(hl:LsH h x 3 cc3 l)(hn:l.length<=100000)(a:K3){p q r:Int}(ha:p=a.1/\q=a.2.1/\r=Int.ofNat a.2.2):aK cc ab 25 [.v x,.i p,.i q,.i r] (absH aa h) [.b (decide (a∈l))] (absH aa h):=by
 obtain⟨n,h1,h2⟩:=ur hl hn a ha
 have h3:aK cc ab 38 [.v x,.i p,.i q,.i r] (absH aa h) [.b (decide (a∈l))] (absH aa h):=by
  refine xK x38 (glsV hl.good (glsI (glsI (glsI gls0)))) ?_
  unfold f38;simp only[qxh]
  refine p_x ?_
  refine am h1 ?_
  refine p_x ?_
  rcases h2 with⟨rfl,h2⟩|⟨i,rfl,h2⟩
  ·rw[p_geq_f (by omega)]
   exact⟨by rw[qdw h2],rfl⟩
  ·rw[p_geq_t (by show(0:Int)<=(i:Int);omega)]
   exact⟨by rw[qdx (qab h2)],rfl⟩
 refine xK x25 (glsV hl.good (glsI (glsI (glsI gls0)))) ?_
 unfold f25;simp only[qxh]
 repeat (first|simp(disch:=omega)only[↓qXX]|refine am h3 ?_)
 trivial
def xF{H:HL}{x:Value}{L:List Sq}{D:List K3}(hl:LsH H x 3 cc3 D)(hD:SetOf L D)(h0:0<L.length)(hn:L.length<=200)(hnd:L.Nodup)(hcon:Con L)(hb:∀c∈L,(-100<=c.1/\c.1<=100)/\-100<=c.2/\c.2<=100) :
  ∃h',aK cc ab 10 [.v x] (absH aa H) [.i (Int.ofNat L.length),.i 0] (absH aa h')/\Low H.length H h'/\H.length<=h'.length:=by
 obtain⟨h1,hc,hlow,hle⟩:=check_c hl hD h0 hn hnd hcon hb
 refine⟨h1,xK x10 (glsV hl.good gls0) ?_,hlow,hle⟩
 have hDl:=hD.len
 unfold f10;simp only[qxh]
 refine p_x ?_
 refine am hc ?_
 refine p_x ?_
 refine bc (hl.low hlow) ?_
 rw[p_quo_nn (by show(0:Int)<=(D.length:Int);omega) (by omega) (by show(D.length:Int)<=9223372036854775807;omega)]
 have e:(Int.ofNat D.length / 4:Int)=Int.ofNat L.length:=by
  show((D.length:Int) / 4:Int)=(L.length:Int)
  omega
 rw[e]
 trivial
def vA{h:HL}{x:Value}{l:TA}(hl:LsH h x 1 encS l)(hok:∀a∈l,1<=a/\a<=4)(h3:Ok3 l)(hn:l.length<=255):aK cc ab 9 [.v x] (absH aa h) [.i (Int.ofNat (1+(l.filter λa=>decide (a<3)).length)),.i 0] (absH aa h):=by
 refine xK x9 (glsV hl.good gls0) ?_
 unfold f9;simp only[qxh]
 refine p_x ?_
 refine am (wl hl hok h3 hn) ?_
 refine p_x ?_
 refine bc hl ?_
 refine cF (σ:=Nat) l.length (λj s=>[.i (Int.ofNat s),.i (Int.ofNat j)]) (λ_ _=>h) (λj s=>s=1+((l.take j).filter λa=>decide (a<3)).length) (j0:=0) (s0:=1) rfl rfl (qaX _) (by simp) ?_
 rintro j s hj hs self hself
 have hbd:((l.take j).filter λa=>decide (a<3)).length<=j:=qbj (List.length_filter_le _ _) (by rw[qaI];omega)
 refine p_x ?_
 by_cases hlt:j<l.length
 ·rw[aR hlt]
  refine p_x ?_
  obtain⟨a,ha⟩:=aY hlt
  have ha4:=hok a (qab ha)
  have ht:l.take (j+1)=l.take j++[a]:=by
   rw[qby,ha];rfl
  refine aV hl rfl ha ?_
  unfold encS
  refine p_x ?_
  refine ae (kO ha4) ?_
  refine p_x ?_
  by_cases h3:3<=a
  ·rw[qdx h3]
   simp(disch:=omega)only[↓qXX,qaE]
   rw[aU (by omega)]
   refine hself s hlt ?_
   rw[ht,List.filter_append,hs]
   simp;omega
  ·rw[qdw h3]
   simp(disch:=omega)only[↓qXX,qba]
   rw[aU (by omega)]
   refine p_x ?_
   rw[aU (by omega)]
   refine hself (s+1) hlt ?_
   rw[ht,List.filter_append,hs]
   simp[show a<3 by omega];omega
 ·obtain rfl:j=l.length:=by omega
  rw[bi (qaf _)]
  refine p_x ?_
  rw[qbh]at hs
  refine⟨by rw[hs],by trivial⟩
namespace St
def eU(c:Crs):(encC c).length=3:=rfl
def pI{n:Nat}(h:n<=1000000000000):bO n 16=true:=by
 unfold bO
 rw[qa5 (by omega),qa5 (by omega)];rfl
def ap2{α:Type}{n0 e:Nat}{enc:α->Tl}{l:List α}{h:HL}{v:Value}{bytes m:Nat}{a b:α}{new:Tl}{sp:Tp}{K:Ta}(henc:∀a,(enc a).length=e)(ho:OwnL n0 h v e enc l)(hn0:n0<=h.length)(hm:m=h.length)(hnew:new=enc a++enc b)(hsp:sp=some (e+10))(hs:bO (l.length+2) bytes=true)
  (hk:∀v' h',OwnL n0 h' v' e enc (l++[a,b])->aW v'=true->(∀(j:Nat) o,h[j]?=some o->Sx.blk v≠some j->h'[j]?=some o)->h.length<=h'.length->K [v'] h') :
  P1.heap (.ap cc e bytes v (.slice (some ⟨m,0,sp⟩) 2 3)) (h++[.o (.cells new e true)]) (@hid _ ⟨K⟩):=by
 subst hm hnew hsp
 have ho':OwnL n0 (h++[HO.o (.cells (enc a++enc b) e true)]) v e enc l:=ho.app _
 refine ho'.ap (new:=[a,b]) (k:=2) henc (by simp;omega) ?_ rfl hs λv' h' a1 a2 a3 a4 a5=>hk v' h' a1 a2 (λj o hj hb=>a3 j o (bv hj) hb) (by simp at a4;omega)
 have hlen:(enc a++enc b).length=2*e:=by rw[qaC,henc,henc];omega
 have hx:SlC (h++[HO.o (.cells (enc a++enc b) e true)]) (.slice (some ⟨h.length,0,tag e⟩) 2 3) e 2 (enc a++enc b):=⟨hlen,.inr ⟨h.length,0,3,enc a++enc b,true,rfl,aH,Sx.cut_all hlen⟩⟩
 have h1:slG cc e (getH aa (h++[HO.o (.cells (enc a++enc b) e true)])) (.slice (some ⟨h.length,0,tag e⟩) 2 3)=some ([a,b].flatMap enc,2):=by
  rw[tK hx]
  simp
 exact h1
def vF{α:Type}{h:HL}{v:Value}{e:Nat}{enc:α->Tl}{l:List α}(hs:LsH h v e enc l):chk2 v=some ():=by
 have:bB v=true:=by
  rcases hs.2.2 with⟨rfl,_⟩|⟨id,off,cx,vs,rw',rfl,_,_⟩
  ·rfl
  ·simp[bB,bu,tag]
 unfold chk2
 rw[this]
 rfl
def clipC_c{h:HL}{x:Value}{l:TC}(hl:LsH h x 3 encC l):∃x',aK cc ab 61 [.v x] (absH aa h) [.v x'] (absH aa h)/\LsH h x' 3 encC l/\aW x'=true:=by
 obtain⟨x',h1,h2,h3,h4⟩:=sl_clip hl
 refine⟨x',xK x61 (glsV hl.good gls0) ?_,h2,h3⟩
 unfold f61;simp only[qxh]
 refine p_x ?_
 refine bc hl (bc hl (af h1 (aq h3 ?_)))
 trivial
def lift5{w:Nat}(hw:w<=256):∀ {l:TC},(∀c∈l,okU w c)->∃J:List C5,J.map crF=l
 | [],_=>⟨[],rfl⟩
 |c :: l,h=>by
  obtain⟨J,hJ⟩:=lift5 hw λa ha=>h a (qan _ ha)
  obtain⟨⟨u,e,h1,h2,h3⟩,h4,h5⟩:=h c qaB
  obtain⟨a1,a2,_⟩:=wG h3
  obtain⟨k,hk⟩:=Int.eq_ofNat_of_zero_le (show 0<=c.2.2 by omega)
  rw[hk]at h4 h5
  refine⟨(⟨u,by omega⟩,⟨e,a2⟩,⟨k,by omega⟩) :: J,?_⟩
  rw[qau,hJ]
  congr 1
  exact qcO h1.symm (qcO h2.symm hk.symm)
def len0:Cc 65 [.i 0] [.i 0]:=uT (by kernel_rfl) rfl (by kernel_rfl) rfl
def sort0_c{H:HL}{v:Value}(hv:LsH H v 3 encC []):aK cc ab 59 [.v v,.v wV] (absH aa H) [] (absH aa H):=by
 obtain⟨rs,h',h1,e1,e2⟩:=x59 (ls:=[.v v,.v wV]) (K:=λrs h'=>rs=[]/\h'=H) (H:=H) (glsV hv.good (glsV rfl gls0)) (by
  unfold f59;simp only[qxh]
  repeat (first|simp(disch:=omega)only[↓qXX]|refine bc hv ?_|refine ae len0 ?_)
  obtain⟨rs,h',g1,g2,g3⟩:=x68 (ls:=[.v v,.i 0,.i (Int.ofNat ([]:TC).length),.i 0,.v wV]) (K:=λrs h'=>rs=[]/\h'=H) (H:=H) (glsV hv.good (glsI (glsI (glsI (glsV rfl gls0))))) (by
   unfold f68;simp only[qxh]
   refine p_x ?_
   refine⟨1,?_⟩
   refine hidL ?_
   rw[show Int.ofNat ([]:TC).length=0 from rfl]
   simp(disch:=omega)only[↓qXX]
   try rw[p_sub (by omega) (by omega)]
   try simp(disch:=omega)only[↓qXX]
   obtain⟨rs,h',g1,g2,g3⟩:=x86 (ls:=[.v v,.i 0,.i 0,.v wV]) (K:=λrs h'=>rs=[]/\h'=H) (H:=H) (glsV hv.good (glsI (glsI (glsV rfl gls0)))) (by
    unfold f86;simp only[qxh]
    refine p_x ?_
    refine⟨1,?_⟩
    refine hidL ?_
    simp(disch:=omega)only[↓qXX]
    trivial)
   rw[g2,g3]at g1
   refine am g1 ?_
   simp(disch:=omega)only[↓qXX]
   trivial)
  rw[g2,g3]at g1
  refine am g1 ?_
  simp(disch:=omega)only[↓qXX]
  trivial)
 rw[e1,e2]at h1
 exact h1
def asc5{D:List C5}(h:D.Pairwise λx y=>¬k5 y<k5 x)(hn:((D.map crF).map cN).Nodup):(D.map crF).Pairwise λa b=>ltC a b=true:=by
 rw[qcC,List.Nodup,qcy]at hn
 refine qcy.2 ((h.and hn).imp λ{x y} ⟨h1,h2⟩=>?_)
 have hx:=x.2.1.isLt
 have hy:=y.2.1.isLt
 have hne:¬(x.1.val=y.1.val/\x.2.1.val=y.2.1.val):=λ⟨e1,e2⟩=>h2 (by
  show cN (crF x)=cN (crF y)
  unfold cN crF
  rw[e1,e2])
 unfold k5 at h1
 simp only[qaV]at h1
 unfold ltC crF
 simp only[qbr,qaa,qdv,qaV]
 omega
def iy{s:Nat}(h:s<=100000){K:Tu}:P1.ari .mul .i64 4 (Int.ofNat s) (@hid _ ⟨K⟩)=K (Int.ofNat (4*s)):=by
 rw[p_mul (by show(-9223372036854775808:Int)<=4*(s:Int);omega) (by show 4*(s:Int)<=9223372036854775807;omega)]
 congr 1
def vQ{l:List (Lf×Lf)}{t:Bool}{K:To}(h:cp l=t)(hk:K t):P1.eqs l (@hid _ ⟨K⟩):=by
 subst h
 exact hk
def pattern_c{H:HL}{x:Value}{ws:TA}(hl:LsH H x 1 encS ws)(hok:∀z∈ws,1<=z/\z<=4)(h3:Ok3 ws)(hn:ws.length<=250) :
  ∃h' v l,aK cc ab 47 [.v x] (absH aa H) [.i (Int.ofNat (1+nmv ws)),.i 1,.v v,.i 0] (absH aa h')/\LsH h' v 3 encC l/\l.Perm (outW ws 0 true)/\(l.Pairwise λa b=>ltC a b=true)/\Low H.length H h'/\H.length<=h'.length:=by
 obtain⟨rs,h',e1,v,l,rfl,e2⟩:=x47 (ls:=[.v x]) (H:=H) (K:=λrs h'=>∃v l,rs=[.i (Int.ofNat (1+nmv ws)),.i 1,.v v,.i 0]/\LsH h' v 3 encC l/\l.Perm (outW ws 0 true)/\(l.Pairwise λa b=>ltC a b=true)/\Low H.length H h'/\H.length<=h'.length) (glsV hl.good gls0) (by
  unfold f47;simp only[qxh]
  refine p_x ?_
  refine am (vA hl hok h3 (by omega)) ?_
  refine p_x ?_
  refine bc hl ?_
  change P1.loop _ [.i 0,.b true,.i 0,.i (Int.ofNat (1+nmv ws)),.i 1,.v (.slice none 0 0)] _
  refine cF (σ:=(Nat×Bool×List Crs)×Value×HL) ws.length (λj s=>[.i (Int.ofNat s.1.1),.b s.1.2.1,.i (Int.ofNat j),.i (Int.ofNat (1+nmv ws)),.i 1,.v s.2.1]) (λ_ s=>s.2.2) (λj s=>OwnL H.length s.2.2 s.2.1 3 encC s.1.2.2/\s.1.2.2++outW (ws.drop j) s.1.1 s.1.2.1=outW ws 0 true/\s.1.1<=j/\s.1.2.2.length<=2*j/\Low H.length H s.2.2/\H.length<=s.2.2.length) (j0:=0) (s0:=((0,true,[]),.slice none 0 0,H)) rfl rfl (qaX _) ⟨OwnL.nil _ _ _ _,by simp,qaf _,by simp,Low.refl _,qaf _⟩ ?_
  rintro j ⟨⟨s,up,out⟩,v,h⟩ hj ⟨ho,hout,hs,hlen,hlow,hle⟩ self hself
  simp only at ho hout hs hlen hlow hle hself
  have hl':=hl.low hlow
  refine p_x ?_
  by_cases hlt:j<ws.length
  case pos=>
   rw[aR hlt]
   refine p_x ?_
   obtain⟨z,hz⟩:=aY hlt
   have hz4:=hok z (qab hz)
   have hdr:ws.drop j=z :: ws.drop (j+1):=by
    rw[qaY hlt]
    rw[qai hlt]at hz
    rw[qae hz]
   rw[hdr]at hout
   refine aV hl' rfl hz ?_
   unfold encS
   refine p_x ?_
   have z4:z=1∨z=2∨z=3∨z=4:=by omega
   cases up with
   |true=>
    refine p_x ?_
    rcases z4 with rfl|rfl|rfl|rfl
    · -- z=1,up=true
     rw[p_eql_t (by rfl)]
     refine p_x ?_
     rw[aU (by omega)]
     try simp(disch:=omega)only[↓qXX]
     rw[aU (by omega)]
     exact hself ((s+1,true,out),v,h) hlt ⟨ho,by simpa[outW]using hout,by show s+1<=j+1;omega,by show out.length<=2*(j+1);omega,hlow,hle⟩
    · -- z=2,up=true
     rw[p_eql_f (by decide)]
     refine p_x ?_
     rw[p_eql_t (by rfl)]
     refine p_x ?_
     rw[iy (by omega)]
     try simp(disch:=omega)only[↓qXX]
     rw[aU (by omega)]
     refine p_x ?_
     refine ho.ap1 (a:=(Int.ofNat (4*s+1),0,kd true)) eU hle rfl rfl rfl (pI (by omega)) λv' h' b1 b2 b3 b4 b5=>?_
     refine p_x ?_
     refine aq b2 ?_
     try simp(disch:=omega)only[↓qXX]
     rw[aU (by omega)]
     try simp(disch:=omega)only[↓qXX]
     rw[aU (by omega)]
     exact hself ((s+1,false,out++[(Int.ofNat (4*s+1),0,kd true)]),v',h') hlt ⟨b1,by simpa[outW,kd]using hout,by show s+1<=j+1;omega,by show(out++_).length<=_;simp;omega,λi o hi hoo=>b3 i o (hlow i o hi hoo) λe=>by
      have:=(ho.blk e).1
      omega,by show H.length<=h'.length;omega⟩
    · -- z=3,up=true
     rw[p_eql_f (by decide)]
     refine p_x ?_
     rw[p_eql_f (by decide)]
     refine p_x ?_
     rw[p_eql_t (by rfl)]
     simp(disch:=omega)only[↓qXX]
     try (refine vQ (t:=true) rfl ?_;simp(disch:=omega)only[↓qXX])
     rw[iy (by omega)]
     try simp(disch:=omega)only[↓qXX]
     rw[iy (by omega)]
     try simp(disch:=omega)only[↓qXX]
     rw[aU (by omega)]
     refine p_x ?_
     refine ap2 (a:=(Int.ofNat (4*s),2,kd true)) (b:=(Int.ofNat (4*s+1),2,kd true)) eU ho hle rfl rfl rfl (pI (by omega)) λv' h' b1 b2 b3 b4=>?_
     refine p_x ?_
     refine aq b2 ?_
     try simp(disch:=omega)only[↓qXX]
     rw[aU (by omega)]
     exact hself ((s,false,out++[(Int.ofNat (4*s),2,kd true),(Int.ofNat (4*s+1),2,kd true)]),v',h') hlt ⟨b1,by simpa[outW,kd]using hout,by show s<=j+1;omega,by show(out++_).length<=_;simp;omega,λi o hi hoo=>b3 i o (hlow i o hi hoo) λe=>by
      have:=(ho.blk e).1
      omega,by show H.length<=h'.length;omega⟩
    · -- z=4,up=true
     rw[p_eql_f (by decide)]
     refine p_x ?_
     rw[p_eql_f (by decide)]
     refine p_x ?_
     rw[p_eql_f (by decide)]
     simp(disch:=omega)only[↓qXX]
     try (refine vQ (t:=false) rfl ?_;simp(disch:=omega)only[↓qXX])
     rw[iy (by omega)]
     try simp(disch:=omega)only[↓qXX]
     rw[iy (by omega)]
     try simp(disch:=omega)only[↓qXX]
     rw[p_add (by show(-9223372036854775808:Int)<=((4*s:Nat):Int)+2;omega) (by show((4*s:Nat):Int)+2<=9223372036854775807;omega)]
     refine p_x ?_
     refine ap2 (a:=(Int.ofNat (4*s),1,kd true)) (b:=(Int.ofNat (4*s+2),1,kd true)) eU ho hle rfl rfl rfl (pI (by omega)) λv' h' b1 b2 b3 b4=>?_
     refine p_x ?_
     refine aq b2 ?_
     try simp(disch:=omega)only[↓qXX]
     rw[aU (by omega)]
     exact hself ((s,false,out++[(Int.ofNat (4*s),1,kd true),(Int.ofNat (4*s+2),1,kd true)]),v',h') hlt ⟨b1,by simpa[outW,kd]using hout,by show s<=j+1;omega,by show(out++_).length<=_;simp;omega,λi o hi hoo=>b3 i o (hlow i o hi hoo) λe=>by
      have:=(ho.blk e).1
      omega,by show H.length<=h'.length;omega⟩
   |false=>
    refine p_x ?_
    rcases z4 with rfl|rfl|rfl|rfl
    · -- z=1,up=false
     rw[p_eql_t (by rfl)]
     refine p_x ?_
     rw[aU (by omega)]
     try simp(disch:=omega)only[↓qXX]
     rw[aU (by omega)]
     exact hself ((s+1,false,out),v,h) hlt ⟨ho,by simpa[outW]using hout,by show s+1<=j+1;omega,by show out.length<=2*(j+1);omega,hlow,hle⟩
    · -- z=2,up=false
     rw[p_eql_f (by decide)]
     refine p_x ?_
     rw[p_eql_t (by rfl)]
     refine p_x ?_
     rw[iy (by omega)]
     try simp(disch:=omega)only[↓qXX]
     rw[aU (by omega)]
     refine p_x ?_
     refine ho.ap1 (a:=(Int.ofNat (4*s+1),0,kd false)) eU hle rfl rfl rfl (pI (by omega)) λv' h' b1 b2 b3 b4 b5=>?_
     refine p_x ?_
     refine aq b2 ?_
     try simp(disch:=omega)only[↓qXX]
     rw[aU (by omega)]
     try simp(disch:=omega)only[↓qXX]
     rw[aU (by omega)]
     exact hself ((s+1,true,out++[(Int.ofNat (4*s+1),0,kd false)]),v',h') hlt ⟨b1,by simpa[outW,kd]using hout,by show s+1<=j+1;omega,by show(out++_).length<=_;simp;omega,λi o hi hoo=>b3 i o (hlow i o hi hoo) λe=>by
      have:=(ho.blk e).1
      omega,by show H.length<=h'.length;omega⟩
    · -- z=3,up=false
     rw[p_eql_f (by decide)]
     refine p_x ?_
     rw[p_eql_f (by decide)]
     refine p_x ?_
     rw[p_eql_t (by rfl)]
     simp(disch:=omega)only[↓qXX]
     try (refine vQ (t:=false) rfl ?_;simp(disch:=omega)only[↓qXX])
     rw[iy (by omega)]
     try simp(disch:=omega)only[↓qXX]
     rw[iy (by omega)]
     try simp(disch:=omega)only[↓qXX]
     rw[p_add (by show(-9223372036854775808:Int)<=((4*s:Nat):Int)+2;omega) (by show((4*s:Nat):Int)+2<=9223372036854775807;omega)]
     refine p_x ?_
     refine ap2 (a:=(Int.ofNat (4*s),1,kd false)) (b:=(Int.ofNat (4*s+2),1,kd false)) eU ho hle rfl rfl rfl (pI (by omega)) λv' h' b1 b2 b3 b4=>?_
     refine p_x ?_
     refine aq b2 ?_
     try simp(disch:=omega)only[↓qXX]
     rw[aU (by omega)]
     exact hself ((s,true,out++[(Int.ofNat (4*s),1,kd false),(Int.ofNat (4*s+2),1,kd false)]),v',h') hlt ⟨b1,by simpa[outW,kd]using hout,by show s<=j+1;omega,by show(out++_).length<=_;simp;omega,λi o hi hoo=>b3 i o (hlow i o hi hoo) λe=>by
      have:=(ho.blk e).1
      omega,by show H.length<=h'.length;omega⟩
    · -- z=4,up=false
     rw[p_eql_f (by decide)]
     refine p_x ?_
     rw[p_eql_f (by decide)]
     refine p_x ?_
     rw[p_eql_f (by decide)]
     simp(disch:=omega)only[↓qXX]
     try (refine vQ (t:=true) rfl ?_;simp(disch:=omega)only[↓qXX])
     rw[iy (by omega)]
     try simp(disch:=omega)only[↓qXX]
     rw[iy (by omega)]
     try simp(disch:=omega)only[↓qXX]
     rw[aU (by omega)]
     refine p_x ?_
     refine ap2 (a:=(Int.ofNat (4*s),2,kd false)) (b:=(Int.ofNat (4*s+1),2,kd false)) eU ho hle rfl rfl rfl (pI (by omega)) λv' h' b1 b2 b3 b4=>?_
     refine p_x ?_
     refine aq b2 ?_
     try simp(disch:=omega)only[↓qXX]
     rw[aU (by omega)]
     exact hself ((s,true,out++[(Int.ofNat (4*s),2,kd false),(Int.ofNat (4*s+1),2,kd false)]),v',h') hlt ⟨b1,by simpa[outW,kd]using hout,by show s<=j+1;omega,by show(out++_).length<=_;simp;omega,λi o hi hoo=>b3 i o (hlow i o hi hoo) λe=>by
      have:=(ho.blk e).1
      omega,by show H.length<=h'.length;omega⟩
  obtain rfl:j=ws.length:=by omega
  rw[bi (qaf _)]
  refine p_x ?_
  rw[List.drop_length]at hout
  have hout':out=outW ws 0 true:=by rw[←hout];simp[outW]
  have hw:=fU ws 0 0 0 0 hok
  have hnm:nmv ws<=ws.length:=List.length_filter_le _ _
  obtain⟨J,hJ⟩:=lift5 (w:=(ribL ws 0 0 0 0).length) (by omega) (l:=out) λc hc=>out_ok hok h3 (by rw[←hout'];exact hc)
  by_cases h0:0<out.length
  ·rcases ho with⟨_,he⟩|⟨id,cx,rfl,hid,hcell,hcx⟩
   ·rw[he]at h0;simp at h0
   have hJl:J.length=out.length:=by rw[←hJ,qaF]
   obtain⟨D,hD,hDs,hcall⟩:=sort5_c (cx:=cx) (J:=J) (by rw[hJ];exact hcell) (by omega) (by omega)
   rw[hJl]at hcall
   refine am hcall ?_
   clear hcall
   refine p_x ?_
   have hls:LsH (putE h id 3 encC (D.map crF)) (.slice (some ⟨id,0,tag 3⟩) out.length cx) 3 encC (D.map crF):=by
    have:=putE_ls (cx:=cx) eU (aM hcell) (l:=D.map crF)
    rw[qaF,hD.length_eq,hJl]at this
    exact this
   obtain⟨x',c1,c2,c3⟩:=clipC_c hls
   refine am c1 ?_
   refine p_x ?_
   refine af (x:=()) (vF c2) ?_
   have hperm:(D.map crF).Perm (outW ws 0 true):=by
    rw[←hout',←hJ]
    exact hD.map crF
   refine⟨_,_,rfl,c2,hperm,asc5 hDs (pat_ok hok h3 hperm).2.1,λi o hi hoo=>?_,?_⟩
   ·rw[dg (by omega)]
    exact hlow i o hi hoo
   ·unfold putE
    rw[qbx]
    exact hle
  ·have he:out=[]:=qbn.1 (by omega)
   have hv:=ho.ls eU
   rw[he]at hv
   refine am (sort0_c hv) ?_
   refine p_x ?_
   obtain⟨x',c1,c2,c3⟩:=clipC_c hv
   refine am c1 ?_
   refine p_x ?_
   refine af (x:=()) (vF c2) ?_
   refine⟨_,_,rfl,c2,?_,List.Pairwise.nil,hlow,hle⟩
   rw[←hout',he])
 exact⟨h',v,l,e1,e2⟩
end St
namespace St
def imW(ws:TA):TJ:=(List.range (4*(ribL ws 0 0 0 0).length*1)).map (imC (λs=>(dAt (ribL ws 0 0 0 0) s).1) (λs=>(dAt (ribL ws 0 0 0 0) s).2.2.1) (λs=>(dAt (ribL ws 0 0 0 0) s).2.2.2.1) (λs=>(dAt (ribL ws 0 0 0 0) s).2.2.2.2))
def root_f:∀(ws:TA),(∀z∈ws,1<=z/\z<=4)->Ok3 ws->jz (dAt (ribL ws 0 0 0 0) 0).1=if ws.head? = some 3 then(7,0,0)else(0,0,0)
 | [],_,_=>rfl
 |z :: ws,hok,h3=>by
  have key:∀(f:Nat),(∀a,ws.head? = some a->a<3)->(∀a∈ws,1<=a)->(dAt (ribL ws f 0 0 0) 0).1=f:=by
   intro f hh hp
   cases ws with
   |nil=>rfl
   |cons a ws=>
    have h1:=hh a rfl
    have h2:=hp a qaB
    have:a=1∨a=2:=by omega
    rcases this with rfl|rfl<;>rfl
  have hz:=hok z qaB
  have hp:∀a∈ws,1<=a:=λa ha=>(hok a (qan _ ha)).1
  have z4:z=1∨z=2∨z=3∨z=4:=by omega
  rcases z4 with rfl|rfl|rfl|rfl
  ·rfl
  ·rfl
  ·show jz (dAt (ribL ws 1 0 0 0) 0).1=_
   rw[key 1 (js h3 (by omega)) hp]
   rfl
  ·show jz (dAt (ribL ws 2 0 0 0) 0).1=_
   rw[key 2 (js h3 (by omega)) hp]
   rfl
def rf:∀(ws:TA) (s:Nat) (up:Bool),(outW ws s up).length<=2*ws.length
 | [],_,_=>by simp[outW]
 |z :: ws,s,up=>by
  unfold outW
  have h1:=rf ws (s+1) up
  have h2:=rf ws (s+1) (!up)
  have h3:=rf ws s (!up)
  split
  ·simp only[qaG];omega
  ·split
   ·simp only[qaG];omega
   ·split<;>simp only[qaG]<;>omega
def ident_c:Cc 48 [] [.i 0,.i 0,.i 0]:=by
 refine q48 rfl ?_;unfold f48;simp only[qxh]
 try simp(disch:=omega)only[↓qXX]
def imagesW_c{H:HL}{x:Value}{ws:TA}(hl:LsH H x 1 encS ws)(hok:∀z∈ws,1<=z/\z<=4)(h3:Ok3 ws)(hn:ws.length<=250)(hn2:nmv ws<=59) :
  ∃h' v,aK cc ab 36 [.v x] (absH aa H) [.v v,.i 0] (absH aa h')/\LsH h' v 3 aF (imW ws)/\Low H.length H h'/\H.length<=h'.length:=by
 obtain⟨h1,v1,l,hcall,hl1,hp,hasc,hlow1,hle1⟩:=pattern_c hl hok h3 hn
 have hw:=fU ws 0 0 0 0 hok
 obtain⟨p1,p2,p3⟩:=pat_ok hok h3 hp
 have hR:=rib_of ws
 have hww:1<=(ribL ws 0 0 0 0).length/\(ribL ws 0 0 0 0).length<=60:=by omega
 have hlen:l.length<=1000:=by
  have h5:=hp.length_eq
  have h6:=rf ws 0 true
  omega
 have hck:=check_c hww hl1 p1 hasc hlen
 obtain⟨ix,h2,hcall2,hpre,hls⟩:=images_c (w:=(ribL ws 0 0 0 0).length) (v:=1) ⟨hww.1,hww.2,rfl⟩ p2 hlen hl1 hck (GR_cons hR hww p3) (GR_0 hR) (λc hc=>GR_ok hR hww.2 hc) (hQ (ru _) (by omega))
 rw[im_eq hR]at hls
 have hls':LsH h2 ix 3 aF (imW ws):=hls
 have hcall3:aK cc ab 50 ([.i (Int.ofNat (1+nmv ws)),.i 1,.v v1]++mvl (if ws.head? = some 3 then(7,0,0)else(0,0,0))) (absH aa h1) [.v ix,.i 0] (absH aa h2):=by
  rw[←root_f ws hok h3,←hw]
  exact hcall2
 have hl1':=hl.low hlow1
 have hlow2:Low H.length H h2:=λi o hi hoo=>Pre.get hpre (hlow1 i o hi hoo)
 have hle2:H.length<=h2.length:=qbj hle1 hpre.len
 obtain⟨rs,h',e1,rfl,rfl⟩:=x36 (ls:=[.v x]) (H:=H) (K:=λrs h'=>rs=[.v ix,.i 0]/\h'=h2) (glsV hl.good gls0) (by
  unfold f36;simp only[qxh]
  refine p_x ?_
  refine am hcall ?_
  refine p_x ?_
  refine ae ident_c ?_
  refine p_x ?_
  refine bc hl1' ?_
  cases ws with
  |nil=>
   rw[p_gtr_f (by simp)]
   refine p_x ?_
   refine am hcall3 ?_
   simp(disch:=omega)only[↓qXX]
   trivial
  |cons z ws=>
   rw[p_gtr_t (by show(0:Int)<((z :: ws).length:Int);simp only[qaG];omega)]
   refine p_x ?_
   refine aV hl1' (i:=0) (a:=z) rfl rfl ?_
   unfold encS
   refine p_x ?_
   by_cases hz:z=3
   ·subst hz
    rw[p_eql_t (by rfl)]
    refine p_x ?_
    refine ae (mlof_c (l:=(4,0)) ⟨by decide,by decide⟩ ⟨by decide,by decide⟩) ?_
    simp only[mvl,ofM,qa2,qaS]
    refine p_x ?_
    refine am hcall3 ?_
    simp(disch:=omega)only[↓qXX]
    trivial
   ·rw[p_eql_f (show Int.ofNat z≠3 from λe=>hz (qca e))]
    refine p_x ?_
    rw[qdz (by simpa using hz)]at hcall3
    refine am hcall3 ?_
    simp(disch:=omega)only[↓qXX]
    trivial)
 exact⟨_,ix,e1,hls',hlow2,hle2⟩
end St
end Go.Am
namespace Go.Am
open Sx Go.Proofs
namespace St
def cmpI(a b:Int):Int:=if a<b then -1 else if b<a then 1 else 0
def orI:List Int->Int
 | []=>0
 |a :: l=>if a=0 then orI l else a
theorem cmpI_0{a b:Int}:cmpI a b=0↔a=b:=by
 unfold cmpI
 split
 ·constructor
  ·intro h;omega
  ·intro h;omega
 ·split
  ·constructor
   ·intro h;omega
   ·intro h;omega
  ·constructor
   ·intro _;omega
   ·intro _;rfl
def encQ(p:Int×Int):Tl:=[.int .i64 p.1,.int .i64 p.2]
def qp(p:Int×Int):(encQ p).length=2:=rfl
def nan_c(a:Int):Cc 67 [.i a] [.b false]:=by
 refine q67 rfl ?_;unfold f67;simp only[qxh]
 simp(disch:=omega)only[↓qXX]
def cmp_c(a b:Int):Cc 58 [.i a,.i b] [.i (cmpI a b)]:=by
 refine q58 rfl ?_;unfold f58;simp only[qxh]
 repeat (first|simp(disch:=omega)only[↓qXX]|refine ae (nan_c a) ?_|refine ae (nan_c b) ?_)
 unfold cmpI
 by_cases h1:a<b
 ·simp(disch:=omega)only[↓qXX]
  simp[h1]
 ·by_cases h2:b<a
  ·simp(disch:=omega)only[↓qXX]
   simp[h1,h2]
  ·simp(disch:=omega)only[↓qXX]
   simp[h1,h2]
def re{l:List Int}{j:Nat}{a:Int}(ha:l[j]?=some a):orI (l.drop j)=if a=0 then orI (l.drop (j+1))else a:=by
 rw[qaY (aM ha)]
 have h1:l[j]'(aM ha)=a:=by rw[qai (aM ha)]at ha;exact qae ha
 rw[h1]
 rfl
def ord_c{h:HL}{x:Value}{l:List (Int×Int)}(hl:LsH h x 2 encQ l)(hb:l.length<=1000) :
  aK cc ab 44 [.v x] (absH aa h) [.i (orI (l.map λp=>cmpI p.1 p.2))] (absH aa h):=by
 exact xK x44 (glsV hl.good gls0) (by
  unfold f44;simp only[qxh]
  refine p_x ?_
  refine bc hl ?_
  refine dU l.length (λj=>orI (l.map λp=>cmpI p.1 p.2)=orI ((l.map λp=>cmpI p.1 p.2).drop j)) (j0:=0) rfl (qaX _) rfl ?_
  intro j hj he self hself
  refine p_x ?_
  by_cases hlt:j<l.length
  ·rw[aR hlt]
   refine p_x ?_
   obtain⟨p,hp⟩:=aY hlt
   refine aV hl rfl hp ?_
   unfold encQ
   repeat (first|simp(disch:=omega)only[↓qXX]|refine ae (cmp_c p.1 p.2) ?_)
   rw[re (a:=cmpI p.1 p.2) (by rw[qax,hp];rfl)]at he
   by_cases h0:cmpI p.1 p.2=0
   ·rw[p_neq_f h0]
    refine p_x ?_
    rw[aU (by omega)]
    rw[qdy h0]at he
    exact hself hlt he
   ·rw[p_neq_t h0]
    refine p_x ?_
    rw[qdz h0]at he
    exact⟨by rw[he],by trivial⟩
  ·obtain rfl:j=l.length:=by omega
   rw[bi (qaf _)]
   refine p_x ?_
   refine⟨?_,by trivial⟩
   rw[he,qbu (by rw[qaF];exact qaf _)]
   rfl)
def cellCmp_c{x y q x' y' q':Int}(hq:0<=q/\q<=255)(hq':0<=q'/\q'<=255):Cc 30 [.i x,.i y,.i q,.i x',.i y',.i q'] [.i (orI [cmpI y y',cmpI x x',cmpI q q'])]:=by
 refine q30 rfl ?_;unfold f30;simp only[qxh]
 refine p_x ?_
 refine am (h':=[]++[HO.o (.cells [.int .i64 y,.int .i64 y',.int .i64 x,.int .i64 x',.int .i64 q,.int .i64 q'] 2 true)]) (ord_c (l:=[(y,y'),(x,x'),(q,q')]) ?_ (by simp)) ?_
 ·exact newE_ls (h:=[]) (e:=2) (enc:=encQ) (l:=[(y,y'),(x,x'),(q,q')]) qp (by rfl)
 ·simp(disch:=omega)only[↓qXX]
  rfl
def cmpC(a b:Cl):Int:=orI [cmpI a.2.1 b.2.1,cmpI a.1 b.1,cmpI (Int.ofNat a.2.2) (Int.ofNat b.2.2)]
def ltL(a b:Cl):Prop:=a.2.1<b.2.1∨(a.2.1=b.2.1/\(a.1<b.1∨(a.1=b.1/\a.2.2<b.2.2)))
instance (a b : Cl) : Decidable (ltL a b) := by unfold ltL; exact inferInstance
def cmpC_lt(a b:Cl):cmpC a b<0↔ltL a b:=by
 unfold cmpC ltL
 simp only[orI]
 have h1:=@cmpI_0 a.2.1 b.2.1
 have h2:=@cmpI_0 a.1 b.1
 have e1:cmpI a.2.1 b.2.1<0↔a.2.1<b.2.1:=by unfold cmpI;split<;>(try split)<;>omega
 have e2:cmpI a.1 b.1<0↔a.1<b.1:=by unfold cmpI;split<;>(try split)<;>omega
 have e3:cmpI (Int.ofNat a.2.2) (Int.ofNat b.2.2)<0↔a.2.2<b.2.2:=by
  have:(Int.ofNat a.2.2<Int.ofNat b.2.2)↔a.2.2<b.2.2:=Int.ofNat_lt
  unfold cmpI
  split<;>(try split)<;>omega
 have e4:=@cmpI_0 (Int.ofNat a.2.2) (Int.ofNat b.2.2)
 split
 next g1=>
  split
  next g2=>
   split
   next g3=>
    have:=e4.1 g3
    have:a.2.2=b.2.2:=qca this
    omega
   ·omega
  ·omega
 ·omega
def ltL_tri{a b:Cl}:ltL a b∨a=b∨ltL b a:=by
 obtain⟨a1,a2,a3⟩:=a
 obtain⟨b1,b2,b3⟩:=b
 simp only[ltL,qb6]
 omega
def mY{a:Cl}:¬ltL a a:=by unfold ltL;omega
def ltL_tr{a b c:Cl}(h:ltL a b)(k:ltL b c):ltL a c:=by unfold ltL at *;omega
abbrev C4:=Int×Int×Fin 4
def clF(a:C4):Cl:=(a.1,a.2.1,a.2.2.val)
def enc4(a:C4):Tl:=aF (clF a)
def cf4(a b:C4):Int:=cmpC (clF a) (clF b)
def lt4(a b:C4):Go.Proofs.ltOf cf4 a b=decide (ltL (clF a) (clF b)):=by
 unfold Go.Proofs.ltOf cf4
 rw[decide_eq_decide]
 exact cmpC_lt _ _
def swo4:Go.Sort.SWO (Go.Proofs.ltOf cf4) where
 irrefl x:=by rw[lt4,qdw];exact mY
 trans x y z h1 h2:=by
  rw[lt4,qdv]at *
  exact ltL_tr h1 h2
 ntrans x y z h1 h2:=by
  rw[lt4,decide_eq_false_iff_not]at *
  intro h
  unfold ltL at *
  omega
def cmp4(a b:C4):cO cc 30 [.agg ⟨enc4 a⟩,.agg ⟨enc4 b⟩] [] (.int .i64 (cf4 a b)) []:=by
 have ha:=a.2.2.isLt
 have hb:=b.2.2.isLt
 have hc:=cellCmp_c (x:=a.1) (y:=a.2.1) (q:=Int.ofNat a.2.2.val) (x':=b.1) (y':=b.2.1) (q':=Int.ofNat b.2.2.val) (by simp only[qaV];omega) (by simp only[qaV];omega) []
 exact gj (N:=neuN) mixed (Sg:=ab) (sg:=⟨[.agg [.i .i64,.i .i64,.i .u8],.agg [.i .i64,.i .i64,.i .u8]],[li]⟩) rfl hc (xs:=[.agg [.i .i64 a.1,.i .i64 a.2.1,.i .u8 (Int.ofNat a.2.2.val)],.agg [.i .i64 b.1,.i .i64 b.2.1,.i .u8 (Int.ofNat b.2.2.val)]]) rfl rfl (ys:=[.leaf (.i .i64 (cf4 a b))]) rfl rfl
abbrev cloC:Value:=.func (.func 30) ⟨[]⟩ ⟨[]⟩
def sort_c{H:HL}{id cx:Nat}{J:List C4}(hid:H[id]?=some (.o (.cells ((J.map clF).flatMap aF) 3 true)))(h0:0<J.length)(hl:J.length<=100000) :
  ∃D:List C4,D.Perm J/\(D.Pairwise λx y=>¬ltL (clF y) (clF x))/\aK cc ab 52 [.v (.slice (some ⟨id,0,tag 3⟩) J.length cx),.v cloC] (absH aa H) [] (absH aa (putE H id 3 aF (D.map clF))):=by
 have e1:∀L:List C4,(L.map clF).flatMap aF=L.flatMap enc4:=λL=>by rw[List.flatMap_map];rfl
 refine⟨srt cf4 J,wy swo4 J,?_,?_⟩
 ·refine(wx swo4 J).imp λ{x y} h=>?_
  rw[lt4,decide_eq_false_iff_not]at h
  exact h
 ·have hid2:(absH aa H)[id]?=some (.cells (J.flatMap enc4) 3 true):=by
   rw[←e1]
   unfold absH
   rw[qax,hid]
   rfl
  have hok:=nL (C:=cc) gH layS (enc:=enc4) (e:=3) (λw=>by kernel_rfl) (λw=>by kernel_rfl) (λ_=>rfl) (λx v hv=>by
   simp only[enc4,aF,qal,qbq,or_false]at hv
   rcases hv with rfl|rfl|rfl<;>rfl) swo4 (g:=30) (λargs w=>by kernel_rfl) cmp4 (cx:=cx) hid2 rfl h0 (by omega)
  have hset:(absH aa H).set id (.cells ((srt cf4 J).flatMap enc4) 3 true)=absH aa (putE H id 3 aF ((srt cf4 J).map clF)):=by
   unfold putE
   rw[e1,rR]
   rfl
  rw[hset]at hok
  exact⟨⟨[lv,lv],[]⟩,[.leaf (.v (.slice (some ⟨id,0,tag 3⟩) J.length cx)),.leaf (.v cloC)],[],rfl,⟨rfl,rfl,λy hy=>by
   simp only[qal,qbq,or_false]at hy
   rcases hy with rfl|rfl
   ·exact au (show aW (.slice (some ⟨id,0,tag 3⟩) J.length cx)=true by simp[aW,noLoc,bj,bB,bu,aS,aJ,tag])
   ·exact au rfl⟩,⟨rfl,rfl,λy hy=>by cases hy⟩,⟨0,.inr ⟨.inl (by kernel_rfl),hok⟩⟩⟩
end St
namespace St
def vCl(c:Cl):Bool:=decide (-4096<=c.1/\c.1<=4096/\-4096<=c.2.1/\c.2.1<=4096)
def cchk_any{c:Cl}(hq:c.2.2<4):Cc 43 (cll c) [.i (if vCl c then 0 else 1)]:=by
 by_cases hv:vCl c=true
 ·rw[qdy hv]
  unfold vCl at hv
  rw[qdv]at hv
  exact sa ⟨hv.1,hv.2.1,hv.2.2.1,hv.2.2.2,hq⟩
 ·rw[qdz hv]
  unfold vCl at hv
  rw[qdv]at hv
  refine q43 rfl ?_;unfold f43;simp only[qxh]
  simp only[cll]
  refine p_x ?_
  by_cases h1:c.1 < -4096
  ·repeat (first|simp(disch:=omega)only[↓qXX])
   try rfl
  by_cases h2:4096<c.1
  ·repeat (first|simp(disch:=omega)only[↓qXX])
   try rfl
  by_cases h3:c.2.1 < -4096
  ·repeat (first|simp(disch:=omega)only[↓qXX])
   try rfl
  ·have h4:4096<c.2.1:=by omega
   repeat (first|simp(disch:=omega)only[↓qXX])
   try rfl
def Ful{α:Type}(h:HL)(x:Value)(e:Nat)(enc:α->Tl)(l:List α):Prop:=∃id,x = .slice (some ⟨id,0,tag e⟩) l.length (l.length+1)/\h[id]?=some (.o (.cells (l.flatMap enc) e true))
def Ful.ls{α:Type}{h:HL}{x:Value}{e:Nat}{enc:α->Tl}{l:List α}(henc:∀a,(enc a).length=e)(hf:Ful h x e enc l):LsH h x e enc l:=by
 obtain⟨id,rfl,h1⟩:=hf
 exact ko henc h1 rfl
def Ful.pre{α:Type}{h h':HL}{x:Value}{e:Nat}{enc:α->Tl}{l:List α}(hf:Ful h x e enc l)(hp:Pre h h'):Ful h' x e enc l:=by
 obtain⟨id,rfl,h1⟩:=hf
 exact⟨id,rfl,hp.get h1⟩
def Ful.cap{α:Type}{h:HL}{x:Value}{e:Nat}{enc:α->Tl}{l:List α}(hf:Ful h x e enc l):capS x=some (Int.ofNat l.length):=by
 obtain⟨id,rfl,h1⟩:=hf
 exact cap_full
abbrev cloW:Value:=.func (.func 42) ⟨[]⟩ ⟨[]⟩
def okCl(c:Cl):Prop:=vCl c=true/\c.2.2<4
def rL{c:Cl}(h:okCl c):Cc 42 (cll c) [.b false]:=by
 refine q42 rfl ?_;unfold f42;simp only[qxh]
 simp only[cll]
 refine p_x ?_
 refine ae (cchk_any (c:=c) h.2) ?_
 rw[qdy h.1]
 simp(disch:=omega)only[↓qXX]
def qL{h:HL}{x:Value}{l:TJ}(hl:LsH h x 3 aF l)(hok:∀c∈l,okCl c)(hn:l.length<=100000):aK cc ab 57 [.v x,.v cloW] (absH aa h) [.i (-1)] (absH aa h):=by
 exact xK x57 (glsV hl.good (glsV rfl gls0)) (by
  unfold f57;simp only[qxh]
  refine p_x ?_
  refine bc hl ?_
  refine dU l.length (λ_=>True) rfl (qaX _) trivial ?_
  intro j hj _ self hself
  refine p_x ?_
  by_cases hlt:j<l.length
  ·rw[aR hlt]
   refine p_x ?_
   obtain⟨c,hc⟩:=aY hlt
   refine aV hl rfl hc ?_
   unfold aF
   repeat (first|simp(disch:=omega)only[↓qXX]|refine fR (lJ (rL (hok c (qab hc)) _) rfl [.agg [.i .i64 c.1,.i .i64 c.2.1,.i .u8 (Int.ofNat c.2.2)]] rfl rfl) ?_)
   rw[aU (by omega)]
   exact hself hlt trivial
  ·rw[bi (by omega)]
   simp(disch:=omega)only[↓qXX]
   trivial)
def uV{h:HL}{x:Value}{l:TJ}(hl:LsH h x 3 aF l)(hok:∀c∈l,okCl c)(hn:l.length<=100000):aK cc ab 29 [.v x] (absH aa h) [.b false] (absH aa h):=by
 have h1:=qL hl hok hn
 obtain⟨rs,h',h3,rfl,e3⟩:=x41 (ls:=[.v x,.v cloW]) (K:=λrs h'=>rs=[.b false]/\h'=h) (H:=h) (glsV hl.good (glsV rfl gls0)) (by
  unfold f41;simp only[qxh]
  repeat (first|simp(disch:=omega)only[↓qXX]|refine am h1 ?_)
  trivial)
 rw[e3]at h3
 exact xK x29 (glsV hl.good gls0) (by
  unfold f29;simp only[qxh]
  repeat (first|simp(disch:=omega)only[↓qXX]|refine am h3 ?_)
  trivial)
def r_apE{α:Type}{e kb:Nat}{enc:α->Tl}{h:HL}{x:Value}{new:List α}{m:Nat}{K:Ta}(hg:h[m]?=some (.o (.cells [] e true)))(hx:LsH h x e enc new)(hn:0<new.length)(hb:new.length*kb<=140737488355328)(hb':new.length<=140737488355328)
  (hk:K [.slice (some ⟨h.length,0,tag e⟩) new.length 0] (h++[.o (.cells (new.flatMap enc) e true)])) :
  P1.heap (.ap cc e kb (.slice (some ⟨m,0,tag e⟩) 0 1) x) h (@hid _ ⟨K⟩):=by
 have hsz:bO (0+new.length) kb=true:=by
  rw[qaL]
  unfold bO
  rw[qa5 hb',qa5 hb];rfl
 have hcut:cut ([]:Tl) 0 (0*e)=some []:=Sx.cut_all (by simp)
 have hrun:apG cc e kb (.slice (some ⟨m,0,tag e⟩) 0 1) x (getH aa h) h.length=some ([.push (.cells ([]++new.flatMap enc) e true)],[.slice (some ⟨h.length,0,tag e⟩) (0+new.length) 0]):=by
  unfold apG
  rw[tK hx.2]
  simp only[ne_eq,not_true_eq_false,if_false]
  rw[bR hg]
  simp only[ne_eq,not_true_eq_false,if_false]
  rw[hcut]
  simp only
  rw[qdz (by omega),qdy hsz]
 refine bS (show(Hp.ap cc e kb (.slice (some ⟨m,0,tag e⟩) 0 1) x).run _ _=_ from hrun) ?_
 rw[qaL]
 exact hk
abbrev sl3(id n cx:Nat):Value:=.slice (some ⟨id,0,tag 3⟩) n cx
def clone_c{h:HL}{x:Value}{l:TJ}(hl:LsH h x 3 aF l)(h0:0<l.length)(hn:l.length<=100000):aK cc ab 51 [.v x] (absH aa h) [.v (sl3 (h.length+1) l.length 0)] (absH aa (h++[.o (.cells [] 3 true),.o (.cells (l.flatMap aF) 3 true)])):=by
 have hx:∃a n c,x = .slice (some a) n c:=by
  rcases hl.2.2 with⟨_,hz⟩|⟨id,off,cx,vs,rw',rfl,_,_⟩
  ·omega
  ·exact⟨_,_,_,rfl⟩
 exact xK x51 (glsV hl.good gls0) (by
  unfold f51;simp only[qxh]
  refine p_x ?_
  obtain⟨a,n,c,rfl⟩:=hx
  repeat (first|simp(disch:=omega)only[↓qXX]|refine af (x:=false) rfl ?_|refine r_apE (kb:=24) (h:=h++[.o (.cells [] 3 true)]) (m:=h.length) aH (hl.pre ⟨_,rfl⟩) h0 (by omega) (by omega) ?_)
  refine aq (by simp[aW,noLoc,bj,bB,bu,aS,aJ,tag]) ?_
  refine⟨by simp,by simp⟩)
def cmN(L:TJ):Nat->List Cl
 |0=>[]
 |n+1=>match L[n]? with
  |none=>cmN L n
  |some c=>if 0<n/\L[n - 1]?=some c then cmN L n else cmN L n++[c]
def cmN_len{L:TJ}:∀n,(cmN L n).length<=n
 |0=>qaf _
 |n+1=>by
  have:=cmN_len (L:=L) n
  unfold cmN
  split
  ·omega
  ·split
   ·omega
   ·rw[qaC];simp only[qaG,qbG];omega
def ls_off{α:Type}{e:Nat}{enc:α->Tl}(henc:∀a,(enc a).length=e){h:HL}{id cx o n:Nat}{L:List α}(hg:h[id]?=some (.o (.cells (L.flatMap enc) e true)))(ho:o<=L.length)(hn:n=L.length - o):LsH h (.slice (some ⟨id,o*e,tag e⟩) n cx) e enc (L.drop o):=by
 have hd:(L.drop o).length=n:=by rw[qbN];omega
 refine⟨λa _=>henc a,aG λa _=>henc a,.inr ⟨id,o*e,cx,_,true,by rw[hd],hg,?_⟩⟩
 have e1:L.flatMap enc=(L.take o).flatMap enc++(L.drop o).flatMap enc:=by rw[←qb8,qbt]
 have e2:((L.take o).flatMap enc).length=o*e:=by rw[aG λa _=>henc a,qaI,qa8 ho]
 have e3:((L.drop o).flatMap enc).length=(L.drop o).length*e:=aG λa _=>henc a
 rw[Sx.cut_some]
 refine⟨by rw[e1,qaC,e2,e3];exact qaf _,?_⟩
 rw[e1,←e2,List.drop_left',←e3,qbh]
 rfl
end St
namespace St
abbrev zC:Cl:=(0,0,0)
def ls_pre{α:Type}{e:Nat}{enc:α->Tl}(henc:∀a,(enc a).length=e){h:HL}{id cx k:Nat}{L:List α}(hg:h[id]?=some (.o (.cells (L.flatMap enc) e true)))(hk:k<=L.length):LsH h (.slice (some ⟨id,0,tag e⟩) k cx) e enc (L.take k):=by
 have hd:(L.take k).length=k:=by rw[qaI];omega
 refine⟨λa _=>henc a,aG λa _=>henc a,.inr ⟨id,0,cx,_,true,by rw[hd],hg,?_⟩⟩
 have e1:L.flatMap enc=(L.take k).flatMap enc++(L.drop k).flatMap enc:=by rw[←qb8,qbt]
 have e3:((L.take k).flatMap enc).length=(L.take k).length*e:=aG λa _=>henc a
 rw[Sx.cut_some]
 refine⟨by rw[e1,qaC,e3];omega,?_⟩
 rw[qa1,e1,←e3,qds]
 rfl
def wt{id n cx o k:Nat}{x:Int}(hx:x=Int.ofNat k)(hk:k<=n):slS 3 (.slice (some ⟨id,o,tag 3⟩) n cx) (some x) none none=some (.slice (some ⟨id,o+k*3,tag 3⟩) (n - k) (cx - k)):=by
 subst hx
 unfold slS
 simp only
 rw[qdz (by simp),qdy (by simp[bP];omega)]
 simp[dq,bD]
def slS_upto{id n cx o k:Nat}{x:Int}(hx:x=Int.ofNat k)(hk:k<=n):slS 3 (.slice (some ⟨id,o,tag 3⟩) n cx) none (some x) none=some (.slice (some ⟨id,o,tag 3⟩) k cx):=by
 subst hx
 unfold slS
 simp only
 rw[qdz (by simp),qdy (by simp[bP];omega)]
 simp[dq,bD]
def xg{id o n cx:Nat}:aW (.slice (some ⟨id,o,tag 3⟩) n cx)=true:=by simp[aW,noLoc,bj,bB,bu,aS,aJ,tag]
def clear_r{h:HL}{id k n c:Nat}{L:TJ}{K:Ta}(hlt:id<h.length)(hn:n=L.length - k)(hk:k<=L.length)(hK:K [] (putE h id 3 aF (L.take k++List.replicate n zC))) :
  P1.heap (.fn (clG 3 [.int .i64 0,.int .i64 0,.int .u8 0] (.slice (some ⟨id,k*3,tag 3⟩) n c))) (putE h id 3 aF L) (@hid _ ⟨K⟩):=by
 have hz:bm [.int .i64 0,.int .i64 0,.int .u8 0] n=(List.replicate n zC).flatMap aF:=by
  rw[←ik (enc:=aF) (z:=zC) (n:=n)]
  rfl
 have e1:L.flatMap aF=(L.take k).flatMap aF++(L.drop k).flatMap aF:=by rw[←qb8,qbt]
 have e2:((L.take k).flatMap aF).length=k*3:=by rw[aG λa _=>bN a,qaI,qa8 hk]
 have e3:((L.drop k).flatMap aF).length=n*3:=by rw[aG λa _=>bN a,qbN,hn]
 have e4:((List.replicate n zC).flatMap aF).length=n*3:=by rw[aG λa _=>bN a,qcT]
 have hs:splice (L.flatMap aF) (k*3) (bm [.int .i64 0,.int .i64 0,.int .u8 0] n)=some ((L.take k++List.replicate n zC).flatMap aF):=by
  unfold splice
  rw[hz,e4,e1,qaC,e2,e3,qdy (qaf _),qds e2,qbu (by rw[qaC,e2,e3];exact qaf _),qa4,qb8]
 have hrun:(Hp.fn (clG 3 [.int .i64 0,.int .i64 0,.int .u8 0] (.slice (some ⟨id,k*3,tag 3⟩) n c))).run (getH aa (putE h id 3 aF L)) (putE h id 3 aF L).length=some ([.set id (.cells ((L.take k++List.replicate n zC).flatMap aF) 3 true)],[]):=by
  show clG 3 [.int .i64 0,.int .i64 0,.int .u8 0] (.slice (some ⟨id,k*3,tag 3⟩) n c) (getH aa (putE h id 3 aF L)) (putE h id 3 aF L).length=_
  unfold clG
  simp only[ne_eq,not_true_eq_false,if_false]
  rw[bR (dK hlt)]
  simp only[ne_eq,not_true_eq_false,if_false]
  rw[hs]
  rfl
 refine bS hrun ?_
 have:cB (putE h id 3 aF L) [.set id (.cells ((L.take k++List.replicate n zC).flatMap aF) 3 true)]=putE h id 3 aF (L.take k++List.replicate n zC):=wg
 rw[this]
 exact hK
def eqsC{a b:Cl}{K:To}:P1.eqs [(.i a.1,.i b.1),(.i a.2.1,.i b.2.1),(.i (Int.ofNat a.2.2),.i (Int.ofNat b.2.2))] (@hid _ ⟨K⟩)=K (decide (a=b)):=by
 show K (cp _)=_
 have e:cp [(.i a.1,.i b.1),(.i a.2.1,.i b.2.1),(.i (Int.ofNat a.2.2),.i (Int.ofNat b.2.2))]=decide (a=b):=by
  rw[qbJ]
  simp[cp,gA,Prod.ext_iff]
  intro _ _
  omega
 rw[e]
def lL{L:TJ}{n:Nat}{c:Cl}(hc:L[n]?=some c):cmN L (n+1)=if 0<n/\L[n - 1]?=some c then cmN L n else cmN L n++[c]:=by
 rw[cmN,hc]
def compact_c{h:HL}{id:Nat}{L:TJ}(hg:h[id]?=some (.o (.cells (L.flatMap aF) 3 true)))(hn:L.length<=100000) :
  ∃cx L',aK cc ab 53 [.v (sl3 id L.length 0)] (absH aa h) [.v (sl3 id (cmN L L.length).length cx)] (absH aa (putE h id 3 aF L'))/\L'.length=L.length/\L'.take (cmN L L.length).length=cmN L L.length:=by
 have hlt:=aM hg
 have hself0:putE h id 3 aF L=h:=by
  unfold putE
  exact fw hg
 obtain⟨rs,h',h1,cx,L',rfl,rfl,e1,e2⟩:=x53 (ls:=[.v (sl3 id L.length 0)]) (K:=λrs h'=>∃cx L',rs=[.v (sl3 id (cmN L L.length).length cx)]/\h'=putE h id 3 aF L'/\L'.length=L.length/\L'.take (cmN L L.length).length=cmN L L.length) (H:=h) (glsV xg gls0) (by
  unfold f53;simp only[qxh]
  refine p_x ?_
  have hl:=ko bN (cx:=0) hg rfl
  have full:∀k,(k=L.length/\cmN L k=L.take k)->∃cx L',[Lf.v (sl3 id L.length 0)]=[.v (sl3 id (cmN L L.length).length cx)]/\h=putE h id 3 aF L'/\L'.length=L.length/\L'.take (cmN L L.length).length=cmN L L.length:=λk ⟨hk,hkk⟩=>by
   subst hk
   rw[qbh]at hkk
   refine⟨0,L,by rw[hkk],hself0.symm,rfl,by rw[hkk,qbh]⟩
  refine bc hl ?_
  by_cases h2:L.length<2
  ·rw[p_lss_t (show Int.ofNat L.length<2 by show(L.length:Int)<2;omega)]
   refine p_x ?_
   refine full _ ⟨rfl,?_⟩
   rw[qbh]
   rcases L with _|⟨a,_|⟨b,L⟩⟩
   ·rfl
   ·rfl
   ·simp at h2;omega
  ·rw[p_lss_f (show 2<=Int.ofNat L.length by show 2<=(L.length:Int);omega)]
   refine p_x ?_
   refine dU L.length (λi=>1<=i/\cmN L i=L.take i) (j0:=1) rfl (by omega) ⟨qaf _,by
    rcases L with _|⟨a,L⟩
    ·simp at h2
    ·simp[cmN]⟩ ?_
   rintro i hi ⟨hi1,hcm⟩ self hself
   refine p_x ?_
   refine bc hl ?_
   by_cases hlti:i<L.length
   ·rw[aR hlti]
    refine p_x ?_
    obtain⟨a,ha⟩:=aY hlti
    obtain⟨b,hb⟩:=aY (l:=L) (i:=i - 1) (by omega)
    refine aV hl rfl ha ?_
    unfold aF
    refine p_x ?_
    rw[fP (by omega) (by omega)]
    refine aV hl rfl hb ?_
    unfold aF
    refine p_x ?_
    rw[eqsC]
    by_cases hab:a=b
    case neg=>
     rw[qdw hab]
     refine p_x ?_
     rw[aU (by omega)]
     refine hself hlti ⟨by omega,?_⟩
     rw[lL ha,qdz (by rw[hb];intro q;exact hab (qae q.2).symm),hcm,qby,ha]
     rfl
    rw[qdx hab]
    refine p_x ?_
    rw[wt rfl (by omega)]
    refine af rfl (aq xg ?_)
    rw[qaL]
    have c0:cmN L (i+1)=L.take i:=by rw[lL ha,qdy ⟨by omega,by rw[hb,hab]⟩,hcm]
    refine cF (σ:=Nat×List Cl) (L.length - i) (λz s=>[.i (Int.ofNat s.1),.i (Int.ofNat z)]) (λ_ s=>putE h id 3 aF s.2) (λz s=>1<=z/\s.2.length=L.length/\s.1+1<=i+z/\s.1=(cmN L (i+z)).length/\s.2.take s.1=cmN L (i+z)/\∀j,i+z<=j+1->s.2[j]?=L[j]?) (j0:=1) (s0:=(i,L)) rfl hself0.symm (by omega) ⟨qaf _,rfl,qaf _,by rw[c0,qaI];simp only;omega,by rw[c0],λ_ _=>rfl⟩ ?_
    clear self hself
    rintro z ⟨k,L2⟩ hz ⟨hz1,hl2,hk1,hk2,hk3,hk4⟩ self hself
    simp only at hl2 hk1 hk2 hk3 hk4 hself ⊢
    have hg2:(putE h id 3 aF L2)[id]?=some (.o (.cells (L2.flatMap aF) 3 true)):=dK hlt
    have hls:=ls_off bN (cx:=0 - i) (n:=L.length - i) hg2 (o:=i) (by omega) (by omega)
    refine p_x ?_
    have hll:=hls.len
    rw[qbN,hl2]at hll
    refine af hll ?_
    by_cases hltz:z<L.length - i
    ·rw[aR hltz]
     refine p_x ?_
     obtain⟨c,hc⟩:=aY (l:=L) (i:=i+z) (by omega)
     obtain⟨d,hd⟩:=aY (l:=L) (i:=i+z - 1) (by omega)
     refine aV hls (i:=z) (a:=c) rfl (by rw[qaU,hk4 _ (by omega)];exact hc) ?_
     unfold aF
     refine p_x ?_
     rw[fP (by omega) (by omega)]
     refine aV hls (i:=z - 1) (a:=d) rfl (by rw[qaU,show i+(z - 1)=i+z - 1 by omega,hk4 _ (by omega)];exact hd) ?_
     unfold aF
     refine p_x ?_
     rw[eqsC]
     have hst:=lL hc
     by_cases hcd:c=d
     ·rw[qdx hcd]
      simp(disch:=omega)only[↓qXX,qaE]
      rw[aU (by omega)]
      have e5:cmN L (i+(z+1))=cmN L (i+z):=by rw[←qbE,hst,qdy ⟨by omega,by rw[hd,hcd]⟩]
      exact hself (k,L2) hltz ⟨by omega,hl2,by simp only;omega,by rw[e5];exact hk2,by rw[e5];exact hk3,λj hj=>hk4 j (by omega)⟩
     ·rw[qdw hcd]
      simp(disch:=omega)only[↓qXX,qba]
      refine aV hls (i:=z) (a:=c) rfl (by rw[qaU,hk4 _ (by omega)];exact hc) ?_
      unfold aF
      refine p_x ?_
      refine r_set bN (a:=c) (l:=L2) (len:=L.length) (cx:=0) hlt rfl (show k<L2.length by omega) hl2 rfl ?_
      try simp(disch:=omega)only[↓qXX]
      rw[aU (by omega)]
      refine p_x ?_
      rw[aU (by omega)]
      have e5:cmN L (i+(z+1))=cmN L (i+z)++[c]:=by rw[←qbE,hst,qdz (by rw[hd];intro q;exact hcd (qae q.2).symm)]
      refine hself (k+1,L2.set k c) hltz ⟨by omega,by simp only[qbx];exact hl2,by simp only;omega,by rw[e5,qaC];simp only[qaG,qbG];omega,?_,λj hj=>?_⟩
      ·rw[e5,qby,qaJ (by omega),←hk3]
       congr 1
       apply qaZ
       intro q
       rw[qaT,qaT]
       split
       ·rw[qaA (by omega)]
       ·rfl
      ·simp only
       rw[qaA (by omega)]
       exact hk4 j (by omega)
    ·rw[bi (by omega)]
     refine p_x ?_
     obtain rfl:z=L.length - i:=by omega
     have e6:i+(L.length - i)=L.length:=by omega
     rw[e6]at hk2 hk3 hk1
     rw[wt rfl (by omega)]
     refine af rfl (aq xg ?_)
     rw[qaL]
     refine clear_r (L:=L2) (n:=L.length - k) hlt (by rw[hl2]) (by omega) ?_
     try simp(disch:=omega)only[↓qXX]
     rw[slS_upto rfl (by omega)]
     refine af rfl (aq xg ?_)
     refine⟨_,_,by rw[←hk2],rfl,by rw[qaC,qaI,qcT];omega,?_⟩
     rw[←hk2,qds (by rw[qaI];omega)]
     exact hk3
   ·rw[bi (by omega)]
    refine p_x ?_
    exact full _ ⟨by omega,hcm⟩)
 exact⟨cx,L',h1,e1,e2⟩
end St
end Go.Am
end

/-
  PART 7 OF THE PROOF (no conditions).
-/
import Derived.Test.YtijhpncifimnnaaGreatDoorCV6
import Derived.Shelf.SlSortCmp.WholeK
set_option linter.unusedSectionVars false
set_option linter.unusedSimpArgs false
set_option linter.unusedVariables false
set_option linter.constructorNameAsVariable false
set_option linter.defProp false
noncomputable section
set_option maxRecDepth 100000
set_option maxHeartbeats 8000000
namespace Go.Am
open Sx Go.Proofs Tw
namespace St
abbrev SqD:=Nat×Bool×Nat×Int×Int
def ribL:List Nat->Nat->Nat->Int->Int->List SqD
 | [],f,t,x,y=>[(f,false,t,x,y)]
 |z :: ws,f,t,x,y=>
  if z=1 then(f,false,t,x,y) :: ribL ws 0 (ex f t) (x+mA (ex f t)) (y+mC (ex f t))
  else if z=2 then(f,true,t,x,y) :: ribL ws 0 (mulT 4 (ex f t)) x y
  else ribL ws (if decide (z=3)=decide (t<4)then 1 else 2) t x y
def fL:∀(ws:List Nat) (f t:Nat) (x y:Int),(∀z∈ws,1<=z/\z<=4)->(ribL ws f t x y).length=1+nmv ws
 | [],_,_,_,_,_=>rfl
 |z :: ws,f,t,x,y,h=>by
  have hz:=h z qaA
  have ih:=λf t x y=>fL ws f t x y λa ha=>h a (qam _ ha)
  have hn:nmv (z :: ws)=(if z<3 then 1 else 0)+nmv ws:=by
   unfold nmv
   rw[qb2]
   by_cases h3:z<3
   ·simp[h3];omega
   ·simp[h3]
  unfold ribL
  rw[hn]
  split
  ·rw[qaE,ih,if_pos (by omega)];omega
  ·split
   ·rw[qaE,ih,if_pos (by omega)];omega
   ·rw[ih,if_neg (by omega)];omega
def jm:∀(ws:List Nat) (f t:Nat) (x y:Int) (d:SqD),(ribL ws f t x y)[0]?=some d->d.2.2=(t,x,y)
 | [],f,t,x,y,d,h=>by
  simp only[ribL,qaO,qar]at h
  subst h;rfl
 |z :: ws,f,t,x,y,d,h=>by
  unfold ribL at h
  split at h
  ·simp only[qaO,qar]at h
   subst h;rfl
  ·split at h
   ·simp only[qaO,qar]at h
    subst h;rfl
   ·exact jm ws _ t x y d h
def Nxt(d e:SqD):Prop:=e.2.2.1=(if d.2.1 then mulT 4 (ex d.1 d.2.2.1)else ex d.1 d.2.2.1)/\e.2.2.2.1=(if d.2.1 then d.2.2.2.1 else d.2.2.2.1+mA (ex d.1 d.2.2.1))/\e.2.2.2.2=(if d.2.1 then d.2.2.2.2 else d.2.2.2.2+mC (ex d.1 d.2.2.1))
def lT:∀(ws:List Nat) (f t:Nat) (x y:Int) (s:Nat) (d e:SqD),(ribL ws f t x y)[s]?=some d->(ribL ws f t x y)[s+1]?=some e->Nxt d e
 | [],f,t,x,y,s,d,e,_,h2=>by simp[ribL]at h2
 |z :: ws,f,t,x,y,s,d,e,h1,h2=>by
  unfold ribL at h1 h2
  split at h1
  next hz=>
   rw[if_pos hz]at h2
   rw[qbd]at h2
   cases s with
   |zero=>
    simp only[qaO,qar]at h1
    have:=jm ws _ _ _ _ e h2
    subst h1
    exact⟨by rw[this];rfl,by rw[this];rfl,by rw[this];rfl⟩
   |succ s=>
    rw[qbd]at h1
    exact lT ws _ _ _ _ s d e h1 h2
  next hz=>
   rw[if_neg hz]at h2
   split at h1
   next hz2=>
    rw[if_pos hz2]at h2
    rw[qbd]at h2
    cases s with
    |zero=>
     simp only[qaO,qar]at h1
     have:=jm ws _ _ _ _ e h2
     subst h1
     exact⟨by rw[this];rfl,by rw[this];rfl,by rw[this];rfl⟩
    |succ s=>
     rw[qbd]at h1
     exact lT ws _ _ _ _ s d e h1 h2
   next hz2=>
    rw[if_neg hz2]at h2
    exact lT ws _ _ _ _ s d e h1 h2
def dAt(L:List SqD)(s:Nat):SqD:=(L[s]?).getD (0,false,0,0,0)
def iy{L:List SqD}{s:Nat}(h:s<L.length):L[s]?=some (dAt L s):=by
 unfold dAt
 rw[qai h];rfl
def rib_of(ws:List Nat):Rib (ribL ws 0 0 0 0).length (λs=>(dAt (ribL ws 0 0 0 0) s).1) (λs=>(dAt (ribL ws 0 0 0 0) s).2.1) (λs=>(dAt (ribL ws 0 0 0 0) s).2.2.1) (λs=>(dAt (ribL ws 0 0 0 0) s).2.2.2.1) (λs=>(dAt (ribL ws 0 0 0 0) s).2.2.2.2):=by
 have hpos:0<(ribL ws 0 0 0 0).length:=by
  have:∀(ws:List Nat) (f t:Nat) (x y:Int),0<(ribL ws f t x y).length:=by
   intro ws
   induction ws with
   |nil=>intro f t x y;simp[ribL]
   |cons z ws ih=>
    intro f t x y
    unfold ribL
    split
    ·simp
    ·split
     ·simp
     ·exact ih _ _ _ _
  exact this _ _ _ _ _
 have h0:=jm ws 0 0 0 0 _ (iy hpos)
 have hn:∀s,s+1<(ribL ws 0 0 0 0).length->Nxt (dAt (ribL ws 0 0 0 0) s) (dAt (ribL ws 0 0 0 0) (s+1)):=λs hs=>lT ws 0 0 0 0 s _ _ (iy (by omega)) (iy hs)
 exact⟨by rw[h0],by rw[h0],by rw[h0],λs hs=>(hn s hs).1,λs hs=>(hn s hs).2.1,λs hs=>(hn s hs).2.2⟩
def kY(t:Nat):Nat:=if t<4 then t else(t+2)%4
def imgs(d:SqD):List K3:=(List.range 4).map λq=>(d.2.2.2.1,d.2.2.2.2,qT (if half d.1 q then ex d.1 d.2.2.1 else d.2.2.1) q)
def aW:List Nat->Bool->Sq->Nat->List K3
 | [],laid,p,h=>if laid then(bF 0).map (qc p h)else []
 |z :: ws,laid,p,h=>(if laid then(bF (if z=3 then 1 else if z=4 then 2 else 0)).map (qc p h)else [])++(if z=1 then aW ws true (bes p h) h else if z=2 then aW ws true p ((h+2)%4)else if z=3 then aW ws false p ((h+1)%4)else aW ws false p ((h+3)%4))
def imgs_0{t:Nat}(ht:t<8){b:Bool}{x y:Int}(a:K3):a∈imgs (0,b,t,x,y)↔a∈(bF 0).map (qc (x,y) (kY t)):=by
 obtain⟨u,v,q⟩:=a
 rcases t8 ht with rfl|rfl|rfl|rfl|rfl|rfl|rfl|rfl<;>simp[imgs,half,qT,kY,bF,qc,qc2]<;>omega
def imgs_f{t z:Nat}(ht:t<8)(hz:z=3∨z=4){b:Bool}{x y:Int}(a:K3):a∈imgs ((if decide (z=3)=decide (t<4)then 1 else 2),b,t,x,y)↔a∈(bF (if z=3 then 1 else if z=4 then 2 else 0)).map (qc (x,y) (kY t)):=by
 obtain⟨u,v,q⟩:=a
 rcases hz with rfl|rfl<;>rcases t8 ht with rfl|rfl|rfl|rfl|rfl|rfl|rfl|rfl<;>simp[imgs,half,ex,mulT,qT,kY,bF,qc,qc2]<;>omega
def head_b{t:Nat}(ht:t<8):kY (mulT 4 t)=(kY t+2)%4:=by
 rcases t8 ht with rfl|rfl|rfl|rfl|rfl|rfl|rfl|rfl<;>rfl
def head_f{t z:Nat}(ht:t<8)(hz:z=3∨z=4):kY (ex (if decide (z=3)=decide (t<4)then 1 else 2) t)=(kY t+(if z=3 then 1 else 3))%4:=by
 rcases hz with rfl|rfl<;>rcases t8 ht with rfl|rfl|rfl|rfl|rfl|rfl|rfl|rfl<;>rfl
def bes_h{t:Nat}(ht:t<8){x y:Int}:bes (x,y) (kY t)=(x+mA t,y+mC t):=by
 rcases t8 ht with rfl|rfl|rfl|rfl|rfl|rfl|rfl|rfl<;>simp[kY,bes,mA,mC]<;>omega
def vw{z:Nat}{ws:List Nat}(h:Ok3 (z :: ws)):Ok3 ws:=λi a b h1 h2=>h (i+1) a b (by simpa using h1) (by simpa using h2)
def ji{z:Nat}{ws:List Nat}(h:Ok3 (z :: ws))(hz:3<=z):∀a,ws.head? = some a->a<3:=λa ha=>by
 have:=h 0 z a rfl (by cases ws with|nil=>simp at ha|cons b ws=>simpa using ha)
 omega
def cov_iff:∀(ws:List Nat),(∀z∈ws,1<=z/\z<=4)->Ok3 ws->∀(t:Nat) (x y:Int),t<8->∀a:K3,
  ((∃d,d∈ribL ws 0 t x y/\a∈imgs d)↔a∈aW ws true (x,y) (kY t))/\
  ∀f,(f=1∨f=2)->(∀z,ws.head? = some z->z<3)->((∃d,d∈ribL ws f t x y/\a∈imgs d)↔a∈imgs (f,false,t,x,y)∨a∈aW ws false (x,y) (kY (ex f t)))
 | [],_,_,t,x,y,ht,a=>by
  refine⟨?_,λf hf _=>?_⟩
  ·simp only[ribL,qap,aW,if_true]
   rw[←imgs_0 ht (b:=false)]
   exact⟨λ⟨d,h1,h2⟩=>h1▸h2,λh=>⟨_,rfl,h⟩⟩
  ·simp only[ribL,qap,aW,qan,if_false,qbm,or_false]
   exact⟨λ⟨d,h1,h2⟩=>h1▸h2,λh=>⟨_,rfl,h⟩⟩
 |z :: ws,hok,h3,t,x,y,ht,a=>by
  have hz:=hok z qaA
  have h3':Ok3 ws:=vw h3
  have ih:=cov_iff ws (λb hb=>hok b (qam _ hb)) h3'
  have hb:∀(f:Nat) (b b':Bool),a∈imgs (f,b,t,x,y)↔a∈imgs (f,b',t,x,y):=λf b b'=>Iff.rfl
  have z4:z=1∨z=2∨z=3∨z=4:=by omega
  refine⟨?_,λf hf hh=>?_⟩
  ·rcases z4 with rfl|rfl|rfl|rfl
   ·have h1:=(ih t (x+mA t) (y+mC t) ht a).1
    simp only[ribL,aW,if_true,qal,qas]
    show(∃d,(d=_∨d∈ribL ws 0 t (x+mA t) (y+mC t))/\a∈imgs d)↔_
    rw[bes_h ht,←h1]
    have h2:=imgs_0 ht (b:=false) (x:=x) (y:=y) a
    simp only[Nat.reduceEqDiff,if_false]
    rw[←h2]
    constructor
    ·rintro⟨d,rfl|hd,hm⟩
     ·exact .inl hm
     ·exact .inr ⟨d,hd,hm⟩
    ·rintro(hm|⟨d,hd,hm⟩)
     ·exact⟨_,.inl rfl,hm⟩
     ·exact⟨d,.inr hd,hm⟩
   ·have h1:=(ih (mulT 4 t) x y gA a).1
    simp only[ribL,aW,if_true,qal,qas,Nat.reduceEqDiff,if_false]
    show(∃d,(d=_∨d∈ribL ws 0 (mulT 4 t) x y)/\a∈imgs d)↔_
    rw[←head_b ht,←h1]
    have h2:=imgs_0 ht (b:=true) (x:=x) (y:=y) a
    rw[←h2]
    constructor
    ·rintro⟨d,rfl|hd,hm⟩
     ·exact .inl hm
     ·exact .inr ⟨d,hd,hm⟩
    ·rintro(hm|⟨d,hd,hm⟩)
     ·exact⟨_,.inl rfl,hm⟩
     ·exact⟨d,.inr hd,hm⟩
   ·have h1:=(ih t x y ht a).2 (if decide (3=3)=decide (t<4)then 1 else 2) (by split<;>simp) (ji h3 (by omega))
    have h2:=head_f ht (z:=3) (.inl rfl)
    have h4:=imgs_f ht (z:=3) (.inl rfl) (b:=false) (x:=x) (y:=y) a
    rw[h2]at h1
    simp only[ribL,aW,if_true,qas,Nat.reduceEqDiff,if_false]at h1 h4 ⊢
    rw[h1,h4]
   ·have h1:=(ih t x y ht a).2 (if decide (4=3)=decide (t<4)then 1 else 2) (by split<;>simp) (ji h3 (by omega))
    have h2:=head_f ht (z:=4) (.inr rfl)
    have h4:=imgs_f ht (z:=4) (.inr rfl) (b:=false) (x:=x) (y:=y) a
    rw[h2]at h1
    simp only[ribL,aW,if_true,qas,Nat.reduceEqDiff,if_false]at h1 h4 ⊢
    rw[h1,h4]
  ·have hlt:=hh z rfl
   have hex:=iV (f:=f) ht
   have z2:z=1∨z=2:=by omega
   rcases z2 with rfl|rfl
   ·have h1:=(ih (ex f t) (x+mA (ex f t)) (y+mC (ex f t)) hex a).1
    simp only[ribL,aW,if_true,qal,qan,if_false,qaV]
    rw[bes_h hex,←h1]
    constructor
    ·rintro⟨d,rfl|hd,hm⟩
     ·exact .inl hm
     ·exact .inr ⟨d,hd,hm⟩
    ·rintro(hm|⟨d,hd,hm⟩)
     ·exact⟨_,.inl rfl,hm⟩
     ·exact⟨d,.inr hd,hm⟩
   ·have h1:=(ih (mulT 4 (ex f t)) x y gA a).1
    simp only[ribL,aW,if_true,qal,qan,if_false,qaV,Nat.reduceEqDiff]
    rw[←head_b hex,←h1]
    constructor
    ·rintro⟨d,rfl|hd,hm⟩
     ·exact .inl hm
     ·exact .inr ⟨d,hd,hm⟩
    ·rintro(hm|⟨d,hd,hm⟩)
     ·exact⟨_,.inl rfl,hm⟩
     ·exact⟨d,.inr hd,hm⟩
end St
end Go.Am
set_option maxRecDepth 100000
set_option maxHeartbeats 8000000
namespace Go.Am
open Sx Go.Proofs
namespace St
def unit_c(c:Crs):Cc 97 [.i c.1,.i c.2.1,.i c.2.2] [.i c.1,.i c.2.1]:=by
 refine q97 rfl ?_;unfold f97;simp only[qxh]
 simp(disch:=omega)only[↓qXX]
def order_c{a b:Crs}(h:0<=a.1/\a.1<=1000/\0<=b.1/\b.1<=1000/\0<=a.2.1/\a.2.1<=255/\0<=b.2.1/\b.2.1<=255):∃d:Int,Cc 98 [.i a.1,.i a.2.1,.i b.1,.i b.2.1] [.i d]/\(d<0↔ltC a b=true):=by
 by_cases h1:a.1=b.1
 ·refine⟨a.2.1 - b.2.1,?_,by simp only[ltC,qbo,qaa,decide_eq_true_eq];omega⟩
  refine q98 rfl ?_;unfold f98;simp only[qxh]
  simp(disch:=omega)only[↓qXX]
 ·refine⟨a.1 - b.1,?_,by simp only[ltC,qbo,qaa,decide_eq_true_eq];omega⟩
  refine q98 rfl ?_;unfold f98;simp only[qxh]
  simp(disch:=omega)only[↓qXX]
def okU(w:Nat)(c:Crs):Prop:=(∃u e:Nat,c.1=Int.ofNat u/\c.2.1=Int.ofNat e/\(u,e)∈jy w 1)/\1<=c.2.2/\c.2.2<=3
def okU.rng{w:Nat}(hw:w<=60){c:Crs}(h:okU w c):0<=c.1/\c.1<=1000/\0<=c.2.1/\c.2.1<=2:=by
 obtain⟨⟨u,e,h1,h2,h3⟩,_⟩:=h
 obtain⟨a1,a2,_⟩:=wm h3
 rw[h1,h2]
 refine⟨qax _,?_,qax _,?_⟩
 ·show(u:Int)<=1000;omega
 ·show(e:Int)<=2;omega
def check_c{w:Nat}(hw:1<=w/\w<=60){h:HL}{x:Value}{l:List Crs}(hl:LsH h x 3 encC l)(hk:∀c∈l,okU w c)(hasc:l.Pairwise λa b=>ltC a b=true)(hn:l.length<=1000) :
  aK cc ab 67 [.i (.ofNat w),.i 1,.v x] (absH aa h) [.i 0] (absH aa h):=by
 have hSh:Sh w 1:=⟨hw.1,hw.2,rfl⟩
 have hb:l.all isK=true:=qaf.2 λc hc=>by
  have:=(hk c hc).2
  unfold isK
  rw[decide_eq_true this.1,decide_eq_true this.2];rfl
 obtain⟨rs,h',h3,rfl,rfl⟩:=x67 (K:=λrs h'=>rs=[.i 0]/\h'=h) (H:=h) (glsI (glsI (glsV hl.good gls0))) (by
  unfold f67;simp only[qxh]
  simp(disch:=omega)only[↓qXX]
  refine ae (kA hw) ?_
  simp(disch:=omega)only[↓qXX]
  refine av (wC hl (by omega)) ?_
  rw[hb]
  simp(disch:=omega)only[↓qXX,qaG]
  refine be hl ?_
  refine dP l.length (λj=>True) rfl (qaU _) trivial ?_
  intro j hj _ self hself
  simp(disch:=omega)only[↓qXX]
  by_cases hlt:j<l.length
  ·rw[aP hlt]
   simp(disch:=omega)only[↓qXX]
   obtain⟨c,hc⟩:=aU hlt
   have hmem:=qab hc
   obtain⟨u,e,h1,h2,h3⟩:=(hk c hmem).1
   obtain⟨a1,a2,n,a3,a4⟩:=wm h3
   have hnm:=name_c hSh a1 a2 a3
   rw[qa7 (by omega),←h1,←h2]at hnm
   refine aS hl rfl hc ?_
   unfold encC
   simp(disch:=omega)only[↓qXX]
   refine ae hnm ?_
   repeat (first|simp(disch:=omega)only[↓qXX]|refine ae (unit_c c) ?_)
   simp(disch:=omega)only[↓qXX,qaG]
   rw[aR (by omega)]
   exact hself hlt trivial
  ·obtain rfl:j=l.length:=by omega
   rw[bb (qah _)]
   simp(disch:=omega)only[↓qXX]
   refine dP (j0:=1) (max 1 l.length) (λj=>1<=j) rfl (qcI _ _) (qah _) ?_
   intro j hj' h1 self hself
   simp(disch:=omega)only[↓qXX]
   refine be hl ?_
   by_cases hlt:j<l.length
   ·rw[aP hlt]
    simp(disch:=omega)only[↓qXX]
    rw[fj h1 (by omega)]
    obtain⟨c,hc⟩:=aU (l:=l) (i:=j - 1) (by omega)
    obtain⟨d,hd⟩:=aU hlt
    have hc1:=(hk c (qab hc)).rng hw.2
    have hd1:=(hk d (qab hd)).rng hw.2
    refine aS hl rfl hc ?_
    unfold encC
    repeat (first|simp(disch:=omega)only[↓qXX]|refine ae (unit_c c) ?_)
    refine aS hl rfl hd ?_
    unfold encC
    repeat (first|simp(disch:=omega)only[↓qXX]|refine ae (unit_c d) ?_)
    obtain⟨o,ho,hoi⟩:=order_c (a:=c) (b:=d) (by omega)
    refine ae ho ?_
    simp(disch:=omega)only[↓qXX]
    have hlo:o<0:=hoi.2 (by
     have hlc:=aJ hc
     rw[qai hlc]at hc
     rw[qai hlt]at hd
     have:=qbZ.1 hasc (j - 1) j hlc hlt (by omega)
     rw[qae hc,qae hd]at this
     exact this)
    simp(disch:=omega)only[↓qXX]
    rw[aR (by omega)]
    exact hself (by omega) (by omega)
   ·rw[bb (by omega)]
    simp(disch:=omega)only[↓qXX]
    exact⟨by trivial,by trivial⟩)
 exact h3
end St
end Go.Am
set_option maxRecDepth 100000
set_option maxHeartbeats 8000000
namespace Go.Am
open Sx Go.Proofs Tw
namespace St
def kd(up:Bool):Int:=if up then 2 else 1
def outW:List Nat->Nat->Bool->List Crs
 | [],_,_=>[]
 |z :: ws,s,up=>
  if z=1 then outW ws (s+1) up
  else if z=2 then(Int.ofNat (4*s+1),0,kd up) :: outW ws (s+1) (!up)
  else if decide (z=3)=up then(Int.ofNat (4*s),2,kd up) :: (Int.ofNat (4*s+1),2,kd up) :: outW ws s (!up)
  else(Int.ofNat (4*s),1,kd up) :: (Int.ofNat (4*s+2),1,kd up) :: outW ws s (!up)
def nO(s f:Nat):List Ku:=if f=1 then [(Int.ofNat (4*s),2),(Int.ofNat (4*s+1),2)]else if f=2 then [(Int.ofNat (4*s),1),(Int.ofNat (4*s+2),1)]else []
def keyD(s:Nat)(d:SqD):List Ku:=nO s d.1++if d.2.1 then [(Int.ofNat (4*s+1),0)]else []
def jQ:List SqD->Nat->List Ku
 | [],_=>[]
 |d :: L,s=>keyD s d++jQ L (s+1)
def up_b{t:Nat}(ht:t<8):decide (mulT 4 t<4) = !decide (t<4):=by
 rcases t8 ht with rfl|rfl|rfl|rfl|rfl|rfl|rfl|rfl<;>rfl
def up_f{f t:Nat}(ht:t<8)(hf:f=1∨f=2):decide (ex f t<4) = !decide (t<4):=by
 rcases hf with rfl|rfl<;>rcases t8 ht with rfl|rfl|rfl|rfl|rfl|rfl|rfl|rfl<;>rfl
def ex0(t:Nat):ex 0 t=t:=rfl
def vz:∀(ws:List Nat),(∀z∈ws,1<=z/\z<=4)->Ok3 ws->∀(s f t:Nat) (x y:Int),t<8->(f=0∨(f=1∨f=2)/\∀z,ws.head? = some z->z<3)->
  nO s f++(outW ws s (decide (ex f t<4))).map cJ=jQ (ribL ws f t x y) s
 | [],_,_,s,f,t,x,y,ht,hf=>by simp[outW,ribL,jQ,keyD]
 |z :: ws,hok,h3,s,f,t,x,y,ht,hf=>by
  have hz:=hok z qaA
  have hex:=iV (f:=f) ht
  have ih:=vz ws (λb hb=>hok b (qam _ hb)) (vw h3)
  have z4:z=1∨z=2∨z=3∨z=4:=by omega
  rcases z4 with rfl|rfl|hz3
  ·have h1:=ih (s+1) 0 (ex f t) (x+mA (ex f t)) (y+mC (ex f t)) hex (.inl rfl)
   simp only[outW,ribL,if_true,jQ,keyD,qan,if_false,qa2]
   rw[←h1,ex0]
   simp[nO]
  ·have h1:=ih (s+1) 0 (mulT 4 (ex f t)) x y gA (.inl rfl)
   simp only[outW,ribL,Nat.reduceEqDiff,if_true,if_false,jQ,keyD,qav]
   rw[←h1,ex0,up_b hex]
   simp[nO,cJ]
  ·have h0:f=0:=by
    rcases hf with hf|⟨_,hf⟩
    ·exact hf
    ·have:=hf z rfl
     omega
   subst h0
   rw[ex0]
   have hf':(if decide (z=3)=decide (t<4)then 1 else 2)=1∨(if decide (z=3)=decide (t<4)then 1 else 2)=2:=by split<;>simp
   have h1:=ih s (if decide (z=3)=decide (t<4)then 1 else 2) t x y ht (.inr ⟨hf',ji h3 (by omega)⟩)
   rw[up_f ht hf']at h1
   have hr:ribL (z :: ws) 0 t x y=ribL ws (if decide (z=3)=decide (t<4)then 1 else 2) t x y:=by
    conv=>lhs;unfold ribL
    rw[if_neg (by omega),if_neg (by omega)]
   have ho:outW (z :: ws) s (decide (t<4))=if decide (z=3)=decide (t<4)then(Int.ofNat (4*s),2,kd (decide (t<4))) :: (Int.ofNat (4*s+1),2,kd (decide (t<4))) :: outW ws s (!decide (t<4))else(Int.ofNat (4*s),1,kd (decide (t<4))) :: (Int.ofNat (4*s+2),1,kd (decide (t<4))) :: outW ws s (!decide (t<4)):=by
    conv=>lhs;unfold outW
    rw[if_neg (by omega),if_neg (by omega)]
   rw[hr,←h1,ho]
   by_cases hc:decide (z=3)=decide (t<4)
   ·rw[if_pos hc,if_pos hc]
    simp[nO,cJ]
   ·rw[if_neg hc,if_neg hc]
    simp[nO,cJ]
def jf:∀ {L:List SqD} {s0:Nat} {k:Ku},k∈jQ L s0↔∃i d,L[i]?=some d/\k∈keyD (s0+i) d
 | [],s0,k=>by simp[jQ]
 |d :: L,s0,k=>by
  unfold jQ
  rw[qas,jf (L:=L)]
  constructor
  ·rintro(h|⟨i,e,h1,h2⟩)
   ·exact⟨0,d,rfl,h⟩
   ·exact⟨i+1,e,by simpa using h1,by rw[show s0+(i+1)=s0+1+i by omega];exact h2⟩
  ·rintro⟨i,e,h1,h2⟩
   cases i with
   |zero=>
    simp only[qaO,qar]at h1
    subst h1
    exact .inl h2
   |succ i=>exact .inr ⟨i,e,by simpa using h1,by rw[show s0+1+i=s0+(i+1)by omega];exact h2⟩
def jP{s:Nat}{d:SqD}{u:Nat}{e:Int}:((Int.ofNat u,e):Ku)∈keyD s d↔(d.1=1/\e=2/\(u=4*s∨u=4*s+1))∨(d.1=2/\e=1/\(u=4*s∨u=4*s+2))∨(d.2.1=true/\e=0/\u=4*s+1):=by
 have hi:∀a b:Nat,(Int.ofNat a=Int.ofNat b)↔a=b:=λa b=>⟨λh=>qb4 h,λh=>by rw[h]⟩
 unfold keyD nO
 by_cases h1:d.1=1
 ·cases hb:d.2.1<;>simp[h1,hi]<;>omega
 ·by_cases h2:d.1=2
  ·cases hb:d.2.1<;>simp[h2,hi]<;>omega
  ·cases hb:d.2.1<;>simp[h1,h2,hi]<;>omega
def key_sq{s:Nat}{d:SqD}{k:Ku}(h:k∈keyD s d):∃u:Nat,k.1=Int.ofNat u/\u / 4=s:=by
 unfold keyD nO at h
 rw[qas]at h
 rcases h with h|h
 ·split at h
  ·simp only[qal,qbm,or_false]at h
   rcases h with rfl|rfl
   ·exact⟨_,rfl,by omega⟩
   ·exact⟨_,rfl,by omega⟩
  ·split at h
   ·simp only[qal,qbm,or_false]at h
    rcases h with rfl|rfl
    ·exact⟨_,rfl,by omega⟩
    ·exact⟨_,rfl,by omega⟩
   ·cases h
 ·split at h
  ·simp only[qap]at h
   subst h
   exact⟨_,rfl,by omega⟩
  ·cases h
def keyD_nd(s:Nat)(d:SqD):(keyD s d).Nodup:=by
 have hi:∀a b:Nat,(Int.ofNat a=Int.ofNat b)↔a=b:=λa b=>⟨λh=>qb4 h,λh=>by rw[h]⟩
 unfold keyD nO
 by_cases h1:d.1=1
 ·cases hb:d.2.1<;>simp[h1,hi]<;>omega
 ·by_cases h2:d.1=2
  ·cases hb:d.2.1<;>simp[h2,hi]<;>omega
  ·cases hb:d.2.1<;>simp[h1,h2]
def vi:∀(L:List SqD) (s:Nat),(jQ L s).Nodup
 | [],_=>qda
 |d :: L,s=>by
  unfold jQ
  rw[qb5]
  refine⟨keyD_nd s d,vi L (s+1),λa ha b hb e=>?_⟩
  subst e
  obtain⟨u,h1,h2⟩:=key_sq ha
  obtain⟨i,e,_,h3⟩:=jf.1 hb
  obtain⟨v,h4,h5⟩:=key_sq h3
  rw[h1]at h4
  have:=qb4 h4
  omega
def crof{ws:List Nat}{l:List Crs}(hl:∀k,k∈l.map cJ↔k∈jQ (ribL ws 0 0 0 0) 0):CrOf (ribL ws 0 0 0 0).length l (λs=>(dAt (ribL ws 0 0 0 0) s).1) (λs=>(dAt (ribL ws 0 0 0 0) s).2.1):=by
 have key:∀(s u e:Nat),s<(ribL ws 0 0 0 0).length->u / 4=s->isCr l u e=decide (((Int.ofNat u,Int.ofNat e):Ku)∈keyD s (dAt (ribL ws 0 0 0 0) s)):=by
  intro s u e hs hu
  unfold isCr
  rw[decide_eq_decide,hl,jf]
  constructor
  ·rintro⟨i,d,h1,h2⟩
   obtain⟨v,h3,h4⟩:=key_sq h2
   have h5:u=v:=qb4 h3
   have hi:i=s:=by omega
   subst hi
   rw[iy hs]at h1
   cases h1
   rwa [qaM]at h2
  ·intro h
   exact⟨s,_,iy hs,by rwa [qaM]⟩
 refine⟨λs hs=>?_,λs hs=>?_,λs hs=>?_,λs hs=>?_,λs hs=>?_⟩
 ·rw[key s _ _ hs (by omega),decide_eq_decide,jP]
  constructor
  ·rintro(h|h|h)
   ·exact h.1
   ·exact absurd h.2.1 (by decide)
   ·exact absurd h.2.1 (by decide)
  ·exact λh=>.inl ⟨h,rfl,.inl rfl⟩
 ·rw[key s _ _ hs (by omega),decide_eq_decide,jP]
  constructor
  ·rintro(h|h|h)
   ·exact h.1
   ·exact absurd h.2.1 (by decide)
   ·exact absurd h.2.1 (by decide)
  ·exact λh=>.inl ⟨h,rfl,.inr rfl⟩
 ·rw[key s _ _ hs (by omega),decide_eq_decide,jP]
  constructor
  ·rintro(h|h|h)
   ·exact absurd h.2.1 (by decide)
   ·exact h.1
   ·exact absurd h.2.1 (by decide)
  ·exact λh=>.inr (.inl ⟨h,rfl,.inl rfl⟩)
 ·rw[key s _ _ hs (by omega),decide_eq_decide,jP]
  constructor
  ·rintro(h|h|h)
   ·exact absurd h.2.1 (by decide)
   ·exact h.1
   ·exact absurd h.2.1 (by decide)
  ·exact λh=>.inr (.inl ⟨h,rfl,.inr rfl⟩)
 ·rw[key s _ _ (by omega) (by omega)]
  cases hb:(dAt (ribL ws 0 0 0 0) s).2.1 with
  |true=>
   rw[decide_eq_true_eq,jP]
   exact .inr (.inr ⟨hb,rfl,rfl⟩)
  |false=>
   rw[decide_eq_false_iff_not,jP]
   rintro(h|h|h)
   ·exact absurd h.2.1 (by decide)
   ·exact absurd h.2.1 (by decide)
   ·rw[hb]at h
    exact absurd h.1 (by simp)
end St
namespace St
def jo:∀(ws:List Nat) (f t:Nat) (x y:Int) (i:Nat) (d:SqD),(ribL ws f t x y)[i]?=some d->d.2.1=true->i+1<(ribL ws f t x y).length
 | [],f,t,x,y,i,d,h,hb=>by
  have hi:=aJ h
  simp only[ribL,qaE,qbH]at hi
  obtain rfl:i=0:=by omega
  simp only[ribL,qaO,qar]at h
  subst h
  cases hb
 |z :: ws,f,t,x,y,i,d,h,hb=>by
  have hpos:∀(ws:List Nat) (f t:Nat) (x y:Int),0<(ribL ws f t x y).length:=by
   intro ws
   induction ws with
   |nil=>intro f t x y;simp[ribL]
   |cons z ws ih=>
    intro f t x y
    unfold ribL
    split
    ·simp
    ·split
     ·simp
     ·exact ih _ _ _ _
  unfold ribL at h ⊢
  split at h
  next hz=>
   rw[if_pos hz,qaE]
   cases i with
   |zero=>have:=hpos ws 0 (ex f t) (x+mA (ex f t)) (y+mC (ex f t));omega
   |succ i=>
    rw[qbd]at h
    have:=jo ws _ _ _ _ i d h hb
    omega
  next hz=>
   rw[if_neg hz]
   split at h
   next hz2=>
    rw[if_pos hz2,qaE]
    cases i with
    |zero=>have:=hpos ws 0 (mulT 4 (ex f t)) x y;omega
    |succ i=>
     rw[qbd]at h
     have:=jo ws _ _ _ _ i d h hb
     omega
   next hz2=>
    rw[if_neg hz2]
    exact jo ws _ _ _ _ i d h hb
def jj:∀(ws:List Nat) (s:Nat) (up:Bool) (c:Crs),c∈outW ws s up->1<=c.2.2/\c.2.2<=3
 | [],_,_,c,h=>by cases h
 |z :: ws,s,up,c,h=>by
  have hk:∀up,1<=kd up/\kd up<=3:=λup=>by cases up<;>simp[kd]
  unfold outW at h
  split at h
  ·exact jj ws _ _ c h
  ·split at h
   ·rcases qal.1 h with rfl|h
    ·exact hk _
    ·exact jj ws _ _ c h
   ·split at h
    ·rcases qal.1 h with rfl|h
     ·exact hk _
     ·rcases qal.1 h with rfl|h
      ·exact hk _
      ·exact jj ws _ _ c h
    ·rcases qal.1 h with rfl|h
     ·exact hk _
     ·rcases qal.1 h with rfl|h
      ·exact hk _
      ·exact jj ws _ _ c h
def key_un{w i:Nat}{d:SqD}{k:Ku}(h:k∈keyD i d)(hi:i<w)(hl:d.2.1=true->i+1<w):∃u e:Nat,k.1=Int.ofNat u/\k.2=Int.ofNat e/\(u,e)∈jy w 1:=by
 have un:∀q e p,q<4->e<3->nbr w 1 (4*i+q) e=some (4*i+p)->q<p->(4*i+q,e)∈jy w 1:=λq e p hq he hn hp=>vq (by omega) he hn (by omega)
 unfold keyD nO at h
 rw[qas]at h
 rcases h with h|h
 ·split at h
  ·simp only[qal,qbm,or_false]at h
   rcases h with rfl|rfl
   ·exact⟨4*i+0,2,rfl,rfl,un 0 2 3 (by omega) (by omega) (by rw[eI hi (by omega)];rfl) (by omega)⟩
   ·exact⟨4*i+1,2,rfl,rfl,un 1 2 2 (by omega) (by omega) (by rw[eI hi (by omega)];rfl) (by omega)⟩
  ·split at h
   ·simp only[qal,qbm,or_false]at h
    rcases h with rfl|rfl
    ·exact⟨4*i+0,1,rfl,rfl,un 0 1 1 (by omega) (by omega) (by rw[eI hi (by omega)];rfl) (by omega)⟩
    ·exact⟨4*i+2,1,rfl,rfl,un 2 1 3 (by omega) (by omega) (by rw[eI hi (by omega)];rfl) (by omega)⟩
   ·cases h
 ·split at h
  next hb=>
   simp only[qap]at h
   subst h
   have hw:=hl hb
   refine⟨4*i+1,0,rfl,rfl,vq (by omega) (by omega) (n:=4*(i+1)+3) ?_ (by omega)⟩
   rw[eI hi (by omega)]
   exact if_pos hw
  ·cases h
def nb{ws:List Nat}(hok:∀z∈ws,1<=z/\z<=4)(h3:Ok3 ws):(outW ws 0 true).map cJ=jQ (ribL ws 0 0 0 0) 0:=by
 have:=vz ws hok h3 0 0 0 0 0 (by omega) (.inl rfl)
 exact this
def out_ok{ws:List Nat}(hok:∀z∈ws,1<=z/\z<=4)(h3:Ok3 ws){c:Crs}(hc:c∈outW ws 0 true):okU (ribL ws 0 0 0 0).length c:=by
 have hm:cJ c∈jQ (ribL ws 0 0 0 0) 0:=by
  rw[←nb hok h3]
  exact qcj hc
 obtain⟨i,d,h1,h2⟩:=jf.1 hm
 rw[qaM]at h2
 exact⟨key_un h2 (aJ h1) (jo ws _ _ _ _ i d h1),jj ws _ _ c hc⟩
def pat_ok{ws:List Nat}(hok:∀z∈ws,1<=z/\z<=4)(h3:Ok3 ws){l:List Crs}(hp:l.Perm (outW ws 0 true)) :
  (∀c∈l,okU (ribL ws 0 0 0 0).length c)/\(l.map cJ).Nodup/\CrOf (ribL ws 0 0 0 0).length l (λs=>(dAt (ribL ws 0 0 0 0) s).1) (λs=>(dAt (ribL ws 0 0 0 0) s).2.1):=by
 refine⟨λc hc=>out_ok hok h3 (hp.mem_iff.1 hc),?_,crof λk=>?_⟩
 ·rw[(hp.map cJ).nodup_iff,nb hok h3]
  exact vi _ _
 ·rw[(hp.map cJ).mem_iff,nb hok h3]
end St
end Go.Am
set_option maxRecDepth 100000
namespace Go.Am
open Sx Go.Proofs Go.Shelf Go.Lib Go.Sort
section
variable [Val]
def wr_below [Glo]{C:Cfg}{base:Nat}{mu:HMap}{H:List HObj}{w w':World}(h:WR C base mu H w)(hb:Go.RowKit.Below w.heap.size w w')(hd:w.drawn<=w'.drawn):WR C base mu H w'/\Evo H mu w H mu w':=by
 refine⟨⟨λid o h1 h2=>?_,h.inj,h.own,h.ro,h.dom,λg vs hg=>?_⟩,⟨qah _,λ_ _=>rfl,hb.size,λb hb' _=>hb.block b hb',λb h=>.inr h,hb.os,hb.tape,hb.output,hd⟩⟩
 ·obtain⟨p,h3,h4⟩:=h.obj id o h1 h2
  exact⟨p,h3,by rw[hb.block _ (gC h2 h4)];exact h4⟩
 ·obtain⟨h1,h2,c,e,fr,h3,h4⟩:=h.glob g vs hg
  exact⟨h1,h2,c,e,fr,by rw[hb.block _ (qat.1 h3).1];exact h3,h4⟩
def xl{W w':World}(h1:w'.os=W.os)(h2:w'.tape=W.tape)(h3:w'.output=W.output)(h4:W.drawn<=w'.drawn)(h5:W.heap.size<=w'.heap.size)(h6:∀b,b<W.heap.size->w'.heap[b]?=W.heap[b]?):∃q os',w'=grow (W.drewN q) os':=by
 refine⟨w'.drawn - W.drawn,w'.heap.extract W.heap.size w'.heap.size,?_⟩
 have e:w'.heap=W.heap++w'.heap.extract W.heap.size w'.heap.size:=by
  apply qcD
  intro i
  rw[Array.getElem?_append]
  split
  next hi=>exact h6 i hi
  next hi=>
   rw[Array.getElem?_extract]
   split
   ·congr 1;omega
   ·rw[qa9 (by omega)]
 obtain⟨hp,tp,dr,os,out⟩:=w'
 simp only at h1 h2 h3 h4 e
 subst h1 h2 h3
 unfold grow World.drewN
 simp only
 rw[←e,show W.drawn+(dr - W.drawn)=dr by omega]
def vd{α:Type} [Inhabited α]{enc:α->List Value}{e:Nat}(hk:∀x,(enc x).length=e){l:List α}{t:Nat}(ht:t<l.length*e):(l.flatMap enc)[t]?=some (Go.Sort.flatK enc e l.toArray)[t]!:=by
 rw[Go.Sort.get_flatK enc e l.toArray t (by simpa using ht)]
 have he:0<e:=by
  rcases qcH e with h|h
  ·subst h;simp at ht
  ·exact h
 have hq:t / e<l.length:=Nat.div_lt_of_lt_mul (by rw[Nat.mul_comm];exact ht)
 have h1:=jJ (e:=e) (enc:=enc) (l:=l) (λa _=>hk a) (i:=t / e) (a:=l[t / e]) (qai hq)
 have hr:=qbY t he
 have e1:t=t / e*e+t%e:=by rw[Nat.mul_comm];exact(Nat.div_add_mod t e).symm
 have h2:((l.flatMap enc).drop (t / e*e))[t%e]?=(enc l[t / e])[t%e]?:=by
  rw[←h1,qaR,if_pos hr]
 rw[qaS,←e1]at h2
 rw[h2]
 have h3:(l.toArray)[t / e]! = l[t / e]:=by simp[hq]
 rw[h3,qai (by rw[hk];exact hr),List.getElem!_eq_getElem?_getD,qai (by rw[hk];exact hr)]
 rfl
def holds_of{α:Type} [Inhabited α]{enc:α->List Value}{e:Nat}(hk:∀x,(enc x).length=e)(hs:∀x,∀v∈enc x,Am.scalar v=true) [Glo]{mu:HMap}{p:Pl}{w:World}{l:List α}(hr:objR mu p w.heap[p.b]? (.cells (l.flatMap enc) e true)):HoldsK enc e w p.b p.o l.toArray:=by
 obtain⟨_,_,_,c,t,fr,h4,h5,h6,h7⟩:=hr
 obtain rfl:=h6 rfl
 intro j hj
 rw[Go.Sort.size_flatK]at hj
 have h1:=vd (enc:=enc) hk (l:=l) (t:=j) (by simpa using hj)
 obtain⟨v',h8,h9⟩:=h7 j _ h1
 have hsc:Am.scalar (Go.Sort.flatK enc e l.toArray)[j]! = true:=by
  have hm:=qab h1
  obtain⟨a,_,ha⟩:=qbD.1 hm
  exact hs a _ ha
 have:=bp hsc h9
 subst this
 exact⟨by simp[World.cell?,h4,h8],by simp[World.frozen?,h4]⟩
def xg{C:Cfg}{base:Nat}{mu:HMap}{H:List HObj}{w:World} [Glo](hW:WR C base mu H w){α:Type} [Inhabited α]{enc:α->List Value}{e:Nat}(hk:∀x,(enc x).length=e)(hs:∀x,∀v∈enc x,Am.scalar v=true){id:Nat}{p:Pl}{l l':List α}
  (hid:H[id]?=some (.cells (l.flatMap enc) e true)) (hp:mu id=some p) (hl:l'.length=l.length) (n:Nat) (os:Array Obj) :
  WR C base mu (H.set id (.cells (l'.flatMap enc) e true)) (sortWorldK enc e w p.b p.o n l'.toArray os)/\Evo H mu w (H.set id (.cells (l'.flatMap enc) e true)) mu (sortWorldK enc e w p.b p.o n l'.toArray os):=by
 obtain⟨p',hp',hr⟩:=hW.obj id _ hid rfl
 rw[hp]at hp'
 cases hp'
 obtain⟨h1,h2,h3,c,t,fr,h4,h5,h6,h7⟩:=hr
 have hll:(l'.flatMap enc).length=l'.length*e:=aI λa _=>hk a
 have hl0:(l.flatMap enc).length=l.length*e:=aI λa _=>hk a
 have hset:=hW.set (w':=Go.Sort.putRowK enc e (Go.Sort.ahead w n) p.b p.o l'.toArray) (x:=.cells (Go.Sort.putCells (λv:Value=>v) p.o (Go.Sort.flatK enc e l'.toArray) c) t fr) hid rfl hp (by
   apply qcD
   intro i
   show(w.heap.modify p.b _)[i]?=_
   rw[qcN,qbi]
   split
   next hi=>
    subst hi
    rw[h4,if_pos (qat.1 h4).1]
    rfl
   ·rfl) rfl rfl rfl (.cells (l'.flatMap enc) e true) (λ_=>rfl) ⟨h1,by rw[hll,hl,←hl0];exact h2,by
    rw[qaf]
    intro v hv
    obtain⟨a,_,ha⟩:=qbD.1 hv
    exact ea (hs a v ha),_,t,fr,rfl,by simp[Go.Sort.putCells,h5],h6,λi v hv=>by
    have hi:i<l'.length*e:=by rw[←hll];exact(qaI.1 hv).1
    have hF:=vd (enc:=enc) hk (l:=l') hi
    rw[hv]at hF
    obtain⟨u,hu⟩ : ∃u,c[p.o+i]?=some u:=⟨c[p.o+i]'(by rw[h5];rw[hl0]at h2;rw[hl]at hi;omega),qbj _⟩
    refine⟨v,?_,?_⟩
    ·simp only[Go.Sort.putCells,Array.getElem?_mapIdx,hu,qaB]
     rw[if_pos ⟨by omega,by rw[Go.Sort.size_flatK];simpa using hi⟩,show p.o+i - p.o=i by omega,←qae hF]
    ·obtain⟨a,_,ha⟩:=qbD.1 (qab hv)
     exact .scalar (hs a v ha)⟩ (Nat.le_add_right _ _)
 obtain⟨a1,a2⟩:=hset
 obtain⟨b1,b2⟩:=wr_below (w':=sortWorldK enc e w p.b p.o n l'.toArray os) a1 ⟨rfl,rfl,rfl,by unfold sortWorldK grow;simp,λk hk=>by
  unfold sortWorldK grow
  simp only
  rw[qcy hk]⟩ (qah _)
 exact⟨b1,a2.trans b2⟩
def cmp_lays{C:Cfg}(hG:∀g vs,C.G g=some vs->vs.all gfl=true){α:Type} [Inhabited α]{enc:α->List Value}{e:Nat}{cf:α->α->Int}{g:FuncId}(hs:∀x,∀v∈enc x,Am.scalar v=true)
  (hc:∀x y,cK C g [.agg ⟨enc x⟩,.agg ⟨enc y⟩] [] (.int .i64 (cf x y)) []) [glo:Glo] {base:Nat} {mu:HMap} {H:List HObj} {w:World} (hW:WR C base mu H w) {blk:Nat} (hblk:base<=blk) (off n:Nat):CmpLays C.P g #[] enc e cf blk off n w:=by
 intro m os dk _ x y cs
 have hsame:∀b t,b<base->w.heap[b]?=some t->(sortWorldK enc e w blk off m dk os).heap[b]?=some t:=λb t hb' ht=>by
  unfold sortWorldK grow
  simp only
  rw[qcy (by rw[show(Go.Sort.putRowK enc e (Go.Sort.ahead w m) blk off dk).heap.size=w.heap.size from Go.Sort.size_putRow _ _ _ _ _];exact(qat.1 ht).1)]
  show(w.heap.modify blk _)[b]?=_
  rw[qcN,if_neg (by omega)]
  exact ht
 generalize sortWorldK enc e w blk off m dk os=W at *
 have hW0:WR C W.heap.size (λ_=>none) [] W:=
  ⟨λid o h=>by simp at h,λi j oi oj pi pj h=>by simp at h,λi o p h=>by simp at h,λi o p h=>by simp at h,λ_ _=>rfl,λg vs hg=>by
   obtain⟨h1,h2,c,t,fr,h3,h4⟩:=hW.glob g vs hg
   have h5:=hsame _ _ h1 h3
   exact⟨(qat.1 h5).1,h2,c,t,fr,h5,lL (hG g vs hg) h4⟩⟩
 have hag:∀x:α,VR noL (λ_=>none) (.agg ⟨enc x⟩) (.agg ⟨enc x⟩):=λx=>.agg rfl λi u v hu hv=>by
  rw[hu]at hv
  cases hv
  exact .scalar (hs x u (qab (by simpa using hu)))
 obtain⟨v,mu',w',a1,a2,a3,a4,fr,b1,b2,b3⟩:=hc x y glo W.heap.size (λ_=>none) W #[.agg (enc x).toArray,.agg (enc y).toArray] (qah _) (VRs.cons (hag x) (VRs.cons (hag y) .nil)) hW0 cs
 rw[show(#[Value.agg (enc x).toArray,Value.agg (enc y).toArray] ++ #[]) = #[Value.agg (enc x).toArray,Value.agg (enc y).toArray]by simp]
 exact⟨.returned v,w',fr,⟨by rw[bp rfl a1],xl a3.os a3.tape a3.output a3.dr a3.size λb hb=>a3.keep b hb no_own⟩,b1,b2,b3⟩
def srt{α:Type} [Inhabited α](cf:α->α->Int)(l:List α):List α:=(pdq (ltOf cf) l.toArray 0 l.length (Lib.bitLen l.length) true true).toList
def tw{α:Type} [Inhabited α]{cf:α->α->Int}(hO:SWO (ltOf cf))(l:List α):PermIn 0 l.length l.toArray (srt cf l).toArray/\SortedIn (ltOf cf) 0 l.length (srt cf l).toArray:=by
 have h:=pdq_sorts (ltOf cf) hO l.toArray 0 l.length (Lib.bitLen l.length) true true (qaU _) (by simp) (Or.inl rfl)
 unfold srt
 simpa using h
def wc{α:Type} [Inhabited α]{cf:α->α->Int}(hO:SWO (ltOf cf))(l:List α):(srt cf l).Perm l:=by
 have h:=(tw hO l).1.2.2
 have hl:(srt cf l).length=l.length:=by
  have:=(tw hO l).1.1
  simpa using this
 simpa[List.extract_eq_take_drop,hl,qaP]using h
def vZ{α:Type} [Inhabited α]{cf:α->α->Int}(hO:SWO (ltOf cf))(l:List α):(srt cf l).Pairwise λx y=>ltOf cf y x=false:=by
 have hl:(srt cf l).length=l.length:=by
  have:=(tw hO l).1.1
  simpa using this
 rw[qbZ]
 intro i j hi hj hij
 have h:=(tw hO l).2 i j (qaU _) hij (by omega)
 simpa[hi,hj]using h
def nz{C:Cfg}(hG:∀g vs,C.G g=some vs->vs.all gfl=true){ρ:Ren}(L:SlLaysF0.n6 C.P ρ){α:Type} [Inhabited α]{enc:α->List Value}{e:Nat}(aE:∀w,(isAgg (ρ.t 24)).run C.P w = .ok true w)(zE:∀w,(Go.sizeOf (ρ.t 24)).run C.P w = .ok e w)
  (hk:∀x,(enc x).length=e) (hs:∀x,∀v∈enc x,Am.scalar v=true) {cf:α->α->Int} (hO:SWO (ltOf cf)) {g:FuncId} (eg:∀args w,(callFunc g args).run C.P w = .ok (.enter g args) w)
  (hc:∀x y,cK C g [.agg ⟨enc x⟩,.agg ⟨enc y⟩] [] (.int .i64 (cf x y)) []) {H:List HObj} {id n cx:Nat} {l:List α} (hid:H[id]?=some (.cells (l.flatMap enc) e true)) (hn:n=l.length) (h0:0<n) (hl:n<4611686018427387904) :
  cK C (ρ.f 6) [.slice (some ⟨id,0,tag e⟩) n cx,.func (.func g) ⟨[]⟩ ⟨[]⟩] H (.tuple #[]) (H.set id (.cells ((srt cf l).flatMap enc) e true)):=by
 subst hn
 intro glo base mu w args' hb hargs hW cs
 obtain⟨v1,vs1,h1,h2,h3⟩:=hargs.uncons
 obtain⟨v2,vs2,rfl,h5,h6⟩:=h3.uncons
 obtain rfl:=h6.unnil
 have hargs':args' = #[v1,v2]:=qa4.1 h1
 subst hargs'
 obtain⟨p,cap,hp,rfl⟩ : ∃p cap,mu id=some p/\v1 = .slice (some ⟨p.b,p.o,none⟩) l.length cap:=by
  clear hid hl
  generalize l.length=N at *
  cases h2 with
  |scalar h=>simp[Am.scalar]at h
  |hslice h hr hl' hx=>exact⟨_,_,h,rfl⟩
  |hslice0 hx=>omega
 obtain⟨a',b',rfl,ha,hb'⟩ : ∃a' b',v2 = .func (.func g) a' b'/\a'.size=0/\b'.size=0:=by
  cases h5 with
  |scalar h=>simp[Am.scalar]at h
  |func hf ha hb _ _=>exact⟨_,_,rfl,ha.symm,hb.symm⟩
 obtain rfl:=qcM ha
 obtain rfl:=qcM hb'
 obtain⟨p',hp',hr⟩:=hW.obj id _ hid rfl
 rw[hp]at hp'
 cases hp'
 have hcon:=AnyQ.slices_SortFunc_eq L e aE zE enc hk (λx v hv=>by
  have:=hs x v hv
  unfold Am.scalar at this
  split at this<;>first|rfl|cases this) cf hO g #[] p.b p.o cap l.toArray w eg (cmp_lays hG hs hc hW (hW.own id _ p hid rfl hp) p.o l.toArray.size) (holds_of hk hs hr) (gC rfl hr) (by simpa using hl)
 obtain⟨e',w',fr,⟨rfl,n,os,rfl⟩,b1,b2,b3⟩:=hcon cs
 have hlen:(srt cf l).length=l.length:=by
  have:=(tw hO l).1.1
  simpa using this
 obtain⟨c1,c2⟩:=xg (l':=srt cf l) hW hk hs hid hp hlen n os
 have e2:(pdq (ltOf cf) l.toArray 0 l.toArray.size (Lib.bitLen l.toArray.size) true true)=(srt cf l).toArray:=by simp[srt]
 rw[e2]at b1 b3
 exact⟨.tuple #[],mu,_,.tuple (by simp) rfl (λi x y h=>by simp at h),c1,c2,L.f6.enters rfl _ _,fr,b1,b2,b3⟩
end
def renS:Ren:=⟨fun|6=>47|15=>62|14=>61|28=>81|29=>82|20=>73|21=>74|22=>75|23=>76|24=>77|25=>78|26=>79|27=>80|46=>112|47=>113|48=>114|49=>115|50=>116|57=>127|n=>n,
 fun|22=>27|24=>33|25=>86|39=>122|53=>146|55=>148|46=>139|45=>138|50=>143|66=>182|70=>186|76=>204|77=>173|n=>n,λn=>n⟩
def nmOf(P:Program)(f:FuncId):String:=match P.funcs[f]? with
 |some g=>g.name
 |none => ""
def uL {P:Program} {f:FuncId} {B:Func} (h1:(nmOf P f == "runtime.NumGoroutine")=false) (h2:P.funcs[f]?=some { B with name:=nmOf P f }):Bears P f B:=⟨_,h1,h2⟩
def layS:SlLaysF0.n6 Tryz.prog renS:=by
 constructor
 all_goals first
  |kernel_rfl
  |exact uL (by kernel_rfl) (by kernel_rfl)
  |exact λ_=>by kernel_rfl
def renC:Ren:=⟨fun|6=>56|15=>62|14=>66|28=>81|29=>82|20=>84|21=>85|22=>86|23=>87|24=>88|25=>89|26=>90|27=>91|46=>117|47=>113|48=>114|49=>118|50=>119|57=>128|n=>n,
 fun|22=>89|24=>112|25=>114|39=>122|53=>146|55=>148|46=>139|45=>138|50=>143|66=>182|70=>186|76=>204|77=>173|n=>n,λn=>n⟩
def layC:SlLaysF0.n6 Tryz.prog renC:=by
 constructor
 all_goals first
  |kernel_rfl
  |exact uL (by kernel_rfl) (by kernel_rfl)
  |exact λ_=>by kernel_rfl
end Go.Am
namespace Go.Am
namespace Sx
open Go.ChangeShapes Go.WideShapes Go.ChangeAt Go.WideMaps Go.WideElems Go.RowKit
def FitC:List LK->List Value->Prop
 | [],[]=>True
 | .i k :: ks,v :: vs=>(∃n,v = .int k n/\(Lit.int k n).wf=true)/\FitC ks vs
 | .b :: ks,v :: vs=>(∃t,v = .bool t)/\FitC ks vs
 |_,_=>False
def FitL:List LK->List Lf->Prop
 | [],[]=>True
 | .i k :: ks,.i n :: ls=>(Lit.int k n).wf=true/\FitL ks ls
 | .b :: ks,.b _ :: ls=>FitL ks ls
 |_,_=>False
def FitC.len:∀ {ks:List LK} {vs:List Value},FitC ks vs->vs.length=ks.length
 | [],[],_=>rfl
 | .i k :: ks,v :: vs,h=>by simp[FitC.len h.2]
 | .b :: ks,v :: vs,h=>by simp[FitC.len h.2]
 | .v :: _,_,h=>by cases h
 | [],_ :: _,h=>by cases h
 | .i _ :: _,[],h=>by cases h
 | .b :: _,[],h=>by cases h
def FitC.app:∀ {ks ks':List LK} {vs vs':List Value},FitC ks vs->FitC ks' vs'->FitC (ks++ks') (vs++vs')
 | [],_,[],_,_,h=>h
 | .i k :: ks,_,v :: vs,_,h,h'=>⟨h.1,FitC.app h.2 h'⟩
 | .b :: ks,_,v :: vs,_,h,h'=>⟨h.1,FitC.app h.2 h'⟩
 | .v :: _,_,_,_,h,_=>by cases h
 | [],_,_ :: _,_,h,_=>by cases h
 | .i _ :: _,_,[],_,h,_=>by cases h
 | .b :: _,_,[],_,h,_=>by cases h
def FitL.app:∀ {ks ks':List LK} {vs vs':List Lf},FitL ks vs->FitL ks' vs'->FitL (ks++ks') (vs++vs')
 | [],_,[],_,_,h=>h
 | .i k :: ks,_,.i v :: vs,_,h,h'=>⟨h.1,FitL.app h.2 h'⟩
 | .b :: ks,_,.b v :: vs,_,h,h'=>FitL.app (ks:=ks) h h'
 | .v :: _,_,_,_,h,_=>by cases h
 | [],_,_ :: _,_,h,_=>by cases h
 | .i _ :: _,_,[],_,h,_=>by cases h
 | .b :: _,_,[],_,h,_=>by cases h
 | .i _ :: _,_,.b _ :: _,_,h,_=>by cases h
 | .i _ :: _,_,.v _ :: _,_,h,_=>by cases h
 | .b :: _,_,.i _ :: _,_,h,_=>by cases h
 | .b :: _,_,.v _ :: _,_,h,_=>by cases h
def FitC.sl:∀ {ks:List LK} {vs:List Value},FitC ks vs->∃xs:List SL,xs.map SL.val=vs/\aT xs ks=true/\(∀x∈xs,x.good)/\FitL ks (xs.map SL.lf)
 | [],[],_=>⟨[],rfl,rfl,λ_ h=>(by cases h),trivial⟩
 | .i k :: ks,v :: vs,h=>by
  obtain⟨⟨n,rfl,hw⟩,h2⟩:=h
  obtain⟨xs,a,b,c,d⟩:=FitC.sl h2
  exact⟨.i k n :: xs,by simp[a,SL.val],by simp[aT,b,SL.is,dD],λx hx=>by
   rcases qal.1 hx with rfl|hx
   ·trivial
   ·exact c x hx,hw,d⟩
 | .b :: ks,v :: vs,h=>by
  obtain⟨⟨n,rfl⟩,h2⟩:=h
  obtain⟨xs,a,b,c,d⟩:=FitC.sl h2
  exact⟨.b n :: xs,by simp[a,SL.val],by simp[aT,b,SL.is],λx hx=>by
   rcases qal.1 hx with rfl|hx
   ·trivial
   ·exact c x hx,d⟩
 | .v :: _,_,h=>by cases h
 | [],_ :: _,h=>by cases h
 | .i _ :: _,[],h=>by cases h
 | .b :: _,[],h=>by cases h
def flatF(F:TypeId->Option (List LK)):List Field->Nat->Option (List LK)
 | [],_=>some []
 |f :: fs,off=>match Nat.beq f.offset off,F f.type with
  |true,some ks=>(flatF F fs (off+ks.length)).map (ks ++ ·)
  |_,_=>none
def wI(P:Program):Nat->TypeId->Option (List LK)
 |0,_=>none
 |d+1,t=>match P.underlying t with
  |some (.int k)=>some [.i k]
  |some .bool=>some [.b]
  |some (.struct fs)=>match flatF (wI P d) fs.toList 0 with
   |some ks=>match Nat.beq ks.length (P.cellsOf t)with
    |true=>some ks
    |false=>none
   |none=>none
  |some (.array n e)=>match wI P d e with
   |some ks=>match Nat.beq (P.cellsOf e) ks.length&&Nat.beq (P.cellsOf t) (n*ks.length)with
    |true=>some (List.replicate n ks).flatten
    |false=>none
   |none=>none
  |_=>none
section
variable {H:Type} {enc:TypeId×Value->H} {P:Program}
def ju{α:Type}(l:List α)(c:Nat):l.take (l.take c).length=l.take c:=by
 rw[qaJ]
 rcases Nat.le_total c l.length with h|h
 ·rw[qa7 h]
 ·rw[qbV h,qaP h,qaP (qah _)]
def vc{F:TypeId->Option (List LK)}{w:World}{base:Nat}{sp:Nat->Bool}{held:Bool}{fuel:Nat}
  (hF:∀t ks,F t=some ks->∀cs (x:DataW H×List MemPlace),DataW.trod enc P w base sp held fuel t cs=some x->x.2=[]/\FitC ks cs/\∀w' b' s' h',DataW.trod enc P w' b' s' h' fuel t cs=some x) (cs:List Value) :
  ∀(fs:List Field) (off:Nat) (ks:List LK) (xs:List (DataW H×List MemPlace)),flatF F fs off=some ks->fs.mapM (λf=>DataW.trod enc P w base sp held fuel f.type ((cs.drop f.offset).take (P.cellsOf f.type)))=some xs->
   xs.flatMap (·.2)=[]/\FitC ks ((cs.drop off).take ks.length)/\∀w' b' s' h',fs.mapM (λf=>DataW.trod enc P w' b' s' h' fuel f.type ((cs.drop f.offset).take (P.cellsOf f.type)))=some xs
 | [],off,ks,xs,h1,h2=>by
  simp only[flatF,qar]at h1
  subst h1
  simp only[qdh,qc4,qar]at h2
  subst h2
  refine⟨rfl,by simp[FitC],λ_ _ _ _=>by simp⟩
 |f :: fs,off,ks,xs,h1,h2=>by
  simp only[flatF]at h1
  split at h1
  next k1 e1 e2=>
   obtain⟨k2,e3,rfl⟩:=qac.1 h1
   have e1:=qad e1
   rw[qbS]at h2
   obtain⟨x,h3,h2⟩:=qaq.1 h2
   obtain⟨ys,h4,h2⟩:=qaq.1 h2
   cases h2
   obtain⟨a1,a2,a3⟩:=hF _ _ e2 _ _ h3
   obtain⟨b1,b2,b3⟩:=vc hF cs fs _ k2 ys e3 h4
   refine⟨by simp[a1,b1],?_,λw' b' s' h'=>?_⟩
   ·rw[qaC,qdi]
    refine FitC.app ?_ (by rw[qbR];exact b2)
    have hl:=FitC.len a2
    rw[e1]at a2 hl
    rw[←hl,ju]
    exact a2
   ·rw[qbS,a3 w' b' s' h',b3 w' b' s' h']
    rfl
  ·cases h1
def arr_ok{w:World}{base:Nat}{sp:Nat->Bool}{held:Bool}{fuel c:Nat}{e:TypeId}{ks:List LK}(hc:c=ks.length)
  (hF:∀cs (x:DataW H×List MemPlace),DataW.trod enc P w base sp held fuel e cs=some x->x.2=[]/\FitC ks cs/\∀w' b' s' h',DataW.trod enc P w' b' s' h' fuel e cs=some x) (cs:List Value) :
  ∀(n:Nat) (xs:List (DataW H×List MemPlace)),(List.range n).mapM (λi=>DataW.trod enc P w base sp held fuel e ((cs.drop (i*c)).take c))=some xs->
   xs.flatMap (·.2)=[]/\FitC (List.replicate n ks).flatten (cs.take (n*c))/\∀w' b' s' h',(List.range n).mapM (λi=>DataW.trod enc P w' b' s' h' fuel e ((cs.drop (i*c)).take c))=some xs
 |0,xs,h=>by
  simp only[List.range_zero,qdh,qc4,qar]at h
  subst h
  exact⟨rfl,by simp[FitC],λ_ _ _ _=>by simp⟩
 |n+1,xs,h=>by
  rw[qc2,List.mapM_append]at h
  obtain⟨ys,h1,h⟩:=qaq.1 h
  obtain⟨zs,h2,h⟩:=qaq.1 h
  cases h
  rw[qbS]at h2
  obtain⟨z,h3,h2⟩:=qaq.1 h2
  cases h2
  obtain⟨a1,a2,a3⟩:=arr_ok hc hF cs n ys h1
  obtain⟨b1,b2,b3⟩:=hF _ _ h3
  refine⟨by simp[a1,b1],?_,λw' b' s' h'=>?_⟩
  ·rw[List.replicate_succ',List.flatten_append,qbC,qb8,qdi]
   refine FitC.app a2 ?_
   simpa using b2
  ·rw[qc2,List.mapM_append,a3 w' b' s' h',qbS,b3 w' b' s' h']
   rfl
def lJ:∀(d:Nat) (t:TypeId) (ks:List LK),wI P d t=some ks->∀(w:World) (base:Nat) (sp:Nat->Bool) (held:Bool) (fuel:Nat) (cs:List Value) (x:DataW H×List MemPlace),DataW.trod enc P w base sp held fuel t cs=some x->
  x.2=[]/\FitC ks cs/\∀w' b' s' h',DataW.trod enc P w' b' s' h' fuel t cs=some x
 |0,_,_,h=>by cases h
 |d+1,t,ks,h=>by
  intro w base sp held fuel cs x hx
  simp only[wI]at h
  split at h
  next k e=>
   cases h
   obtain⟨n,rfl,rfl,hw⟩:=DataW.trod_int e hx
   refine⟨rfl,⟨⟨n,rfl,hw⟩,trivial⟩,λw' b' s' h'=>?_⟩
   cases fuel with
   |zero=>simp[DataW.trod]at hx
   |succ m=>simp[DataW.trod,e,hw]
  next e=>
   cases h
   obtain⟨n,rfl,rfl⟩:=DataW.trod_bool e hx
   refine⟨rfl,⟨⟨n,rfl⟩,trivial⟩,λw' b' s' h'=>?_⟩
   cases fuel with
   |zero=>simp[DataW.trod]at hx
   |succ m=>simp[DataW.trod,e]
  next fs e=>
   split at h
   next k2 e2=>
    split at h
    next e3=>
     cases h
     have e3:=qad e3
     cases fuel with
     |zero=>simp[DataW.trod]at hx
     |succ m=>
      simp only[DataW.trod,e]at hx
      split at hx
      next hl=>
       obtain⟨xs,h5,rfl⟩:=qac.1 hx
       obtain⟨a1,a2,a3⟩:=vc (λt ks h cs x hx=>lJ d t ks h w base sp held m cs x hx) cs fs.toList 0 ks xs e2 h5
       rw[qa6,qaP (by omega)]at a2
       refine⟨a1,a2,λw' b' s' h'=>?_⟩
       simp only[DataW.trod,e,hl,if_true]
       rw[a3 w' b' s' h']
       rfl
      ·cases hx
    ·cases h
   ·cases h
  next n e e1=>
   split at h
   next k2 e2=>
    split at h
    next e3=>
     cases h
     rw[qaa]at e3
     have e4:=qad e3.1
     have e5:=qad e3.2
     cases fuel with
     |zero=>simp[DataW.trod]at hx
     |succ m=>
      simp only[DataW.trod,e1]at hx
      split at hx
      next hl=>
       obtain⟨xs,h5,rfl⟩:=qac.1 hx
       obtain⟨a1,a2,a3⟩:=arr_ok e4 (λcs x hx=>lJ d e k2 e2 w base sp held m cs x hx) cs n xs h5
       rw[qaP (by rw[hl,e5,e4];exact qah _)]at a2
       refine⟨a1,a2,λw' b' s' h'=>?_⟩
       simp only[DataW.trod,e1,hl,if_true]
       rw[a3 w' b' s' h']
       rfl
      ·cases hx
    ·cases h
   ·cases h
  ·cases h
end
section
variable [Val]
end
end Sx
end Go.Am
namespace Go.Am
namespace Sx
def FitL.i{k:IntKind}{ks:List LK}{ls:List Lf}(h:FitL (.i k :: ks) ls):∃n r,ls = .i n :: r/\(Lit.int k n).wf=true/\FitL ks r:=by
 match ls,h with
 | .i n :: r,h=>exact⟨n,r,rfl,h.1,h.2⟩
def FitL.b{ks:List LK}{ls:List Lf}(h:FitL (.b :: ks) ls):∃n r,ls = .b n :: r/\FitL ks r:=by
 match ls,h with
 | .b n :: r,h=>exact⟨n,r,rfl,h⟩
def FitL.nil{ls:List Lf}(h:FitL [] ls):ls=[]:=by
 match ls,h with
 | [],_=>rfl
def xk{n:Int}(h:(Lit.int .u8 n).wf=true):0<=n/\n<=255:=by
 simp only[Lit.wf,qaa,decide_eq_true_eq]at h
 exact h
def nC{H:Type}{enc:TypeId×Value->H}{P:Program}{w:World}{base:Nat}{sp:Nat->Bool}{held:Bool}:∀ {ts:List TypeId} {vs:List Value} {ds:List (DataW H)} {ps:List MemPlace},DataW.TrodAll enc P w base sp held ts vs ds ps->ds.length=ts.length
 | [],[],[],_,_=>rfl
 |_ :: _,_ :: _,_ :: _,_,h=>by
  obtain⟨p,q,_,h2,_⟩:=h
  simp[nC h2]
 | [],_ :: _,_,_,h=>by cases h
 | [],[],_ :: _,_,h=>by cases h
 |_ :: _,[],_,_,h=>by cases h
 |_ :: _,_ :: _,[],_,h=>by cases h
end Sx
namespace Sx
open Go.ChangeShapes Go.WideShapes Go.ChangeAt Go.WideMaps Go.WideElems Go.RowKit
inductive CK2 where
 |i (k:IntKind)
 |b
 |s (ks:List LK)
def CK2.lk:CK2->LK
 | .i k=>.i k
 | .b=>.b
 | .s _=>.v
def SlFit(w:World)(ks:List LK)(v:Value):Prop:=
 v = .slice none 0 0∨∃(a:Addr) (len cap:Nat) (c:Array Value) (t:TypeId) (fr:Nat×Nat) (cells:List Value),v = .slice (some a) len cap/\a.spot=none/\len<=cap/\cap<=maxLen/\
  w.heap[a.block]?=some (.cells c t fr)/\(cap=0∨a.off+cap*ks.length<=c.size)/\cells.length=len*ks.length/\(∀(i:Nat) v,cells[i]?=some v->c[a.off+i]?=some v)/\
  ∀i,i<len->FitC ks ((cells.drop (i*ks.length)).take ks.length)
def CellFit(w:World):CK2->Value->Prop
 | .i k,v=>∃n,v = .int k n/\(Lit.int k n).wf=true
 | .b,v=>∃t,v = .bool t
 | .s ks,v=>SlFit w ks v
def dJ(w:World):List CK2->List Value->Prop
 | [],[]=>True
 |k :: ks,v :: vs=>CellFit w k v/\dJ w ks vs
 |_,_=>False
def bo(h:HL):List CK2->List Lf->Prop
 | [],[]=>True
 | .i k :: ks,.i n :: ls=>(Lit.int k n).wf=true/\bo h ks ls
 | .b :: ks,.b _ :: ls=>bo h ks ls
 | .s es :: ks,.v x :: ls=>(∃n cells,SlC h x es.length n cells/\n<=maxLen/\∀i,i<n->FitC es ((cells.drop (i*es.length)).take es.length))/\bo h ks ls
 |_,_=>False
def dJ.len{w:World}:∀ {ks:List CK2} {vs:List Value},dJ w ks vs->vs.length=ks.length
 | [],[],_=>rfl
 |_ :: _,_ :: _,h=>by simp[dJ.len h.2]
 | [],_ :: _,h=>by cases h
 |_ :: _,[],h=>by cases h
def dJ.app{w:World}:∀ {ks ks':List CK2} {vs vs':List Value},dJ w ks vs->dJ w ks' vs'->dJ w (ks++ks') (vs++vs')
 | [],_,[],_,_,h=>h
 |_ :: _,_,_ :: _,_,h,h'=>⟨h.1,dJ.app h.2 h'⟩
 | [],_,_ :: _,_,h,_=>by cases h
 |_ :: _,_,[],_,h,_=>by cases h
def bo.app{h:HL}:∀ {ks ks':List CK2} {vs vs':List Lf},bo h ks vs->bo h ks' vs'->bo h (ks++ks') (vs++vs')
 | [],_,[],_,_,h=>h
 | .i _ :: ks,_,.i _ :: _,_,h,h'=>⟨h.1,bo.app (ks:=ks) h.2 h'⟩
 | .b :: ks,_,.b _ :: _,_,h,h'=>bo.app (ks:=ks) h h'
 | .s _ :: ks,_,.v _ :: _,_,h,h'=>⟨h.1,bo.app (ks:=ks) h.2 h'⟩
 | [],_,_ :: _,_,h,_=>by cases h
 | .i _ :: _,_,[],_,h,_=>by cases h
 | .b :: _,_,[],_,h,_=>by cases h
 | .s _ :: _,_,[],_,h,_=>by cases h
 | .i _ :: _,_,.b _ :: _,_,h,_=>by cases h
 | .i _ :: _,_,.v _ :: _,_,h,_=>by cases h
 | .b :: _,_,.i _ :: _,_,h,_=>by cases h
 | .b :: _,_,.v _ :: _,_,h,_=>by cases h
 | .s _ :: _,_,.i _ :: _,_,h,_=>by cases h
 | .s _ :: _,_,.b _ :: _,_,h,_=>by cases h
def ckF(F:TypeId->Option (List CK2)):List Field->Nat->Option (List CK2)
 | [],_=>some []
 |f :: fs,off=>match Nat.beq f.offset off,F f.type with
  |true,some ks=>(ckF F fs (off+ks.length)).map (ks ++ ·)
  |_,_=>none
def kby:LK->Nat
 | .i .i64=>8
 |_=>0
def kbs:List LK->Nat
 | []=>0
 |k :: ks=>kby k+kbs ks
def ckT(P:Program):Nat->TypeId->Option (List CK2)
 |0,_=>none
 |d+1,t=>match P.underlying t with
  |some (.int k)=>some [.i k]
  |some .bool=>some [.b]
  |some (.slice e)=>match wI P 20 e with
   |some ks=>match Nat.beq (P.cellsOf e) ks.length&&Nat.blt 0 ks.length&&Nat.ble (kbs ks) (P.bytesOf e)with
    |true=>some [.s ks]
    |false=>none
   |none=>none
  |some (.struct fs)=>match ckF (ckT P d) fs.toList 0 with
   |some ks=>match Nat.beq ks.length (P.cellsOf t)with
    |true=>some ks
    |false=>none
   |none=>none
  |_=>none
section
variable {H:Type} {enc:TypeId×Value->H} {P:Program}
def Lies(w:World)(v:Value):Prop:=∀a len cap,v = .slice (some a) len cap->a.spot=none/\∃c t fr,w.heap[a.block]?=some (.cells c t fr)
def iE{α β:Type}{f g:α->Option β}:∀ {l:List α},(∀x∈l,f x=g x)->l.mapM f=l.mapM g
 | [],_=>rfl
 |a :: l,h=>by
  rw[qbS,qbS,h a qaA,iE λx hx=>h x (qam _ hx)]
def bD{a:Addr}(h:a.spot=none)(i:Nat):a.add i=⟨a.block,a.off+i,none⟩:=by
 obtain⟨b,o,s⟩:=a
 cases h
 unfold Addr.add
 simp
def slice_ok{w:World}{t e:TypeId}{ks:List LK}(ht:P.underlying t=some (.slice e))(he:wI P 20 e=some ks)(hc:P.cellsOf e=ks.length)(h0:0<ks.length){base:Nat}(hbase:base=0){held:Bool}{fuel:Nat}{cs:List Value}{x:DataW H×List MemPlace}
  (hx:DataW.trod enc P w base (λ_=>true) held fuel t cs=some x) (hl:∀v∈cs,Lies w v) :
  ∃v,cs=[v]/\SlFit w ks v/\∀(w':World) (s':Nat->Bool),(∀b,b<w.heap.size->w'.heap[b]?=w.heap[b]?)->(∀b,b<w.heap.size->s' b=true)->DataW.trod enc P w' base s' held fuel t cs=some x:=by
 subst hbase
 have hx0:=hx
 rcases DataW.trod_slice ht hx with⟨rfl,rfl⟩|⟨a,len,cap,elems,rest,n,rfl,rfl,rfl,hb,hlc,hm,hlen,hel,hsp,_⟩
 ·refine⟨_,rfl,.inl rfl,λw' s' _ _=>?_⟩
  cases fuel with
  |zero=>simp[DataW.trod]at hx
  |succ m=>simp[DataW.trod,ht]
 ·obtain⟨hs,c,t',fr,hblk⟩:=hl _ qaA a len cap rfl
  obtain⟨hrl,hr⟩:=hsp rfl
  rw[hc]at hel hr
  have hlt:a.block<w.heap.size:=by
   rcases qaL a.block w.heap.size with h|h
   ·exact h
   ·rw[qa9 h]at hblk;cases hblk
  have each:∀i,i<cap->∃ci y,w.cells? 0 (a.add (i*ks.length)) ks.length=some ci/\DataW.trod enc P w 0 (λ_=>true) held n e ci=some y/\(elems++rest)[i]?=some y:=by
   intro i hi
   by_cases h1:i<len
   ·have h2:=hel i h1
    have h3:elems[i]?=some elems[i]:=qai (by omega)
    rw[h3]at h2
    obtain⟨ci,h4,h5⟩:=qaq.1 h2
    exact⟨ci,_,h4,h5,by rw[qag (by omega)];exact h3⟩
   ·have h2:=hr (i - len) (by omega)
    rw[show len+(i - len)=i by omega]at h2
    have h3:rest[i - len]?=some (rest[i - len]'(by omega)):=qai (by omega)
    rw[h3]at h2
    obtain⟨ci,h4,h5⟩:=qaq.1 h2
    exact⟨ci,_,h4,h5,by rw[qao (by omega),hlen];exact h3⟩
  have rd:∀i,i<cap->∀j,j<ks.length->∀ci,w.cells? 0 (a.add (i*ks.length)) ks.length=some ci->c[a.off+i*ks.length+j]?=ci[j]?:=by
   intro i hi j hj ci hci
   have h1:=(World.cells?_some hci).2.2 j hj
   rw[bD hs,bD rfl]at h1
   rw[←h1]
   unfold World.cell?
   simp[hblk]
  have hsz:cap=0∨a.off+cap*ks.length<=c.size:=by
   by_cases hcap:cap=0
   ·exact .inl hcap
   ·right
    obtain⟨ci,y,h1,_,_⟩:=each (cap - 1) (by omega)
    have h2:=rd (cap - 1) (by omega) (ks.length - 1) (by omega) ci h1
    have hcl:=(World.cells?_some h1).2.1
    rw[qai (by omega)]at h2
    have h3:=(qat.1 h2).1
    have h4:cap*ks.length=(cap - 1)*ks.length+ks.length:=by
     rw[←Nat.succ_mul];congr 1;omega
    omega
  have hsz2:a.off+len*ks.length<=c.size∨len=0:=by
   rcases hsz with h|h
   ·right;omega
   ·left
    have:=qbl ks.length hlc
    omega
  refine⟨_,rfl,.inr ⟨a,len,cap,c,t',fr,(c.toList.drop a.off).take (len*ks.length),rfl,hs,hlc,hm,hblk,hsz,?_,?_,?_⟩,?_⟩
  ·rw[qaJ,qbK]
   have hcz:c.toList.length=c.size:=qcA
   rcases hsz2 with h|h
   ·omega
   ·subst h;omega
  ·intro i v hv
   rw[qaR]at hv
   split at hv
   ·rw[qaS]at hv
    simpa using hv
   ·cases hv
  ·intro i hi
   obtain⟨ci,y,h1,h2,_⟩:=each i (by omega)
   obtain⟨_,h3,_⟩:=lJ 20 e ks he w 0 _ held n ci y h2
   have hcl:=(World.cells?_some h1).2.1
   have:(((c.toList.drop a.off).take (len*ks.length)).drop (i*ks.length)).take ks.length=ci:=by
    apply qaZ
    intro j
    by_cases hj:j<ks.length
    ·have hle:i*ks.length+ks.length<=len*ks.length:=by
      have:=qbl ks.length (show i+1<=len by omega)
      rw[qbC,qb8]at this;exact this
     rw[qaR,if_pos hj,qaS,qaR,if_pos (by omega),qaS,←rd i (by omega) j hj ci h1]
     rw[qcO,qbB]
    ·rw[qaj (by rw[qaJ];omega),qaj (by omega)]
   rw[this];exact h3
  ·intro w' s' hw hs'
   have hcell:∀i,i<cap->w'.cells? 0 (a.add (i*ks.length)) ks.length=w.cells? 0 (a.add (i*ks.length)) ks.length:=by
    intro i hi
    unfold World.cells?
    have:∀j,w'.cell? ((a.add (i*ks.length)).add j)=w.cell? ((a.add (i*ks.length)).add j):=by
     intro j
     rw[bD hs,bD rfl]
     unfold World.cell?
     rw[hw _ hlt]
    simp only[this]
   have el:∀i,i<cap->(w'.cells? 0 (a.add (i*P.cellsOf e)) (P.cellsOf e)).bind (DataW.trod enc P w' 0 s' held n e)=(elems++rest)[i]?:=by
    intro i hi
    rw[hc,hcell i hi]
    obtain⟨ci,y,h1,h2,h3⟩:=each i hi
    rw[h1,h3,qak]
    exact(lJ 20 e ks he w 0 _ held n ci y h2).2.2 w' 0 s' held
   have el0:∀i,i<cap->(w.cells? 0 (a.add (i*P.cellsOf e)) (P.cellsOf e)).bind (DataW.trod enc P w 0 (λ_=>true) held n e)=(elems++rest)[i]?:=by
    intro i hi
    rw[hc]
    obtain⟨ci,y,h1,h2,h3⟩:=each i hi
    rw[h1,h3,qak]
    exact h2
   unfold DataW.trod at hx0 ⊢
   simp only[ht]at hx0 ⊢
   rw[if_pos ⟨qaU _,hlc,hm⟩]at hx0 ⊢
   rw[iE (λi hi=>(el i (by have:=qaD.1 hi;omega)).trans (el0 i (by have:=qaD.1 hi;omega)).symm)]
   rw[iE (l:=List.range (cap - len)) (λj hj=>(el (len+j) (by have:=qaD.1 hj;omega)).trans (el0 (len+j) (by have:=qaD.1 hj;omega)).symm)]
   rw[hs' _ hlt]
   exact hx0
def ckF_ok{F:TypeId->Option (List CK2)}{w:World}{held:Bool}{fuel:Nat}(cs:List Value)(hl:∀v∈cs,Lies w v)
  (hF:∀t ks,F t=some ks->∀cs (x:DataW H×List MemPlace),(∀v∈cs,Lies w v)->DataW.trod enc P w 0 (λ_=>true) held fuel t cs=some x->dJ w ks cs/\∀(w':World) (s':Nat->Bool),(∀b,b<w.heap.size->w'.heap[b]?=w.heap[b]?)->(∀b,b<w.heap.size->s' b=true)->DataW.trod enc P w' 0 s' held fuel t cs=some x) :
  ∀(fs:List Field) (off:Nat) (ks:List CK2) (xs:List (DataW H×List MemPlace)),ckF F fs off=some ks->fs.mapM (λf=>DataW.trod enc P w 0 (λ_=>true) held fuel f.type ((cs.drop f.offset).take (P.cellsOf f.type)))=some xs->
   dJ w ks ((cs.drop off).take ks.length)/\∀(w':World) (s':Nat->Bool),(∀b,b<w.heap.size->w'.heap[b]?=w.heap[b]?)->(∀b,b<w.heap.size->s' b=true)->fs.mapM (λf=>DataW.trod enc P w' 0 s' held fuel f.type ((cs.drop f.offset).take (P.cellsOf f.type)))=some xs
 | [],off,ks,xs,h1,h2=>by
  simp only[ckF,qar]at h1
  subst h1
  simp only[qdh,qc4,qar]at h2
  subst h2
  refine⟨by simp[dJ],λ_ _ _ _=>by simp⟩
 |f :: fs,off,ks,xs,h1,h2=>by
  simp only[ckF]at h1
  split at h1
  next k1 e1 e2=>
   obtain⟨k2,e3,rfl⟩:=qac.1 h1
   have e1:=qad e1
   rw[qbS]at h2
   obtain⟨x,h3,h2⟩:=qaq.1 h2
   obtain⟨ys,h4,h2⟩:=qaq.1 h2
   cases h2
   obtain⟨a2,a3⟩:=hF _ _ e2 _ _ (λv hv=>hl v (qbM (qbF hv))) h3
   obtain⟨b2,b3⟩:=ckF_ok cs hl hF fs _ k2 ys e3 h4
   refine⟨?_,λw' s' hw hs'=>?_⟩
   ·rw[qaC,qdi]
    refine dJ.app ?_ (by rw[qbR];exact b2)
    have hl:=dJ.len a2
    rw[e1]at a2 hl
    rw[←hl,ju]
    exact a2
   ·rw[qbS,a3 w' s' hw hs',b3 w' s' hw hs']
    rfl
  ·cases h1
def ckT_ok:∀(d:Nat) (t:TypeId) (ks:List CK2),ckT P d t=some ks->∀(w:World) (held:Bool) (fuel:Nat) (cs:List Value) (x:DataW H×List MemPlace),(∀v∈cs,Lies w v)->DataW.trod enc P w 0 (λ_=>true) held fuel t cs=some x->
  dJ w ks cs/\∀(w':World) (s':Nat->Bool),(∀b,b<w.heap.size->w'.heap[b]?=w.heap[b]?)->(∀b,b<w.heap.size->s' b=true)->DataW.trod enc P w' 0 s' held fuel t cs=some x
 |0,_,_,h=>by cases h
 |d+1,t,ks,h=>by
  intro w held fuel cs x hl hx
  simp only[ckT]at h
  split at h
  next k e=>
   cases h
   obtain⟨n,rfl,rfl,hw⟩:=DataW.trod_int e hx
   refine⟨⟨⟨n,rfl,hw⟩,trivial⟩,λw' s' _ _=>?_⟩
   cases fuel with
   |zero=>simp[DataW.trod]at hx
   |succ m=>simp[DataW.trod,e,hw]
  next e=>
   cases h
   obtain⟨n,rfl,rfl⟩:=DataW.trod_bool e hx
   refine⟨⟨⟨n,rfl⟩,trivial⟩,λw' s' _ _=>?_⟩
   cases fuel with
   |zero=>simp[DataW.trod]at hx
   |succ m=>simp[DataW.trod,e]
  next e e0=>
   split at h
   next k2 e2=>
    split at h
    next e3=>
     cases h
     simp only[qaa,qba]at e3
     obtain⟨v,rfl,a2,a3⟩:=slice_ok e0 e2 (qad e3.1.1) e3.1.2 rfl hx hl
     exact⟨⟨a2,trivial⟩,a3⟩
    ·cases h
   ·cases h
  next fs e=>
   split at h
   next k2 e2=>
    split at h
    next e3=>
     cases h
     have e3:=qad e3
     cases fuel with
     |zero=>simp[DataW.trod]at hx
     |succ m=>
      simp only[DataW.trod,e]at hx
      split at hx
      next hlen=>
       obtain⟨xs,h5,rfl⟩:=qac.1 hx
       obtain⟨a2,a3⟩:=ckF_ok cs hl (λt ks h cs x hl hx=>ckT_ok d t ks h w held m cs x hl hx) fs.toList 0 ks xs e2 h5
       rw[qa6,qaP (by omega)]at a2
       refine⟨a2,λw' s' hw hs'=>?_⟩
       simp only[DataW.trod,e,hlen,if_true]
       rw[a3 w' s' hw hs']
       rfl
      ·cases hx
    ·cases h
   ·cases h
  ·cases h
abbrev Blk2:=HObj×Option Pl
def rC(w:World)(b:Blk2):Prop:=b.1 = .dead∨∃vs e p c t fr,b.1 = .cells vs e false/\b.2=some p/\p.esz=e/\vs.all flat=true/\vs.all aX=true/\vs.length<=p.room/\w.heap[p.b]?=some (.cells c t fr)/\c.size=p.o+p.room/\∀(i:Nat) v,vs[i]?=some v->c[p.o+i]?=some v
def mz:∀ {ks:List LK} {vs:List Value},FitC ks vs->vs.all flat=true/\vs.all aX=true
 | [],[],_=>⟨rfl,rfl⟩
 | .i k :: ks,v :: vs,h=>by
  obtain⟨⟨n,rfl,_⟩,h2⟩:=h
  obtain⟨a,b⟩:=mz h2
  exact⟨by simp[a,flat,eG,scalar],by simp[b];rfl⟩
 | .b :: ks,v :: vs,h=>by
  obtain⟨⟨n,rfl⟩,h2⟩:=h
  obtain⟨a,b⟩:=mz h2
  exact⟨by simp[a,flat,eG,scalar],by simp[b];rfl⟩
 | .v :: _,_,h=>by cases h
 | [],_ :: _,h=>by cases h
 | .i _ :: _,[],h=>by cases h
 | .b :: _,[],h=>by cases h
def tI{ks:List LK}(hk:0<ks.length){cells:List Value}{n:Nat}(hl:cells.length=n*ks.length)(h:∀i,i<n->FitC ks ((cells.drop (i*ks.length)).take ks.length)):cells.all flat=true/\cells.all aX=true:=by
 have main:∀j,j<cells.length->∃v,cells[j]?=some v/\flat v=true/\aX v=true:=by
  intro j hj
  have h1:j / ks.length<n:=by
   rw[Nat.div_lt_iff_lt_mul hk];omega
  obtain⟨a,b⟩:=mz (h _ h1)
  have hm:=qbY j hk
  have hd:=Nat.div_add_mod j ks.length
  have hmem:((cells.drop (j / ks.length*ks.length)).take ks.length)[j%ks.length]?=some cells[j]:=by
   rw[qaR,if_pos hm,qaS]
   rw[show j / ks.length*ks.length+j%ks.length=j by rw[Nat.mul_comm];exact hd]
   exact qai hj
  exact⟨_,qai hj,qaf.1 a _ (qab hmem),qaf.1 b _ (qab hmem)⟩
 constructor<;>
 ·rw[qaf]
  intro v hv
  obtain⟨j,hj⟩:=qaW hv
  have hlt:j<cells.length:=by
   rcases qaL j cells.length with h|h
   ·exact h
   ·rw[qaj h]at hj;cases hj
  obtain⟨v',h1,h2,h3⟩:=main j hlt
  rw[hj]at h1
  cases h1
  first|exact h2|exact h3
section
variable [Val] [Glo]
def cell_abs{w:World}{ck:CK2}{v:Value}(hp:∀ks,ck = .s ks->0<ks.length)(h:CellFit w ck v)(n0:Nat):∃(x:SL) (bl:List Blk2),(∀b∈bl,rC w b)/\x.is ck.lk=true/\x.good/\
  (∀mu:HMap,(∀(i:Nat) b,bl[i]?=some b->mu (n0+i)=b.2)->VR noL mu x.val v)/\∀hp:HL,(∀(i:Nat) b,bl[i]?=some b->hp[n0+i]?=some (.o b.1))->bo hp [ck] [x.lf]:=by
 cases ck with
 |i k=>
  obtain⟨n,rfl,hw⟩:=h
  exact⟨.i k n,[],by simp,by simp[SL.is,CK2.lk,dD],trivial,λmu _=>.scalar rfl,λhp _=>⟨hw,trivial⟩⟩
 |b=>
  obtain⟨t,rfl⟩:=h
  exact⟨.b t,[],by simp,rfl,trivial,λmu _=>.scalar rfl,λhp _=>trivial⟩
 |s ks=>
  have hk:=hp ks rfl
  rcases h with rfl|⟨a,len,cap,c,t,fr,cells,rfl,hs,hlc,hm,hblk,hsz,hcl,hget,hfit⟩
  ·refine⟨.v (.slice none 0 0),[],by simp,rfl,rfl,λmu _=>.scalar rfl,λhp _=>⟨⟨0,[],⟨by simp,.inl ⟨rfl,rfl⟩⟩,qaU _,λi hi=>by omega⟩,trivial⟩⟩
  ·obtain⟨hf1,hf2⟩:=tI hk hcl hfit
   have gd:ba (.slice (some ⟨n0,0,tag ks.length⟩) len 0)=true:=by simp[ba,noLoc,bk,bB,br,aV,aG,tag]
   have ha:a=⟨a.block,a.off,none⟩:=by cases a;cases hs;rfl
   have fit:∀hp:HL,hp[n0]?=some (.o (.cells cells ks.length false))->bo hp [.s ks] [.v (.slice (some ⟨n0,0,tag ks.length⟩) len 0)]:=λhp h1=>
    ⟨⟨len,cells,⟨hcl,.inr ⟨n0,0,0,cells,false,rfl,h1,cut_all hcl⟩⟩,by omega,hfit⟩,trivial⟩
   by_cases hcap:cap=0
   ·subst hcap
    obtain rfl:len=0:=by omega
    have hce:cells=[]:=List.eq_nil_of_length_eq_zero (by omega)
    subst hce
    refine⟨.v (.slice (some ⟨n0,0,tag ks.length⟩) 0 0),[(.cells [] ks.length false,some ⟨a.block,c.size,0,ks.length⟩)],λb hb=>?_,rfl,gd,λmu _=>.hslice0 (qaU _),λhp h1=>fit hp (h1 0 _ rfl)⟩
    simp only[qap]at hb
    subst hb
    exact .inr ⟨[],ks.length,_,c,t,fr,rfl,rfl,rfl,rfl,rfl,qaU _,hblk,by simp,λi v hv=>by simp at hv⟩
   ·have hsz:a.off+cap*ks.length<=c.size:=hsz.resolve_left hcap
    have hle:=qbl ks.length hlc
    refine⟨.v (.slice (some ⟨n0,0,tag ks.length⟩) len 0),[(.cells cells ks.length false,some ⟨a.block,a.off,c.size - a.off,ks.length⟩)],λb hb=>?_,rfl,gd,λmu h1=>?_,λhp h1=>fit hp (h1 0 _ rfl)⟩
    ·simp only[qap]at hb
     subst hb
     exact .inr ⟨cells,ks.length,_,c,t,fr,rfl,rfl,rfl,hf1,hf2,by show cells.length<=c.size - a.off;omega,hblk,by show c.size=a.off+(c.size - a.off);omega,hget⟩
    ·have h2:=h1 0 _ rfl
     rw[ha]
     have:=VR.hslice (la:=noL) (mu:=mu) (id:=n0) (off:=0) (len:=len) (cap:=cap) (cx:=0) h2 (by show 0+cap*ks.length<=c.size - a.off;omega) hlc (.inl rfl)
     exact this
def rP{w:World}:∀ {cks:List CK2} {vs:List Value},(∀ks,CK2.s ks∈cks->0<ks.length)->dJ w cks vs->∀n0,∃(xs:List SL) (bl:List Blk2),(∀b∈bl,rC w b)/\aT xs (cks.map CK2.lk)=true/\(∀x∈xs,x.good)/\xs.length=vs.length/\
  (∀mu:HMap,(∀(i:Nat) b,bl[i]?=some b->mu (n0+i)=b.2)->VRs noL mu (xs.map SL.val) vs)/\∀hp:HL,(∀(i:Nat) b,bl[i]?=some b->hp[n0+i]?=some (.o b.1))->bo hp cks (xs.map SL.lf)
 | [],[],_,_,n0=>⟨[],[],by simp,rfl,by simp,rfl,λmu _=>⟨rfl,λi x y h=>by simp at h⟩,λhp _=>trivial⟩
 |ck :: cks,v :: vs,hp,h,n0=>by
  obtain⟨x,bl,a1,a2,a3,a4,a5⟩:=cell_abs (λks e=>hp ks (by rw[e];exact qaA)) h.1 n0
  obtain⟨xs,bl',b1,b2,b3,b4,b5,b6⟩:=rP (λks e=>hp ks (qam _ e)) h.2 (n0+bl.length)
  have g1:∀ {α:Type} {f:Nat->α} {g:Blk2->α},(∀(i:Nat) b,(bl++bl')[i]?=some b->f (n0+i)=g b)->(∀(i:Nat) b,bl[i]?=some b->f (n0+i)=g b)/\∀(i:Nat) b,bl'[i]?=some b->f (n0+bl.length+i)=g b:=by
   intro α f g h
   refine⟨λi b hb=>h i b ?_,λi b hb=>?_⟩
   ·rw[qag (by
     rcases qaL i bl.length with h|h
     ·exact h
     ·rw[qaj h]at hb;cases hb)];exact hb
   ·rw[qbB]
    refine h _ b ?_
    rw[qao (by omega),qcG];exact hb
  refine⟨x :: xs,bl++bl',λb hb=>?_,by simp[aT,a2,b2],λy hy=>?_,by simp[b4],λmu hmu=>?_,λhp hh=>?_⟩
  ·rcases qas.1 hb with h|h
   ·exact a1 b h
   ·exact b1 b h
  ·rcases qal.1 hy with rfl|hy
   ·exact a3
   ·exact b3 y hy
  ·obtain⟨h1,h2⟩:=g1 (f:=mu) (g:=λb=>b.2) hmu
   have c1:=a4 mu h1
   obtain⟨c2,c3⟩:=b5 mu h2
   refine⟨by simpa using c2,λi p q hi hj=>?_⟩
   cases i with
   |zero=>
    simp only[qav,qaO,qar]at hi hj
    subst hi hj;exact c1
   |succ i=>exact c3 i p q (by simpa using hi) (by simpa using hj)
  ·obtain⟨h1,h2⟩:=g1 (f:=λi=>hp[i]?) (g:=λb=>some (HO.o b.1)) hh
   exact bo.app (a5 hp h1) (b6 hp h2)
 | [],_ :: _,_,h,_=>by cases h
 |_ :: _,[],_,h,_=>by cases h
end
end
end Sx
namespace Sx
open Go.ChangeShapes Go.WideShapes Go.ChangeAt Go.WideMaps Go.WideElems Go.RowKit
section
variable {H:Type} {enc:TypeId×Value->H} {P:Program}
def mN{w:World}{r:Reach}{b0:Nat}{u:TypeId}{v:Value}(h:Cell.okWide P w r b0 u v):Lies w v:=by
 rintro a len cap rfl
 have h1:∃e,w.has P r b0 a e cap:=by
  unfold Cell.okWide at h
  split at h<;>first|(rename_i e1 e2;cases e2;done)|(rename_i e1;cases e1;done)|skip
  all_goals
   unfold Cell.ok at h
   split at h<;>first|(cases h;done)|(rename_i e1 e2;cases e2;done)|skip
   all_goals first|(rename_i heq;injection heq with q1 q2 q3;subst q2 q3;cases q1;exact⟨_,h.2.2⟩)|skip
 obtain⟨e,_,h2,row,cells,h3,_⟩:=h1
 refine⟨h2,?_⟩
 unfold World.shape? at h3
 split at h3
 next c el fr e1=>
  exact⟨c,el,fr,e1⟩
 ·cases h3
def lies_val{w:World}{r:Reach}{b0:Nat}{t:TypeId}{v:Value}(h:Value.okWide P w r b0 t v):∀x∈v.cells.toList,Lies w x:=by
 intro x hx
 unfold Value.okWide at h
 split at h
 ·obtain⟨cs,rfl,_,ts,_,_,h2⟩:=h
  obtain⟨i,hi⟩:=qaW hx
  obtain⟨u,_,h3⟩:=h2 i x (by simpa[Value.cells]using hi)
  exact mN h3
 ·obtain⟨cs,rfl,_,ts,_,_,h2⟩:=h
  obtain⟨i,hi⟩:=qaW hx
  obtain⟨u,_,h3⟩:=h2 i x (by simpa[Value.cells]using hi)
  exact mN h3
 ·have:x=v∨∃cs,v = .agg cs:=by
   cases v<;>first|(right;exact⟨_,rfl⟩)|(left;simpa[Value.cells]using hx)
  rcases this with rfl|⟨cs,rfl⟩
  ·exact mN h
  ·exfalso
   unfold Cell.okWide at h
   split at h<;>first|(rename_i e1 e2;cases e2;done)|(rename_i e1;cases e1;done)|skip
   all_goals
    unfold Cell.ok at h
    split at h<;>first|(cases h;done)|(rename_i e1 e2;cases e2;done)|skip
def skC(P:Program)(t:TypeId)(cks:List CK2):Option SK:=
 match P.underlying t,cks with
 |some (.struct _),cks=>some (.agg (cks.map CK2.lk))
 |some (.int _),[k]=>some (.leaf k.lk)
 |some .bool,[k]=>some (.leaf k.lk)
 |some (.slice _),[k]=>some (.leaf k.lk)
 |_,_=>none
def posK(cks:List CK2):Bool:=cks.all λk=>match k with
 | .s ks=>Nat.blt 0 ks.length
 |_=>true
def posK_ok{cks:List CK2}(h:posK cks=true):∀ks,CK2.s ks∈cks->0<ks.length:=by
 intro ks hk
 have:=qaf.1 h _ hk
 simpa[qba]using this
section
variable [Val] [Glo]
structure Abs(W:World)(n0:Nat)(bl:List Blk2):Prop where
 ok:∀b∈bl,rC W b
abbrev MuAt(mu:HMap)(n0:Nat)(bl:List Blk2):Prop:=∀(i:Nat) b,bl[i]?=some b->mu (n0+i)=b.2
abbrev HpAt(hp:HL)(n0:Nat)(bl:List Blk2):Prop:=∀(i:Nat) b,bl[i]?=some b->hp[n0+i]?=some (.o b.1)
abbrev Stays(W W':World):Prop:=∀b,b<W.heap.size->W'.heap[b]?=W.heap[b]?
def open_arg2{W:World}{r:Reach}{b0:Nat}{held:Bool}{t:TypeId}{cks:List CK2}{sk:SK}{v:Value}{d:DataW H}{ps:List MemPlace}(h:ckT P 20 t=some cks)(hsk:skC P t cks=some sk)(hpos:posK cks=true)(hval:Value.okWide P W r b0 t v)(hd:DataW.Trod enc P W 0 (λ_=>true) held t v d ps)(n0:Nat) :
  ∃(x:S0) (bl:List Blk2),(∀b∈bl,rC W b)/\x.is sk=true/\x.good/\(∀mu:HMap,MuAt mu n0 bl->VR noL mu x.val v)/\(∀hp:HL,HpAt hp n0 bl->bo hp cks (x.cells.map SL.lf))/\
   ∀(W':World) (s':Nat->Bool),Stays W W'->(∀b,b<W.heap.size->s' b=true)->DataW.Trod enc P W' 0 s' held t v d ps:=by
 obtain⟨fuel,hf⟩:=hd
 obtain⟨a1,a2⟩:=ckT_ok 20 t cks h W held fuel _ _ (lies_val hval) hf
 obtain⟨xs,bl,b1,b2,b3,b4,b5,b6⟩:=rP (posK_ok hpos) a1 n0
 have close:∀(W':World) (s':Nat->Bool),Stays W W'->(∀b,b<W.heap.size->s' b=true)->DataW.Trod enc P W' 0 s' held t v d ps:=λW' s' h1 h2=>⟨fuel,a2 W' s' h1 h2⟩
 have leaf:(∀fs,P.underlying t≠some (.struct fs))->(∀n e,P.underlying t≠some (.array n e))->∀k,cks=[k]->sk = .leaf k.lk->∃(x:S0) (bl:List Blk2),(∀b∈bl,rC W b)/\x.is sk=true/\x.good/\(∀mu:HMap,MuAt mu n0 bl->VR noL mu x.val v)/\(∀hp:HL,HpAt hp n0 bl->bo hp cks (x.cells.map SL.lf))/\
   ∀(W':World) (s':Nat->Bool),Stays W W'->(∀b,b<W.heap.size->s' b=true)->DataW.Trod enc P W' 0 s' held t v d ps:=by
  rintro hs1 hs2 k rfl rfl
  have hv:v.cells.toList=[v]:=by
   have h1:=dJ.len a1
   cases v with
   |agg cs=>
    exfalso
    unfold Value.okWide at hval
    split at hval
    next e=>exact hs1 _ e
    next e=>exact hs2 _ _ e
    ·unfold Cell.okWide at hval
     split at hval<;>first|(rename_i e1 e2;cases e2;done)|(rename_i e1;cases e1;done)|skip
     all_goals
      unfold Cell.ok at hval
      split at hval<;>first|(cases hval;done)|(rename_i e1 e2;cases e2;done)|skip
   |_=>simp[Value.cells]
  rw[hv]at a1 b4 b5
  obtain⟨x,rfl⟩ : ∃x,xs=[x]:=List.length_eq_one_iff.1 b4
  refine⟨.leaf x,bl,b1,?_,λl hl=>?_,λmu hmu=>?_,λhp hh=>b6 hp hh,close⟩
  ·show x.is k.lk=true
   simpa[aT]using b2
  ·simp only[S0.cells,qap]at hl
   subst hl;exact b3 _ qaA
  ·exact(b5 mu hmu).2 0 _ _ rfl rfl
 unfold skC at hsk
 split at hsk
 next fs e=>
  cases hsk
  obtain⟨cs,rfl,_⟩:=okWide_struct e hval
  refine⟨.agg xs,bl,b1,b2,b3,λmu hmu=>?_,λhp hh=>b6 hp hh,close⟩
  obtain⟨c1,c2⟩:=b5 mu hmu
  refine .agg (by simpa[Value.cells]using c1) λi x y hx hy=>c2 i x y (by simpa using hx) (by simpa[Value.cells]using hy)
 next k e=>cases hsk;exact leaf (λ_ h=>by rw[e]at h;cases h) (λ_ _ h=>by rw[e]at h;cases h) _ rfl rfl
 next e=>cases hsk;exact leaf (λ_ h=>by rw[e]at h;cases h) (λ_ _ h=>by rw[e]at h;cases h) _ rfl rfl
 next e' e=>cases hsk;exact leaf (λ_ h=>by rw[e]at h;cases h) (λ_ _ h=>by rw[e]at h;cases h) _ rfl rfl
 ·cases hsk
def argK(P:Program):List TypeId->Option (List (List CK2)×List SK)
 | []=>some ([],[])
 |t :: ts=>match ckT P 20 t,argK P ts with
  |some cks,some (l,sks)=>match skC P t cks,posK cks with
   |some sk,true=>some (cks :: l,sk :: sks)
   |_,_=>none
  |_,_=>none
def at_app{α:Type}{bl bl':List Blk2}{f:Nat->α}{g:Blk2->α}{n0:Nat}(h:∀(i:Nat) b,(bl++bl')[i]?=some b->f (n0+i)=g b):(∀(i:Nat) b,bl[i]?=some b->f (n0+i)=g b)/\∀(i:Nat) b,bl'[i]?=some b->f (n0+bl.length+i)=g b:=by
 refine⟨λi b hb=>h i b ?_,λi b hb=>?_⟩
 ·rw[qag (by
   rcases qaL i bl.length with h|h
   ·exact h
   ·rw[qaj h]at hb;cases hb)];exact hb
 ·rw[qbB]
  refine h _ b ?_
  rw[qao (by omega),qcG];exact hb
def oO{W:World}{r:Reach}{b0:Nat}{held:Bool}:∀(ts:List TypeId) (l:List (List CK2)) (sks:List SK) (vs:List Value) (ds:List (DataW H)) (ps:List MemPlace) (n0:Nat),argK P ts=some (l,sks)->
  (∀(j:Nat) t v,ts[j]?=some t->vs[j]?=some v->Value.okWide P W r b0 t v)->DataW.TrodAll enc P W 0 (λ_=>true) held ts vs ds ps->
  ∃(xs:List S0) (bl:List Blk2),(∀b∈bl,rC W b)/\bU xs sks=true/\(∀x∈xs,x.good)/\(∀mu:HMap,MuAt mu n0 bl->VRs noL mu (ah xs) vs)/\(∀hp:HL,HpAt hp n0 bl->bo hp l.flatten (bW xs))/\
   ∀(W':World) (s':Nat->Bool),Stays W W'->(∀b,b<W.heap.size->s' b=true)->DataW.TrodAll enc P W' 0 s' held ts vs ds ps
 | [],l,sks,[],[],ps,n0,h,_,ht=>by
  cases h
  exact⟨[],[],by simp,rfl,by simp,λmu _=>⟨rfl,λi x y h=>by simp[ah]at h⟩,λhp _=>trivial,λ_ _ _ _=>ht⟩
 |t :: ts,l,sks,v :: vs,d :: ds,ps,n0,h,hv,ht=>by
  simp only[argK]at h
  split at h
  next cks l' sks' e1 e2=>
   split at h
   next sk e3 e4=>
    cases h
    obtain⟨p,q,h1,h2,rfl⟩:=ht
    obtain⟨x,bl,a1,a2,a3,a4,a5,a6⟩:=open_arg2 e1 e3 e4 (hv 0 t v rfl rfl) h1 n0
    obtain⟨xs,bl',b1,b2,b3,b4,b5,b6⟩:=oO ts l' sks' vs ds q (n0+bl.length) e2 (λj t v h1 h2=>hv (j+1) t v h1 h2) h2
    refine⟨x :: xs,bl++bl',λb hb=>?_,by simp[bU,a2,b2],λy hy=>?_,λmu hmu=>?_,λhp hh=>?_,λW' s' h1 h2=>⟨p,q,a6 W' s' h1 h2,b6 W' s' h1 h2,rfl⟩⟩
    ·rcases qas.1 hb with h|h
     ·exact a1 b h
     ·exact b1 b h
    ·rcases qal.1 hy with rfl|hy
     ·exact a3
     ·exact b3 y hy
    ·obtain⟨h1,h2⟩:=at_app (f:=mu) (g:=λb=>b.2) hmu
     have c1:=a4 mu h1
     obtain⟨c2,c3⟩:=b4 mu h2
     refine⟨by simpa[ah]using c2,λi p q hi hj=>?_⟩
     cases i with
     |zero=>
      simp only[ah,qav,qaO,qar]at hi hj
      subst hi hj;exact c1
     |succ i=>exact c3 i p q (by simpa[ah]using hi) (by simpa using hj)
    ·obtain⟨h1,h2⟩:=at_app (f:=λi=>hp[i]?) (g:=λb=>some (HO.o b.1)) hh
     rw[qcd]
     exact bo.app (a5 hp h1) (b5 hp h2)
   ·cases h
  ·cases h
 | [],_,_,_ :: _,_,_,_,_,_,ht=>by cases ht
 | [],_,_,[],_ :: _,_,_,_,_,ht=>by cases ht
 |_ :: _,_,_,[],_,_,_,_,_,ht=>by cases ht
 |_ :: _,_,_,_ :: _,[],_,_,_,_,ht=>by cases ht
def tG{C:Cfg}{f:FuncId}{args:List Value}{r:Value}{H':List HObj}{bl:List Blk2}{W:World}(hbl:∀b∈bl,rC W b)(h:cK C f args (bl.map (·.1)) r H'){args':Array Value}(hargs:∀mu:HMap,MuAt mu 0 bl->VRs noL mu args args'.toList)(hr:flat r=true)
  (hG:∀g vs,C.G g=some vs->gBlk g<W.heap.size/\vs.all aX=true/\∃c e fr,W.heap[gBlk g]?=some (.cells c e fr)/\bJ (λ_=>none) vs c (gOff g)) (hf:∀g vs,C.G g=some vs->vs.all gfl=true) :
  Calls C.P f args' W λe W'=>e = .returned r/\W'.os=W.os/\W'.output=W.output/\W'.tape=W.tape/\∀b,b<W.heap.size->W'.heap[b]?=W.heap[b]?:=by
 let mu:HMap:=λid=>(bl[id]?).bind (·.2)
 have hmu:MuAt mu 0 bl:=λi b hb=>by simp only[mu,qaM,hb,qak]
 have hob:∀(id:Nat) o,(bl.map (·.1))[id]?=some o->∃b,bl[id]?=some b/\o=b.1/\rC W b:=by
  intro id o ho
  rw[qau]at ho
  obtain⟨b,h1,rfl⟩:=qac.1 ho
  exact⟨b,h1,rfl,hbl b (qab h1)⟩
 have hun:∀(id:Nat) o,(bl.map (·.1))[id]?=some o->o.owned=false:=by
  intro id o ho
  obtain⟨b,_,rfl,h3⟩:=hob id o ho
  rcases h3 with h3|⟨vs,e,p,c,t,fr,h3,_⟩<;>rw[h3]<;>rfl
 have hno:∀b,¬Own mu (bl.map (·.1)) b:=by
  rintro b ⟨id,o,p,h1,h2,_⟩
  rw[hun id o h1]at h2;cases h2
 have hW0:WR C W.heap.size mu (bl.map (·.1)) W:=by
  refine⟨λid o h1 h2=>?_,λi j oi oj pi pj h1 h2 h3=>?_,λi o p h1 h2=>?_,λi o p h1 h2 _ h4=>?_,λid h1=>?_,λg vs hg=>?_⟩
  ·obtain⟨b,q1,rfl,q3⟩:=hob id o h1
   rcases q3 with q3|⟨vs,e,p,c,t,fr,q3,q4,q5,q6,q7,q8,q9,q10,q11⟩
   ·rw[q3]at h2;cases h2
   ·refine⟨p,by simp only[mu,q1,qak,q4],?_⟩
    rw[q3]
    refine⟨q5,q8,q7,c,t,fr,q9,q10,λh=>by(cases h),λi v hv=>⟨v,q11 i v hv,.of_flat (qaf.1 q6 v (qab hv))⟩⟩
  ·rw[hun i oi h1]at h3;cases h3
  ·rw[hun i o h1]at h2;cases h2
  ·obtain⟨b,q1,rfl,q3⟩:=hob i o h1
   rcases q3 with q3|⟨vs,e,p',c,t,fr,q3,q4,q5,q6,q7,q8,q9,q10,q11⟩
   ·rw[q3]at h2;cases h2
   ·simp only[mu,q1,qak,q4,qar]at h4
    subst h4
    rcases qaL p'.b W.heap.size with h|h
    ·exact h
    ·rw[qa9 h]at q9;cases q9
  ·simp only[mu]
   rw[qaj (by simpa using h1)];rfl
  ·obtain⟨h1,h2,c,e,fr,h4,h5⟩:=hG g vs hg
   exact⟨h1,h2,c,e,fr,h4,lL (hf g vs hg) h5⟩
 intro cs
 obtain⟨v,mu',w',a1,a2,a3,_,a5⟩:=h _ W.heap.size mu W args' (qah _) (hargs mu hmu) hW0 cs
 rw[eW hr a1]at a5
 obtain⟨fr,b1,b2,b3⟩:=a5
 exact⟨.returned r,w',fr,⟨rfl,a3.os,a3.output,a3.tape,λb hb=>a3.keep b hb (hno b)⟩,b1,b2,b3⟩
def post_sl{P:Program}{f:Func}{s:ChangeSpec}{apart fresh handsOn:Bool}{W W':World}{args:Array Value}{v:Value}{ds gs:List (DataW H)}{before pa:List MemPlace}
  (hW:DataW.Whole enc P f.params.toList s.vars apart W args.toList ds gs before)
  (hres:∀(b:Nat) (sp:Nat->Bool) (hd:Bool),DataW.TrodAll enc P W' b sp hd f.resultTypes.toList (v.resultList f.resultTypes.size) (s.fn H (ds++gs)).results [])
  (hargs:DataW.TrodAll enc P W' 0 (λb=>decide (b<W.heap.size)) true f.params.toList args.toList (s.fn H (ds++gs)).args pa)
  (hvars:∀sp:Nat->Bool,DataW.TrodVars enc P W' sp s.vars (s.fn H (ds++gs)).vars [])
  (h1:W'.os=W.os) (h2:W'.output=W.output) (h3:∀b,b<W.heap.size->W'.heap[b]?=W.heap[b]?) :
  s.post enc P f apart fresh handsOn false W args v W':=
 ⟨ds,gs,before,[],pa,[],hW,hres _ _ _,hargs,hvars _,kept_of h1 h2 h3 _,λh=>by cases h⟩
end
end
section
variable [Val]
def fX{C:Cfg}{N:FuncId->Option Nat}{Sg:FuncId->Option Sig}(hm:C.P.follows .mixedOrders=true){g:FuncId}{sg:Sig}(hs:Sg g=some sg){ls rs:List Lf}{H H':List HObj}(hc:let _:Kno:=KnoC C N;aK C Sg g ls H rs H'){xs ys:List S0}(h1:bU xs sg.ps=true)(h2:bW xs=ls)(h3:bU ys sg.rs=true)(h4:bW ys=rs) :
  cK C g (ah xs) H (fk (ah ys)) H':=by
 let _:Kno:=KnoC C N
 obtain⟨sg',xs',ys',c1,c2,c3,c4⟩:=hc
 rw[hs]at c1
 cases c1
 obtain⟨w1,_⟩:=cD c2.1 h1 (c2.2.1.trans h2.symm)
 obtain⟨w2,_⟩:=cD c3.1 h3 (c3.2.1.trans h4.symm)
 rw[w1,w2]at c4
 exact jv hm c4
end
end Sx
end Go.Am
set_option maxRecDepth 100000
set_option maxHeartbeats 8000000
namespace Go.Am
open Sx Go.Proofs Go.Shelf Go.Lib Go.Sort
namespace St
abbrev C5:=Fin 1024×Fin 3×Fin 4
def crF(a:C5):Crs:=(Int.ofNat a.1.val,Int.ofNat a.2.1.val,Int.ofNat a.2.2.val)
def enc5(a:C5):List Value:=encC (crF a)
def k5(a:C5):Int:=4*Int.ofNat a.1.val+Int.ofNat a.2.1.val
def cf5(a b:C5):Int:=k5 a - k5 b
def lt5(a b:C5):Go.Proofs.ltOf cf5 a b=decide (k5 a<k5 b):=by
 unfold Go.Proofs.ltOf cf5
 rw[decide_eq_decide]
 omega
def swo5:Go.Sort.SWO (Go.Proofs.ltOf cf5) where
 irrefl x:=by rw[lt5,decide_eq_false];omega
 trans x y z h1 h2:=by
  rw[lt5,decide_eq_true_eq]at *
  omega
 ntrans x y z h1 h2:=by
  rw[lt5,decide_eq_false_iff_not]at *
  omega
def pat1_c{a b c a' b' c':Int}(h:0<=a/\a<=1023/\0<=b/\b<=2/\0<=a'/\a'<=1023/\0<=b'/\b'<=2):Cc 57 [.i a,.i b,.i c,.i a',.i b',.i c'] [.i (4*a+b - (4*a'+b'))]:=by
 refine q57 rfl ?_;unfold f57;simp only[qxh]
 repeat (first|simp(disch:=omega)only[↓qXX]|rw[p_sub (by omega) (by omega)]|rw[p_mul (by omega) (by omega)]|rw[p_add (by omega) (by omega)]|rw[p_conv (by omega) (by omega)])
 simp only[qay,Lf.i.injEq,and_true]
 omega
def cmp5(a b:C5):cK cc 57 [.agg ⟨enc5 a⟩,.agg ⟨enc5 b⟩] [] (.int .i64 (cf5 a b)) []:=by
 have ha:=a.1.isLt
 have hb:=b.1.isLt
 have ha2:=a.2.1.isLt
 have hb2:=b.2.1.isLt
 have hc:=pat1_c (a:=Int.ofNat a.1.val) (b:=Int.ofNat a.2.1.val) (c:=Int.ofNat a.2.2.val) (a':=Int.ofNat b.1.val) (b':=Int.ofNat b.2.1.val) (c':=Int.ofNat b.2.2.val) (by simp only[qaT];omega) []
 exact fX (N:=neuN) mixed (Sg:=ab) (sg:=⟨[.agg [.i .i64,.i .u8,.i .u8],.agg [.i .i64,.i .u8,.i .u8]],[li]⟩) rfl hc (xs:=[.agg [.i .i64 (Int.ofNat a.1.val),.i .u8 (Int.ofNat a.2.1.val),.i .u8 (Int.ofNat a.2.2.val)],.agg [.i .i64 (Int.ofNat b.1.val),.i .u8 (Int.ofNat b.2.1.val),.i .u8 (Int.ofNat b.2.2.val)]]) rfl rfl (ys:=[.leaf (.i .i64 (cf5 a b))]) rfl rfl
abbrev wA:Value:=.func (.func 57) ⟨[]⟩ ⟨[]⟩
def sort5_c{H:HL}{id cx:Nat}{J:List C5}(hid:H[id]?=some (.o (.cells ((J.map crF).flatMap encC) 3 true)))(h0:0<J.length)(hl:J.length<=100000) :
  ∃D:List C5,D.Perm J/\(D.Pairwise λx y=>¬k5 y<k5 x)/\aK cc ab 56 [.v (.slice (some ⟨id,0,tag 3⟩) J.length cx),.v wA] (absH aa H) [] (absH aa (putE H id 3 encC (D.map crF))):=by
 have e1:∀L:List C5,(L.map crF).flatMap encC=L.flatMap enc5:=λL=>by rw[List.flatMap_map];rfl
 refine⟨srt cf5 J,wc swo5 J,?_,?_⟩
 ·refine(vZ swo5 J).imp λ{x y} h=>?_
  rw[lt5,decide_eq_false_iff_not]at h
  exact h
 ·have hid2:(absH aa H)[id]?=some (.cells (J.flatMap enc5) 3 true):=by
   rw[←e1]
   unfold absH
   rw[qau,hid]
   rfl
  have hok:=nz (C:=cc) gw layC (enc:=enc5) (e:=3) (λw=>by kernel_rfl) (λw=>by kernel_rfl) (λ_=>rfl) (λx v hv=>by
   simp only[enc5,encC,qal,qbm,or_false]at hv
   rcases hv with rfl|rfl|rfl<;>rfl) swo5 (g:=57) (λargs w=>by kernel_rfl) cmp5 (cx:=cx) hid2 rfl h0 (by omega)
  have hset:(absH aa H).set id (.cells ((srt cf5 J).flatMap enc5) 3 true)=absH aa (putE H id 3 encC ((srt cf5 J).map crF)):=by
   unfold putE
   rw[e1,rD]
   rfl
  rw[hset]at hok
  exact⟨⟨[lv,lv],[]⟩,[.leaf (.v (.slice (some ⟨id,0,tag 3⟩) J.length cx)),.leaf (.v wA)],[],rfl,⟨rfl,rfl,λy hy=>by
   simp only[qal,qbm,or_false]at hy
   rcases hy with rfl|rfl
   ·exact am (show ba (.slice (some ⟨id,0,tag 3⟩) J.length cx)=true by simp[ba,noLoc,bk,bB,br,aV,aG,tag])
   ·exact am rfl⟩,⟨rfl,rfl,λy hy=>by cases hy⟩,⟨0,.inr ⟨.inl (by kernel_rfl),hok⟩⟩⟩
end St
end Go.Am
set_option maxRecDepth 100000
set_option maxHeartbeats 8000000
namespace Go.Am
open Sx Go.Proofs Tw
def has_c{h:HL}{x:Value}{l:List K3}(hl:LsH h x 3 cc3 l)(hn:l.length<=100000)(a:K3){p q r:Int}(ha:p=a.1/\q=a.2.1/\r=Int.ofNat a.2.2) :
  aK cc ab 13 [.v x,.i p,.i q,.i r] (absH aa h) [.b (decide (a∈l))] (absH aa h):=by
 obtain⟨rfl,rfl,rfl⟩:=ha
 exact xK x13 (glsV hl.good (glsI (glsI (glsI gls0)))) (by
  unfold f13;simp only[qxh]
  simp(disch:=omega)only[↓qXX]
  refine dP l.length (λj=>∀i,i<j->l[i]?≠some a) (j0:=0) rfl (qaU _) (λi hi=>by omega) ?_
  intro j hj he self hself
  simp(disch:=omega)only[↓qXX]
  refine be hl ?_
  by_cases hlt:j<l.length
  ·rw[aP hlt]
   simp(disch:=omega)only[↓qXX]
   obtain⟨b,hb⟩:=aU hlt
   refine aS hl rfl hb ?_
   unfold cc3
   simp(disch:=omega)only[↓qXX]
   rw[eqs3]
   by_cases hba:b=a
   ·subst hba
    rw[decide_eq_true rfl]
    simp(disch:=omega)only[↓qXX]
    exact⟨by rw[decide_eq_true (qab hb)],by trivial⟩
   ·rw[decide_eq_false hba]
    simp(disch:=omega)only[↓qXX]
    rw[aR (by omega)]
    refine hself hlt λi hi=>?_
    by_cases hij:i=j
    ·subst hij
     rw[hb]
     exact λe=>hba (qae e)
    ·exact he i (by omega)
  ·rw[bb (by omega)]
   simp(disch:=omega)only[↓qXX]
   refine⟨?_,by trivial⟩
   rw[decide_eq_false]
   intro hm
   obtain⟨i,hi⟩:=qaW hm
   exact he i (by have:=aJ hi;omega) hi)
def sqC(c:Sq):K3:=(c.1,c.2,0)
def rm{a b:Sq}(h:sqC a=sqC b):a=b:=by
 unfold sqC at h
 simp only[qb9,and_true]at h
 exact qcL h.1 h.2
def nA{a:Sq}{l:List Sq}:sqC a∈l.map sqC↔a∈l:=by
 rw[qaK]
 constructor
 ·rintro⟨b,hb,e⟩
  exact rm e▸hb
 ·exact λh=>⟨a,h,rfl⟩
structure Grown(b:Int)(L:List Sq):Prop where
 ne:0<L.length
 le:L.length<=12
 nd:L.Nodup
 con:Con L
 bd:∀c∈L,-b<=c.1/\c.1<=b/\-b<=c.2/\c.2<=b
def Grown.mono{b b':Int}{L:List Sq}(h:Grown b L)(hb:b<=b'):Grown b' L:=⟨h.ne,h.le,h.nd,h.con,λc hc=>by have:=h.bd c hc;omega⟩
def Grown.push{b:Int}{L:List Sq}(h:Grown b L){d:Sq}{k:Nat}(hd:d∈L)(hk:k<4)(hn:bes d k∉L)(hl:L.length<12):Grown (b+1) (L++[bes d k]):=by
 refine⟨by simp,by simp;omega,?_,?_,?_⟩
 ·rw[qb5]
  refine⟨h.nd,by simp,?_⟩
  intro a ha c hc
  simp only[qap]at hc
  subst hc
  exact λe=>hn (e▸ha)
 ·intro i c hi h0
  by_cases hlt:i<L.length
  ·rw[qag hlt]at hi
   obtain⟨j,d',k',a1,a2,a3,a4⟩:=h.con i c hi h0
   exact⟨j,d',k',a1,by rw[qag (aJ a2)];exact a2,a3,a4⟩
  ·have hi':=aJ hi
   simp only[qaC,qaE,qbH]at hi'
   obtain rfl:i=L.length:=by omega
   rw[qao (qah _),qbz]at hi
   simp only[qaO,qar]at hi
   obtain⟨j,hj⟩:=qaW hd
   exact⟨j,d,k,aJ hj,by rw[qag (aJ hj)];exact hj,hk,hi⟩
 ·intro c hc
  rcases qas.1 hc with hc|hc
  ·have:=h.bd c hc;omega
  ·simp only[qap]at hc
   subst hc
   have:=h.bd d hd
   have hk':k=0∨k=1∨k=2∨k=3:=by omega
   rcases hk' with rfl|rfl|rfl|rfl<;>simp only[bes]<;>omega
def OwnL.lenB{α:Type}{n0 e:Nat}{enc:α->List Value}{l:List α}{h:HL}{v:Value}(ho:OwnL n0 h v e enc l):lenS v=some (.ofNat l.length):=by
 rcases ho with⟨rfl,rfl⟩|⟨id,cx,rfl,_⟩<;>rfl
def uy{n:Nat}(h:n<=1000000):bC n 24=true:=by
 unfold bC
 rw[qaX (by omega),qaX (by omega)];rfl
def pX(p:Int×Int):List Value:=[.int .u8 p.1,.int .u8 p.2]
def rZ(p:Int×Int):(pX p).length=2:=rfl
def r_idx{h:HL}{v:Value}{l:List (Int×Int)}{i o:Nat}{a:Int×Int}{n:Int}{cs:List Value}{K:List Value->Prop}(hs:LsH h v 2 pX l)(hn:n=Int.ofNat i)(hi:l[i]?=some a)(ho:o<2)(hcs:cs=((pX a).drop o).take 1)(hk:K cs) :
  P1.opt (idS 2 v n) (@hid _ ⟨λx=>P1.opt (idP 2 1 x (Int.ofNat o)) (@hid _ ⟨λy=>P1.chk y (@hid _ ⟨P1.peek (.lg cc 1 y) h (@hid _ ⟨K⟩)⟩)⟩)⟩):=by
 subst hn hcs
 obtain⟨p,h1,h2⟩:=hs.at hi
 obtain⟨q,h3,h4⟩:=h2.fd o 1 (by rw[rZ];omega)
 refine af h1 (af (x:=q) ?_ (aD h4.good (eP (h4.lg ?_) hk)))
 ·obtain⟨id,o',vs,e,rw',rfl,_,_⟩:=h2
  have ho':o=0∨o=1:=by omega
  rcases ho' with rfl|rfl<;>· rw[←h3];rfl
 ·rw[qaJ,qbK,rZ];omega
def um{k:IntKind}{a b:Nat}{K:Int->Prop}(hb:0<b):P1.ari .rem k (Int.ofNat a) (Int.ofNat b) (@hid _ ⟨K⟩)=K (Int.ofNat (a%b)):=by
 rw[p_rem_nn (show(0:Int)<=Int.ofNat a from qax a) (by show(0:Int)<(b:Int);omega)]
 rfl
def OfOk(H:HL)(rs:List Lf)(h':HL):Prop:=∃v L,rs=[.v v]/\Grown 43 L/\OwnL H.length h' v 3 cc3 (L.map sqC)/\Low H.length H h'/\H.length<=h'.length
def of_c{H:HL}{x:Value}{G:List (Int×Int)}(hG:LsH H x 2 pX G)(hb:∀a∈G,(0<=a.1/\a.1<=255)/\0<=a.2/\a.2<=255){X Y:Int}(hX:0<=X/\X<=255)(hY:0<=Y/\Y<=255) :
  ∃rs h',aK cc ab 5 [.i X,.i Y,.v x] (absH aa H) rs (absH aa h')/\OfOk H rs h':=by
 exact x5 (K:=OfOk H) (glsI (glsI (glsV hG.good gls0))) (by
  unfold f5;simp only[qxh]
  simp(disch:=omega)only[↓qXX]
  have hx7:0<=X%7/\X%7<7:=by omega
  have hy7:0<=Y%7/\Y%7<7:=by omega
  generalize X%7=x7 at *
  generalize Y%7=y7 at *
  refine cB (σ:=Value×HL×List Sq) G.length (λj s=>[.v s.1,.i (Int.ofNat j)]) (λ_ s=>s.2.1) (λj s=>OwnL H.length s.2.1 s.1 3 cc3 (s.2.2.map sqC)/\Grown (3+Int.ofNat (min j 40)) s.2.2/\Low H.length H s.2.1/\H.length<=s.2.1.length) (j0:=0)
   (s0:=(.slice (some ⟨H.length,0,some 13⟩) 1 2,H++[.o (.cells [.int .i64 (x7 - 3),.int .i64 (y7 - 3),.int .u8 0] 3 true)],[(x7 - 3,y7 - 3)])) rfl rfl (qaU _) ⟨.inr ⟨H.length,2,rfl,qah _,aQ,.inr rfl⟩,⟨by simp,by simp,by simp,λi c hi h0=>by
    have:=aJ hi
    simp only[qaE,qbH]at this
    omega,λc hc=>by
    simp only[qap]at hc
    subst hc
    simp only[qaU,qa7]
    show -(3+((0:Nat):Int))<=x7 - 3/\x7 - 3<=3+((0:Nat):Int)/\-(3+((0:Nat):Int))<=y7 - 3/\y7 - 3<=3+((0:Nat):Int)
    omega⟩,(Low.refl H).app _,by simp⟩ ?_
  rintro j ⟨v,h,L⟩ hj ⟨ho,hg,hlow,hlen⟩ self hself
  simp only at ho hg hlow hlen hself
  have hfin:OfOk H [.v v] h:=⟨v,L,rfl,hg.mono (by
   have:=Nat.min_le_right j 40
   show 3+((min j 40:Nat):Int)<=43
   omega),ho,hlow,hlen⟩
  simp(disch:=omega)only[↓qXX]
  refine be (hG.low hlow) ?_
  by_cases hlt:j<G.length
  case neg=>
   rw[bb (by omega)]
   simp(disch:=omega)only[↓qXX]
   exact hfin
  rw[aP hlt]
  simp(disch:=omega)only[↓qXX]
  refine af ho.lenB ?_
  rw[qaF]
  by_cases h12:L.length<12
  case neg=>
   rw[p_lss_f (by show(12:Int)<=(L.length:Int);omega)]
   simp(disch:=omega)only[↓qXX]
   exact hfin
  rw[p_lss_t (by show(L.length:Int)<12;omega)]
  simp(disch:=omega)only[↓qXX]
  by_cases h40:j<40
  case neg=>
   rw[p_lss_f (by show(40:Int)<=(j:Int);omega)]
   simp(disch:=omega)only[↓qXX]
   exact hfin
  rw[p_lss_t (by show(j:Int)<40;omega)]
  simp(disch:=omega)only[↓qXX]
  obtain⟨a,ha⟩:=aU hlt
  obtain⟨⟨a1,a2⟩,a3,a4⟩:=hb a (qab ha)
  refine r_idx (o:=0) (hG.low hlow) rfl ha (by omega) rfl ?_
  simp only[pX,qa6,qbf,qbL]
  simp(disch:=omega)only[↓qXX]
  refine af ho.lenB ?_
  rw[qaF]
  obtain⟨u,hu⟩ : ∃u:Nat,a.1=Int.ofNat u:=⟨a.1.toNat,by show a.1=((a.1.toNat:Nat):Int);omega⟩
  rw[hu,um hg.ne]
  have hlt2:u%L.length<L.length:=qbY _ hg.ne
  obtain⟨c,hc⟩:=aU hlt2
  refine aS (ho.ls bK) rfl (by rw[qau,hc];rfl) ?_
  simp only[sqC,cc3]
  simp(disch:=omega)only[↓qXX]
  refine r_idx (o:=1) (hG.low hlow) rfl ha (by omega) rfl ?_
  simp only[pX,qbO,qa6,qbf,qbL]
  simp(disch:=omega)only[↓qXX]
  have hcm:=qab hc
  have hcb:=hg.bd c hcm
  have hmn:Int.ofNat (min j 40)=(j:Int):=by
   rw[qa7 (by omega)];rfl
  have hm1:Int.ofNat (min (j+1) 40)=(j:Int)+1:=by
   rw[qa7 (by omega)];rfl
  rw[hmn]at hg hcb
  have body:∀k,k<4->∀v',(bes c k∉L->∀h',OwnL H.length h' v' 3 cc3 ((L++[bes c k]).map sqC)->Low H.length H h'->H.length<=h'.length->self [.v v',.i (Int.ofNat j+1)] h')/\(bes c k∈L->self [.v v,.i (Int.ofNat j+1)] h):=λk hk v'=>⟨λhn h' b1 b2 b3=>hself (v',h',L++[bes c k]) hlt ⟨b1,by
   rw[hm1]
   have:=hg.push hcm hk hn h12
   exact this.mono (by omega),b2,b3⟩,λ_=>hself (v,h,L) hlt ⟨ho,by rw[hm1];exact hg.mono (by omega),hlow,hlen⟩⟩
  refine p_eqlT λt ht=>?_
  refine vB (λl' h'=>∃k,k<4/\l'=[.i (bes c k).1,.i (bes c k).2,.i 0]/\h'=h) ?_ ?_
  ·rintro _ _ ⟨k,hk,rfl,rfl⟩
   simp(disch:=omega)only[↓qXX]
   refine av (has_c (ho.ls bK) (by rw[qaF];have:=hg.le;omega) (sqC (bes c k)) ⟨rfl,rfl,rfl⟩) ?_
   simp(disch:=omega)only[↓qXX]
   by_cases hm:bes c k∈L
   ·rw[decide_eq_true (nA.2 hm)]
    simp(disch:=omega)only[↓qXX,qaG]
    rw[aR (by omega)]
    exact(body k hk v).2 hm
   ·rw[decide_eq_false (λe=>hm (nA.1 e))]
    simp(disch:=omega)only[↓qXX,qbc]
    refine ho.ap1 (a:=sqC (bes c k)) bK hlen rfl rfl rfl (uy (by rw[qaF];omega)) λv' h' b1 b2 b3 b4 b5=>?_
    simp(disch:=omega)only[↓qXX]
    refine aD b2 ?_
    simp(disch:=omega)only[↓qXX]
    rw[aR (by omega)]
    refine(body k hk v').1 hm h' (by rw[qbI];exact b1) (λi o hi hoo=>b3 i o (hlow i o hi hoo) λe=>?_) (by omega)
    have:=ho.blk e
    omega
  ·intro jn hjn
   have e4:a.2%4=0∨a.2%4=1∨a.2%4=2∨a.2%4=3:=by omega
   have k0:=hjn _ _ ⟨0,by omega,rfl,rfl⟩
   have k1:=hjn _ _ ⟨1,by omega,rfl,rfl⟩
   have k2:=hjn _ _ ⟨2,by omega,rfl,rfl⟩
   have k3:=hjn _ _ ⟨3,by omega,rfl,rfl⟩
   simp only[bes]at k0 k1 k2 k3
   rcases e4 with e|e|e|e<;>rw[e]at ht ⊢
   ·obtain rfl:t=true:=ht
    simp(disch:=omega)only[↓qXX]
    exact k0
   ·obtain rfl:t=false:=ht
    simp(disch:=omega)only[↓qXX]
    exact k1
   ·obtain rfl:t=false:=ht
    simp(disch:=omega)only[↓qXX]
    exact k2
   ·obtain rfl:t=false:=ht
    simp(disch:=omega)only[↓qXX]
    exact k3)
end Go.Am
set_option maxRecDepth 100000
namespace Go.Am
open Sx Go.Proofs
section
variable {α:Type} {key:α->Int}
def SP(a b:Nat)(l l':List α):Prop:=l'.Perm l/\∀i,(i<a∨b<=i)->l'[i]?=l[i]?
def SP.refl(a b:Nat)(l:List α):SP a b l l:=⟨List.Perm.refl _,λ_ _=>rfl⟩
def SP.len{a b:Nat}{l l':List α}(h:SP a b l l'):l'.length=l.length:=h.1.length_eq
def SP.trans{a b:Nat}{l l' l'':List α}(h:SP a b l l')(k:SP a b l' l''):SP a b l l'':=⟨k.1.trans h.1,λi hi=>(k.2 i hi).trans (h.2 i hi)⟩
def SP.mono{a b a' b':Nat}{l l':List α}(h:SP a b l l')(ha:a'<=a)(hb:b<=b'):SP a' b' l l':=⟨h.1,λi hi=>h.2 i (by omega)⟩
def get_eq{l:List α}{i:Nat}{x:α}(h:l[i]?=some x):∃hi:i<l.length,l[i]=x:=qaI.1 h
def SP.swap{a b i j:Nat}{l:List α}{x y:α}(hx:l[i]?=some x)(hy:l[j]?=some y)(hi:a<=i/\i<b)(hj:a<=j/\j<b):SP a b l ((l.set i y).set j x):=by
 obtain⟨h1,e1⟩:=get_eq hx
 obtain⟨h2,e2⟩:=get_eq hy
 refine⟨?_,λk hk=>?_⟩
 ·have:=@List.set_set_perm α l i j h1 h2
  rw[e1,e2]at this
  exact this
 ·rw[qaz (by omega),qaz (by omega)]
def wg{l:List α}{i j k:Nat}{x y:α}(hx:l[i]?=some x)(hy:l[j]?=some y):((l.set i y).set j x)[k]?=if k=j then some x else if k=i then some y else l[k]?:=by
 have h1:=aJ hx
 have h2:=aJ hy
 by_cases hj:k=j
 ·subst hj
  rw[if_pos rfl,qaH (by rw[qbv];exact h2)]
 ·rw[if_neg hj,qaz (qcp hj)]
  by_cases hi:k=i
  ·subst hi
   rw[if_pos rfl,qaH h1]
  ·rw[if_neg hi,qaz (qcp hi)]
def seg_eq{a b:Nat}{l:List α}(hab:a<=b):l=l.take a++((l.drop a).take (b - a)++l.drop b):=by
 have h1:=qby a l
 have h2:=qby (b - a) (l.drop a)
 rw[qbR,show a+(b - a)=b by omega]at h2
 rw[h2,h1]
def SP.mem{a b:Nat}{l l':List α}(h:SP a b l l')(hab:a<=b)(hb:b<=l.length){i:Nat}{x:α}(hi:a<=i/\i<b)(hx:l'[i]?=some x):∃j,a<=j/\j<b/\l[j]?=some x:=by
 have e1:l'.take a=l.take a:=by
  apply qaZ
  intro k
  rw[qaR,qaR]
  split
  ·exact h.2 k (.inl (by omega))
  ·rfl
 have e2:l'.drop b=l.drop b:=by
  apply qaZ
  intro k
  rw[qaS,qaS]
  exact h.2 _ (.inr (by omega))
 have hp:=h.1
 rw[seg_eq (l:=l) hab,seg_eq (l:=l') hab,e1,e2,List.perm_append_left_iff,List.perm_append_right_iff]at hp
 have hm:x∈(l'.drop a).take (b - a):=by
  refine qab (i:=i - a) ?_
  rw[qaR,if_pos (by omega),qaS,show a+(i - a)=i by omega]
  exact hx
 obtain⟨k,hk⟩:=qaW (hp.mem_iff.1 hm)
 rw[qaR]at hk
 split at hk
 ·rw[qaS]at hk
  exact⟨a+k,by omega,by omega,hk⟩
 ·cases hk
def SS(key:α->Int)(a b:Nat)(l:List α):Prop:=∀i j x y,a<=i->i<j->j<b->l[i]?=some x->l[j]?=some y->key x<=key y
def SS.one{a b:Nat}{l:List α}(h:b<=a+1):SS key a b l:=λi j x y h1 h2 h3=>by omega
def BL(key:α->Int)(a b c d:Nat)(l:List α):Prop:=∀i j x y,a<=i->i<b->c<=j->j<d->l[i]?=some x->l[j]?=some y->key x<=key y
def SS.join{a m b:Nat}{l:List α}(h1:SS key a m l)(h2:SS key m b l)(h:BL key a m m b l):SS key a b l:=by
 intro i j x y hi hij hj hx hy
 by_cases h3:j<m
 ·exact h1 i j x y hi hij h3 hx hy
 ·by_cases h4:m<=i
  ·exact h2 i j x y h4 hij hj hx hy
  ·exact h i j x y hi (by omega) (by omega) hj hx hy
def SS.keep{a b c d:Nat}{l l':List α}(h:SS key a b l)(hp:SP c d l l')(hd:b<=c∨d<=a):SS key a b l':=by
 intro i j x y hi hij hj hx hy
 rw[hp.2 i (by omega)]at hx
 rw[hp.2 j (by omega)]at hy
 exact h i j x y hi hij hj hx hy
def BL.keep{a b c d p q:Nat}{l l':List α}(h:BL key a b c d l)(hp:SP p q l l')(hpq:p<=q/\q<=l.length)(h1:(a<=p/\q<=b)∨b<=p∨q<=a)(h2:(c<=p/\q<=d)∨d<=p∨q<=c):BL key a b c d l':=by
 intro i j x y hi hib hj hjd hx hy
 have fx:∃i',a<=i'/\i'<b/\l[i']?=some x:=by
  by_cases hin:p<=i/\i<q
  ·obtain⟨k,k1,k2,k3⟩:=hp.mem hpq.1 hpq.2 hin hx
   exact⟨k,by omega,by omega,k3⟩
  ·rw[hp.2 i (by omega)]at hx
   exact⟨i,hi,hib,hx⟩
 have fy:∃j',c<=j'/\j'<d/\l[j']?=some y:=by
  by_cases hin:p<=j/\j<q
  ·obtain⟨k,k1,k2,k3⟩:=hp.mem hpq.1 hpq.2 hin hy
   exact⟨k,by omega,by omega,k3⟩
  ·rw[hp.2 j (by omega)]at hy
   exact⟨j,hj,hjd,hy⟩
 obtain⟨i',i1,i2,i3⟩:=fx
 obtain⟨j',j1,j2,j3⟩:=fy
 exact h i' j' x y i1 i2 j1 j2 i3 j3
structure InsI(key:α->Int)(a i j:Nat)(l:List α):Prop where
 srt:∀p q x y,a<=p->p<q->q<=i->p≠j->q≠j->l[p]?=some x->l[q]?=some y->key x<=key y
 low:∀q x y,j<q->q<=i->l[j]?=some x->l[q]?=some y->key x<=key y
def InsI.start{a i:Nat}{l:List α}(h:SS key a i l):InsI key a i i l:=⟨λp q x y h1 h2 h3 h4 h5=>h p q x y h1 h2 (by omega),λq x y h1 h2=>by omega⟩
def InsI.done{a i j:Nat}{l:List α}(h:InsI key a i j l)(hj:a<=j/\j<=i)(hl:j=a∨∃x y,l[j]?=some x/\l[j - 1]?=some y/\key y<=key x):SS key a (i+1) l:=by
 intro p q x y hp hpq hq hx hy
 by_cases h1:p=j
 ·subst h1
  exact h.low q x y hpq (by omega) hx hy
 ·by_cases h2:q=j
  ·subst h2
   rcases hl with hl|⟨u,v,hu,hv,huv⟩
   ·omega
   ·rw[hy]at hu
    cases hu
    by_cases h3:p=q - 1
    ·subst h3
     rw[hx]at hv
     cases hv
     exact huv
    ·have:=h.srt p (q - 1) x v hp (by omega) (by omega) h1 (by omega) hx hv
     omega
  ·exact h.srt p q x y hp hpq (by omega) h1 h2 hx hy
def InsI.step{a i j:Nat}{l:List α}{x y:α}(h:InsI key a i j l)(hj:a<j/\j<=i)(hx:l[j]?=some x)(hy:l[j - 1]?=some y)(hlt:key x<key y):InsI key a i (j - 1) ((l.set j y).set (j - 1) x):=by
 have g:∀k,((l.set j y).set (j - 1) x)[k]?=if k=j - 1 then some x else if k=j then some y else l[k]?:=λk=>wg hx hy
 refine⟨λp q u v hp hpq hq h1 h2 hu hv=>?_,λq u v hq hqi hu hv=>?_⟩
 ·rw[g,if_neg h1]at hu
  rw[g,if_neg h2]at hv
  by_cases hpj:p=j
  ·rw[if_pos hpj]at hu
   cases hu
   rw[if_neg (by omega)]at hv
   exact h.srt (j - 1) q y v (by omega) (by omega) hq (by omega) (by omega) hy hv
  ·rw[if_neg hpj]at hu
   by_cases hqj:q=j
   ·rw[if_pos hqj]at hv
    cases hv
    exact h.srt p (j - 1) u y hp (by omega) (by omega) (by omega) (by omega) hu hy
   ·rw[if_neg hqj]at hv
    exact h.srt p q u v hp hpq hq hpj hqj hu hv
 ·rw[g,if_pos rfl]at hu
  cases hu
  rw[g,if_neg (by omega)]at hv
  by_cases hqj:q=j
  ·rw[if_pos hqj]at hv
   cases hv
   omega
  ·rw[if_neg hqj]at hv
   exact h.low q x v (by omega) hqi hx hv
def HpX(key:α->Int)(lo hi f r:Nat)(l:List α):Prop:=∀k c x y,lo<=k->k≠r->(c=2*k+1∨c=2*k+2)->c<hi->l[f+k]?=some x->l[f+c]?=some y->key y<=key x
def Hp1(key:α->Int)(lo hi f:Nat)(l:List α):Prop:=∀k c x y,lo<=k->(c=2*k+1∨c=2*k+2)->c<hi->l[f+k]?=some x->l[f+c]?=some y->key y<=key x
def HpP(key:α->Int)(lo hi f r:Nat)(l:List α):Prop:=∀k c x y,lo<=k->(r=2*k+1∨r=2*k+2)->(c=2*r+1∨c=2*r+2)->c<hi->l[f+k]?=some x->l[f+c]?=some y->key y<=key x
def Hp1.max{hi f:Nat}{l:List α}(h:Hp1 key 0 hi f l)(hl:f+hi<=l.length){x:α}(hx:l[f]?=some x):∀(i:Nat) y,i<hi->l[f+i]?=some y->key y<=key x:=by
 intro i
 induction i using Nat.strongRecOn with
 |ind i ih=>
  intro y hi' hy
  by_cases h0:i=0
  ·subst h0
   rw[qcf,hx]at hy
   cases hy
   exact Int.le_refl _
  ·obtain⟨z,hz⟩:=aU (l:=l) (i:=f+(i - 1) / 2) (by omega)
   have h1:=ih ((i - 1) / 2) (by omega) z (by omega) hz
   have h2:=h ((i - 1) / 2) i z y (qaU _) (by omega) hi' hz hy
   omega
def HpX.done{lo hi f r:Nat}{l:List α}(h:HpX key lo hi f r l)(hr:∀c x y,(c=2*r+1∨c=2*r+2)->c<hi->l[f+r]?=some x->l[f+c]?=some y->key y<=key x):Hp1 key lo hi f l:=by
 intro k c x y hk hc hch hx hy
 by_cases e:k=r
 ·subst e
  exact hr c x y hc hch hx hy
 ·exact h k c x y hk e hc hch hx hy
def HpX.step{lo hi f r c:Nat}{l:List α}{x y:α}(h:HpX key lo hi f r l)(hp:HpP key lo hi f r l)(hr:lo<=r)(hc:c=2*r+1∨c=2*r+2)(hch:c<hi)(hx:l[f+r]?=some x)(hy:l[f+c]?=some y)(hxy:key x<key y)
  (hmax:∀d z,(d=2*r+1∨d=2*r+2)->d<hi->l[f+d]?=some z->key z<=key y):HpX key lo hi f c ((l.set (f+r) y).set (f+c) x)/\HpP key lo hi f c ((l.set (f+r) y).set (f+c) x):=by
 have g:∀k,((l.set (f+r) y).set (f+c) x)[f+k]?=if k=c then some x else if k=r then some y else l[f+k]?:=λk=>by
  rw[wg hx hy]
  simp only[Nat.add_left_cancel_iff]
 refine⟨λk d u v hk hkc hd hdh hu hv=>?_,λk d u v hk hkc hd hdh hu hv=>?_⟩
 ·rw[g,if_neg hkc]at hu
  rw[g]at hv
  by_cases hkr:k=r
  ·rw[if_pos hkr]at hu
   cases hu
   by_cases hdc:d=c
   ·rw[if_pos hdc]at hv
    cases hv
    omega
   ·rw[if_neg hdc,if_neg (by omega)]at hv
    exact hmax d v (by omega) hdh hv
  ·rw[if_neg hkr]at hu
   by_cases hdc:d=c
   ·omega
   ·rw[if_neg hdc]at hv
    by_cases hdr:d=r
    ·rw[if_pos hdr]at hv
     cases hv
     exact hp k c u y hk (by omega) hc hch hu hy
    ·rw[if_neg hdr]at hv
     exact h k d u v hk hkr hd hdh hu hv
 ·rw[g]at hu hv
  have hkr:k=r:=by omega
  rw[if_neg (by omega),if_pos hkr]at hu
  cases hu
  rw[if_neg (by omega),if_neg (by omega)]at hv
  exact h c d y v (by omega) (by omega) hd hdh hy hv
end
end Go.Am
set_option maxRecDepth 100000
set_option maxHeartbeats 8000000
namespace Go.Am
open Sx Go.Proofs Tw
def OwnL.set{α:Type}{n0 e:Nat}{enc:α->List Value}{l:List α}{h:HL}{v:Value}(henc:∀a,(enc a).length=e)(ho:OwnL n0 h v e enc l){i:Nat}{a:α}{n:Int}{new:List Value}{K:List Value->HL->Prop}(hn:n=Int.ofNat i)(hi:i<l.length)(hnew:new=enc a)
  (hk:∀h',OwnL n0 h' v e enc (l.set i a)->(∀(j:Nat) o,h[j]?=some o->Sx.blk v≠some j->h'[j]?=some o)->h'.length=h.length->K [] h'):P1.opt (idS e v n) (@hid _ ⟨λx=>P1.heap (.st x new) h (@hid _ ⟨K⟩)⟩):=by
 rcases ho with⟨rfl,rfl⟩|⟨id,cx,rfl,h1,h2,h3⟩
 ·simp at hi
 ·have hp:putE h id e enc l=h:=by
   unfold putE
   exact gJ h2
  have:=r_set (C:=cc) (Sg:=ab) (T:=aa) (h:=h) (id:=id) (cx:=cx) (len:=l.length) (l:=l) (K:=K) henc (aJ h2) hn hi rfl hnew (hk (putE h id e enc (l.set i a)) (.inr ⟨id,cx,by rw[qbv],h1,dI (aJ h2),by rw[qbv];exact h3⟩) (λj o hj hb=>by
   unfold putE
   rw[qaz (λe=>hb (by subst e;rfl))]
   exact hj) (by simp[putE]))
  rw[hp]at this
  exact this
def quad(c:Sq):List K3:=[(c.1,c.2,0),(c.1,c.2,1),(c.1,c.2,2),(c.1,c.2,3)]
def qY{c:Sq}{a:K3}:a∈quad c↔(a.1,a.2.1)=c/\a.2.2<4:=by
 obtain⟨x,y,q⟩:=a
 obtain⟨u,v⟩:=c
 simp only[quad,qal,qbm,or_false,qb9]
 omega
def quad_take{c:Sq}{q:Nat}(hq:q<4):(quad c).take (q+1)=(quad c).take q++[(c.1,c.2,q)]:=by
 have:q=0∨q=1∨q=2∨q=3:=by omega
 rcases this with rfl|rfl|rfl|rfl<;>rfl
def nj(L:List Sq):(L.flatMap quad).length=4*L.length:=by
 induction L with
 |nil=>rfl
 |cons a L ih=>rw[qbE,qaC,ih,qaE];show 4+_=_;omega
def vQ{L:List Sq}(h:L.Nodup):(L.flatMap quad).Nodup:=by
 induction L with
 |nil=>simp
 |cons a L ih=>
  rw[qb7]at h
  rw[qbE,qb5]
  refine⟨by simp[quad],ih h.2,?_⟩
  intro x hx y hy e
  subst e
  obtain⟨b,hb,hxb⟩:=qbD.1 hy
  rw[qY]at hx hxb
  exact h.1 (hx.1.symm.trans hxb.1▸hb)
def nk{L:List Sq}{a:K3}:a∈L.flatMap quad↔(a.1,a.2.1)∈L/\a.2.2<4:=by
 rw[qbD]
 constructor
 ·rintro⟨c,hc,h⟩
  rw[qY]at h
  exact⟨h.1▸hc,h.2⟩
 ·rintro⟨h1,h2⟩
  exact⟨_,h1,qY.2 ⟨rfl,h2⟩⟩
def keyC(a:K3):Int:=(a.2.1*1000+a.1)*4+Int.ofNat a.2.2
def inC(a:K3):Prop:=(-100<=a.1/\a.1<=100)/\(-100<=a.2.1/\a.2.1<=100)/\a.2.2<4
def ltC3(a b:K3):Prop:=a.2.1<b.2.1∨(a.2.1=b.2.1/\(a.1<b.1∨(a.1=b.1/\a.2.2<b.2.2)))
instance (a b : K3) : Decidable (ltC3 a b) := by unfold ltC3; exact inferInstance
def key_lt{a b:K3}(ha:inC a)(hb:inC b):keyC a<keyC b↔ltC3 a b:=by
 obtain⟨⟨a1,a2⟩,⟨a3,a4⟩,a5⟩:=ha
 obtain⟨⟨b1,b2⟩,⟨b3,b4⟩,b5⟩:=hb
 unfold keyC ltC3
 show(a.2.1*1000+a.1)*4+((a.2.2:Nat):Int)<(b.2.1*1000+b.1)*4+((b.2.2:Nat):Int)↔_
 omega
def before_c{a b:K3}(ha:inC a)(hb:inC b){p q r p' q' r':Int}(h1:p=a.1/\q=a.2.1/\r=Int.ofNat a.2.2)(h2:p'=b.1/\q'=b.2.1/\r'=Int.ofNat b.2.2):Cc 14 [.i p,.i q,.i r,.i p',.i q',.i r'] [.b (decide (keyC a<keyC b))]:=by
 obtain⟨rfl,rfl,rfl⟩:=h1
 obtain⟨rfl,rfl,rfl⟩:=h2
 rw[show decide (keyC a<keyC b)=decide (ltC3 a b)from decide_eq_decide.2 (key_lt ha hb)]
 have hq:∀u w:Nat,(Int.ofNat u<Int.ofNat w)=(u<w):=λu w=>by
  show((u:Int)<(w:Int))=_
  simp
 refine q14 rfl ?_;unfold f14;simp only[qxh]
 unfold ltC3
 by_cases hy:a.2.1=b.2.1
 ·by_cases hx:a.1=b.1
  ·by_cases hz:a.2.2<b.2.2
   ·have hz':Int.ofNat a.2.2<Int.ofNat b.2.2:=by rw[hq];exact hz
    simp(disch:=omega)only[↓qXX]
    simp[hx,hy,hz]
   ·have hz':¬Int.ofNat a.2.2<Int.ofNat b.2.2:=by rw[hq];exact hz
    simp(disch:=omega)only[↓qXX]
    simp[hx,hy,hz]
  ·by_cases hz:a.1<b.1
   ·simp(disch:=omega)only[↓qXX]
    simp[hx,hy,hz]
   ·simp(disch:=omega)only[↓qXX]
    simp[hx,hy,hz]
 ·by_cases hz:a.2.1<b.2.1
  ·simp(disch:=omega)only[↓qXX]
   simp[hy,hz]
  ·simp(disch:=omega)only[↓qXX]
   simp[hy,hz]
structure SetOf(L:List Sq)(D:List K3):Prop where
 perm:D.Perm (L.flatMap quad)
 srt:∀(i j:Nat) x y,i<j->D[i]?=some x->D[j]?=some y->ltC3 x y
def SetOf.mem{L:List Sq}{D:List K3}(h:SetOf L D){a:K3}:a∈D↔(a.1,a.2.1)∈L/\a.2.2<4:=h.perm.mem_iff.trans nk
def SetOf.len{L:List Sq}{D:List K3}(h:SetOf L D):D.length=4*L.length:=h.perm.length_eq.trans (nj L)
def set_of{L:List Sq}{D:List K3}(hL:L.Nodup)(hb:∀c∈L,-100<=c.1/\c.1<=100/\-100<=c.2/\c.2<=100)(hp:D.Perm (L.flatMap quad))(hs:SS keyC 0 D.length D):SetOf L D:=by
 refine⟨hp,λi j x y hij hx hy=>?_⟩
 have hin:∀a∈D,inC a:=λa ha=>by
  have h:=nk.1 (hp.mem_iff.1 ha)
  have:=hb _ h.1
  exact⟨⟨this.1,this.2.1⟩,⟨this.2.2.1,this.2.2.2⟩,h.2⟩
 have hx':=hin x (qab hx)
 have hy':=hin y (qab hy)
 have hle:=hs i j x y (qaU _) hij (aJ hy) hx hy
 rw[←key_lt hx' hy']
 have hne:x≠y:=by
  have hnd:D.Nodup:=hp.nodup_iff.2 (vQ hL)
  intro e
  subst e
  have h1:=aJ hx
  have h2:=aJ hy
  rw[qai h1]at hx
  rw[qai h2]at hy
  exact qbZ.1 hnd i j h1 h2 hij ((qae hx).trans (qae hy).symm)
 have:¬keyC x=keyC y:=by
  intro e
  apply hne
  obtain⟨⟨a1,a2⟩,⟨a3,a4⟩,a5⟩:=hx'
  obtain⟨⟨b1,b2⟩,⟨b3,b4⟩,b5⟩:=hy'
  have e':(x.2.1*1000+x.1)*4+((x.2.2:Nat):Int)=(y.2.1*1000+y.1)*4+((y.2.2:Nat):Int):=e
  exact qcL (by omega) (qcL (by omega) (by omega))
 omega
def SetOk(H:HL)(L:List Sq)(rs:List Lf)(h':HL):Prop:=∃v D,rs=[.v v]/\SetOf L D/\OwnL H.length h' v 3 cc3 D/\Low H.length H h'/\H.length<=h'.length
def set_c{H:HL}{x:Value}{L:List Sq}(hG:LsH H x 3 cc3 (L.map sqC))(h0:0<L.length)(hn:L.length<=1000)(hnd:L.Nodup)(hb:∀c∈L,-100<=c.1/\c.1<=100/\-100<=c.2/\c.2<=100) :
  ∃rs h',aK cc ab 6 [.v x] (absH aa H) rs (absH aa h')/\SetOk H L rs h':=by
 exact x6 (K:=SetOk H L) (glsV hG.good gls0) (by
  unfold f6;simp only[qxh]
  simp(disch:=omega)only[↓qXX]
  refine cB (σ:=Value×HL) L.length (λj s=>[.v s.1,.i (Int.ofNat j)]) (λ_ s=>s.2) (λj s=>OwnL H.length s.2 s.1 3 cc3 ((L.take j).flatMap quad)/\Low H.length H s.2/\H.length<=s.2.length) (j0:=0) (s0:=(.slice none 0 0,H)) rfl rfl (qaU _) ⟨OwnL.nil _ _ _ _,Low.refl H,qah _⟩ ?_
  rintro j ⟨v,h⟩ hj ⟨ho,hlow,hlen⟩ self hself
  simp only at ho hlow hlen hself
  have hGh:=hG.low hlow
  simp(disch:=omega)only[↓qXX]
  refine be hGh ?_
  rw[qaF]
  by_cases hlt:j<L.length
  ·rw[aP hlt]
   simp(disch:=omega)only[↓qXX]
   obtain⟨c,hc⟩:=aU hlt
   refine cB (σ:=Value×HL) 4 (λq s=>[.v s.1,.i (Int.ofNat q)]) (λ_ s=>s.2) (λq s=>OwnL H.length s.2 s.1 3 cc3 ((L.take j).flatMap quad++(quad c).take q)/\Low H.length H s.2/\H.length<=s.2.length) (j0:=0) (s0:=(v,h)) rfl rfl (qaU _) ⟨by simpa using ho,hlow,hlen⟩ ?_
   rintro q ⟨v2,h2⟩ hq ⟨ho2,hlow2,hlen2⟩ self2 hself2
   simp only at ho2 hlow2 hlen2 hself2
   have hG2:=hG.low hlow2
   simp(disch:=omega)only[↓qXX]
   by_cases hq4:q<4
   ·rw[p_lss_t (by show(q:Int)<4;omega)]
    simp(disch:=omega)only[↓qXX]
    refine wV (o:=0) (k:=1) (a:=sqC c) hG2 rfl (by rw[qau,hc];rfl) rfl (by omega) ?_
    simp only[sqC,cc3,qa6,qbf,qbL]
    simp(disch:=omega)only[↓qXX]
    refine wV (o:=1) (k:=1) (a:=sqC c) hG2 rfl (by rw[qau,hc];rfl) rfl (by omega) ?_
    simp only[sqC,cc3,qbO,qa6,qbf,qbL]
    simp(disch:=omega)only[↓qXX]
    refine ho2.ap1 (a:=(c.1,c.2,q)) bK hlen2 rfl rfl rfl (uy ?_) λv' h' b1 b2 b3 b4 b5=>?_
    ·have:=nj (L.take j)
     rw[qaC,this,qaJ,qaJ]
     have:=Nat.min_le_left q (quad c).length
     omega
    simp(disch:=omega)only[↓qXX]
    refine aD b2 ?_
    simp(disch:=omega)only[↓qXX]
    rw[p_add8 (by show(0:Int)<=(q:Int)+1;omega) (by show(q:Int)+1<=255;omega)]
    refine hself2 (v',h') hq4 ⟨?_,λi o hi hoo=>b3 i o (hlow2 i o hi hoo) λe=>?_,by show H.length<=h'.length;omega⟩
    ·rw[quad_take hq4,←qaN]
     exact b1
    ·have:=ho2.blk e
     omega
   ·obtain rfl:q=4:=by omega
    rw[p_lss_f (by show(4:Int)<=((4:Nat):Int);omega)]
    simp(disch:=omega)only[↓qXX]
    rw[aR (by omega)]
    refine hself (v2,h2) hlt ⟨?_,hlow2,hlen2⟩
    have e1:(L.take (j+1)).flatMap quad=(L.take j).flatMap quad++quad c:=by
     rw[qbw,hc,qcg]
     simp
    rw[e1]
    exact ho2
  ·obtain rfl:j=L.length:=by omega
   rw[bb (qah _)]
   simp(disch:=omega)only[↓qXX]
   rw[qbn]at ho
   have hD:=nj L
   refine cB (σ:=HL×List K3) (4*L.length) (λi _=>[.i (Int.ofNat i)]) (λ_ s=>s.1) (λi s=>OwnL H.length s.1 v 3 cc3 s.2/\Low H.length H s.1/\H.length<=s.1.length/\s.2.Perm (L.flatMap quad)/\SS keyC 0 i s.2) (j0:=1) (s0:=(h,L.flatMap quad)) rfl rfl (by omega) ⟨ho,hlow,hlen,List.Perm.refl _,SS.one (by omega)⟩ ?_
   clear ho hlow hlen hself hGh
   rintro i ⟨h,D⟩ hi ⟨ho,hlow,hlen,hp,hs⟩ self hself
   simp only at ho hlow hlen hp hs hself
   have hDl:D.length=4*L.length:=hp.length_eq.trans hD
   simp(disch:=omega)only[↓qXX]
   refine af ho.lenB ?_
   rw[hDl]
   by_cases hlt:i<4*L.length
   case neg=>
    obtain rfl:i=4*L.length:=by omega
    rw[bb (qah _)]
    simp(disch:=omega)only[↓qXX]
    exact⟨v,D,rfl,set_of hnd hb hp (by rw[hDl];exact hs),ho,hlow,hlen⟩
   rw[aP hlt]
   simp only[p_cond_t]
   refine vB (λl' h'=>l'=[]/\∃D',OwnL H.length h' v 3 cc3 D'/\Low H.length H h'/\H.length<=h'.length/\D'.Perm (L.flatMap quad)/\SS keyC 0 (i+1) D') ?_ ?_
   ·rintro _ h' ⟨rfl,D',b1,b2,b3,b4,b5⟩
    simp(disch:=omega)only[↓qXX]
    rw[aR (by omega)]
    exact hself (h',D') hlt ⟨b1,b2,b3,b4,b5⟩
   ·intro jn hjn
    refine gS (m:=i) (λm ls h'=>∃k D',ls=[.i (Int.ofNat k)]/\k=m/\k<=i/\OwnL H.length h' v 3 cc3 D'/\Low H.length H h'/\H.length<=h'.length/\D'.Perm (L.flatMap quad)/\InsI keyC 0 i k D') ⟨i,D,rfl,rfl,qah _,ho,hlow,hlen,hp,InsI.start hs⟩ ?_
    clear ho hlow hlen hp hs hDl
    rintro m ls h' ⟨k,D',rfl,rfl,hki,ho,hlow,hlen,hp,hI⟩ self2 hself2
    have hDl:D'.length=4*L.length:=hp.length_eq.trans hD
    have hin:∀a∈D',inC a:=λa ha=>by
     have h:=nk.1 (hp.mem_iff.1 ha)
     have:=hb _ h.1
     exact⟨⟨this.1,this.2.1⟩,⟨this.2.2.1,this.2.2.2⟩,h.2⟩
    refine hidL ?_
    simp(disch:=omega)only[↓qXX]
    by_cases hk0:k=0
    ·subst hk0
     rw[p_gtr_f (by show((0:Nat):Int)<=0;omega)]
     simp(disch:=omega)only[↓qXX]
     exact hjn _ _ ⟨rfl,D',ho,hlow,hlen,hp,hI.done ⟨qah _,by omega⟩ (.inl rfl)⟩
    ·rw[p_gtr_t (by show(0:Int)<(k:Int);omega)]
     simp(disch:=omega)only[↓qXX]
     obtain⟨a,ha⟩:=aU (l:=D') (i:=k) (by omega)
     obtain⟨b,hb'⟩:=aU (l:=D') (i:=k - 1) (by omega)
     have hia:=hin a (qab ha)
     have hib:=hin b (qab hb')
     refine aS (ho.ls bK) rfl ha ?_
     simp only[cc3]
     simp(disch:=omega)only[↓qXX]
     rw[fj (by omega) (by omega)]
     refine aS (ho.ls bK) rfl hb' ?_
     simp only[cc3]
     simp(disch:=omega)only[↓qXX]
     refine ae (before_c (a:=a) (b:=b) hia hib ⟨rfl,rfl,rfl⟩ ⟨rfl,rfl,rfl⟩) ?_
     simp(disch:=omega)only[↓qXX]
     by_cases hlt2:keyC a<keyC b
     ·rw[decide_eq_true hlt2]
      simp(disch:=omega)only[↓qXX]
      rw[fj (by omega) (by omega)]
      try rw[fj (by omega) (by omega)]
      refine aS (ho.ls bK) rfl hb' ?_
      simp only[cc3]
      simp(disch:=omega)only[↓qXX]
      refine aS (ho.ls bK) rfl ha ?_
      simp only[cc3]
      simp(disch:=omega)only[↓qXX]
      refine ho.set (i:=k) (a:=b) bK rfl (by omega) rfl λh3 c1 c2 c3=>?_
      try simp(disch:=omega)only[↓qXX]
      refine c1.set (i:=k - 1) (a:=a) bK rfl (by rw[qbv];omega) rfl λh4 d1 d2 d3=>?_
      try simp(disch:=omega)only[↓qXX]
      try rw[fj (by omega) (by omega)]
      refine hself2 (k - 1) _ _ (by omega) ⟨k - 1,_,rfl,rfl,by omega,d1,λi' o hi' hoo=>d2 i' o (c2 i' o (hlow i' o hi' hoo) λe=>?_) λe=>?_,by omega,?_,hI.step ⟨by omega,hki⟩ ha hb' hlt2⟩
      ·have:=ho.blk e;omega
      ·have:=ho.blk e;omega
      ·exact(SP.swap (a:=0) (b:=4*L.length) ha hb' (by omega) (by omega)).1.trans hp
     ·rw[decide_eq_false hlt2]
      simp(disch:=omega)only[↓qXX]
      exact hjn _ _ ⟨rfl,D',ho,hlow,hlen,hp,hI.done ⟨qaU _,hki⟩ (.inr ⟨a,b,ha,hb',by omega⟩)⟩)
def cmpI(a b:Int):Int:=if a<b then -1 else if b<a then 1 else 0
def orI:List Int->Int
 | []=>0
 |a :: l=>if a=0 then orI l else a
theorem cmpI_0{a b:Int}:cmpI a b=0↔a=b:=by
 unfold cmpI
 split
 ·constructor
  ·intro h;omega
  ·intro h;omega
 ·split
  ·constructor
   ·intro h;omega
   ·intro h;omega
  ·constructor
   ·intro _;omega
   ·intro _;rfl
def encQ(p:Int×Int):List Value:=[.int .i64 p.1,.int .i64 p.2]
def pY(p:Int×Int):(encQ p).length=2:=rfl
def nan_c(a:Int):Cc 83 [.i a] [.b false]:=by
 refine q83 rfl ?_;unfold f83;simp only[qxh]
 simp(disch:=omega)only[↓qXX]
def cmp_c(a b:Int):Cc 65 [.i a,.i b] [.i (cmpI a b)]:=by
 refine q65 rfl ?_;unfold f65;simp only[qxh]
 repeat (first|simp(disch:=omega)only[↓qXX]|refine ae (nan_c a) ?_|refine ae (nan_c b) ?_)
 unfold cmpI
 by_cases h1:a<b
 ·simp(disch:=omega)only[↓qXX]
  simp[h1]
 ·by_cases h2:b<a
  ·simp(disch:=omega)only[↓qXX]
   simp[h1,h2]
  ·simp(disch:=omega)only[↓qXX]
   simp[h1,h2]
def qL{l:List Int}{j:Nat}{a:Int}(ha:l[j]?=some a):orI (l.drop j)=if a=0 then orI (l.drop (j+1))else a:=by
 rw[qaY (aJ ha)]
 have h1:l[j]'(aJ ha)=a:=by rw[qai (aJ ha)]at ha;exact qae ha
 rw[h1]
 rfl
def ord_c{h:HL}{x:Value}{l:List (Int×Int)}(hl:LsH h x 2 encQ l)(hb:l.length<=1000) :
  aK cc ab 55 [.v x] (absH aa h) [.i (orI (l.map λp=>cmpI p.1 p.2))] (absH aa h):=by
 exact xK x55 (glsV hl.good gls0) (by
  unfold f55;simp only[qxh]
  simp(disch:=omega)only[↓qXX]
  refine be hl ?_
  refine dP l.length (λj=>orI (l.map λp=>cmpI p.1 p.2)=orI ((l.map λp=>cmpI p.1 p.2).drop j)) (j0:=0) rfl (qaU _) rfl ?_
  intro j hj he self hself
  simp(disch:=omega)only[↓qXX]
  by_cases hlt:j<l.length
  ·rw[aP hlt]
   simp(disch:=omega)only[↓qXX]
   obtain⟨p,hp⟩:=aU hlt
   refine aS hl rfl hp ?_
   unfold encQ
   repeat (first|simp(disch:=omega)only[↓qXX]|refine ae (cmp_c p.1 p.2) ?_)
   rw[qL (a:=cmpI p.1 p.2) (by rw[qau,hp];rfl)]at he
   by_cases h0:cmpI p.1 p.2=0
   ·rw[p_neq_f h0]
    simp(disch:=omega)only[↓qXX]
    rw[aR (by omega)]
    rw[if_pos h0]at he
    exact hself hlt he
   ·rw[p_neq_t h0]
    simp(disch:=omega)only[↓qXX]
    rw[if_neg h0]at he
    exact⟨by rw[he],by trivial⟩
  ·obtain rfl:j=l.length:=by omega
   rw[bb (qah _)]
   simp(disch:=omega)only[↓qXX]
   refine⟨?_,by trivial⟩
   rw[he,qbr (by rw[qaF];exact qah _)]
   rfl)
def uO{x y q x' y' q':Int}(hq:0<=q/\q<=255)(hq':0<=q'/\q'<=255):Cc 41 [.i x,.i y,.i q,.i x',.i y',.i q'] [.i (orI [cmpI y y',cmpI x x',cmpI q q'])]:=by
 refine q41 rfl ?_;unfold f41;simp only[qxh]
 simp(disch:=omega)only[↓qXX]
 refine av (h':=[]++[HO.o (.cells [.int .i64 y,.int .i64 y',.int .i64 x,.int .i64 x',.int .i64 q,.int .i64 q'] 2 true)]) (ord_c (l:=[(y,y'),(x,x'),(q,q')]) ?_ (by simp)) ?_
 ·exact newE_ls (h:=[]) (e:=2) (enc:=encQ) (l:=[(y,y'),(x,x'),(q,q')]) pY (by rfl)
 ·simp(disch:=omega)only[↓qXX]
  rfl
def cell_lt{a b:K3}(ha:a.2.2<4)(hb:b.2.2<4)(h:ltC3 a b):Cc 41 [.i a.1,.i a.2.1,.i (Int.ofNat a.2.2),.i b.1,.i b.2.1,.i (Int.ofNat b.2.2)] [.i (-1)]:=by
 have hc:=uO (x:=a.1) (y:=a.2.1) (q:=Int.ofNat a.2.2) (x':=b.1) (y':=b.2.1) (q':=Int.ofNat b.2.2) (by show(0:Int)<=((a.2.2:Nat):Int)/\((a.2.2:Nat):Int)<=255;omega) (by show(0:Int)<=((b.2.2:Nat):Int)/\((b.2.2:Nat):Int)<=255;omega)
 have e:orI [cmpI a.2.1 b.2.1,cmpI a.1 b.1,cmpI (Int.ofNat a.2.2) (Int.ofNat b.2.2)] = -1:=by
  have e3:(Int.ofNat a.2.2<Int.ofNat b.2.2)=(a.2.2<b.2.2):=by
   show((a.2.2:Int)<(b.2.2:Int))=_
   simp
  unfold ltC3 at h
  simp only[orI,cmpI,e3]
  rcases h with h|⟨h1,h|⟨h2,h⟩⟩
  ·simp[h]
  ·simp[h1,h]
  ·simp[h1,h2,h]
 rw[e]at hc
 exact hc
abbrev cloW:Value:=.func (.func 53) ⟨[]⟩ ⟨[]⟩
def rM{a:K3}(h:inC a):Cc 54 [.i a.1,.i a.2.1,.i (Int.ofNat a.2.2)] [.i 0]:=by
 obtain⟨⟨a1,a2⟩,⟨a3,a4⟩,a5⟩:=h
 have hq:Int.ofNat a.2.2<=3:=by show((a.2.2:Nat):Int)<=3;omega
 refine q54 rfl ?_;unfold f54;simp only[qxh]
 simp(disch:=omega)only[↓qXX]
def ry{a:K3}(h:inC a):Cc 53 [.i a.1,.i a.2.1,.i (Int.ofNat a.2.2)] [.b false]:=by
 refine q53 rfl ?_;unfold f53;simp only[qxh]
 simp(disch:=omega)only[↓qXX]
 refine ae (rM h) ?_
 simp(disch:=omega)only[↓qXX]
def qt{h:HL}{x:Value}{l:List K3}(hl:LsH h x 3 cc3 l)(hok:∀c∈l,inC c)(hn:l.length<=100000):aK cc ab 64 [.v x,.v cloW] (absH aa h) [.i (-1)] (absH aa h):=by
 exact xK x64 (glsV hl.good (glsV rfl gls0)) (by
  unfold f64;simp only[qxh]
  simp(disch:=omega)only[↓qXX]
  refine be hl ?_
  refine dP l.length (λ_=>True) rfl (qaU _) trivial ?_
  intro j hj _ self hself
  simp(disch:=omega)only[↓qXX]
  by_cases hlt:j<l.length
  ·rw[aP hlt]
   simp(disch:=omega)only[↓qXX]
   obtain⟨c,hc⟩:=aU hlt
   refine aS hl rfl hc ?_
   unfold cc3
   repeat (first|simp(disch:=omega)only[↓qXX]|refine iJ (lA (ry (hok c (qab hc)) _) rfl [.agg [.i .i64 c.1,.i .i64 c.2.1,.i .u8 (Int.ofNat c.2.2)]] rfl rfl) ?_)
   rw[aR (by omega)]
   exact hself hlt trivial
  ·rw[bb (by omega)]
   simp(disch:=omega)only[↓qXX]
   exact⟨by trivial,by trivial⟩)
def uH{h:HL}{x:Value}{l:List K3}(hl:LsH h x 3 cc3 l)(hok:∀c∈l,inC c)(hn:l.length<=100000):aK cc ab 40 [.v x] (absH aa h) [.b false] (absH aa h):=by
 have h1:=qt hl hok hn
 have h3:aK cc ab 52 [.v x,.v cloW] (absH aa h) [.b false] (absH aa h):=xK x52 (glsV hl.good (glsV rfl gls0)) (by
  unfold f52;simp only[qxh]
  repeat (first|simp(disch:=omega)only[↓qXX]|refine av h1 ?_)
  exact⟨by trivial,by trivial⟩)
 exact xK x40 (glsV hl.good gls0) (by
  unfold f40;simp only[qxh]
  repeat (first|simp(disch:=omega)only[↓qXX]|refine aD rfl ?_|refine av h3 ?_)
  exact⟨by trivial,by trivial⟩)
def scheck_c{h:HL}{x:Value}{l:List K3}(hl:LsH h x 3 cc3 l)(hok:∀c∈l,inC c)(hn:l.length<=1000)(hs:∀(i j:Nat) a b,i<j->l[i]?=some a->l[j]?=some b->ltC3 a b):aK cc ab 29 [.v x] (absH aa h) [.i 0] (absH aa h):=by
 exact xK x29 (glsV hl.good gls0) (by
  unfold f29;simp only[qxh]
  simp(disch:=omega)only[↓qXX]
  refine be hl ?_
  rw[p_gtr_f (by show(l.length:Int)<=1024;omega)]
  repeat (first|simp(disch:=omega)only[↓qXX]|refine av (uH hl hok (by omega)) ?_)
  refine gS (m:=l.length) (λm ls h'=>h'=h/\∃j:Nat,ls=[.i (Int.ofNat j)]/\1<=j/\m=l.length+1 - j/\j<=l.length+1) ⟨rfl,1,rfl,qah _,by omega,by omega⟩ ?_
  rintro m ls _ ⟨rfl,j,rfl,hj1,rfl,hj2⟩ self hself
  refine hidL ?_
  simp(disch:=omega)only[↓qXX]
  refine be hl ?_
  by_cases hlt:j<l.length
  ·rw[aP hlt]
   simp(disch:=omega)only[↓qXX]
   obtain⟨a,ha⟩:=aU (l:=l) (i:=j - 1) (by omega)
   obtain⟨b,hb⟩:=aU hlt
   rw[fj hj1 (by omega)]
   refine aS hl rfl ha ?_
   unfold cc3
   simp(disch:=omega)only[↓qXX]
   refine aS hl rfl hb ?_
   unfold cc3
   simp(disch:=omega)only[↓qXX]
   refine ae (cell_lt (hok a (qab ha)).2.2 (hok b (qab hb)).2.2 (hs (j - 1) j a b (by omega) ha hb)) ?_
   simp(disch:=omega)only[↓qXX]
   rw[aR (by omega)]
   exact hself _ _ _ (by omega) ⟨rfl,j+1,rfl,by omega,rfl,by omega⟩
  ·rw[bb (by omega)]
   simp(disch:=omega)only[↓qXX]
   exact⟨by trivial,by trivial⟩)
def gM:aggT cc.P 33=some true:=by kernel_rfl
def fh:flatK cc.P 10000 33=some kk3:=by kernel_rfl
def squares_c{H:HL}{x:Value}{L:List Sq}{D:List K3}(hD:SetOf L D)(hl:LsH H x 3 cc3 D)(hn:D.length<=1000) :
  ∃rs h',aK cc ab 19 [.v x] (absH aa H) rs (absH aa h')/\∃o ks,rs=[.v (.map (some H.length))]/\h'=H++[o]/\Set3 h' H.length ks/\ks.Nodup/\∀a,a∈ks↔∃c,c∈L/\a=sqC c:=by
 exact x19 (K:=λrs h'=>∃o ks,rs=[.v (.map (some H.length))]/\h'=H++[o]/\Set3 h' H.length ks/\ks.Nodup/\∀a,a∈ks↔∃c,c∈L/\a=sqC c) (glsV hl.good gls0) (by
  unfold f19;simp only[qxh]
  simp(disch:=omega)only[↓qXX]
  refine be hl ?_
  refine cB (σ:=HO×List K3) D.length (λj _=>[.i (Int.ofNat j)]) (λ_ s=>H++[s.1]) (λj s=>Set3 (H++[s.1]) H.length s.2/\s.2.Nodup/\∀a,a∈s.2↔∃d i,i<j/\D[i]?=some d/\a=sqC (d.1,d.2.1)) (j0:=0) (s0:=(.o (.map [] 0),[])) rfl rfl (qaU _) ⟨⟨[],0,aQ,rfl,λe he=>by cases he⟩,qda,λa=>⟨λh=>(by cases h),λ⟨d,i,hi,_⟩=>(by omega)⟩⟩ ?_
  rintro j ⟨o,ks⟩ hj ⟨hs,hnd,hm⟩ self hself
  simp only at hs hnd hm hself
  simp(disch:=omega)only[↓qXX]
  by_cases hlt:j<D.length
  ·rw[aP hlt]
   simp(disch:=omega)only[↓qXX]
   obtain⟨d,hd⟩:=aU hlt
   refine aS (hl.pre (h':=H++[o]) ⟨_,rfl⟩) rfl hd ?_
   unfold cc3
   simp(disch:=omega)only[↓qXX]
   refine r_mu3 (kt:=33) gM fh hs (sqC (d.1,d.2.1)) λo' hs'=>?_
   have e1:(H++[o]).set H.length o'=H++[o']:=gX
   rw[e1]at hs' ⊢
   rw[aR (by omega)]
   generalize hke:(if sqC (d.1,d.2.1)∈ks then ks else ks++[sqC (d.1,d.2.1)])=ks' at hs'
   refine hself (o',ks') hlt ⟨hs',?_,λa=>?_⟩
   ·show ks'.Nodup
    rw[←hke]
    split
    ·exact hnd
    next hk=>
     rw[qb5]
     refine⟨hnd,by simp,λa ha b hb=>?_⟩
     simp only[qap]at hb
     subst hb
     exact λe=>hk (e▸ha)
   ·show a∈ks'↔_
    rw[←hke]
    have e2:a∈(if sqC (d.1,d.2.1)∈ks then ks else ks++[sqC (d.1,d.2.1)])↔a∈ks∨a=sqC (d.1,d.2.1):=by
     split
     next hk=>
      exact⟨.inl,λh=>h.elim id λe=>e▸hk⟩
     ·simp
    rw[e2,hm]
    constructor
    ·rintro(⟨d',i,hi,h1,h2⟩|h)
     ·exact⟨d',i,by omega,h1,h2⟩
     ·exact⟨d,j,by omega,hd,h⟩
    ·rintro⟨d',i,hi,h1,h2⟩
     by_cases hij:i=j
     ·subst hij
      rw[hd]at h1
      cases h1
      exact .inr h2
     ·exact .inl ⟨d',i,by omega,h1,h2⟩
  ·obtain rfl:j=D.length:=by omega
   rw[bb (qah _)]
   simp(disch:=omega)only[↓qXX]
   refine⟨o,ks,by trivial,by trivial,hs,hnd,λa=>(hm a).trans ⟨?_,?_⟩⟩
   ·rintro⟨d,i,_,h1,h2⟩
    exact⟨_,(hD.mem.1 (qab h1)).1,h2⟩
   ·rintro⟨c,hc,h2⟩
    have hq:((c.1,c.2,0):K3)∈D:=hD.mem.2 ⟨hc,by show 0<4;omega⟩
    obtain⟨i,hi⟩:=qaW hq
    exact⟨_,i,aJ hi,hi,h2⟩)
def beside_c{c:Sq}{k:Nat}(hk:k<4)(hc:(-1000<=c.1/\c.1<=1000)/\-1000<=c.2/\c.2<=1000){q:Int}:Cc 21 [.i c.1,.i c.2,.i q,.i (Int.ofNat k)] [.i (bes c k).1,.i (bes c k).2,.i 0]:=by
 have hk':k=0∨k=1∨k=2∨k=3:=by omega
 refine q21 rfl ?_;unfold f21;simp only[qxh]
 rcases hk' with rfl|rfl|rfl|rfl
 ·try simp(disch:=omega)only[↓qXX]
  try refine af (x:=()) (by kernel_rfl) ?_
  refine af (x:=[.int .i64 1]) (by kernel_rfl) ?_
  simp(disch:=omega)only[↓qXX]
  try refine af (x:=()) (by kernel_rfl) ?_
  refine af (x:=[.int .i64 0]) (by kernel_rfl) ?_
  simp(disch:=omega)only[↓qXX]
  simp[bes]
  try omega
 ·try simp(disch:=omega)only[↓qXX]
  try refine af (x:=()) (by kernel_rfl) ?_
  refine af (x:=[.int .i64 0]) (by kernel_rfl) ?_
  simp(disch:=omega)only[↓qXX]
  try refine af (x:=()) (by kernel_rfl) ?_
  refine af (x:=[.int .i64 1]) (by kernel_rfl) ?_
  simp(disch:=omega)only[↓qXX]
  simp[bes]
  try omega
 ·try simp(disch:=omega)only[↓qXX]
  try refine af (x:=()) (by kernel_rfl) ?_
  refine af (x:=[.int .i64 (-1)]) (by kernel_rfl) ?_
  simp(disch:=omega)only[↓qXX]
  try refine af (x:=()) (by kernel_rfl) ?_
  refine af (x:=[.int .i64 0]) (by kernel_rfl) ?_
  simp(disch:=omega)only[↓qXX]
  simp[bes]
  try omega
 ·try simp(disch:=omega)only[↓qXX]
  try refine af (x:=()) (by kernel_rfl) ?_
  refine af (x:=[.int .i64 0]) (by kernel_rfl) ?_
  simp(disch:=omega)only[↓qXX]
  try refine af (x:=()) (by kernel_rfl) ?_
  refine af (x:=[.int .i64 (-1)]) (by kernel_rfl) ?_
  simp(disch:=omega)only[↓qXX]
  simp[bes]
  try omega
def bes_bd{c:Sq}{k:Nat}(hk:k<4){b:Int}(hc:(-b<=c.1/\c.1<=b)/\-b<=c.2/\c.2<=b):(-(b+1)<=(bes c k).1/\(bes c k).1<=b+1)/\-(b+1)<=(bes c k).2/\(bes c k).2<=b+1:=by
 have hk':k=0∨k=1∨k=2∨k=3:=by omega
 rcases hk' with rfl|rfl|rfl|rfl<;>simp only[bes]<;>omega
def Keys(L:List Sq)(ks:List K3):Prop:=ks.Nodup/\∀a,a∈ks↔∃c,c∈L/\a=sqC c
def Keys.sq{L:List Sq}{ks:List K3}(h:Keys L ks){c:Sq}:sqC c∈ks↔c∈L:=by
 rw[h.2]
 exact⟨λ⟨d,hd,e⟩=>rm e▸hd,λhc=>⟨c,hc,rfl⟩⟩
def Keys.len{L:List Sq}{ks:List K3}(h:Keys L ks)(hL:L.Nodup):ks.length=L.length:=by
 have h1:(L.map sqC).Nodup:=by
  exact qcx.2 (List.Pairwise.imp (λh e=>h (rm e)) hL)
 have h2:=cR (a:=ks) (b:=L.map sqC) h.1 λa ha=>by
  obtain⟨c,hc,rfl⟩:=(h.2 a).1 ha
  exact qcj hc
 have h3:=cR (a:=L.map sqC) (b:=ks) h1 λa ha=>by
  obtain⟨c,hc,rfl⟩:=qaK.1 ha
  exact(h.2 _).2 ⟨c,hc,rfl⟩
 simp only[qaF]at h2 h3
 omega
abbrev cloK(b:Nat):Value:=.func (.func 30) ⟨[]⟩ ⟨[ptrB (b+1),ptrB (b+3),ptrB (b+4)]⟩
structure CS(b:Nat)(L:List Sq)(h:HL)(S:List Sq):Prop where
 al:∃ks,Set3 h b ks/\Keys L ks
 pa:h[b+1]?=some (.o (.cells [.map (some b)] 1 true))
 st:Set3 h (b+2) (S.map sqC)
 ps:h[b+3]?=some (.o (.cells [.map (some (b+2))] 1 true))
 pv:h[b+4]?=some (.o (.cells [cloK b] 1 true))
def CS.put{b:Nat}{L:List Sq}{h:HL}{S S':List Sq}(hc:CS b L h S){o:HO}(hs:Set3 (h.set (b+2) o) (b+2) (S'.map sqC)):CS b L (h.set (b+2) o) S':=by
 obtain⟨ks,h1,h2⟩:=hc.al
 exact⟨⟨ks,h1.keep λo' ho=>dl ho (by omega),h2⟩,dl hc.pa (by omega),hs,dl hc.ps (by omega),dl hc.pv (by omega)⟩
def seen_c{b:Nat}{L:List Sq}(hL:∀c∈L,(-100<=c.1/\c.1<=100)/\-100<=c.2/\c.2<=100):∀n,∀(c:Sq) (h:HL) (S:List Sq),CS b L h S->S.Nodup->(∀x∈S,x∈L)->((-200<=c.1/\c.1<=200)/\-200<=c.2/\c.2<=200)->free L S<=n->
  ∃rs h',aK cc ab 30 [.i c.1,.i c.2,.i 0,.v (ptrB (b+1)),.v (ptrB (b+3)),.v (ptrB (b+4))] (absH aa h) rs (absH aa h')/\rs=[]/\
   ∃S',CS b L h' S'/\Low b h h'/\h'.length=h.length/\(∀x∈S,x∈S')/\S'.Nodup/\(∀x∈S',x∈L)/\(c∈L->c∈S')/\∀x∈S',x∉S->∀k,k<4->bes x k∈L->bes x k∈S':=by
 intro n
 induction n using Nat.strongRecOn with
 |ind n ih=>
  intro c h S hS hnd hsub hc hf
  refine x30 (K:=λrs h'=>rs=[]/\∃S',CS b L h' S'/\Low b h h'/\h'.length=h.length/\(∀x∈S,x∈S')/\S'.Nodup/\(∀x∈S',x∈L)/\(c∈L->c∈S')/\∀x∈S',x∉S->∀k,k<4->bes x k∈L->bes x k∈S') (glsI (glsI (glsI (glsV (qU _) (glsV (qU _) (glsV (qU _) gls0)))))) ?_
  obtain⟨ks,hall,hkeys⟩:=hS.al
  unfold f30;simp only[qxh]
  simp(disch:=omega)only[↓qXX]
  refine eY (dv hS.pa) rfl ?_
  simp(disch:=omega)only[↓qXX]
  refine aD rfl ?_
  simp(disch:=omega)only[↓qXX]
  refine r_lu3 (kt:=33) gM fh hall (sqC c) ?_
  simp(disch:=omega)only[↓qXX]
  by_cases hcL:c∈L
  case neg=>
   rw[decide_eq_false (λe=>hcL (hkeys.sq.1 e))]
   simp(disch:=omega)only[↓qXX,qbc]
   exact⟨trivial,S,hS,Low.refl _,by trivial,λx hx=>hx,hnd,hsub,λe=>absurd e hcL,λx hx hn=>absurd hx hn⟩
  rw[decide_eq_true (hkeys.sq.2 hcL)]
  simp(disch:=omega)only[↓qXX,qaG]
  refine eY (dv hS.ps) rfl ?_
  simp(disch:=omega)only[↓qXX]
  refine aD rfl ?_
  simp(disch:=omega)only[↓qXX]
  refine r_lu3 (kt:=33) gM fh hS.st (sqC c) ?_
  simp(disch:=omega)only[↓qXX]
  by_cases hcS:c∈S
  ·rw[decide_eq_true (nA.2 hcS)]
   simp(disch:=omega)only[↓qXX]
   exact⟨trivial,S,hS,Low.refl _,by trivial,λx hx=>hx,hnd,hsub,λ_=>hcS,λx hx hn=>absurd hx hn⟩
  rw[decide_eq_false (λe=>hcS (nA.1 e))]
  simp(disch:=omega)only[↓qXX]
  refine eY (dv hS.ps) rfl ?_
  simp(disch:=omega)only[↓qXX]
  refine aD rfl ?_
  simp(disch:=omega)only[↓qXX]
  refine r_mu3 (kt:=33) gM fh hS.st (sqC c) λo ho=>?_
  rw[if_neg (λe=>hcS (nA.1 e))]at ho
  have ho':Set3 (h.set (b+2) o) (b+2) ((S++[c]).map sqC):=by rw[qbI];exact ho
  have hS1:=hS.put ho'
  have hf1:free L (S++[c])<free L S:=free_lt (λx hx=>qaQ _ hx) hcL hcS (qa3 _ (by simp))
  have hnd1:(S++[c]).Nodup:=by
   rw[qb5]
   refine⟨hnd,by simp,λa ha d hd=>?_⟩
   simp only[qap]at hd
   subst hd
   exact λe=>hcS (e▸ha)
  have hsub1:∀x∈S++[c],x∈L:=λx hx=>by
   rcases qas.1 hx with hx|hx
   ·exact hsub x hx
   ·simp only[qap]at hx
    subst hx;exact hcL
  have hcb:=hL c hcL
  refine cB (σ:=HL×List Sq) 4 (λj _=>[.i (Int.ofNat j)]) (λ_ s=>s.1) (λj s=>CS b L s.1 s.2/\Low b h s.1/\s.1.length=h.length/\(∀x∈S++[c],x∈s.2)/\s.2.Nodup/\(∀x∈s.2,x∈L)/\(∀x∈s.2,x∉S++[c]->∀k,k<4->bes x k∈L->bes x k∈s.2)/\∀k,k<j->bes c k∈L->bes c k∈s.2) (j0:=0) (s0:=(h.set (b+2) o,S++[c])) rfl rfl (qaU _) ⟨hS1,(Low.refl h).set (by omega) _,by simp,λx hx=>hx,hnd1,hsub1,λx hx hn=>absurd hx hn,λk hk=>by omega⟩ ?_
  rintro j ⟨h2,S2⟩ hj ⟨hS2,hlow,hlen,hin,hnd2,hsub2,hcl,hdone⟩ self hself
  simp only at hS2 hlow hlen hin hnd2 hsub2 hcl hdone hself
  simp(disch:=omega)only[↓qXX]
  by_cases hlt:j<4
  ·rw[p_lss_t (by show(j:Int)<4;omega)]
   simp(disch:=omega)only[↓qXX]
   refine eY (dv hS2.pv) rfl ?_
   simp(disch:=omega)only[↓qXX]
   refine aD rfl ?_
   simp(disch:=omega)only[↓qXX]
   refine ae (beside_c (c:=c) hlt ⟨by omega,by omega⟩) ?_
   simp(disch:=omega)only[↓qXX]
   have hbb:=bes_bd hlt hcb
   obtain⟨rs,h3,hcall,rfl,S3,hS3,hlow3,hlen3,hin3,hnd3,hsub3,hc3,hcl3⟩:=ih (free L (S++[c])) (by omega) (bes c j) h2 S2 hS2 hnd2 hsub2 ⟨by omega,by omega⟩ (ss hin)
   refine iJ (lY (args:=[.agg ⟨cc3 (sqC (bes c j))⟩]) hcall rfl [.agg [.i .i64 (bes c j).1,.i .i64 (bes c j).2,.i .u8 0],.leaf (.v (ptrB (b+1))),.leaf (.v (ptrB (b+3))),.leaf (.v (ptrB (b+4)))] rfl rfl rfl) ?_
   simp(disch:=omega)only[↓qXX]
   rw[aR (by omega)]
   refine hself (h3,S3) hlt ⟨hS3,hlow.trans hlow3,by show h3.length=h.length;omega,λx hx=>hin3 x (hin x hx),hnd3,hsub3,λx hx hn k hk hb=>?_,λk hk hb=>?_⟩
   ·by_cases hx2:x∈S2
    ·exact hin3 _ (hcl x hx2 hn k hk hb)
    ·exact hcl3 x hx hx2 k hk hb
   ·by_cases hkj:k=j
    ·subst hkj
     exact hc3 hb
    ·exact hin3 _ (hdone k (by omega) hb)
  ·obtain rfl:j=4:=by omega
   rw[p_lss_f (by show(4:Int)<=((4:Nat):Int);omega)]
   simp(disch:=omega)only[↓qXX]
   refine⟨trivial,S2,hS2,hlow,hlen,λx hx=>hin x (qaQ _ hx),hnd2,hsub2,λ_=>hin c (qa3 _ (by simp)),λx hx hn k hk hb=>?_⟩
   by_cases hxc:x=c
   ·subst hxc
    exact hdone k hk hb
   ·exact hcl x hx (λe=>by
     rcases qas.1 e with e|e
     ·exact hn e
     ·exact hxc (by simpa using e)) k hk hb
def check_c{H:HL}{x:Value}{L:List Sq}{D:List K3}(hl:LsH H x 3 cc3 D)(hD:SetOf L D)(h0:0<L.length)(hn:L.length<=200)(hnd:L.Nodup)(hcon:Con L)(hb:∀c∈L,(-100<=c.1/\c.1<=100)/\-100<=c.2/\c.2<=100) :
  ∃h',aK cc ab 15 [.v x] (absH aa H) [.i 0] (absH aa h')/\Low H.length H h'/\H.length<=h'.length:=by
 have hDl:=hD.len
 have hin:∀a∈D,inC a:=λa ha=>by
  have h:=hD.mem.1 ha
  have:=hb _ h.1
  exact⟨this.1,this.2,h.2⟩
 obtain⟨a0,ha0⟩:=aU (l:=D) (i:=0) (by omega)
 have hm0:=(hD.mem.1 (qab ha0)).1
 have hb0:=hb _ hm0
 obtain⟨rs,h',e1,rfl,e2⟩:=x15 (ls:=[.v x]) (H:=H) (K:=λrs h'=>rs=[.i 0]/\Low H.length H h'/\H.length<=h'.length) (glsV hl.good gls0) (by
  unfold f15;simp only[qxh]
  repeat (first|simp(disch:=omega)only[↓qXX]|refine av (scheck_c hl hin (by omega) hD.srt) ?_)
  refine be hl ?_
  rw[p_eql_f (by show((D.length:Nat):Int)≠0;omega)]
  simp(disch:=omega)only[↓qXX]
  obtain⟨rs,h1,hcall,o,ks,rfl,rfl,hset,hknd,hkm⟩:=squares_c hD hl (by omega)
  refine av hcall ?_
  have hkeys:Keys L ks:=⟨hknd,hkm⟩
  simp(disch:=omega)only[↓qXX]
  have g0:(H++[o]).length=H.length+1:=by simp
  refine r_st1 aQ rfl ?_
  rw[gX,g0]
  try simp(disch:=omega)only[↓qXX]
  refine eY (dv (h:=H++[o]++[HO.o (.cells [.map (some H.length)] 1 true)]) (b:=H.length+1) (by rw[←g0];exact aQ)) rfl ?_
  simp(disch:=omega)only[↓qXX]
  refine aD rfl ?_
  simp(disch:=omega)only[↓qXX]
  have hset2:Set3 (H++[o]++[HO.o (.cells [.map (some H.length)] 1 true)]) H.length ks:=hset.keep λ_ ho=>dC ho
  refine r_len3 hset2 ?_
  simp(disch:=omega)only[↓qXX]
  rw[hkeys.len hnd]
  rw[p_mul (by show(-9223372036854775808:Int)<=4*(L.length:Int);omega) (by show 4*(L.length:Int)<=9223372036854775807;omega)]
  refine be (hl.pre (h':=H++[o]++[HO.o (.cells [.map (some H.length)] 1 true)]) ((Pre.refl H).app _ |>.app _)) ?_
  rw[p_neq_f (by show 4*(L.length:Int)=(D.length:Int);omega)]
  simp(disch:=omega)only[↓qXX]
  have hp1:(H++[o]++[HO.o (.cells [.map (some H.length)] 1 true)])[H.length+1]?=some (.o (.cells [.map (some H.length)] 1 true)):=by rw[←g0];exact aQ
  have hP1:Pre H (H++[o]++[HO.o (.cells [.map (some H.length)] 1 true)]):=(Pre.refl H).app _ |>.app _
  have g1:(H++[o]++[HO.o (.cells [.map (some H.length)] 1 true)]).length=H.length+2:=by simp
  generalize H++[o]++[HO.o (.cells [.map (some H.length)] 1 true)]=h1 at *
  have g2:(h1++[HO.o (.map [] 0)]).length=H.length+3:=by simp[g1]
  rw[g1,g2]
  refine r_st1 (vs:=[.map none]) (by rw[←g2];exact aQ) rfl ?_
  rw[←g2,gX,g2]
  try simp(disch:=omega)only[↓qXX]
  have g3:(h1++[HO.o (.map [] 0)]++[HO.o (.cells [.map (some (H.length+2))] 1 true)]).length=H.length+4:=by simp[g1]
  have hS0:Set3 (h1++[HO.o (.map [] 0)]++[HO.o (.cells [.map (some (H.length+2))] 1 true)]) (H.length+2) []:=⟨[],0,dC (by rw[←g1];exact aQ),rfl,λe he=>by cases he⟩
  have hA:Set3 (h1++[HO.o (.map [] 0)]++[HO.o (.cells [.map (some (H.length+2))] 1 true)]) H.length ks:=hset2.keep λ_ ho=>dC (dC ho)
  have hp1':(h1++[HO.o (.map [] 0)]++[HO.o (.cells [.map (some (H.length+2))] 1 true)])[H.length+1]?=some (.o (.cells [.map (some H.length)] 1 true)):=dC (dC hp1)
  have hp3:(h1++[HO.o (.map [] 0)]++[HO.o (.cells [.map (some (H.length+2))] 1 true)])[H.length+3]?=some (.o (.cells [.map (some (H.length+2))] 1 true)):=by rw[←g2];exact aQ
  have hP2:Pre H (h1++[HO.o (.map [] 0)]++[HO.o (.cells [.map (some (H.length+2))] 1 true)]):=(hP1.app _).app _
  generalize h1++[HO.o (.map [] 0)]++[HO.o (.cells [.map (some (H.length+2))] 1 true)]=h2 at *
  clear hset2 hp1 hP1 g1 g2
  rw[g3]
  refine aD rfl ?_
  refine r_st1 (vs:=[.nilFunc]) (by rw[←g3];exact aQ) rfl ?_
  rw[←g3,gX,g3]
  try simp(disch:=omega)only[↓qXX]
  have hv:(h2++[HO.o (.cells [cloK H.length] 1 true)])[H.length+4]?=some (.o (.cells [cloK H.length] 1 true)):=by rw[←g3];exact aQ
  have hCS:CS H.length L (h2++[HO.o (.cells [cloK H.length] 1 true)]) []:=⟨⟨ks,hA.keep λ_ ho=>dC ho,hkeys⟩,dC hp1',hS0.keep λ_ ho=>dC ho,dC hp3,hv⟩
  have hP3:Pre H (h2++[HO.o (.cells [cloK H.length] 1 true)]):=hP2.app _
  refine eY (dv hv) rfl ?_
  simp(disch:=omega)only[↓qXX]
  refine aD rfl ?_
  simp(disch:=omega)only[↓qXX]
  refine wV (o:=0) (k:=1) (a:=a0) (i:=0) (hl.pre hP3) rfl ha0 rfl (by omega) ?_
  simp only[cc3,qa6,qbf,qbL]
  simp(disch:=omega)only[↓qXX]
  refine wV (o:=1) (k:=1) (a:=a0) (i:=0) (hl.pre hP3) rfl ha0 rfl (by omega) ?_
  simp only[cc3,qbO,qa6,qbf,qbL]
  simp(disch:=omega)only[↓qXX]
  obtain⟨rs,h3,hcall,rfl,S3,hS3,hlow3,hlen3,hin3,hnd3,hsub3,hc3,hcl3⟩:=seen_c (b:=H.length) hb (free L []) (a0.1,a0.2.1) _ [] hCS qda (λx hx=>by cases hx) ⟨by omega,by omega⟩ (qah _)
  refine iJ (lY (args:=[.agg ⟨cc3 (sqC (a0.1,a0.2.1))⟩]) hcall rfl [.agg [.i .i64 a0.1,.i .i64 a0.2.1,.i .u8 0],.leaf (.v (ptrB (H.length+1))),.leaf (.v (ptrB (H.length+3))),.leaf (.v (ptrB (H.length+4)))] rfl rfl rfl) ?_
  simp(disch:=omega)only[↓qXX]
  have hall:=con_all hcon hsub3 ⟨_,hc3 hm0⟩ λx hx k hk hb=>hcl3 x hx (by simp) k hk hb
  have hlenS:S3.length=L.length:=Nat.le_antisymm (cR hnd3 hsub3) (cR hnd hall)
  obtain⟨ks3,hall3,hkeys3⟩:=hS3.al
  refine eY (dv hS3.ps) rfl ?_
  simp(disch:=omega)only[↓qXX]
  refine aD rfl ?_
  simp(disch:=omega)only[↓qXX]
  refine r_len3 hS3.st ?_
  simp(disch:=omega)only[↓qXX]
  refine eY (dv hS3.pa) rfl ?_
  simp(disch:=omega)only[↓qXX]
  refine aD rfl ?_
  simp(disch:=omega)only[↓qXX]
  refine r_len3 hall3 ?_
  simp(disch:=omega)only[↓qXX]
  rw[qaF,hlenS,hkeys3.len hnd]
  rw[p_neq_f rfl]
  simp(disch:=omega)only[↓qXX]
  refine⟨by trivial,λj o hj ho=>hlow3 j o hj (hP3.get ho),?_⟩
  rw[hlen3]
  exact hP3.len)
 exact⟨h',e1,e2⟩
def encS(z:Nat):List Value:=[.int .u8 (Int.ofNat z)]
def fA(z:Nat):(encS z).length=1:=rfl
def rem4{a:Nat}{K:Int->Prop}:P1.ari .rem .i64 (Int.ofNat a) 4 (@hid _ ⟨K⟩)=K (Int.ofNat (a%4)):=by
 rw[p_rem_nn (show(0:Int)<=Int.ofNat a from qax a) (by omega)]
 rfl
def size1{n:Nat}(h:n<=1000000):bC n 1=true:=by
 unfold bC
 rw[qaX (by omega),qaX (by omega)];rfl
abbrev cloV(bw b:Nat):Value:=.func (.func 20) ⟨[]⟩ ⟨[ptrB (b+1),ptrB bw,ptrB (b+3),ptrB (b+2),ptrB (b+4)]⟩
structure WS(bw b:Nat)(L:List Sq)(h:HL)(s:TS)(x:Value):Prop where
 lt:bw<b
 mp:∃ks,Set3 h b ks/\ks.Nodup/\∀a,a∈ks↔∃c,c∈L/\c∉s.been/\a=sqC c
 pl:h[b+1]?=some (.o (.cells [.map (some b)] 1 true))
 pw:h[bw]?=some (.o (.cells [x] 1 true))
 ow:OwnL (b+5) h x 1 encS s.steps
 ph:h[b+2]?=some (.o (.cells [.int .i64 (.ofNat s.head)] 1 true))
 pt:h[b+3]?=some (.o (.cells [.int .i64 (.ofNat s.last)] 1 true))
 pv:h[b+4]?=some (.o (.cells [cloV bw b] 1 true))
 ln:b+5<=h.length
section
variable {bw b:Nat} {L:List Sq} {h:HL} {s:TS} {x:Value}
def WS.has(hw:WS bw b L h s x):∃ks,Set3 h b ks/\∀c,sqC c∈ks↔c∈L/\c∉s.been:=by
 obtain⟨ks,h1,_,h2⟩:=hw.mp
 exact⟨ks,h1,λc=>(h2 _).trans ⟨λ⟨d,h3,h4,e⟩=>rm e▸⟨h3,h4⟩,λ⟨h3,h4⟩=>⟨c,h3,h4,rfl⟩⟩⟩
def WS.go(hw:WS bw b L h s x){k:Nat}{h':HL}{x':Value}(ho:OwnL (b+5) h' x' 1 encS (s.steps++wayN ((k+4 - s.head)%4)))(hk:∀(j:Nat) o,h[j]?=some o->blk x≠some j->h'[j]?=some o)(hl:h.length<=h'.length) :
  WS bw b L ((h'.set bw (.o (.cells [x'] 1 true))).set (b+2) (.o (.cells [.int .i64 (.ofNat k)] 1 true))) (goT s k) x':=by
 have hlt:=hw.lt
 have hln:=hw.ln
 have old:∀(j:Nat) o,j<b+5->h[j]?=some o->h'[j]?=some o:=λj o hj ho'=>hk j o ho' λe=>by
  have:=(hw.ow.blk e).1
  omega
 obtain⟨ks,m1,m2,m3⟩:=hw.mp
 refine⟨hlt,⟨ks,(m1.keep λo ho'=>dl (dl (old _ _ (by omega) ho') (by omega)) (by omega)),m2,m3⟩,dl (dl (old _ _ (by omega) hw.pl) (by omega)) (by omega),dl (get_new (old _ _ (by omega) hw.pw)) (by omega),?_,get_new (dl (old _ _ (by omega) hw.ph) (by omega)),dl (dl (old _ _ (by omega) hw.pt) (by omega)) (by omega),dl (dl (old _ _ (by omega) hw.pv) (by omega)) (by omega),by simp;omega⟩
 refine ho.keep λj o hj hb=>?_
 have:=(ho.blk hb).1
 exact dl (dl hj (by omega)) (by omega)
end
def sl_clip{α:Type}{h:HL}{v:Value}{e:Nat}{enc:α->List Value}{l:List α}(hs:LsH h v e enc l):∃v',slS e v none (some (Int.ofNat l.length)) (some (Int.ofNat l.length))=some v'/\LsH h v' e enc l/\ba v'=true/\blk v'=blk v:=by
 have hs':=hs
 obtain⟨h1,h2,⟨rfl,h3⟩|⟨id,off,cx,vs,rw',rfl,h3,h4⟩⟩:=hs
 ·have hl0:l=[]:=qbp.1 h3
  subst hl0
  exact⟨.slice none 0 0,rfl,LsH.nil _ _ _,rfl,rfl⟩
 ·have hr:slS e (.slice (some ⟨id,off,tag e⟩) l.length cx) none (some (Int.ofNat l.length)) (some (Int.ofNat l.length))=some (.slice (some ⟨id,off,tag e⟩) l.length (l.length+1)):=by
   unfold slS
   have e1:¬(tag e≠some 1/\tag e≠tag e):=by simp
   simp only[if_neg e1]
   have e2:(0:Int)<=(none:Option Int).getD 0/\(none:Option Int).getD 0<=(some (Int.ofNat l.length)).getD ((l.length:Nat):Int)/\cr l.length cx (some (Int.ofNat l.length)) (some (Int.ofNat l.length)):=by
    refine⟨by simp,by simp,?_⟩
    unfold cr
    refine⟨rfl,by simp,.inl (by show(l.length:Int)<=(l.length:Int);omega)⟩
   rw[if_pos e2,dB,dB,dB]
   simp[bG]
  have hls:LsH h (.slice (some ⟨id,off,tag e⟩) l.length (l.length+1)) e enc l:=⟨h1,h2,.inr ⟨id,off,_,vs,rw',rfl,h3,h4⟩⟩
  exact⟨_,hr,hls,hls.good,rfl⟩
def kC{a:Nat}(h:1<=a/\a<=4):Cc 24 [.i (Int.ofNat a)] [.b (decide (3<=a))]:=by
 have:a=1∨a=2∨a=3∨a=4:=by omega
 refine q24 rfl ?_;unfold f24;simp only[qxh]
 rcases this with rfl|rfl|rfl|rfl
 all_goals
  simp only[show Int.ofNat 1=(1:Int)from rfl,show Int.ofNat 2=(2:Int)from rfl,show Int.ofNat 3=(3:Int)from rfl,show Int.ofNat 4=(4:Int)from rfl]
  simp(disch:=omega)only[↓qXX]
  try rfl
abbrev cloP:Value:=.func (.func 36) ⟨[]⟩ ⟨[]⟩
def check1_c{a:Nat}(h:1<=a/\a<=4):Cc 36 [.i (Int.ofNat a)] [.b false]:=by
 have:a=1∨a=2∨a=3∨a=4:=by omega
 refine q36 rfl ?_;unfold f36;simp only[qxh]
 rcases this with rfl|rfl|rfl|rfl
 all_goals
  simp only[show Int.ofNat 1=(1:Int)from rfl,show Int.ofNat 2=(2:Int)from rfl,show Int.ofNat 3=(3:Int)from rfl,show Int.ofNat 4=(4:Int)from rfl]
  simp(disch:=omega)only[↓qXX]
  try rfl
def anyP_c{h:HL}{x:Value}{l:List Nat}(hl:LsH h x 1 encS l)(hok:∀a∈l,1<=a/\a<=4)(hn:l.length<=100000):aK cc ab 35 [.v x,.v cloP] (absH aa h) [.b false] (absH aa h):=by
 have h1:aK cc ab 50 [.v x,.v cloP] (absH aa h) [.i (-1)] (absH aa h):=by
  refine xK x50 (glsV hl.good (glsV rfl gls0)) ?_
  unfold f50;simp only[qxh]
  simp(disch:=omega)only[↓qXX]
  refine be hl ?_
  refine dP l.length (λ_=>True) rfl (qaU _) trivial ?_
  intro j hj _ self hself
  simp(disch:=omega)only[↓qXX]
  by_cases hlt:j<l.length
  ·rw[aP hlt]
   simp(disch:=omega)only[↓qXX]
   obtain⟨c,hc⟩:=aU hlt
   refine aS hl rfl hc ?_
   unfold encS
   repeat (first|simp(disch:=omega)only[↓qXX]|refine iJ (lA (check1_c (hok c (qab hc)) _) rfl [.leaf (.i .u8 (Int.ofNat c))] rfl rfl) ?_)
   rw[aR (by omega)]
   exact hself hlt trivial
  ·rw[bb (by omega)]
   simp(disch:=omega)only[↓qXX]
   exact⟨by trivial,by trivial⟩
 refine xK x35 (glsV hl.good (glsV rfl gls0)) ?_
 unfold f35;simp only[qxh]
 repeat (first|simp(disch:=omega)only[↓qXX]|refine av h1 ?_)
 exact⟨by trivial,by trivial⟩
def rcheck_c{h:HL}{x:Value}{l:List Nat}(hl:LsH h x 1 encS l)(hok:∀a∈l,1<=a/\a<=4)(h3:Ok3 l)(hn:l.length<=255):aK cc ab 23 [.v x] (absH aa h) [.i 0] (absH aa h):=by
 exact xK x23 (glsV hl.good gls0) (by
  unfold f23;simp only[qxh]
  simp(disch:=omega)only[↓qXX]
  try refine aD rfl ?_
  refine av (anyP_c hl hok (by omega)) ?_
  simp(disch:=omega)only[↓qXX]
  refine be hl ?_
  refine cB (σ:=Nat) l.length (λj s=>[.i (Int.ofNat s),.i (Int.ofNat j)]) (λ_ _=>h) (λj s=>s<=1+j) (j0:=0) (s0:=1) rfl rfl (qaU _) (qah _) ?_
  intro j s hj hs self hself
  simp(disch:=omega)only[↓qXX]
  by_cases hlt:j<l.length
  ·rw[aP hlt]
   simp(disch:=omega)only[↓qXX]
   obtain⟨a,ha⟩:=aU hlt
   have ha4:=hok a (qab ha)
   refine aS hl rfl ha ?_
   unfold encS
   simp(disch:=omega)only[↓qXX]
   refine ae (kC ha4) ?_
   simp(disch:=omega)only[↓qXX]
   by_cases ht:3<=a
   ·have hnext:=hself s hlt (by omega)
    rw[decide_eq_true ht]
    simp(disch:=omega)only[↓qXX]
    by_cases hj0:j=0
    ·subst hj0
     rw[p_gtr_f (by show((0:Nat):Int)<=0;omega)]
     simp(disch:=omega)only[↓qXX]
     refine ae (kC ha4) ?_
     simp(disch:=omega)only[↓qXX]
     rw[decide_eq_true ht]
     simp(disch:=omega)only[↓qXX,qaG]
     rw[aR (by omega)]
     exact hnext
    ·rw[p_gtr_t (by show(0:Int)<(j:Int);omega)]
     simp(disch:=omega)only[↓qXX]
     rw[fj (by omega) (by omega)]
     obtain⟨b,hb⟩:=aU (l:=l) (i:=j - 1) (by omega)
     refine aS hl rfl hb ?_
     unfold encS
     simp(disch:=omega)only[↓qXX]
     refine ae (kC (hok b (qab hb))) ?_
     have hb3:¬3<=b:=λh=>h3 (j - 1) b a hb (by rw[show j - 1+1=j by omega];exact ha) ⟨h,ht⟩
     simp(disch:=omega)only[↓qXX]
     rw[decide_eq_false hb3]
     simp(disch:=omega)only[↓qXX]
     refine ae (kC ha4) ?_
     simp(disch:=omega)only[↓qXX]
     rw[decide_eq_true ht]
     simp(disch:=omega)only[↓qXX,qaG]
     rw[aR (by omega)]
     exact hnext
   ·have hnext:=hself (s+1) hlt (by omega)
    rw[decide_eq_false ht]
    simp(disch:=omega)only[↓qXX]
    refine ae (kC ha4) ?_
    simp(disch:=omega)only[↓qXX]
    rw[decide_eq_false ht]
    simp(disch:=omega)only[↓qXX,qbc]
    rw[aR (by omega)]
    simp(disch:=omega)only[↓qXX]
    rw[aR (by omega)]
    exact hnext
  ·rw[bb (by omega)]
   simp(disch:=omega)only[↓qXX]
   rw[p_gtr_f (by show(s:Int)<=256;omega)]
   simp(disch:=omega)only[↓qXX]
   exact⟨by trivial,by trivial⟩)
end Go.Am
set_option maxRecDepth 100000
namespace Go.Am
namespace Sx
section
variable [Val] [Kno] {C:Cfg} {Sg:FuncId->Option Sig} {T:Nat->Site}
variable {κ:Type} [DecidableEq κ] (kc:κ->List Value) {kk:List LK} (hd:∀a b,difK kk (kc a) (kc b)=some (decide (a=b)))
include hd
variable {kt:TypeId} (h1:aggT C.P kt=some true) (h2:flatK C.P 10000 kt=some kk) (h3:∀a,∃r,ic kk (kc a) (kc a)=some r)
include h1 h2 h3
end
end Sx
end Go.Am
set_option maxRecDepth 100000
set_option maxHeartbeats 8000000
namespace Go.Am
open Sx Go.Proofs Tw
def tX{h:HL}{x:Value}{l:List K3}(hl:LsH h x 3 cc3 l)(hn:l.length<=100000)(a:K3){p q r:Int}(ha:p=a.1/\q=a.2.1/\r=Int.ofNat a.2.2) :
  ∃n:Int,aK cc ab 26 [.v x,.i p,.i q,.i r] (absH aa h) [.i n] (absH aa h)/\((n = -1/\a∉l)∨∃i,n=Int.ofNat i/\l[i]?=some a):=by
 obtain⟨rfl,rfl,rfl⟩:=ha
 obtain⟨rs,h',h1,n,rfl,rfl,h2⟩:=x26 (ls:=[.v x,.i a.1,.i a.2.1,.i (Int.ofNat a.2.2)]) (H:=h) (K:=λrs h'=>∃n:Int,rs=[.i n]/\h'=h/\((n = -1/\a∉l)∨∃i,n=Int.ofNat i/\l[i]?=some a)) (glsV hl.good (glsI (glsI (glsI gls0)))) (by
  unfold f26;simp only[qxh]
  simp(disch:=omega)only[↓qXX]
  refine be hl ?_
  refine dP l.length (λj=>∀i,i<j->l[i]?≠some a) (j0:=0) rfl (qaU _) (λi hi=>by omega) ?_
  intro j hj he self hself
  simp(disch:=omega)only[↓qXX]
  by_cases hlt:j<l.length
  ·rw[aP hlt]
   simp(disch:=omega)only[↓qXX]
   obtain⟨b,hb⟩:=aU hlt
   refine aS hl rfl hb ?_
   unfold cc3
   simp(disch:=omega)only[↓qXX]
   rw[eqs3]
   by_cases hba:a=b
   ·subst hba
    rw[decide_eq_true rfl]
    simp(disch:=omega)only[↓qXX]
    exact⟨_,rfl,by trivial,.inr ⟨j,rfl,hb⟩⟩
   ·rw[decide_eq_false hba]
    simp(disch:=omega)only[↓qXX]
    rw[aR (by omega)]
    refine hself hlt λi hi=>?_
    by_cases hij:i=j
    ·subst hij
     rw[hb]
     exact λe=>hba (qae e).symm
    ·exact he i (by omega)
  ·rw[bb (by omega)]
   simp(disch:=omega)only[↓qXX]
   refine⟨_,rfl,by trivial,.inl ⟨rfl,λhm=>?_⟩⟩
   obtain⟨i,hi⟩:=qaW hm
   exact he i (by have:=aJ hi;omega) hi)
 exact⟨n,h1,h2⟩
def hasS_c{h:HL}{x:Value}{l:List K3}(hl:LsH h x 3 cc3 l)(hn:l.length<=100000)(a:K3){p q r:Int}(ha:p=a.1/\q=a.2.1/\r=Int.ofNat a.2.2):aK cc ab 17 [.v x,.i p,.i q,.i r] (absH aa h) [.b (decide (a∈l))] (absH aa h):=by
 obtain⟨n,h1,h2⟩:=tX hl hn a ha
 have h3:aK cc ab 33 [.v x,.i p,.i q,.i r] (absH aa h) [.b (decide (a∈l))] (absH aa h):=by
  refine xK x33 (glsV hl.good (glsI (glsI (glsI gls0)))) ?_
  unfold f33;simp only[qxh]
  simp(disch:=omega)only[↓qXX]
  refine av h1 ?_
  simp(disch:=omega)only[↓qXX]
  rcases h2 with⟨rfl,h2⟩|⟨i,rfl,h2⟩
  ·rw[p_geq_f (by omega)]
   exact⟨by rw[decide_eq_false h2],rfl⟩
  ·rw[p_geq_t (by show(0:Int)<=(i:Int);omega)]
   exact⟨by rw[decide_eq_true (qab h2)],rfl⟩
 refine xK x17 (glsV hl.good (glsI (glsI (glsI gls0)))) ?_
 unfold f17;simp only[qxh]
 repeat (first|simp(disch:=omega)only[↓qXX]|refine av h3 ?_)
 exact⟨by trivial,by trivial⟩
def eqsBd{a b:Bool}{K:Bool->Prop}:P1.eqs [(.b a,.b b)] (@hid _ ⟨K⟩)=K (decide (a=b)):=by
 show K (ca _)=_
 cases a<;>cases b<;>rfl
def length_c{h:HL}{x:Value}{l:List Nat}(hl:LsH h x 1 encS l)(hok:∀a∈l,1<=a/\a<=4)(h3:Ok3 l)(hn:l.length<=255):aK cc ab 10 [.v x] (absH aa h) [.i (Int.ofNat (1+(l.filter λa=>decide (a<3)).length)),.i 0] (absH aa h):=by
 refine xK x10 (glsV hl.good gls0) ?_
 unfold f10;simp only[qxh]
 simp(disch:=omega)only[↓qXX]
 refine av (rcheck_c hl hok h3 hn) ?_
 simp(disch:=omega)only[↓qXX]
 refine be hl ?_
 refine cB (σ:=Nat) l.length (λj s=>[.i (Int.ofNat s),.i (Int.ofNat j)]) (λ_ _=>h) (λj s=>s=1+((l.take j).filter λa=>decide (a<3)).length) (j0:=0) (s0:=1) rfl rfl (qaU _) (by simp) ?_
 rintro j s hj hs self hself
 have hbd:((l.take j).filter λa=>decide (a<3)).length<=j:=qbs (qcQ _ _) (by rw[qaJ];omega)
 simp(disch:=omega)only[↓qXX]
 by_cases hlt:j<l.length
 ·rw[aP hlt]
  simp(disch:=omega)only[↓qXX]
  obtain⟨a,ha⟩:=aU hlt
  have ha4:=hok a (qab ha)
  have ht:l.take (j+1)=l.take j++[a]:=by
   rw[qbw,ha];rfl
  refine aS hl rfl ha ?_
  unfold encS
  simp(disch:=omega)only[↓qXX]
  refine ae (kC ha4) ?_
  simp(disch:=omega)only[↓qXX]
  by_cases h3:3<=a
  ·rw[decide_eq_true h3]
   simp(disch:=omega)only[↓qXX,qaG]
   rw[aR (by omega)]
   refine hself s hlt ?_
   rw[ht,List.filter_append,hs]
   simp;omega
  ·rw[decide_eq_false h3]
   simp(disch:=omega)only[↓qXX,qbc]
   rw[aR (by omega)]
   simp(disch:=omega)only[↓qXX]
   rw[aR (by omega)]
   refine hself (s+1) hlt ?_
   rw[ht,List.filter_append,hs]
   simp[show a<3 by omega];omega
 ·obtain rfl:j=l.length:=by omega
  rw[bb (qah _)]
  simp(disch:=omega)only[↓qXX]
  rw[qbn]at hs
  refine⟨by rw[hs],by trivial⟩
namespace St
def eN(c:Crs):(encC c).length=3:=rfl
def pn{n:Nat}(h:n<=1000000000000):bC n 16=true:=by
 unfold bC
 rw[qaX (by omega),qaX (by omega)];rfl
def ap2{α:Type}{n0 e:Nat}{enc:α->List Value}{l:List α}{h:HL}{v:Value}{bytes m:Nat}{a b:α}{new:List Value}{sp:Option Nat}{K:List Value->HL->Prop}(henc:∀a,(enc a).length=e)(ho:OwnL n0 h v e enc l)(hn0:n0<=h.length)(hm:m=h.length)(hnew:new=enc a++enc b)(hsp:sp=some (e+10))(hs:bC (l.length+2) bytes=true)
  (hk:∀v' h',OwnL n0 h' v' e enc (l++[a,b])->ba v'=true->(∀(j:Nat) o,h[j]?=some o->Sx.blk v≠some j->h'[j]?=some o)->h.length<=h'.length->K [v'] h') :
  P1.heap (.ap cc e bytes v (.slice (some ⟨m,0,sp⟩) 2 3)) (h++[.o (.cells new e true)]) (@hid _ ⟨K⟩):=by
 subst hm hnew hsp
 have ho':OwnL n0 (h++[HO.o (.cells (enc a++enc b) e true)]) v e enc l:=ho.app _
 refine ho'.ap (new:=[a,b]) (k:=2) henc (by simp;omega) ?_ rfl hs λv' h' a1 a2 a3 a4 a5=>hk v' h' a1 a2 (λj o hj hb=>a3 j o (dC hj) hb) (by simp at a4;omega)
 have hlen:(enc a++enc b).length=2*e:=by rw[qaC,henc,henc];omega
 have hx:SlC (h++[HO.o (.cells (enc a++enc b) e true)]) (.slice (some ⟨h.length,0,tag e⟩) 2 3) e 2 (enc a++enc b):=⟨hlen,.inr ⟨h.length,0,3,enc a++enc b,true,rfl,aQ,Sx.cut_all hlen⟩⟩
 have h1:slG cc e (getH aa (h++[HO.o (.cells (enc a++enc b) e true)])) (.slice (some ⟨h.length,0,tag e⟩) 2 3)=some ([a,b].flatMap enc,2):=by
  rw[tt hx]
  simp
 exact h1
def vn{α:Type}{h:HL}{v:Value}{e:Nat}{enc:α->List Value}{l:List α}(hs:LsH h v e enc l):chk2 v=some ():=by
 have:bB v=true:=by
  rcases hs.2.2 with⟨rfl,_⟩|⟨id,off,cx,vs,rw',rfl,_,_⟩
  ·rfl
  ·simp[bB,br,tag]
 unfold chk2
 rw[this]
 rfl
def clipC_c{h:HL}{x:Value}{l:List Crs}(hl:LsH h x 3 encC l):∃x',aK cc ab 58 [.v x] (absH aa h) [.v x'] (absH aa h)/\LsH h x' 3 encC l/\ba x'=true:=by
 obtain⟨x',h1,h2,h3,h4⟩:=sl_clip hl
 refine⟨x',xK x58 (glsV hl.good gls0) ?_,h2,h3⟩
 unfold f58;simp only[qxh]
 simp(disch:=omega)only[↓qXX]
 refine be hl (be hl (af h1 (aD h3 ?_)))
 exact⟨by trivial,by trivial⟩
def lift5{w:Nat}(hw:w<=256):∀ {l:List Crs},(∀c∈l,okU w c)->∃J:List C5,J.map crF=l
 | [],_=>⟨[],rfl⟩
 |c :: l,h=>by
  obtain⟨J,hJ⟩:=lift5 hw λa ha=>h a (qam _ ha)
  obtain⟨⟨u,e,h1,h2,h3⟩,h4,h5⟩:=h c qaA
  obtain⟨a1,a2,_⟩:=wm h3
  obtain⟨k,hk⟩:=Int.eq_ofNat_of_zero_le (show 0<=c.2.2 by omega)
  rw[hk]at h4 h5
  refine⟨(⟨u,by omega⟩,⟨e,a2⟩,⟨k,by omega⟩) :: J,?_⟩
  rw[qav,hJ]
  congr 1
  exact qcL h1.symm (qcL h2.symm hk.symm)
def len0:Cc 62 [.i 0] [.i 0]:=uF (by kernel_rfl) rfl (by kernel_rfl) rfl
def sort0_c{H:HL}{v:Value}(hv:LsH H v 3 encC []):aK cc ab 56 [.v v,.v wA] (absH aa H) [] (absH aa H):=by
 obtain⟨rs,h',h1,e1,e2⟩:=x56 (ls:=[.v v,.v wA]) (K:=λrs h'=>rs=[]/\h'=H) (H:=H) (glsV hv.good (glsV rfl gls0)) (by
  unfold f56;simp only[qxh]
  repeat (first|simp(disch:=omega)only[↓qXX]|refine be hv ?_|refine ae len0 ?_)
  obtain⟨rs,h',g1,g2,g3⟩:=x66 (ls:=[.v v,.i 0,.i (Int.ofNat ([]:List Crs).length),.i 0,.v wA]) (K:=λrs h'=>rs=[]/\h'=H) (H:=H) (glsV hv.good (glsI (glsI (glsI (glsV rfl gls0))))) (by
   unfold f66;simp only[qxh]
   simp(disch:=omega)only[↓qXX]
   refine⟨1,?_⟩
   refine hidL ?_
   rw[show Int.ofNat ([]:List Crs).length=0 from rfl]
   simp(disch:=omega)only[↓qXX]
   try rw[p_sub (by omega) (by omega)]
   try simp(disch:=omega)only[↓qXX]
   obtain⟨rs,h',g1,g2,g3⟩:=x84 (ls:=[.v v,.i 0,.i 0,.v wA]) (K:=λrs h'=>rs=[]/\h'=H) (H:=H) (glsV hv.good (glsI (glsI (glsV rfl gls0)))) (by
    unfold f84;simp only[qxh]
    simp(disch:=omega)only[↓qXX]
    refine⟨1,?_⟩
    refine hidL ?_
    simp(disch:=omega)only[↓qXX]
    exact⟨by trivial,by trivial⟩)
   rw[g2,g3]at g1
   refine av g1 ?_
   simp(disch:=omega)only[↓qXX]
   exact⟨by trivial,by trivial⟩)
  rw[g2,g3]at g1
  refine av g1 ?_
  simp(disch:=omega)only[↓qXX]
  exact⟨by trivial,by trivial⟩)
 rw[e1,e2]at h1
 exact h1
def asc5{D:List C5}(h:D.Pairwise λx y=>¬k5 y<k5 x)(hn:((D.map crF).map cJ).Nodup):(D.map crF).Pairwise λa b=>ltC a b=true:=by
 rw[qcB,List.Nodup,qcx]at hn
 refine qcx.2 ((h.and hn).imp λ{x y} ⟨h1,h2⟩=>?_)
 have hx:=x.2.1.isLt
 have hy:=y.2.1.isLt
 have hne:¬(x.1.val=y.1.val/\x.2.1.val=y.2.1.val):=λ⟨e1,e2⟩=>h2 (by
  show cJ (crF x)=cJ (crF y)
  unfold cJ crF
  rw[e1,e2])
 unfold k5 at h1
 simp only[qaT]at h1
 unfold ltC crF
 simp only[qbo,qaa,decide_eq_true_eq,qaT]
 omega
def io{s:Nat}(h:s<=100000){K:Int->Prop}:P1.ari .mul .i64 4 (Int.ofNat s) (@hid _ ⟨K⟩)=K (Int.ofNat (4*s)):=by
 rw[p_mul (by show(-9223372036854775808:Int)<=4*(s:Int);omega) (by show 4*(s:Int)<=9223372036854775807;omega)]
 congr 1
def vA{l:List (Lf×Lf)}{t:Bool}{K:Bool->Prop}(h:ca l=t)(hk:K t):P1.eqs l (@hid _ ⟨K⟩):=by
 subst h
 exact hk
def pattern_c{H:HL}{x:Value}{ws:List Nat}(hl:LsH H x 1 encS ws)(hok:∀z∈ws,1<=z/\z<=4)(h3:Ok3 ws)(hn:ws.length<=250) :
  ∃h' v l,aK cc ab 42 [.v x] (absH aa H) [.i (Int.ofNat (1+nmv ws)),.i 1,.v v,.i 0] (absH aa h')/\LsH h' v 3 encC l/\l.Perm (outW ws 0 true)/\(l.Pairwise λa b=>ltC a b=true)/\Low H.length H h'/\H.length<=h'.length:=by
 obtain⟨rs,h',e1,v,l,rfl,e2⟩:=x42 (ls:=[.v x]) (H:=H) (K:=λrs h'=>∃v l,rs=[.i (Int.ofNat (1+nmv ws)),.i 1,.v v,.i 0]/\LsH h' v 3 encC l/\l.Perm (outW ws 0 true)/\(l.Pairwise λa b=>ltC a b=true)/\Low H.length H h'/\H.length<=h'.length) (glsV hl.good gls0) (by
  unfold f42;simp only[qxh]
  simp(disch:=omega)only[↓qXX]
  refine av (length_c hl hok h3 (by omega)) ?_
  simp(disch:=omega)only[↓qXX]
  refine be hl ?_
  change P1.loop _ [.i 0,.b true,.i 0,.i (Int.ofNat (1+nmv ws)),.i 1,.v (.slice none 0 0)] _
  refine cB (σ:=(Nat×Bool×List Crs)×Value×HL) ws.length (λj s=>[.i (Int.ofNat s.1.1),.b s.1.2.1,.i (Int.ofNat j),.i (Int.ofNat (1+nmv ws)),.i 1,.v s.2.1]) (λ_ s=>s.2.2) (λj s=>OwnL H.length s.2.2 s.2.1 3 encC s.1.2.2/\s.1.2.2++outW (ws.drop j) s.1.1 s.1.2.1=outW ws 0 true/\s.1.1<=j/\s.1.2.2.length<=2*j/\Low H.length H s.2.2/\H.length<=s.2.2.length) (j0:=0) (s0:=((0,true,[]),.slice none 0 0,H)) rfl rfl (qaU _) ⟨OwnL.nil _ _ _ _,by simp,qah _,by simp,Low.refl _,qah _⟩ ?_
  rintro j ⟨⟨s,up,out⟩,v,h⟩ hj ⟨ho,hout,hs,hlen,hlow,hle⟩ self hself
  simp only at ho hout hs hlen hlow hle hself
  have hl':=hl.low hlow
  simp(disch:=omega)only[↓qXX]
  by_cases hlt:j<ws.length
  case pos=>
   rw[aP hlt]
   simp(disch:=omega)only[↓qXX]
   obtain⟨z,hz⟩:=aU hlt
   have hz4:=hok z (qab hz)
   have hdr:ws.drop j=z :: ws.drop (j+1):=by
    rw[qaY hlt]
    rw[qai hlt]at hz
    rw[qae hz]
   rw[hdr]at hout
   refine aS hl' rfl hz ?_
   unfold encS
   simp(disch:=omega)only[↓qXX]
   have z4:z=1∨z=2∨z=3∨z=4:=by omega
   cases up with
   |true=>
    simp(disch:=omega)only[↓qXX]
    rcases z4 with rfl|rfl|rfl|rfl
    · -- z=1,up=true
     rw[p_eql_t (by rfl)]
     simp(disch:=omega)only[↓qXX]
     rw[aR (by omega)]
     try simp(disch:=omega)only[↓qXX]
     rw[aR (by omega)]
     exact hself ((s+1,true,out),v,h) hlt ⟨ho,by simpa[outW]using hout,by show s+1<=j+1;omega,by show out.length<=2*(j+1);omega,hlow,hle⟩
    · -- z=2,up=true
     rw[p_eql_f (by decide)]
     simp(disch:=omega)only[↓qXX]
     rw[p_eql_t (by rfl)]
     simp(disch:=omega)only[↓qXX]
     rw[io (by omega)]
     try simp(disch:=omega)only[↓qXX]
     rw[aR (by omega)]
     simp(disch:=omega)only[↓qXX]
     refine ho.ap1 (a:=(Int.ofNat (4*s+1),0,kd true)) eN hle rfl rfl rfl (pn (by omega)) λv' h' b1 b2 b3 b4 b5=>?_
     simp(disch:=omega)only[↓qXX]
     refine aD b2 ?_
     try simp(disch:=omega)only[↓qXX]
     rw[aR (by omega)]
     try simp(disch:=omega)only[↓qXX]
     rw[aR (by omega)]
     exact hself ((s+1,false,out++[(Int.ofNat (4*s+1),0,kd true)]),v',h') hlt ⟨b1,by simpa[outW,kd]using hout,by show s+1<=j+1;omega,by show(out++_).length<=_;simp;omega,λi o hi hoo=>b3 i o (hlow i o hi hoo) λe=>by
      have:=(ho.blk e).1
      omega,by show H.length<=h'.length;omega⟩
    · -- z=3,up=true
     rw[p_eql_f (by decide)]
     simp(disch:=omega)only[↓qXX]
     rw[p_eql_f (by decide)]
     simp(disch:=omega)only[↓qXX]
     rw[p_eql_t (by rfl)]
     simp(disch:=omega)only[↓qXX]
     try (refine vA (t:=true) rfl ?_;simp(disch:=omega)only[↓qXX])
     rw[io (by omega)]
     try simp(disch:=omega)only[↓qXX]
     rw[io (by omega)]
     try simp(disch:=omega)only[↓qXX]
     rw[aR (by omega)]
     simp(disch:=omega)only[↓qXX]
     refine ap2 (a:=(Int.ofNat (4*s),2,kd true)) (b:=(Int.ofNat (4*s+1),2,kd true)) eN ho hle rfl rfl rfl (pn (by omega)) λv' h' b1 b2 b3 b4=>?_
     simp(disch:=omega)only[↓qXX]
     refine aD b2 ?_
     try simp(disch:=omega)only[↓qXX]
     rw[aR (by omega)]
     exact hself ((s,false,out++[(Int.ofNat (4*s),2,kd true),(Int.ofNat (4*s+1),2,kd true)]),v',h') hlt ⟨b1,by simpa[outW,kd]using hout,by show s<=j+1;omega,by show(out++_).length<=_;simp;omega,λi o hi hoo=>b3 i o (hlow i o hi hoo) λe=>by
      have:=(ho.blk e).1
      omega,by show H.length<=h'.length;omega⟩
    · -- z=4,up=true
     rw[p_eql_f (by decide)]
     simp(disch:=omega)only[↓qXX]
     rw[p_eql_f (by decide)]
     simp(disch:=omega)only[↓qXX]
     rw[p_eql_f (by decide)]
     simp(disch:=omega)only[↓qXX]
     try (refine vA (t:=false) rfl ?_;simp(disch:=omega)only[↓qXX])
     rw[io (by omega)]
     try simp(disch:=omega)only[↓qXX]
     rw[io (by omega)]
     try simp(disch:=omega)only[↓qXX]
     rw[p_add (by show(-9223372036854775808:Int)<=((4*s:Nat):Int)+2;omega) (by show((4*s:Nat):Int)+2<=9223372036854775807;omega)]
     simp(disch:=omega)only[↓qXX]
     refine ap2 (a:=(Int.ofNat (4*s),1,kd true)) (b:=(Int.ofNat (4*s+2),1,kd true)) eN ho hle rfl rfl rfl (pn (by omega)) λv' h' b1 b2 b3 b4=>?_
     simp(disch:=omega)only[↓qXX]
     refine aD b2 ?_
     try simp(disch:=omega)only[↓qXX]
     rw[aR (by omega)]
     exact hself ((s,false,out++[(Int.ofNat (4*s),1,kd true),(Int.ofNat (4*s+2),1,kd true)]),v',h') hlt ⟨b1,by simpa[outW,kd]using hout,by show s<=j+1;omega,by show(out++_).length<=_;simp;omega,λi o hi hoo=>b3 i o (hlow i o hi hoo) λe=>by
      have:=(ho.blk e).1
      omega,by show H.length<=h'.length;omega⟩
   |false=>
    simp(disch:=omega)only[↓qXX]
    rcases z4 with rfl|rfl|rfl|rfl
    · -- z=1,up=false
     rw[p_eql_t (by rfl)]
     simp(disch:=omega)only[↓qXX]
     rw[aR (by omega)]
     try simp(disch:=omega)only[↓qXX]
     rw[aR (by omega)]
     exact hself ((s+1,false,out),v,h) hlt ⟨ho,by simpa[outW]using hout,by show s+1<=j+1;omega,by show out.length<=2*(j+1);omega,hlow,hle⟩
    · -- z=2,up=false
     rw[p_eql_f (by decide)]
     simp(disch:=omega)only[↓qXX]
     rw[p_eql_t (by rfl)]
     simp(disch:=omega)only[↓qXX]
     rw[io (by omega)]
     try simp(disch:=omega)only[↓qXX]
     rw[aR (by omega)]
     simp(disch:=omega)only[↓qXX]
     refine ho.ap1 (a:=(Int.ofNat (4*s+1),0,kd false)) eN hle rfl rfl rfl (pn (by omega)) λv' h' b1 b2 b3 b4 b5=>?_
     simp(disch:=omega)only[↓qXX]
     refine aD b2 ?_
     try simp(disch:=omega)only[↓qXX]
     rw[aR (by omega)]
     try simp(disch:=omega)only[↓qXX]
     rw[aR (by omega)]
     exact hself ((s+1,true,out++[(Int.ofNat (4*s+1),0,kd false)]),v',h') hlt ⟨b1,by simpa[outW,kd]using hout,by show s+1<=j+1;omega,by show(out++_).length<=_;simp;omega,λi o hi hoo=>b3 i o (hlow i o hi hoo) λe=>by
      have:=(ho.blk e).1
      omega,by show H.length<=h'.length;omega⟩
    · -- z=3,up=false
     rw[p_eql_f (by decide)]
     simp(disch:=omega)only[↓qXX]
     rw[p_eql_f (by decide)]
     simp(disch:=omega)only[↓qXX]
     rw[p_eql_t (by rfl)]
     simp(disch:=omega)only[↓qXX]
     try (refine vA (t:=false) rfl ?_;simp(disch:=omega)only[↓qXX])
     rw[io (by omega)]
     try simp(disch:=omega)only[↓qXX]
     rw[io (by omega)]
     try simp(disch:=omega)only[↓qXX]
     rw[p_add (by show(-9223372036854775808:Int)<=((4*s:Nat):Int)+2;omega) (by show((4*s:Nat):Int)+2<=9223372036854775807;omega)]
     simp(disch:=omega)only[↓qXX]
     refine ap2 (a:=(Int.ofNat (4*s),1,kd false)) (b:=(Int.ofNat (4*s+2),1,kd false)) eN ho hle rfl rfl rfl (pn (by omega)) λv' h' b1 b2 b3 b4=>?_
     simp(disch:=omega)only[↓qXX]
     refine aD b2 ?_
     try simp(disch:=omega)only[↓qXX]
     rw[aR (by omega)]
     exact hself ((s,true,out++[(Int.ofNat (4*s),1,kd false),(Int.ofNat (4*s+2),1,kd false)]),v',h') hlt ⟨b1,by simpa[outW,kd]using hout,by show s<=j+1;omega,by show(out++_).length<=_;simp;omega,λi o hi hoo=>b3 i o (hlow i o hi hoo) λe=>by
      have:=(ho.blk e).1
      omega,by show H.length<=h'.length;omega⟩
    · -- z=4,up=false
     rw[p_eql_f (by decide)]
     simp(disch:=omega)only[↓qXX]
     rw[p_eql_f (by decide)]
     simp(disch:=omega)only[↓qXX]
     rw[p_eql_f (by decide)]
     simp(disch:=omega)only[↓qXX]
     try (refine vA (t:=true) rfl ?_;simp(disch:=omega)only[↓qXX])
     rw[io (by omega)]
     try simp(disch:=omega)only[↓qXX]
     rw[io (by omega)]
     try simp(disch:=omega)only[↓qXX]
     rw[aR (by omega)]
     simp(disch:=omega)only[↓qXX]
     refine ap2 (a:=(Int.ofNat (4*s),2,kd false)) (b:=(Int.ofNat (4*s+1),2,kd false)) eN ho hle rfl rfl rfl (pn (by omega)) λv' h' b1 b2 b3 b4=>?_
     simp(disch:=omega)only[↓qXX]
     refine aD b2 ?_
     try simp(disch:=omega)only[↓qXX]
     rw[aR (by omega)]
     exact hself ((s,true,out++[(Int.ofNat (4*s),2,kd false),(Int.ofNat (4*s+1),2,kd false)]),v',h') hlt ⟨b1,by simpa[outW,kd]using hout,by show s<=j+1;omega,by show(out++_).length<=_;simp;omega,λi o hi hoo=>b3 i o (hlow i o hi hoo) λe=>by
      have:=(ho.blk e).1
      omega,by show H.length<=h'.length;omega⟩
  obtain rfl:j=ws.length:=by omega
  rw[bb (qah _)]
  simp(disch:=omega)only[↓qXX]
  rw[List.drop_length]at hout
  have hout':out=outW ws 0 true:=by rw[←hout];simp[outW]
  have hw:=fL ws 0 0 0 0 hok
  have hnm:nmv ws<=ws.length:=qcQ _ _
  obtain⟨J,hJ⟩:=lift5 (w:=(ribL ws 0 0 0 0).length) (by omega) (l:=out) λc hc=>out_ok hok h3 (by rw[←hout'];exact hc)
  by_cases h0:0<out.length
  ·rcases ho with⟨_,he⟩|⟨id,cx,rfl,hid,hcell,hcx⟩
   ·rw[he]at h0;simp at h0
   have hJl:J.length=out.length:=by rw[←hJ,qaF]
   obtain⟨D,hD,hDs,hcall⟩:=sort5_c (cx:=cx) (J:=J) (by rw[hJ];exact hcell) (by omega) (by omega)
   rw[hJl]at hcall
   refine av hcall ?_
   clear hcall
   simp(disch:=omega)only[↓qXX]
   have hls:LsH (putE h id 3 encC (D.map crF)) (.slice (some ⟨id,0,tag 3⟩) out.length cx) 3 encC (D.map crF):=by
    have:=putE_ls (cx:=cx) eN (aJ hcell) (l:=D.map crF)
    rw[qaF,hD.length_eq,hJl]at this
    exact this
   obtain⟨x',c1,c2,c3⟩:=clipC_c hls
   refine av c1 ?_
   simp(disch:=omega)only[↓qXX]
   refine af (x:=()) (vn c2) ?_
   have hperm:(D.map crF).Perm (outW ws 0 true):=by
    rw[←hout',←hJ]
    exact hD.map crF
   refine⟨_,_,rfl,c2,hperm,asc5 hDs (pat_ok hok h3 hperm).2.1,λi o hi hoo=>?_,?_⟩
   ·rw[cZ (by omega)]
    exact hlow i o hi hoo
   ·unfold putE
    rw[qbv]
    exact hle
  ·have he:out=[]:=qbp.1 (by omega)
   have hv:=ho.ls eN
   rw[he]at hv
   refine av (sort0_c hv) ?_
   simp(disch:=omega)only[↓qXX]
   obtain⟨x',c1,c2,c3⟩:=clipC_c hv
   refine av c1 ?_
   simp(disch:=omega)only[↓qXX]
   refine af (x:=()) (vn c2) ?_
   refine⟨_,_,rfl,c2,?_,List.Pairwise.nil,hlow,hle⟩
   rw[←hout',he])
 exact⟨h',v,l,e1,e2⟩
end St
namespace St
def imW(ws:List Nat):List Cl:=(List.range (4*(ribL ws 0 0 0 0).length*1)).map (imC (λs=>(dAt (ribL ws 0 0 0 0) s).1) (λs=>(dAt (ribL ws 0 0 0 0) s).2.2.1) (λs=>(dAt (ribL ws 0 0 0 0) s).2.2.2.1) (λs=>(dAt (ribL ws 0 0 0 0) s).2.2.2.2))
def root_f:∀(ws:List Nat),(∀z∈ws,1<=z/\z<=4)->Ok3 ws->jp (dAt (ribL ws 0 0 0 0) 0).1=if ws.head? = some 3 then(7,0,0)else(0,0,0)
 | [],_,_=>rfl
 |z :: ws,hok,h3=>by
  have key:∀(f:Nat),(∀a,ws.head? = some a->a<3)->(∀a∈ws,1<=a)->(dAt (ribL ws f 0 0 0) 0).1=f:=by
   intro f hh hp
   cases ws with
   |nil=>rfl
   |cons a ws=>
    have h1:=hh a rfl
    have h2:=hp a qaA
    have:a=1∨a=2:=by omega
    rcases this with rfl|rfl<;>rfl
  have hz:=hok z qaA
  have hp:∀a∈ws,1<=a:=λa ha=>(hok a (qam _ ha)).1
  have z4:z=1∨z=2∨z=3∨z=4:=by omega
  rcases z4 with rfl|rfl|rfl|rfl
  ·rfl
  ·rfl
  ·show jp (dAt (ribL ws 1 0 0 0) 0).1=_
   rw[key 1 (ji h3 (by omega)) hp]
   rfl
  ·show jp (dAt (ribL ws 2 0 0 0) 0).1=_
   rw[key 2 (ji h3 (by omega)) hp]
   rfl
def qM:∀(ws:List Nat) (s:Nat) (up:Bool),(outW ws s up).length<=2*ws.length
 | [],_,_=>by simp[outW]
 |z :: ws,s,up=>by
  unfold outW
  have h1:=qM ws (s+1) up
  have h2:=qM ws (s+1) (!up)
  have h3:=qM ws s (!up)
  split
  ·simp only[qaE];omega
  ·split
   ·simp only[qaE];omega
   ·split<;>simp only[qaE]<;>omega
def ident_c:Cc 43 [] [.i 0,.i 0,.i 0]:=by
 refine q43 rfl ?_;unfold f43;simp only[qxh]
 try simp(disch:=omega)only[↓qXX]
def imagesW_c{H:HL}{x:Value}{ws:List Nat}(hl:LsH H x 1 encS ws)(hok:∀z∈ws,1<=z/\z<=4)(h3:Ok3 ws)(hn:ws.length<=250)(hn2:nmv ws<=59) :
  ∃h' v,aK cc ab 31 [.v x] (absH aa H) [.v v,.i 0] (absH aa h')/\LsH h' v 3 aB (imW ws)/\Low H.length H h'/\H.length<=h'.length:=by
 obtain⟨h1,v1,l,hcall,hl1,hp,hasc,hlow1,hle1⟩:=pattern_c hl hok h3 hn
 have hw:=fL ws 0 0 0 0 hok
 obtain⟨p1,p2,p3⟩:=pat_ok hok h3 hp
 have hR:=rib_of ws
 have hww:1<=(ribL ws 0 0 0 0).length/\(ribL ws 0 0 0 0).length<=60:=by omega
 have hlen:l.length<=1000:=by
  have h5:=hp.length_eq
  have h6:=qM ws 0 true
  omega
 have hck:=check_c hww hl1 p1 hasc hlen
 obtain⟨ix,h2,hcall2,hpre,hls⟩:=images_c (w:=(ribL ws 0 0 0 0).length) (v:=1) ⟨hww.1,hww.2,rfl⟩ p2 hlen hl1 hck (GR_cons hR hww p3) (GR_0 hR) (λc hc=>GR_ok hR hww.2 hc) (gT (re _) (by omega))
 rw[im_eq hR]at hls
 have hls':LsH h2 ix 3 aB (imW ws):=hls
 have hcall3:aK cc ab 45 ([.i (Int.ofNat (1+nmv ws)),.i 1,.v v1]++mvl (if ws.head? = some 3 then(7,0,0)else(0,0,0))) (absH aa h1) [.v ix,.i 0] (absH aa h2):=by
  rw[←root_f ws hok h3,←hw]
  exact hcall2
 have hl1':=hl.low hlow1
 have hlow2:Low H.length H h2:=λi o hi hoo=>Pre.get hpre (hlow1 i o hi hoo)
 have hle2:H.length<=h2.length:=qbs hle1 hpre.len
 obtain⟨rs,h',e1,rfl,rfl⟩:=x31 (ls:=[.v x]) (H:=H) (K:=λrs h'=>rs=[.v ix,.i 0]/\h'=h2) (glsV hl.good gls0) (by
  unfold f31;simp only[qxh]
  simp(disch:=omega)only[↓qXX]
  refine av hcall ?_
  simp(disch:=omega)only[↓qXX]
  refine ae ident_c ?_
  simp(disch:=omega)only[↓qXX]
  refine be hl1' ?_
  cases ws with
  |nil=>
   rw[p_gtr_f (by simp)]
   simp(disch:=omega)only[↓qXX]
   refine av hcall3 ?_
   simp(disch:=omega)only[↓qXX]
   exact⟨by trivial,by trivial⟩
  |cons z ws=>
   rw[p_gtr_t (by show(0:Int)<((z :: ws).length:Int);simp only[qaE];omega)]
   simp(disch:=omega)only[↓qXX]
   refine aS hl1' (i:=0) (a:=z) rfl rfl ?_
   unfold encS
   simp(disch:=omega)only[↓qXX]
   by_cases hz:z=3
   ·subst hz
    rw[p_eql_t (by rfl)]
    simp(disch:=omega)only[↓qXX]
    refine ae (mlof_c (l:=(4,0)) ⟨by decide,by decide⟩ ⟨by decide,by decide⟩) ?_
    simp only[mvl,ofM,qa5,qaV]
    simp(disch:=omega)only[↓qXX]
    refine av hcall3 ?_
    simp(disch:=omega)only[↓qXX]
    exact⟨by trivial,by trivial⟩
   ·rw[p_eql_f (show Int.ofNat z≠3 from λe=>hz (qb4 e))]
    simp(disch:=omega)only[↓qXX]
    rw[if_neg (by simpa using hz)]at hcall3
    refine av hcall3 ?_
    simp(disch:=omega)only[↓qXX]
    exact⟨by trivial,by trivial⟩)
 exact⟨_,ix,e1,hls',hlow2,hle2⟩
end St
end Go.Am
set_option maxRecDepth 100000
set_option maxHeartbeats 8000000
namespace Go.Am
open Sx Go.Proofs
namespace St
def cmpI(a b:Int):Int:=if a<b then -1 else if b<a then 1 else 0
def orI:List Int->Int
 | []=>0
 |a :: l=>if a=0 then orI l else a
theorem cmpI_0{a b:Int}:cmpI a b=0↔a=b:=by
 unfold cmpI
 split
 ·constructor
  ·intro h;omega
  ·intro h;omega
 ·split
  ·constructor
   ·intro h;omega
   ·intro h;omega
  ·constructor
   ·intro _;omega
   ·intro _;rfl
def encQ(p:Int×Int):List Value:=[.int .i64 p.1,.int .i64 p.2]
def pY(p:Int×Int):(encQ p).length=2:=rfl
def nan_c(a:Int):Cc 83 [.i a] [.b false]:=by
 refine q83 rfl ?_;unfold f83;simp only[qxh]
 simp(disch:=omega)only[↓qXX]
def cmp_c(a b:Int):Cc 65 [.i a,.i b] [.i (cmpI a b)]:=by
 refine q65 rfl ?_;unfold f65;simp only[qxh]
 repeat (first|simp(disch:=omega)only[↓qXX]|refine ae (nan_c a) ?_|refine ae (nan_c b) ?_)
 unfold cmpI
 by_cases h1:a<b
 ·simp(disch:=omega)only[↓qXX]
  simp[h1]
 ·by_cases h2:b<a
  ·simp(disch:=omega)only[↓qXX]
   simp[h1,h2]
  ·simp(disch:=omega)only[↓qXX]
   simp[h1,h2]
def qL{l:List Int}{j:Nat}{a:Int}(ha:l[j]?=some a):orI (l.drop j)=if a=0 then orI (l.drop (j+1))else a:=by
 rw[qaY (aJ ha)]
 have h1:l[j]'(aJ ha)=a:=by rw[qai (aJ ha)]at ha;exact qae ha
 rw[h1]
 rfl
def ord_c{h:HL}{x:Value}{l:List (Int×Int)}(hl:LsH h x 2 encQ l)(hb:l.length<=1000) :
  aK cc ab 55 [.v x] (absH aa h) [.i (orI (l.map λp=>cmpI p.1 p.2))] (absH aa h):=by
 exact xK x55 (glsV hl.good gls0) (by
  unfold f55;simp only[qxh]
  simp(disch:=omega)only[↓qXX]
  refine be hl ?_
  refine dP l.length (λj=>orI (l.map λp=>cmpI p.1 p.2)=orI ((l.map λp=>cmpI p.1 p.2).drop j)) (j0:=0) rfl (qaU _) rfl ?_
  intro j hj he self hself
  simp(disch:=omega)only[↓qXX]
  by_cases hlt:j<l.length
  ·rw[aP hlt]
   simp(disch:=omega)only[↓qXX]
   obtain⟨p,hp⟩:=aU hlt
   refine aS hl rfl hp ?_
   unfold encQ
   repeat (first|simp(disch:=omega)only[↓qXX]|refine ae (cmp_c p.1 p.2) ?_)
   rw[qL (a:=cmpI p.1 p.2) (by rw[qau,hp];rfl)]at he
   by_cases h0:cmpI p.1 p.2=0
   ·rw[p_neq_f h0]
    simp(disch:=omega)only[↓qXX]
    rw[aR (by omega)]
    rw[if_pos h0]at he
    exact hself hlt he
   ·rw[p_neq_t h0]
    simp(disch:=omega)only[↓qXX]
    rw[if_neg h0]at he
    exact⟨by rw[he],by trivial⟩
  ·obtain rfl:j=l.length:=by omega
   rw[bb (qah _)]
   simp(disch:=omega)only[↓qXX]
   refine⟨?_,by trivial⟩
   rw[he,qbr (by rw[qaF];exact qah _)]
   rfl)
def cellCmp_c{x y q x' y' q':Int}(hq:0<=q/\q<=255)(hq':0<=q'/\q'<=255):Cc 41 [.i x,.i y,.i q,.i x',.i y',.i q'] [.i (orI [cmpI y y',cmpI x x',cmpI q q'])]:=by
 refine q41 rfl ?_;unfold f41;simp only[qxh]
 simp(disch:=omega)only[↓qXX]
 refine av (h':=[]++[HO.o (.cells [.int .i64 y,.int .i64 y',.int .i64 x,.int .i64 x',.int .i64 q,.int .i64 q'] 2 true)]) (ord_c (l:=[(y,y'),(x,x'),(q,q')]) ?_ (by simp)) ?_
 ·exact newE_ls (h:=[]) (e:=2) (enc:=encQ) (l:=[(y,y'),(x,x'),(q,q')]) pY (by rfl)
 ·simp(disch:=omega)only[↓qXX]
  rfl
def cmpC(a b:Cl):Int:=orI [cmpI a.2.1 b.2.1,cmpI a.1 b.1,cmpI (Int.ofNat a.2.2) (Int.ofNat b.2.2)]
def ltL(a b:Cl):Prop:=a.2.1<b.2.1∨(a.2.1=b.2.1/\(a.1<b.1∨(a.1=b.1/\a.2.2<b.2.2)))
instance (a b : Cl) : Decidable (ltL a b) := by unfold ltL; exact inferInstance
def cmpC_lt(a b:Cl):cmpC a b<0↔ltL a b:=by
 unfold cmpC ltL
 simp only[orI]
 have h1:=@cmpI_0 a.2.1 b.2.1
 have h2:=@cmpI_0 a.1 b.1
 have e1:cmpI a.2.1 b.2.1<0↔a.2.1<b.2.1:=by unfold cmpI;split<;>(try split)<;>omega
 have e2:cmpI a.1 b.1<0↔a.1<b.1:=by unfold cmpI;split<;>(try split)<;>omega
 have e3:cmpI (Int.ofNat a.2.2) (Int.ofNat b.2.2)<0↔a.2.2<b.2.2:=by
  have:(Int.ofNat a.2.2<Int.ofNat b.2.2)↔a.2.2<b.2.2:=Int.ofNat_lt
  unfold cmpI
  split<;>(try split)<;>omega
 have e4:=@cmpI_0 (Int.ofNat a.2.2) (Int.ofNat b.2.2)
 split
 next g1=>
  split
  next g2=>
   split
   next g3=>
    have:=e4.1 g3
    have:a.2.2=b.2.2:=qb4 this
    omega
   ·omega
  ·omega
 ·omega
def ltL_tri{a b:Cl}:ltL a b∨a=b∨ltL b a:=by
 obtain⟨a1,a2,a3⟩:=a
 obtain⟨b1,b2,b3⟩:=b
 simp only[ltL,qb9]
 omega
def mO{a:Cl}:¬ltL a a:=by unfold ltL;omega
def ltL_tr{a b c:Cl}(h:ltL a b)(k:ltL b c):ltL a c:=by unfold ltL at *;omega
abbrev C4:=Int×Int×Fin 4
def clF(a:C4):Cl:=(a.1,a.2.1,a.2.2.val)
def enc4(a:C4):List Value:=aB (clF a)
def cf4(a b:C4):Int:=cmpC (clF a) (clF b)
def lt4(a b:C4):Go.Proofs.ltOf cf4 a b=decide (ltL (clF a) (clF b)):=by
 unfold Go.Proofs.ltOf cf4
 rw[decide_eq_decide]
 exact cmpC_lt _ _
def swo4:Go.Sort.SWO (Go.Proofs.ltOf cf4) where
 irrefl x:=by rw[lt4,decide_eq_false];exact mO
 trans x y z h1 h2:=by
  rw[lt4,decide_eq_true_eq]at *
  exact ltL_tr h1 h2
 ntrans x y z h1 h2:=by
  rw[lt4,decide_eq_false_iff_not]at *
  intro h
  unfold ltL at *
  omega
def cmp4(a b:C4):cK cc 41 [.agg ⟨enc4 a⟩,.agg ⟨enc4 b⟩] [] (.int .i64 (cf4 a b)) []:=by
 have ha:=a.2.2.isLt
 have hb:=b.2.2.isLt
 have hc:=cellCmp_c (x:=a.1) (y:=a.2.1) (q:=Int.ofNat a.2.2.val) (x':=b.1) (y':=b.2.1) (q':=Int.ofNat b.2.2.val) (by simp only[qaT];omega) (by simp only[qaT];omega) []
 exact fX (N:=neuN) mixed (Sg:=ab) (sg:=⟨[.agg [.i .i64,.i .i64,.i .u8],.agg [.i .i64,.i .i64,.i .u8]],[li]⟩) rfl hc (xs:=[.agg [.i .i64 a.1,.i .i64 a.2.1,.i .u8 (Int.ofNat a.2.2.val)],.agg [.i .i64 b.1,.i .i64 b.2.1,.i .u8 (Int.ofNat b.2.2.val)]]) rfl rfl (ys:=[.leaf (.i .i64 (cf4 a b))]) rfl rfl
abbrev cloC:Value:=.func (.func 41) ⟨[]⟩ ⟨[]⟩
def sort_c{H:HL}{id cx:Nat}{J:List C4}(hid:H[id]?=some (.o (.cells ((J.map clF).flatMap aB) 3 true)))(h0:0<J.length)(hl:J.length<=100000) :
  ∃D:List C4,D.Perm J/\(D.Pairwise λx y=>¬ltL (clF y) (clF x))/\aK cc ab 47 [.v (.slice (some ⟨id,0,tag 3⟩) J.length cx),.v cloC] (absH aa H) [] (absH aa (putE H id 3 aB (D.map clF))):=by
 have e1:∀L:List C4,(L.map clF).flatMap aB=L.flatMap enc4:=λL=>by rw[List.flatMap_map];rfl
 refine⟨srt cf4 J,wc swo4 J,?_,?_⟩
 ·refine(vZ swo4 J).imp λ{x y} h=>?_
  rw[lt4,decide_eq_false_iff_not]at h
  exact h
 ·have hid2:(absH aa H)[id]?=some (.cells (J.flatMap enc4) 3 true):=by
   rw[←e1]
   unfold absH
   rw[qau,hid]
   rfl
  have hok:=nz (C:=cc) gw layS (enc:=enc4) (e:=3) (λw=>by kernel_rfl) (λw=>by kernel_rfl) (λ_=>rfl) (λx v hv=>by
   simp only[enc4,aB,qal,qbm,or_false]at hv
   rcases hv with rfl|rfl|rfl<;>rfl) swo4 (g:=41) (λargs w=>by kernel_rfl) cmp4 (cx:=cx) hid2 rfl h0 (by omega)
  have hset:(absH aa H).set id (.cells ((srt cf4 J).flatMap enc4) 3 true)=absH aa (putE H id 3 aB ((srt cf4 J).map clF)):=by
   unfold putE
   rw[e1,rD]
   rfl
  rw[hset]at hok
  exact⟨⟨[lv,lv],[]⟩,[.leaf (.v (.slice (some ⟨id,0,tag 3⟩) J.length cx)),.leaf (.v cloC)],[],rfl,⟨rfl,rfl,λy hy=>by
   simp only[qal,qbm,or_false]at hy
   rcases hy with rfl|rfl
   ·exact am (show ba (.slice (some ⟨id,0,tag 3⟩) J.length cx)=true by simp[ba,noLoc,bk,bB,br,aV,aG,tag])
   ·exact am rfl⟩,⟨rfl,rfl,λy hy=>by cases hy⟩,⟨0,.inr ⟨.inl (by kernel_rfl),hok⟩⟩⟩
end St
namespace St
def vCl(c:Cl):Bool:=decide (-4096<=c.1/\c.1<=4096/\-4096<=c.2.1/\c.2.1<=4096)
def cchk_any{c:Cl}(hq:c.2.2<4):Cc 54 (cll c) [.i (if vCl c then 0 else 1)]:=by
 by_cases hv:vCl c=true
 ·rw[if_pos hv]
  unfold vCl at hv
  rw[decide_eq_true_eq]at hv
  exact rM ⟨hv.1,hv.2.1,hv.2.2.1,hv.2.2.2,hq⟩
 ·rw[if_neg hv]
  unfold vCl at hv
  rw[decide_eq_true_eq]at hv
  refine q54 rfl ?_;unfold f54;simp only[qxh]
  simp only[cll]
  simp(disch:=omega)only[↓qXX]
  by_cases h1:c.1 < -4096
  ·repeat (first|simp(disch:=omega)only[↓qXX])
   try rfl
  by_cases h2:4096<c.1
  ·repeat (first|simp(disch:=omega)only[↓qXX])
   try rfl
  by_cases h3:c.2.1 < -4096
  ·repeat (first|simp(disch:=omega)only[↓qXX])
   try rfl
  ·have h4:4096<c.2.1:=by omega
   repeat (first|simp(disch:=omega)only[↓qXX])
   try rfl
def Ful{α:Type}(h:HL)(x:Value)(e:Nat)(enc:α->List Value)(l:List α):Prop:=∃id,x = .slice (some ⟨id,0,tag e⟩) l.length (l.length+1)/\h[id]?=some (.o (.cells (l.flatMap enc) e true))
def Ful.ls{α:Type}{h:HL}{x:Value}{e:Nat}{enc:α->List Value}{l:List α}(henc:∀a,(enc a).length=e)(hf:Ful h x e enc l):LsH h x e enc l:=by
 obtain⟨id,rfl,h1⟩:=hf
 exact jS henc h1 rfl
def Ful.pre{α:Type}{h h':HL}{x:Value}{e:Nat}{enc:α->List Value}{l:List α}(hf:Ful h x e enc l)(hp:Pre h h'):Ful h' x e enc l:=by
 obtain⟨id,rfl,h1⟩:=hf
 exact⟨id,rfl,hp.get h1⟩
def Ful.cap{α:Type}{h:HL}{x:Value}{e:Nat}{enc:α->List Value}{l:List α}(hf:Ful h x e enc l):capS x=some (Int.ofNat l.length):=by
 obtain⟨id,rfl,h1⟩:=hf
 exact cap_full
abbrev cloW:Value:=.func (.func 53) ⟨[]⟩ ⟨[]⟩
def okCl(c:Cl):Prop:=vCl c=true/\c.2.2<4
def ry{c:Cl}(h:okCl c):Cc 53 (cll c) [.b false]:=by
 refine q53 rfl ?_;unfold f53;simp only[qxh]
 simp only[cll]
 simp(disch:=omega)only[↓qXX]
 refine ae (cchk_any (c:=c) h.2) ?_
 rw[if_pos h.1]
 simp(disch:=omega)only[↓qXX]
def qt{h:HL}{x:Value}{l:List Cl}(hl:LsH h x 3 aB l)(hok:∀c∈l,okCl c)(hn:l.length<=100000):aK cc ab 64 [.v x,.v cloW] (absH aa h) [.i (-1)] (absH aa h):=by
 exact xK x64 (glsV hl.good (glsV rfl gls0)) (by
  unfold f64;simp only[qxh]
  simp(disch:=omega)only[↓qXX]
  refine be hl ?_
  refine dP l.length (λ_=>True) rfl (qaU _) trivial ?_
  intro j hj _ self hself
  simp(disch:=omega)only[↓qXX]
  by_cases hlt:j<l.length
  ·rw[aP hlt]
   simp(disch:=omega)only[↓qXX]
   obtain⟨c,hc⟩:=aU hlt
   refine aS hl rfl hc ?_
   unfold aB
   repeat (first|simp(disch:=omega)only[↓qXX]|refine iJ (lA (ry (hok c (qab hc)) _) rfl [.agg [.i .i64 c.1,.i .i64 c.2.1,.i .u8 (Int.ofNat c.2.2)]] rfl rfl) ?_)
   rw[aR (by omega)]
   exact hself hlt trivial
  ·rw[bb (by omega)]
   simp(disch:=omega)only[↓qXX]
   exact⟨by trivial,by trivial⟩)
def uH{h:HL}{x:Value}{l:List Cl}(hl:LsH h x 3 aB l)(hok:∀c∈l,okCl c)(hn:l.length<=100000):aK cc ab 40 [.v x] (absH aa h) [.b false] (absH aa h):=by
 have h1:=qt hl hok hn
 obtain⟨rs,h',h3,rfl,e3⟩:=x52 (ls:=[.v x,.v cloW]) (K:=λrs h'=>rs=[.b false]/\h'=h) (H:=h) (glsV hl.good (glsV rfl gls0)) (by
  unfold f52;simp only[qxh]
  repeat (first|simp(disch:=omega)only[↓qXX]|refine av h1 ?_)
  exact⟨by trivial,by trivial⟩)
 rw[e3]at h3
 exact xK x40 (glsV hl.good gls0) (by
  unfold f40;simp only[qxh]
  repeat (first|simp(disch:=omega)only[↓qXX]|refine av h3 ?_)
  exact⟨by trivial,by trivial⟩)
def r_apE{α:Type}{e kb:Nat}{enc:α->List Value}{h:HL}{x:Value}{new:List α}{m:Nat}{K:List Value->HL->Prop}(hg:h[m]?=some (.o (.cells [] e true)))(hx:LsH h x e enc new)(hn:0<new.length)(hb:new.length*kb<=140737488355328)(hb':new.length<=140737488355328)
  (hk:K [.slice (some ⟨h.length,0,tag e⟩) new.length 0] (h++[.o (.cells (new.flatMap enc) e true)])) :
  P1.heap (.ap cc e kb (.slice (some ⟨m,0,tag e⟩) 0 1) x) h (@hid _ ⟨K⟩):=by
 have hsz:bC (0+new.length) kb=true:=by
  rw[qaM]
  unfold bC
  rw[qaX hb',qaX hb];rfl
 have hcut:cut ([]:List Value) 0 (0*e)=some []:=Sx.cut_all (by simp)
 have hrun:apG cc e kb (.slice (some ⟨m,0,tag e⟩) 0 1) x (getH aa h) h.length=some ([.push (.cells ([]++new.flatMap enc) e true)],[.slice (some ⟨h.length,0,tag e⟩) (0+new.length) 0]):=by
  unfold apG
  rw[tt hx.2]
  simp only[ne_eq,not_true_eq_false,if_false]
  rw[bM hg]
  simp only[ne_eq,not_true_eq_false,if_false]
  rw[hcut]
  simp only
  rw[if_neg (by omega),if_pos hsz]
 refine cg (show(Hp.ap cc e kb (.slice (some ⟨m,0,tag e⟩) 0 1) x).run _ _=_ from hrun) ?_
 rw[qaM]
 exact hk
abbrev sl3(id n cx:Nat):Value:=.slice (some ⟨id,0,tag 3⟩) n cx
def clone_c{h:HL}{x:Value}{l:List Cl}(hl:LsH h x 3 aB l)(h0:0<l.length)(hn:l.length<=100000):aK cc ab 46 [.v x] (absH aa h) [.v (sl3 (h.length+1) l.length 0)] (absH aa (h++[.o (.cells [] 3 true),.o (.cells (l.flatMap aB) 3 true)])):=by
 have hx:∃a n c,x = .slice (some a) n c:=by
  rcases hl.2.2 with⟨_,hz⟩|⟨id,off,cx,vs,rw',rfl,_,_⟩
  ·omega
  ·exact⟨_,_,_,rfl⟩
 exact xK x46 (glsV hl.good gls0) (by
  unfold f46;simp only[qxh]
  simp(disch:=omega)only[↓qXX]
  obtain⟨a,n,c,rfl⟩:=hx
  repeat (first|simp(disch:=omega)only[↓qXX]|refine af (x:=false) rfl ?_|refine r_apE (kb:=24) (h:=h++[.o (.cells [] 3 true)]) (m:=h.length) aQ (hl.pre ⟨_,rfl⟩) h0 (by omega) (by omega) ?_)
  refine aD (by simp[ba,noLoc,bk,bB,br,aV,aG,tag]) ?_
  refine⟨by simp,by simp⟩)
def cmN(L:List Cl):Nat->List Cl
 |0=>[]
 |n+1=>match L[n]? with
  |none=>cmN L n
  |some c=>if 0<n/\L[n - 1]?=some c then cmN L n else cmN L n++[c]
def cmN_len{L:List Cl}:∀n,(cmN L n).length<=n
 |0=>qah _
 |n+1=>by
  have:=cmN_len (L:=L) n
  unfold cmN
  split
  ·omega
  ·split
   ·omega
   ·rw[qaC];simp only[qaE,qbH];omega
def ls_off{α:Type}{e:Nat}{enc:α->List Value}(henc:∀a,(enc a).length=e){h:HL}{id cx o n:Nat}{L:List α}(hg:h[id]?=some (.o (.cells (L.flatMap enc) e true)))(ho:o<=L.length)(hn:n=L.length - o):LsH h (.slice (some ⟨id,o*e,tag e⟩) n cx) e enc (L.drop o):=by
 have hd:(L.drop o).length=n:=by rw[qbK];omega
 refine⟨λa _=>henc a,aI λa _=>henc a,.inr ⟨id,o*e,cx,_,true,by rw[hd],hg,?_⟩⟩
 have e1:L.flatMap enc=(L.take o).flatMap enc++(L.drop o).flatMap enc:=by rw[←qcg,qby]
 have e2:((L.take o).flatMap enc).length=o*e:=by rw[aI λa _=>henc a,qaJ,qa7 ho]
 have e3:((L.drop o).flatMap enc).length=(L.drop o).length*e:=aI λa _=>henc a
 rw[Sx.cut_some]
 refine⟨by rw[e1,qaC,e2,e3];exact qah _,?_⟩
 rw[e1,←e2,List.drop_left',←e3,qbn]
 rfl
end St
namespace St
abbrev zC:Cl:=(0,0,0)
def ls_pre{α:Type}{e:Nat}{enc:α->List Value}(henc:∀a,(enc a).length=e){h:HL}{id cx k:Nat}{L:List α}(hg:h[id]?=some (.o (.cells (L.flatMap enc) e true)))(hk:k<=L.length):LsH h (.slice (some ⟨id,0,tag e⟩) k cx) e enc (L.take k):=by
 have hd:(L.take k).length=k:=by rw[qaJ];omega
 refine⟨λa _=>henc a,aI λa _=>henc a,.inr ⟨id,0,cx,_,true,by rw[hd],hg,?_⟩⟩
 have e1:L.flatMap enc=(L.take k).flatMap enc++(L.drop k).flatMap enc:=by rw[←qcg,qby]
 have e3:((L.take k).flatMap enc).length=(L.take k).length*e:=aI λa _=>henc a
 rw[Sx.cut_some]
 refine⟨by rw[e1,qaC,e3];omega,?_⟩
 rw[qa6,e1,←e3,qds]
 rfl
def vV{id n cx o k:Nat}{x:Int}(hx:x=Int.ofNat k)(hk:k<=n):slS 3 (.slice (some ⟨id,o,tag 3⟩) n cx) (some x) none none=some (.slice (some ⟨id,o+k*3,tag 3⟩) (n - k) (cx - k)):=by
 subst hx
 unfold slS
 simp only
 rw[if_neg (by simp),if_pos (by simp[cr];omega)]
 simp[dB,bG]
def slS_upto{id n cx o k:Nat}{x:Int}(hx:x=Int.ofNat k)(hk:k<=n):slS 3 (.slice (some ⟨id,o,tag 3⟩) n cx) none (some x) none=some (.slice (some ⟨id,o,tag 3⟩) k cx):=by
 subst hx
 unfold slS
 simp only
 rw[if_neg (by simp),if_pos (by simp[cr];omega)]
 simp[dB,bG]
def wJ{id o n cx:Nat}:ba (.slice (some ⟨id,o,tag 3⟩) n cx)=true:=by simp[ba,noLoc,bk,bB,br,aV,aG,tag]
def clear_r{h:HL}{id k n c:Nat}{L:List Cl}{K:List Value->HL->Prop}(hlt:id<h.length)(hn:n=L.length - k)(hk:k<=L.length)(hK:K [] (putE h id 3 aB (L.take k++List.replicate n zC))) :
  P1.heap (.fn (clG 3 [.int .i64 0,.int .i64 0,.int .u8 0] (.slice (some ⟨id,k*3,tag 3⟩) n c))) (putE h id 3 aB L) (@hid _ ⟨K⟩):=by
 have hz:bm [.int .i64 0,.int .i64 0,.int .u8 0] n=(List.replicate n zC).flatMap aB:=by
  rw[←hQ (enc:=aB) (z:=zC) (n:=n)]
  rfl
 have e1:L.flatMap aB=(L.take k).flatMap aB++(L.drop k).flatMap aB:=by rw[←qcg,qby]
 have e2:((L.take k).flatMap aB).length=k*3:=by rw[aI λa _=>bL a,qaJ,qa7 hk]
 have e3:((L.drop k).flatMap aB).length=n*3:=by rw[aI λa _=>bL a,qbK,hn]
 have e4:((List.replicate n zC).flatMap aB).length=n*3:=by rw[aI λa _=>bL a,qcR]
 have hs:splice (L.flatMap aB) (k*3) (bm [.int .i64 0,.int .i64 0,.int .u8 0] n)=some ((L.take k++List.replicate n zC).flatMap aB):=by
  unfold splice
  rw[hz,e4,e1,qaC,e2,e3,if_pos (qah _),qds e2,qbr (by rw[qaC,e2,e3];exact qah _),qa2,qcg]
 have hrun:(Hp.fn (clG 3 [.int .i64 0,.int .i64 0,.int .u8 0] (.slice (some ⟨id,k*3,tag 3⟩) n c))).run (getH aa (putE h id 3 aB L)) (putE h id 3 aB L).length=some ([.set id (.cells ((L.take k++List.replicate n zC).flatMap aB) 3 true)],[]):=by
  show clG 3 [.int .i64 0,.int .i64 0,.int .u8 0] (.slice (some ⟨id,k*3,tag 3⟩) n c) (getH aa (putE h id 3 aB L)) (putE h id 3 aB L).length=_
  unfold clG
  simp only[ne_eq,not_true_eq_false,if_false]
  rw[bM (dI hlt)]
  simp only[ne_eq,not_true_eq_false,if_false]
  rw[hs]
  rfl
 refine cg hrun ?_
 have:cv (putE h id 3 aB L) [.set id (.cells ((L.take k++List.replicate n zC).flatMap aB) 3 true)]=putE h id 3 aB (L.take k++List.replicate n zC):=vN
 rw[this]
 exact hK
def eqsC{a b:Cl}{K:Bool->Prop}:P1.eqs [(.i a.1,.i b.1),(.i a.2.1,.i b.2.1),(.i (Int.ofNat a.2.2),.i (Int.ofNat b.2.2))] (@hid _ ⟨K⟩)=K (decide (a=b)):=by
 show K (ca _)=_
 have e:ca [(.i a.1,.i b.1),(.i a.2.1,.i b.2.1),(.i (Int.ofNat a.2.2),.i (Int.ofNat b.2.2))]=decide (a=b):=by
  rw[qbG]
  simp[ca,gk,Prod.ext_iff]
  intro _ _
  omega
 rw[e]
def lC{L:List Cl}{n:Nat}{c:Cl}(hc:L[n]?=some c):cmN L (n+1)=if 0<n/\L[n - 1]?=some c then cmN L n else cmN L n++[c]:=by
 rw[cmN,hc]
def compact_c{h:HL}{id:Nat}{L:List Cl}(hg:h[id]?=some (.o (.cells (L.flatMap aB) 3 true)))(hn:L.length<=100000) :
  ∃cx L',aK cc ab 48 [.v (sl3 id L.length 0)] (absH aa h) [.v (sl3 id (cmN L L.length).length cx)] (absH aa (putE h id 3 aB L'))/\L'.length=L.length/\L'.take (cmN L L.length).length=cmN L L.length:=by
 have hlt:=aJ hg
 have hself0:putE h id 3 aB L=h:=by
  unfold putE
  exact gJ hg
 obtain⟨rs,h',h1,cx,L',rfl,rfl,e1,e2⟩:=x48 (ls:=[.v (sl3 id L.length 0)]) (K:=λrs h'=>∃cx L',rs=[.v (sl3 id (cmN L L.length).length cx)]/\h'=putE h id 3 aB L'/\L'.length=L.length/\L'.take (cmN L L.length).length=cmN L L.length) (H:=h) (glsV wJ gls0) (by
  unfold f48;simp only[qxh]
  simp(disch:=omega)only[↓qXX]
  have hl:=jS bL (cx:=0) hg rfl
  have full:∀k,(k=L.length/\cmN L k=L.take k)->∃cx L',[Lf.v (sl3 id L.length 0)]=[.v (sl3 id (cmN L L.length).length cx)]/\h=putE h id 3 aB L'/\L'.length=L.length/\L'.take (cmN L L.length).length=cmN L L.length:=λk ⟨hk,hkk⟩=>by
   subst hk
   rw[qbn]at hkk
   refine⟨0,L,by rw[hkk],hself0.symm,rfl,by rw[hkk,qbn]⟩
  refine be hl ?_
  by_cases h2:L.length<2
  ·rw[p_lss_t (show Int.ofNat L.length<2 by show(L.length:Int)<2;omega)]
   simp(disch:=omega)only[↓qXX]
   refine full _ ⟨rfl,?_⟩
   rw[qbn]
   rcases L with _|⟨a,_|⟨b,L⟩⟩
   ·rfl
   ·rfl
   ·simp at h2;omega
  ·rw[p_lss_f (show 2<=Int.ofNat L.length by show 2<=(L.length:Int);omega)]
   simp(disch:=omega)only[↓qXX]
   refine dP L.length (λi=>1<=i/\cmN L i=L.take i) (j0:=1) rfl (by omega) ⟨qah _,by
    rcases L with _|⟨a,L⟩
    ·simp at h2
    ·simp[cmN]⟩ ?_
   rintro i hi ⟨hi1,hcm⟩ self hself
   simp(disch:=omega)only[↓qXX]
   refine be hl ?_
   by_cases hlti:i<L.length
   ·rw[aP hlti]
    simp(disch:=omega)only[↓qXX]
    obtain⟨a,ha⟩:=aU hlti
    obtain⟨b,hb⟩:=aU (l:=L) (i:=i - 1) (by omega)
    refine aS hl rfl ha ?_
    unfold aB
    simp(disch:=omega)only[↓qXX]
    rw[fj (by omega) (by omega)]
    refine aS hl rfl hb ?_
    unfold aB
    simp(disch:=omega)only[↓qXX]
    rw[eqsC]
    by_cases hab:a=b
    case neg=>
     rw[decide_eq_false hab]
     simp(disch:=omega)only[↓qXX]
     rw[aR (by omega)]
     refine hself hlti ⟨by omega,?_⟩
     rw[lC ha,if_neg (by rw[hb];intro q;exact hab (qae q.2).symm),hcm,qbw,ha]
     rfl
    rw[decide_eq_true hab]
    simp(disch:=omega)only[↓qXX]
    rw[vV rfl (by omega)]
    refine af rfl (aD wJ ?_)
    rw[qaM]
    have c0:cmN L (i+1)=L.take i:=by rw[lC ha,if_pos ⟨by omega,by rw[hb,hab]⟩,hcm]
    refine cB (σ:=Nat×List Cl) (L.length - i) (λz s=>[.i (Int.ofNat s.1),.i (Int.ofNat z)]) (λ_ s=>putE h id 3 aB s.2) (λz s=>1<=z/\s.2.length=L.length/\s.1+1<=i+z/\s.1=(cmN L (i+z)).length/\s.2.take s.1=cmN L (i+z)/\∀j,i+z<=j+1->s.2[j]?=L[j]?) (j0:=1) (s0:=(i,L)) rfl hself0.symm (by omega) ⟨qah _,rfl,qah _,by rw[c0,qaJ];simp only;omega,by rw[c0],λ_ _=>rfl⟩ ?_
    clear self hself
    rintro z ⟨k,L2⟩ hz ⟨hz1,hl2,hk1,hk2,hk3,hk4⟩ self hself
    simp only at hl2 hk1 hk2 hk3 hk4 hself ⊢
    have hg2:(putE h id 3 aB L2)[id]?=some (.o (.cells (L2.flatMap aB) 3 true)):=dI hlt
    have hls:=ls_off bL (cx:=0 - i) (n:=L.length - i) hg2 (o:=i) (by omega) (by omega)
    simp(disch:=omega)only[↓qXX]
    have hll:=hls.len
    rw[qbK,hl2]at hll
    refine af hll ?_
    by_cases hltz:z<L.length - i
    ·rw[aP hltz]
     simp(disch:=omega)only[↓qXX]
     obtain⟨c,hc⟩:=aU (l:=L) (i:=i+z) (by omega)
     obtain⟨d,hd⟩:=aU (l:=L) (i:=i+z - 1) (by omega)
     refine aS hls (i:=z) (a:=c) rfl (by rw[qaS,hk4 _ (by omega)];exact hc) ?_
     unfold aB
     simp(disch:=omega)only[↓qXX]
     rw[fj (by omega) (by omega)]
     refine aS hls (i:=z - 1) (a:=d) rfl (by rw[qaS,show i+(z - 1)=i+z - 1 by omega,hk4 _ (by omega)];exact hd) ?_
     unfold aB
     simp(disch:=omega)only[↓qXX]
     rw[eqsC]
     have hst:=lC hc
     by_cases hcd:c=d
     ·rw[decide_eq_true hcd]
      simp(disch:=omega)only[↓qXX,qaG]
      rw[aR (by omega)]
      have e5:cmN L (i+(z+1))=cmN L (i+z):=by rw[←qbB,hst,if_pos ⟨by omega,by rw[hd,hcd]⟩]
      exact hself (k,L2) hltz ⟨by omega,hl2,by simp only;omega,by rw[e5];exact hk2,by rw[e5];exact hk3,λj hj=>hk4 j (by omega)⟩
     ·rw[decide_eq_false hcd]
      simp(disch:=omega)only[↓qXX,qbc]
      refine aS hls (i:=z) (a:=c) rfl (by rw[qaS,hk4 _ (by omega)];exact hc) ?_
      unfold aB
      simp(disch:=omega)only[↓qXX]
      refine r_set bL (a:=c) (l:=L2) (len:=L.length) (cx:=0) hlt rfl (show k<L2.length by omega) hl2 rfl ?_
      try simp(disch:=omega)only[↓qXX]
      rw[aR (by omega)]
      simp(disch:=omega)only[↓qXX]
      rw[aR (by omega)]
      have e5:cmN L (i+(z+1))=cmN L (i+z)++[c]:=by rw[←qbB,hst,if_neg (by rw[hd];intro q;exact hcd (qae q.2).symm)]
      refine hself (k+1,L2.set k c) hltz ⟨by omega,by simp only[qbv];exact hl2,by simp only;omega,by rw[e5,qaC];simp only[qaE,qbH];omega,?_,λj hj=>?_⟩
      ·rw[e5,qbw,qaH (by omega),←hk3]
       congr 1
       apply qaZ
       intro q
       rw[qaR,qaR]
       split
       ·rw[qaz (by omega)]
       ·rfl
      ·simp only
       rw[qaz (by omega)]
       exact hk4 j (by omega)
    ·rw[bb (by omega)]
     simp(disch:=omega)only[↓qXX]
     obtain rfl:z=L.length - i:=by omega
     have e6:i+(L.length - i)=L.length:=by omega
     rw[e6]at hk2 hk3 hk1
     rw[vV rfl (by omega)]
     refine af rfl (aD wJ ?_)
     rw[qaM]
     refine clear_r (L:=L2) (n:=L.length - k) hlt (by rw[hl2]) (by omega) ?_
     try simp(disch:=omega)only[↓qXX]
     rw[slS_upto rfl (by omega)]
     refine af rfl (aD wJ ?_)
     refine⟨_,_,by rw[←hk2],rfl,by rw[qaC,qaJ,qcR];omega,?_⟩
     rw[←hk2,qds (by rw[qaJ];omega)]
     exact hk3
   ·rw[bb (by omega)]
    simp(disch:=omega)only[↓qXX]
    exact full _ ⟨by omega,hcm⟩)
 exact⟨cx,L',h1,e1,e2⟩
end St
namespace St
def SetOf(I D:List Cl):Prop:=D.Pairwise ltL/\∀c,c∈D↔c∈I
def SetOf.eq{I:List Cl}:∀ {D E:List Cl},(D.Pairwise ltL)->(E.Pairwise ltL)->(∀c,c∈D↔c∈E)->D=E
 | [],[],_,_,_=>rfl
 | [],b :: E,_,_,h=>by have:=(h b).2 qaA;cases this
 |a :: D,[],_,_,h=>by have:=(h a).1 qaA;cases this
 |a :: D,b :: E,h1,h2,h=>by
  rw[qcE]at h1 h2
  have hab:a=b:=by
   rcases qal.1 ((h a).1 qaA)with e|e
   ·exact e
   ·rcases qal.1 ((h b).2 qaA)with e'|e'
    ·exact e'.symm
    ·exact absurd (ltL_tr (h1.1 b e') (h2.1 a e)) mO
  subst hab
  congr 1
  refine SetOf.eq (I:=I) h1.2 h2.2 λc=>?_
  constructor
  ·intro hc
   rcases qal.1 ((h c).1 (qam _ hc))with e|e
   ·subst e;exact absurd (h1.1 _ hc) mO
   ·exact e
  ·intro hc
   rcases qal.1 ((h c).2 (qam _ hc))with e|e
   ·subst e;exact absurd (h2.1 _ hc) mO
   ·exact e
def cmN_set{S:List Cl}(hS:S.Pairwise λx y=>¬ltL y x):∀n,n<=S.length->(cmN S n).Pairwise ltL/\∀c,c∈cmN S n↔c∈S.take n
 |0,_=>⟨List.Pairwise.nil,λc=>by simp[cmN]⟩
 |n+1,hn=>by
  obtain⟨i1,i2⟩:=cmN_set hS n (by omega)
  obtain⟨c,hc⟩:=aU (l:=S) (i:=n) (by omega)
  have hlt:∀(i j:Nat) x y,i<j->S[i]?=some x->S[j]?=some y->¬ltL y x:=λi j x y hij hx hy=>by
   obtain⟨h1,rfl⟩:=qaI.1 hx
   obtain⟨h2,rfl⟩:=qaI.1 hy
   exact qbZ.1 hS i j h1 h2 hij
  have ht:S.take (n+1)=S.take n++[c]:=by rw[qbw,hc];rfl
  rw[lC hc,ht]
  split
  next h=>
   refine⟨i1,λx=>?_⟩
   rw[i2,qas,qap]
   refine⟨.inl,λq=>q.elim id λe=>?_⟩
   subst e
   have hm:(S.take n)[n - 1]?=some x:=by rw[qaR,if_pos (by omega)];exact h.2
   exact qab hm
  next h=>
   refine⟨?_,λx=>by rw[qas,qas,i2]⟩
   rw[List.pairwise_append]
   refine⟨i1,List.pairwise_singleton _ _,λx hx y hy=>?_⟩
   rw[qap]at hy
   subst hy
   rw[i2]at hx
   obtain⟨i,hi⟩:=qaW hx
   rw[qaR]at hi
   split at hi
   case isFalse=>cases hi
   rename_i hin
   have h3:=hlt i n x y hin hi hc
   rcases ltL_tri (a:=x) (b:=y)with q|q|q
   ·exact q
   ·exfalso
    subst q
    obtain⟨d,hd⟩:=aU (l:=S) (i:=n - 1) (by omega)
    have h4:=hlt (n - 1) n d x (by omega) hd hc
    by_cases hi2:i=n - 1
    ·subst hi2
     exact h ⟨by omega,hi⟩
    ·have h5:=hlt i (n - 1) x d (by omega) hi hd
     rcases ltL_tri (a:=x) (b:=d)with q|q|q
     ·exact h4 q
     ·exact h ⟨by omega,by rw[hd,q]⟩
     ·exact h5 q
   ·exact absurd q h3
def ex_c4:∀ {I:List Cl},(∀c∈I,c.2.2<4)->∃J:List C4,J.map clF=I
 | [],_=>⟨[],rfl⟩
 |c :: I,h=>by
  obtain⟨J,hJ⟩:=ex_c4 (I:=I) λd hd=>h d (qam _ hd)
  exact⟨(c.1,c.2.1,⟨c.2.2,h c qaA⟩) :: J,by rw[qav,hJ];rfl⟩
def clip_c(H:HL){id n cx:Nat}:aK cc ab 49 [.v (sl3 id n cx)] (absH aa H) [.v (sl3 id n (n+1))] (absH aa H):=by
 obtain⟨rs,h',h1,e1,e2⟩:=x49 (ls:=[.v (sl3 id n cx)]) (K:=λrs h'=>rs=[.v (sl3 id n (n+1))]/\h'=H) (H:=H) (glsV wJ gls0) (by
  unfold f49;simp only[qxh]
  simp(disch:=omega)only[↓qXX]
  refine af (x:=Int.ofNat n) rfl ?_
  refine af (x:=Int.ofNat n) rfl ?_
  have e:slS 3 (sl3 id n cx) none (some (Int.ofNat n)) (some (Int.ofNat n))=some (sl3 id n (n+1)):=by
   unfold slS sl3
   simp only
   rw[if_neg (by simp),if_pos (by simp[cr])]
   simp[dB,bG]
  refine af e ?_
  refine aD wJ ?_
  exact⟨by trivial,by trivial⟩)
 rw[e1,e2]at h1
 exact h1
def OwnP(n0:Nat)(h:HL)(v:Value)(D:List Cl):Prop:=∃(id:Nat) (L:List Cl),v=sl3 id D.length (D.length+1)/\n0<=id/\h[id]?=some (HO.o (.cells (L.flatMap aB) 3 true))/\D.length<=L.length/\L.take D.length=D
def OwnP.ls{n0:Nat}{h:HL}{v:Value}{D:List Cl}(ho:OwnP n0 h v D):LsH h v 3 aB D:=by
 obtain⟨id,L,rfl,h1,h2,h3,h4⟩:=ho
 have:=ls_pre bL (cx:=D.length+1) h2 h3
 rw[h4]at this
 exact this
def OwnP.le{n0 n1:Nat}{h:HL}{v:Value}{D:List Cl}(ho:OwnP n0 h v D)(hn:n1<=n0):OwnP n1 h v D:=by
 obtain⟨id,L,h0,h1,h2⟩:=ho
 exact⟨id,L,h0,qbs hn h1,h2⟩
def sof_c{h:HL}{x:Value}{I:List Cl}(hl:LsH h x 3 aB I)(hok:∀c∈I,okCl c)(h0:0<I.length)(hn:I.length<=1000) :
  ∃dx G D,aK cc ab 32 [.v x] (absH aa h) [.v dx,.i 0] (absH aa (h++G))/\OwnP h.length (h++G) dx D/\SetOf I D/\D.length<=I.length:=by
 have hw:=uH hl hok (by omega)
 have hcl:=clone_c hl h0 (by omega)
 obtain⟨J,rfl⟩:=ex_c4 (I:=I) λc hc=>(hok c hc).2
 rw[qaF]at hcl h0 hn
 have hid:(h++[HO.o (.cells [] 3 true),HO.o (.cells ((J.map clF).flatMap aB) 3 true)])[h.length+1]?=some (HO.o (.cells ((J.map clF).flatMap aB) 3 true)):=by
  rw[qao (by omega),show h.length+1 - h.length=1 by omega];rfl
 obtain⟨D,d1,d2,d3⟩:=sort_c (cx:=0) hid h0 (by omega)
 have hid2:(putE (h++[HO.o (.cells [] 3 true),HO.o (.cells ((J.map clF).flatMap aB) 3 true)]) (h.length+1) 3 aB (D.map clF))[h.length+1]?=some (HO.o (.cells ((D.map clF).flatMap aB) 3 true)):=dI (aJ hid)
 have hDl:(D.map clF).length=J.length:=by rw[qaF,d1.length_eq]
 obtain⟨cx,L',k1,k2,k3⟩:=compact_c hid2 (by rw[hDl];omega)
 rw[hDl]at k1 k2 k3
 have hS:(D.map clF).Pairwise λx y=>¬ltL y x:=qcx.2 d2
 obtain⟨s1,s2⟩:=cmN_set hS J.length (by rw[hDl];exact qah _)
 have hcl2:=cmN_len (L:=D.map clF) J.length
 have hfin:∀G,putE (putE (h++[HO.o (.cells [] 3 true),HO.o (.cells ((J.map clF).flatMap aB) 3 true)]) (h.length+1) 3 aB (D.map clF)) (h.length+1) 3 aB L'=h++G↔G=[HO.o (.cells [] 3 true),HO.o (.cells (L'.flatMap aB) 3 true)]:=λG=>by
  unfold putE
  rw[List.set_set,qb0 _ _ (by omega),show h.length+1 - h.length=1 by omega,List.append_right_inj]
  exact eq_comm
 have hfin2:=(hfin _).2 rfl
 generalize hkd:cmN (D.map clF) J.length=C at *
 have hgf:(h++[HO.o (.cells [] 3 true),HO.o (.cells (L'.flatMap aB) 3 true)])[h.length+1]?=some (HO.o (.cells (L'.flatMap aB) 3 true)):=by
  rw[qao (by omega),show h.length+1 - h.length=1 by omega];rfl
 obtain⟨rs,h',hc,rfl,rfl⟩:=x32 (K:=λrs h'=>rs=[.v (sl3 (h.length+1) C.length (C.length+1)),.i 0]/\h'=h++[HO.o (.cells [] 3 true),HO.o (.cells (L'.flatMap aB) 3 true)]) (H:=h) (glsV hl.good gls0) (by
  unfold f32;simp only[qxh]
  repeat (first|simp(disch:=omega)only[↓qXX]|refine av hw ?_|refine av hcl ?_|refine av d3 ?_|refine av k1 ?_)
  refine af (x:=Int.ofNat C.length) rfl ?_
  rw[p_gtr_f (show Int.ofNat C.length<=1024 by show(C.length:Int)<=1024;omega)]
  repeat (first|simp(disch:=omega)only[↓qXX]|refine av (clip_c _) ?_)
  exact⟨by trivial,hfin2⟩)
 refine⟨_,_,C,hc,?_,⟨s1,λc=>?_⟩,by rw[qaF];exact hcl2⟩
 ·exact⟨h.length+1,L',rfl,by omega,hgf,by omega,k3⟩
 ·rw[s2,qaP (by rw[hDl];exact qah _)]
  exact(d1.map clF).mem_iff
end St
end Go.Am
set_option maxRecDepth 100000
set_option maxHeartbeats 8000000
namespace Go.Am
open Sx Go.Proofs Tw
namespace St
def im_ok{ws:List Nat}(hok:∀z∈ws,1<=z/\z<=4)(hn2:nmv ws<=59){c:Cl}(hc:c∈imW ws):okCl c:=by
 have hw:=fL ws 0 0 0 0 hok
 unfold imW at hc
 obtain⟨i,hi,rfl⟩:=qaK.1 hc
 have hi:=qaD.1 hi
 have hr:=(rib_of ws).rng (i / 4) (by omega)
 have hq:∀t q:Nat,qT t q<4:=λt q=>qT_lt
 unfold okCl imC
 have:=hq (if half (dAt (ribL ws 0 0 0 0) (i / 4)).1 (i%4)then ex (dAt (ribL ws 0 0 0 0) (i / 4)).1 (dAt (ribL ws 0 0 0 0) (i / 4)).2.2.1 else(dAt (ribL ws 0 0 0 0) (i / 4)).2.2.1) (i%4)
 refine⟨?_,this⟩
 unfold vCl
 rw[decide_eq_true_eq]
 simp only at hr ⊢
 omega
def cover_c{H:HL}{x:Value}{ws:List Nat}(hl:LsH H x 1 encS ws)(hok:∀z∈ws,1<=z/\z<=4)(h3:Ok3 ws)(hn:ws.length<=250)(hn2:nmv ws<=59) :
  ∃h' v D,aK cc ab 16 [.v x] (absH aa H) [.v v,.i 0] (absH aa h')/\OwnP H.length h' v D/\SetOf (imW ws) D/\Low H.length H h'/\H.length<=h'.length:=by
 obtain⟨h1,v1,hcall,hl1,hlow1,hle1⟩:=imagesW_c hl hok h3 hn hn2
 obtain⟨rs,h',e1,v,D,rfl,e2⟩:=x16 (ls:=[.v x]) (H:=H) (K:=λrs h'=>∃v D,rs=[.v v,.i 0]/\OwnP H.length h' v D/\SetOf (imW ws) D/\Low H.length H h'/\H.length<=h'.length) (glsV hl.good gls0) (by
  unfold f16;simp only[qxh]
  simp(disch:=omega)only[↓qXX]
  refine av hcall ?_
  simp(disch:=omega)only[↓qXX]
  refine be (hl1.pre (h':=h1++[HO.o (.map [] 0)]) ⟨_,rfl⟩) ?_
  refine cB (σ:=Value×HL×List Cl) (imW ws).length (λj s=>[.v s.1,.i (Int.ofNat j)]) (λ_ s=>s.2.1) (λj s=>OwnL (h1.length+1) s.2.1 s.1 3 aB s.2.2/\Set3 s.2.1 h1.length s.2.2/\Low h1.length h1 s.2.1/\h1.length+1<=s.2.1.length/\(∀c,c∈s.2.2↔c∈(imW ws).take j)/\s.2.2.length<=j) (j0:=0) (s0:=(.slice none 0 0,h1++[HO.o (.map [] 0)],[])) rfl rfl (qaU _) ⟨OwnL.nil _ _ _ _,⟨[],0,aQ,rfl,λe he=>(by cases he)⟩,(Low.refl _).app _,by simp,by simp,by simp⟩ ?_
  rintro j ⟨y,h,acc⟩ hj ⟨ho,hs,hlow,hle,hm,hlen⟩ self hself
  simp only at ho hs hlow hle hm hlen hself
  have hl2:=hl1.low hlow
  have him:(imW ws).length<=240:=by
   have:=fL ws 0 0 0 0 hok
   unfold imW
   rw[qaF,qdd]
   omega
  simp(disch:=omega)only[↓qXX]
  by_cases hlt:j<(imW ws).length
  case pos=>
   rw[aP hlt]
   simp(disch:=omega)only[↓qXX]
   obtain⟨a,ha⟩:=aU hlt
   refine aS hl2 rfl ha ?_
   unfold aB
   simp(disch:=omega)only[↓qXX]
   refine r_lu3 (kt:=33) gM fh hs a ?_
   simp(disch:=omega)only[↓qXX]
   have htk:(imW ws).take (j+1)=(imW ws).take j++[a]:=by
    rw[qbw,ha];rfl
   by_cases hin:a∈acc
   ·have hd:∀i:Decidable (a∈acc),@decide _ i=true:=λi=>decide_eq_true hin
    rw[hd]
    simp(disch:=omega)only[↓qXX,qaG]
    rw[aR (by omega)]
    refine hself (y,h,acc) hlt ⟨ho,hs,hlow,hle,λc=>?_,by show acc.length<=j+1;omega⟩
    rw[hm,htk,qas,qap]
    exact⟨.inl,λh=>h.elim id λe=>by rw[e];exact(hm a).1 hin⟩
   ·have hd:∀i:Decidable (a∈acc),@decide _ i=false:=λi=>decide_eq_false hin
    rw[hd]
    simp(disch:=omega)only[↓qXX,qbc]
    refine r_mu3 (kt:=33) gM fh hs a λo' hs'=>?_
    rw[if_neg hin]at hs'
    have ho2:OwnL (h1.length+1) (h.set h1.length o') y 3 aB acc:=ho.keep λi o hi hb=>dl hi λe=>by
     have:=(ho.blk hb).1
     omega
    have hlow2:Low h1.length h1 (h.set h1.length o'):=hlow.set (qah _) o'
    simp(disch:=omega)only[↓qXX]
    refine ho2.ap1 (a:=a) bL (by rw[qbv];exact hle) rfl rfl rfl (by unfold bC;rw[qaX (by omega),qaX (by omega)];rfl) λy' h' b1 b2 b3 b4 b5=>?_
    simp(disch:=omega)only[↓qXX]
    refine aD b2 ?_
    simp(disch:=omega)only[↓qXX]
    rw[aR (by omega)]
    rw[qbv]at b4
    refine hself (y',h',acc++[a]) hlt ⟨b1,?_,λi o hi hoo=>b3 i o (hlow2 i o hi hoo) λe=>?_,by show h1.length+1<=h'.length;omega,λc=>?_,by show(acc++[a]).length<=j+1;simp;omega⟩
    ·obtain⟨es,c,g1,g2⟩:=hs'
     exact⟨es,c,b3 _ _ g1 λe=>by have:=(ho2.blk e).1;omega,g2⟩
    ·have:=(ho2.blk e).1
     omega
    ·rw[htk,qas,qas,hm]
  obtain rfl:j=(imW ws).length:=by omega
  rw[bb (qah _)]
  simp(disch:=omega)only[↓qXX]
  rw[qbn]at hm
  have hpos:0<acc.length:=by
   have h0:0<(imW ws).length:=by
    have:=fL ws 0 0 0 0 hok
    unfold imW
    rw[qaF,qdd]
    omega
   obtain⟨a,ha⟩:=aU h0
   exact List.length_pos_of_mem ((hm a).2 (qab ha))
  obtain⟨dx,G,D,g1,g2,g3,g4⟩:=sof_c (ho.ls bL) (λc hc=>im_ok hok hn2 ((hm c).1 hc)) hpos (by omega)
  refine av g1 ?_
  simp(disch:=omega)only[↓qXX]
  have hlowH:Low H.length H h:=λi o hi hoo=>hlow i o (aJ (hlow1 i o hi hoo)) (hlow1 i o hi hoo)
  have hHh:H.length<=h.length:=by omega
  refine⟨_,_,rfl,g2.le hHh,⟨g3.1,λc=>(g3.2 c).trans (hm c)⟩,hlowH.app _,?_⟩
  rw[qaC]
  omega)
 exact⟨h',v,D,e1,e2⟩
end St
namespace St
def im_iff{ws:List Nat}{c:Cl}:c∈imW ws↔∃d,d∈ribL ws 0 0 0 0/\c∈imgs d:=by
 unfold imW
 rw[qaK]
 constructor
 ·rintro⟨i,hi,rfl⟩
  have hi:=qaD.1 hi
  refine⟨_,qab (iy (s:=i / 4) (by omega)),?_⟩
  unfold imgs
  exact qaK.2 ⟨i%4,qaD.2 (qbY _ (by omega)),rfl⟩
 ·rintro⟨d,hd,hc⟩
  obtain⟨i,hi⟩:=qaW hd
  unfold imgs at hc
  obtain⟨q,hq,rfl⟩:=qaK.1 hc
  have hq:=qaD.1 hq
  have hlt:=aJ hi
  refine⟨4*i+q,qaD.2 (by omega),?_⟩
  have e:dAt (ribL ws 0 0 0 0) i=d:=by
   rw[iy hlt]at hi
   exact qae hi
  unfold imC
  rw[show(4*i+q) / 4=i by omega,show(4*i+q)%4=q by omega]
  simp only[e]
def im_cells{ws:List Nat}(hok:∀z∈ws,1<=z/\z<=4)(h3:Ok3 ws)(c:Cl):c∈imW ws↔c∈aW ws true (0,0) 0:=by
 rw[im_iff]
 exact(cov_iff ws hok h3 0 0 0 (by omega) c).1
end St
namespace St
def equal_c{h:HL}{x y:Value}{A B:List Cl}(hx:LsH h x 3 aB A)(hy:LsH h y 3 aB B)(hn:A.length<=100000) :
  aK cc ab 34 [.v x,.v y] (absH aa h) [.b (decide (A=B))] (absH aa h):=by
 refine xK x34 (glsV hx.good (glsV hy.good gls0)) ?_
 unfold f34;simp only[qxh]
 simp(disch:=omega)only[↓qXX]
 refine be hx ?_
 refine be hy ?_
 by_cases hlen:A.length=B.length
 case neg=>
  rw[p_neq_t (λe=>hlen (qb4 e))]
  simp(disch:=omega)only[↓qXX]
  exact⟨by rw[decide_eq_false (λe=>hlen (by rw[e]))],by trivial⟩
 rw[p_neq_f (by rw[hlen])]
 simp(disch:=omega)only[↓qXX]
 refine be hx ?_
 refine dP A.length (λj=>∀i,i<j->A[i]?=B[i]?) (j0:=0) rfl (qaU _) (λi hi=>by omega) ?_
 intro j hj he self hself
 simp(disch:=omega)only[↓qXX]
 by_cases hlt:j<A.length
 ·rw[aP hlt]
  simp(disch:=omega)only[↓qXX]
  obtain⟨a,ha⟩:=aU hlt
  obtain⟨b,hb⟩:=aU (l:=B) (i:=j) (by omega)
  refine aS hx rfl ha ?_
  unfold aB
  simp(disch:=omega)only[↓qXX]
  refine aS hy rfl hb ?_
  unfold aB
  simp(disch:=omega)only[↓qXX]
  rw[eqsC]
  by_cases hab:a=b
  ·subst hab
   rw[decide_eq_true rfl]
   simp(disch:=omega)only[↓qXX,qaG]
   rw[aR (by omega)]
   refine hself hlt λi hi=>?_
   by_cases hij:i=j
   ·subst hij
    rw[ha,hb]
   ·exact he i (by omega)
  ·rw[decide_eq_false hab]
   simp(disch:=omega)only[↓qXX,qbc]
   refine⟨?_,by trivial⟩
   rw[decide_eq_false]
   intro e
   subst e
   rw[ha]at hb
   exact hab (qae hb)
 ·rw[bb (by omega)]
  simp(disch:=omega)only[↓qXX]
  refine⟨?_,by trivial⟩
  rw[decide_eq_true]
  apply qaZ
  intro i
  by_cases hi:i<A.length
  ·exact he i (by omega)
  ·rw[qaj (by omega),qaj (by omega)]
def same_c{h:HL}{x y:Value}{A B:List Cl}(hx:LsH h x 3 aB A)(hy:LsH h y 3 aB B)(hn:A.length<=100000) :
  aK cc ab 18 [.v x,.v y] (absH aa h) [.b (decide (A=B))] (absH aa h):=by
 refine xK x18 (glsV hx.good (glsV hy.good gls0)) ?_
 unfold f18;simp only[qxh]
 repeat (first|simp(disch:=omega)only[↓qXX]|refine av (equal_c hx hy hn) ?_)
 exact⟨by trivial,by trivial⟩
def OwnP.blk{n0:Nat}{h:HL}{v:Value}{D:List Cl}(ho:OwnP n0 h v D){j:Nat}(hb:Sx.blk v=some j):n0<=j:=by
 obtain⟨id,L,rfl,h1,_⟩:=ho
 cases hb
 exact h1
def r_setP{n0:Nat}{h:HL}{v:Value}{D:List Cl}{i o:Nat}{a a':Cl}{n:Int}{new:List Value}{K:List Value->HL->Prop}(ho:OwnP n0 h v D)(hn:n=Int.ofNat i)(hi:D[i]?=some a)(hoo:o+new.length<=3)
  (hnew:aB a'=(aB a).take o++new++(aB a).drop (o+new.length)) (hk:∀h',OwnP n0 h' v (D.set i a')->(∀(j:Nat) o,h[j]?=some o->Sx.blk v≠some j->h'[j]?=some o)->h'.length=h.length->K [] h') :
  P1.opt (idS 3 v n) (@hid _ ⟨λx=>P1.opt (fdP o x) (@hid _ ⟨λy=>P1.chk y (@hid _ ⟨P1.heap (.st y new) h (@hid _ ⟨K⟩)⟩)⟩)⟩):=by
 obtain⟨id,L,rfl,h1,h2,h3,h4⟩:=ho
 subst hn
 have hlt:=aJ hi
 have hLi:L[i]?=some a:=by
  rw[←h4,qaR,if_pos hlt]at hi
  exact hi
 have hx:idS 3 (sl3 id D.length (D.length+1)) (Int.ofNat i)=some (.pointer (some ⟨id,0+i*3,none⟩)):=by
  rw[sy]
  have hh:0<=Int.ofNat i/\Int.ofNat i<(D.length:Int):=⟨qax i,by show(i:Int)<D.length;omega⟩
  simp only[sl3,if_pos hh]
  have:¬(tag 3=some 1):=by simp[tag]
  simp only[if_neg this]
  rfl
 rw[qaM]at hx
 refine af hx ?_
 refine af (x:=.pointer (some ⟨id,i*3+o,none⟩)) rfl ?_
 refine aD (by simp[ba,noLoc,bk,bB,br,aV,aG]) ?_
 have hl:=aI (e:=3) (enc:=aB) (l:=L) λa _=>bL a
 have hLlt:=aJ hLi
 have hle:i*3+3<=L.length*3:=by omega
 have e1:=fD bL (l:=L) (i:=i) a hLlt
 rw[gJ hLi]at e1
 have e2:=fD bL (l:=L) (i:=i) a' hLlt
 have hA:((L.flatMap aB).take (i*3)).length=i*3:=by rw[qaJ];omega
 have hB:=bL a
 have key:(L.flatMap aB).take (i*3+o)++new++(L.flatMap aB).drop (i*3+o+new.length)=(L.set i a').flatMap aB:=by
  rw[←e2,hnew]
  have t1:(L.flatMap aB).take (i*3+o)=(L.flatMap aB).take (i*3)++(aB a).take o:=by
   conv=>lhs;rw[←e1,qaN]
   rw[qcS,qaP (by omega),hA,show i*3+o - i*3=o by omega,qcS,show o - (aB a).length=0 by omega,qbL,qa2]
  have t2:(L.flatMap aB).drop (i*3+o+new.length)=(aB a).drop (o+new.length)++(L.flatMap aB).drop (i*3+3):=by
   conv=>lhs;rw[←e1,qaN]
   rw[qcm,qbr (by omega),qaV,hA,show i*3+o+new.length - i*3=o+new.length by omega,qcm,show o+new.length - (aB a).length=0 by omega,qa6]
  rw[t1,t2]
  simp only[qaN]
 have hrun:(Hp.st (.pointer (some ⟨id,i*3+o,none⟩)) new).run (getH aa h) h.length=some ([.set id (.cells ((L.set i a').flatMap aB) 3 true)],[]):=by
  show stP (.pointer (some ⟨id,i*3+o,none⟩)) new (getH aa h) h.length=_
  unfold stP
  simp only
  rw[bM h2]
  simp only
  unfold splice
  rw[hl,if_pos (by omega),key]
  rfl
 refine cg hrun ?_
 refine hk (h.set id (.o (.cells ((L.set i a').flatMap aB) 3 true))) ⟨id,L.set i a',by rw[qbv],h1,qaH (aJ h2),by rw[qbv,qbv];exact h3,?_⟩ (λj o hj hb=>?_) (by rw[qbv])
 ·rw[qbv,List.take_set,h4]
 ·rw[qaz (λe=>hb (by subst e;rfl))]
  exact hj
def shC(p:Sq)(a:Cl):Cl:=(a.1+p.1,a.2.1+p.2,a.2.2)
def shN(p:Sq)(D:List Cl)(i:Nat):List Cl:=(D.take i).map (shC p)++D.drop i
def shN_len{p:Sq}{D:List Cl}{i:Nat}:(shN p D i).length=D.length:=by
 unfold shN
 rw[qaC,qaF,qaJ,qbK];omega
def shN_get{p:Sq}{D:List Cl}{i:Nat}{a:Cl}(h:D[i]?=some a):(shN p D i)[i]?=some a:=by
 have:=aJ h
 unfold shN
 rw[qao (by rw[qaF,qaJ];omega),qaF,qaJ,qa7 (by omega),qbz,qaS]
 exact h
def shN_set{p:Sq}{D:List Cl}{i:Nat}{a:Cl}(h:D[i]?=some a):(shN p D i).set i (shC p a)=shN p D (i+1):=by
 have hlt:=aJ h
 unfold shN
 rw[qb0 _ _ (by rw[qaF,qaJ];omega),qaF,qaJ,qa7 (by omega),qbz,qbw,h,qbI]
 have e:D.drop i=a :: D.drop (i+1):=by
  rw[qaY hlt]
  rw[qai hlt]at h
  rw[qae h]
 rw[e]
 simp
def bes_sh(p c:Sq)(h:Nat):bes (c.1+p.1,c.2+p.2) h=((bes c h).1+p.1,(bes c h).2+p.2):=by
 match h with
 |0=>simp only[bes];congr 1;omega
 |1=>simp only[bes];congr 1;omega
 |2=>simp only[bes];congr 1;omega
 |h+3=>simp only[bes];congr 1;omega
def uP(p:Sq):∀(ws:List Nat) (laid:Bool) (c:Sq) (h:Nat),aW ws laid (c.1+p.1,c.2+p.2) h=(aW ws laid c h).map (shC p)
 | [],laid,c,h=>by
  unfold aW
  split
  ·simp[bF,qc,shC]
  ·rfl
 |z :: ws,laid,c,h=>by
  have ih:=uP p ws
  have hq:∀t,(bF t).map (qc (c.1+p.1,c.2+p.2) h)=((bF t).map (qc c h)).map (shC p):=λt=>by
   rw[qcB];rfl
  unfold aW
  rw[qbI,hq,bes_sh]
  congr 1
  ·split<;>rfl
  ·split
   ·exact ih _ _ _
   ·split
    ·exact ih _ _ _
    ·split<;>exact ih _ _ _
def pT(p:Sq)(ws:List Nat):aW ws true p 0=(aW ws true (0,0) 0).map (shC p):=by
 have:=uP p ws true (0,0) 0
 simp only[qdo]at this
 exact this
def rR:∀(ws:List Nat) (laid:Bool) (c:Sq) (h:Nat) (n:Int),(-n<=c.1/\c.1<=n)/\(-n<=c.2/\c.2<=n)->∀a∈aW ws laid c h,(-(n+ws.length)<=a.1/\a.1<=n+ws.length)/\(-(n+ws.length)<=a.2.1/\a.2.1<=n+ws.length)
 | [],laid,c,h,n,hc,a,ha=>by
  unfold aW at ha
  split at ha
  ·obtain⟨q,_,rfl⟩:=qaK.1 ha
   simp only[qc,qbH];omega
  ·cases ha
 |z :: ws,laid,c,h,n,hc,a,ha=>by
  have ih:=rR ws
  unfold aW at ha
  rw[qaE]
  rcases qas.1 ha with ha|ha
  ·split at ha
   ·obtain⟨q,_,rfl⟩:=qaK.1 ha
    simp only[qc];omega
   ·cases ha
  ·have hb:(-(n+1)<=(bes c h).1/\(bes c h).1<=n+1)/\(-(n+1)<=(bes c h).2/\(bes c h).2<=n+1):=by
    match h with
    |0=>simp only[bes];omega
    |1=>simp only[bes];omega
    |2=>simp only[bes];omega
    |h+3=>simp only[bes];omega
   have hc':(-(n+1)<=c.1/\c.1<=n+1)/\(-(n+1)<=c.2/\c.2<=n+1):=by omega
   have:(-(n+1+ws.length)<=a.1/\a.1<=n+1+ws.length)/\(-(n+1+ws.length)<=a.2.1/\a.2.1<=n+1+ws.length):=by
    split at ha
    ·exact ih _ _ _ _ hb a ha
    ·split at ha
     ·exact ih _ _ _ _ hc' a ha
     ·split at ha<;>exact ih _ _ _ _ hc' a ha
   omega
def covers_c{H:HL}{x y:Value}{L:List Sq}{D:List K3}{ws:List Nat}{p:Sq}(hl:LsH H x 3 cc3 D)(hD:Go.Am.SetOf L D)(h0:0<L.length)(hn:L.length<=200)(hnd:L.Nodup)(hcon:Con L)(hb:∀c∈L,(-100<=c.1/\c.1<=100)/\-100<=c.2/\c.2<=100)(hp:p∈L)
  (hw:LsH H y 1 encS ws) (hok:∀z∈ws,1<=z/\z<=4) (h3:Ok3 ws) (hwn:ws.length<=250) (hw2:nmv ws<=59) :
  ∃h' b,aK cc ab 7 [.v x,.v y,.i p.1,.i p.2,.i 0] (absH aa H) [.b b,.i 0] (absH aa h')/\(b=true↔∀a,a∈aW ws true p 0↔a∈D)/\Low H.length H h'/\H.length<=h'.length:=by
 obtain⟨h1,hcall1,hlow1,hle1⟩:=Go.Am.check_c hl hD h0 hn hnd hcon hb
 obtain⟨h2,v,E,hcall2,ho2,hE,hlow2,hle2⟩:=cover_c (hw.low hlow1) hok h3 hwn hw2
 have hpb:=hb p hp
 have hlowH2:Low H.length H h2:=λi o hi hoo=>hlow2 i o (aJ (hlow1 i o hi hoo)) (hlow1 i o hi hoo)
 have hpm:sqC p∈D:=hD.mem.2 ⟨hp,by show 0<4;omega⟩
 have hDl:=hD.len
 have hhas:=hasS_c (hl.low hlowH2) (by omega) (sqC p) (p:=p.1) (q:=p.2) (r:=0) ⟨rfl,rfl,rfl⟩
 rw[decide_eq_true hpm]at hhas
 have hEm:∀a,a∈E↔a∈aW ws true (0,0) 0:=λa=>(hE.2 a).trans (im_cells hok h3 a)
 have hrng:∀a∈E,(-1000<=a.1/\a.1<=1000)/\-1000<=a.2.1/\a.2.1<=1000:=λa ha=>by
  have:=rR ws true (0,0) 0 0 ⟨by simp,by simp⟩ a ((hEm a).1 ha)
  omega
 have hEl:E.length<=100000:=by
  have hnd:E.Nodup:=hE.1.imp λh e=>by subst e;exact mO h
  have h1:=cR hnd λa ha=>(hE.2 a).1 ha
  have h2:=fL ws 0 0 0 0 hok
  unfold imW at h1
  rw[qaF,qdd]at h1
  omega
 obtain⟨rs,h',e1,b,rfl,e2⟩:=x7 (ls:=[.v x,.v y,.i p.1,.i p.2,.i 0]) (H:=H) (K:=λrs h'=>∃b,rs=[.b b,.i 0]/\(b=true↔∀a,a∈aW ws true p 0↔a∈D)/\Low H.length H h'/\H.length<=h'.length) (glsV hl.good (glsV hw.good (glsI (glsI (glsI gls0))))) (by
  unfold f7;simp only[qxh]
  simp(disch:=omega)only[↓qXX]
  refine av hcall1 ?_
  simp(disch:=omega)only[↓qXX]
  refine av hcall2 ?_
  simp(disch:=omega)only[↓qXX]
  refine av hhas ?_
  simp(disch:=omega)only[↓qXX,qaG]
  refine be ho2.ls ?_
  refine cB (σ:=HL) E.length (λj _=>[.i (Int.ofNat j)]) (λ_ s=>s) (λj s=>OwnP H.length s v (shN p E j)/\Low H.length H s/\H.length<=s.length) (j0:=0) (s0:=h2) rfl rfl (qaU _) ⟨by unfold shN;simpa using ho2.le hle1,hlowH2,qbs hle1 hle2⟩ ?_
  rintro j h hj ⟨ho,hlow,hle⟩ self hself
  simp(disch:=omega)only[↓qXX]
  by_cases hlt:j<E.length
  case pos=>
   rw[aP hlt]
   simp(disch:=omega)only[↓qXX]
   obtain⟨a,ha⟩:=aU hlt
   have hab:=hrng a (qab ha)
   have hblk:∀ {h':HL},(∀(j:Nat) o,h[j]?=some o->Sx.blk v≠some j->h'[j]?=some o)->Low H.length H h':=λhk i o hi hoo=>hk i o (hlow i o hi hoo) λe=>by
    have:=ho.blk e
    omega
   refine wV (o:=0) (k:=1) (a:=a) (i:=j) ho.ls rfl (shN_get ha) rfl (by omega) ?_
   simp only[aB,qa6,qbf,qbL]
   simp(disch:=omega)only[↓qXX]
   try rw[p_add (by omega) (by omega)]
   refine r_setP (o:=0) (i:=j) (a:=a) (a':=(a.1+p.1,a.2.1,a.2.2)) ho rfl (shN_get ha) (by simp) rfl λh3 ho3 hk3 hl3=>?_
   try simp(disch:=omega)only[↓qXX]
   have ha3:((shN p E j).set j (a.1+p.1,a.2.1,a.2.2))[j]?=some (a.1+p.1,a.2.1,a.2.2):=qaH (by rw[shN_len];exact hlt)
   refine wV (o:=1) (k:=1) (a:=(a.1+p.1,a.2.1,a.2.2)) (i:=j) ho3.ls rfl ha3 rfl (by omega) ?_
   simp only[aB,qbO,qa6,qbf,qbL]
   simp(disch:=omega)only[↓qXX]
   try rw[p_add (by omega) (by omega)]
   refine r_setP (o:=1) (i:=j) (a:=(a.1+p.1,a.2.1,a.2.2)) (a':=shC p a) ho3 rfl ha3 (by simp) rfl λh4 ho4 hk4 hl4=>?_
   try simp(disch:=omega)only[↓qXX]
   rw[aR (by omega)]
   refine hself h4 hlt ⟨?_,λi o hi hoo=>hk4 i o (hblk hk3 i o hi hoo) λe=>?_,by omega⟩
   ·rw[List.set_set,shN_set ha]at ho4
    exact ho4
   ·have:=ho.blk e
    omega
  obtain rfl:j=E.length:=by omega
  rw[bb (qah _)]
  simp(disch:=omega)only[↓qXX]
  have hfin:shN p E E.length=E.map (shC p):=by unfold shN;simp
  rw[hfin]at ho
  refine av (same_c ho.ls (hl.keep λi o hi hbk=>hlow i o (hl.blkLt hbk) hi) (by rw[qaF];exact hEl)) ?_
  simp(disch:=omega)only[↓qXX]
  refine⟨_,rfl,?_,hlow,hle⟩
  rw[decide_eq_true_eq]
  have hmm:∀a,a∈E.map (shC p)↔a∈aW ws true p 0:=λa=>by
   rw[pT,qaK,qaK]
   exact exists_congr λb=>and_congr_left λ_=>hEm b
  constructor
  ·intro e a
   rw[←hmm,e]
  ·intro e
   refine SetOf.eq (I:=[]) ?_ ?_ λc=>(hmm c).trans (e c)
   ·refine qcx.2 (hE.1.imp λ{a b} h=>?_)
    unfold ltL at h ⊢
    simp only[shC]
    omega
   ·refine qbZ.2 λi j hi hj hij=>?_
    exact hD.srt i j _ _ hij (qai hi) (qai hj))
 exact⟨h',b,e1,e2⟩
end St
def vj{h:HL}{l:List Int}{j n cx:Nat}{a:Int}(ha:l[j]?=some a)(hn:n=l.length):idS 1 (.slice (some ⟨h.length,0,some 11⟩) n cx) (Int.ofNat j)=some (.pointer (some ⟨h.length,0+j*1,none⟩))/\Ptr (h++[HO.o (.cells (l.map (Value.int .i64)) 1 true)]) (.pointer (some ⟨h.length,0+j*1,none⟩)) [.int .i64 a]:=by
 subst hn
 have hj:=aJ ha
 refine⟨?_,h.length,0+j*1,_,1,true,rfl,aQ,?_⟩
 ·rw[sy]
  have hh:0<=Int.ofNat j/\Int.ofNat j<(l.length:Int):=⟨qax j,by show(j:Int)<l.length;omega⟩
  simp only[if_pos hh]
  rfl
 ·rw[Sx.cut_some]
  have hj':j<(l.map (Value.int .i64)).length:=by rw[qaF];exact hj
  refine⟨by simp;omega,?_⟩
  rw[show 0+j*1=j by omega,qaY hj']
  have e:(l.map (Value.int .i64))[j] = .int .i64 a:=by
   rw[List.getElem_map]
   rw[qai hj]at ha
   rw[qae ha]
  rw[e]
  rfl
def bes_lit(c:Sq){j:Nat}(hj:j<4):∃a b:Int,([1,0,-1,0]:List Int)[j]?=some a/\([0,1,0,-1]:List Int)[j]?=some b/\(bes c j).1=c.1+a/\(bes c j).2=c.2+b/\(-1<=a/\a<=1)/\-1<=b/\b<=1:=by
 have:j=0∨j=1∨j=2∨j=3:=by omega
 rcases this with rfl|rfl|rfl|rfl
 ·exact⟨1,0,rfl,rfl,rfl,by simp[bes],by omega,by omega⟩
 ·exact⟨0,1,rfl,rfl,by simp[bes],rfl,by omega,by omega⟩
 ·exact⟨-1,0,rfl,rfl,by simp[bes];omega,by simp[bes],by omega,by omega⟩
 ·exact⟨0,-1,rfl,rfl,by simp[bes],by simp[bes];omega,by omega,by omega⟩
end Go.Am
end

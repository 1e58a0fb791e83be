/-
  PART 7 OF THE PROOF: E3 Hx3 E4 E14 E15 Hx4 E16 E17 E19 E20 E21 E22 E23 E24 Hx5 E25 E26 E27 Mp1 E28 E29 E30 E31 E41 E42 E9 E43 Cd1 Cs1 Cs2 Cs3 E44 Cd2 (no conditions).
-/
import Derived.Test.YtplljlaeahkchaaGreatDoorCP6
import Derived.SevenTiedAt
import Derived.Test.YtplljlaeahkchaaGreatDoorCards
import Derived.Test.YtplljlaeahkchaaGreatDoorTie
set_option linter.unusedSectionVars false
set_option linter.unusedSimpArgs false
set_option linter.unusedVariables false
set_option linter.constructorNameAsVariable false
set_option linter.defProp false
noncomputable section
/-
 UNITS AND CREASES: names at whatever cell and edge;the test of patterns,told of lists.
-/
set_option maxRecDepth 100000
set_option maxHeartbeats 4000000
namespace Go.Am
open Sx Go.Proofs
theorem nbr_ne{w v c e n:Nat}(hw:1<=w)(h:nbr w v c e=some n):n≠c:=by
 have hx:c / 4%w<=c / 4:=Nat.mod_le _ _
 have hy:c / 4 / w<=c / 4:=Nat.div_le_self _ _
 have hq:c%4=0∨c%4=1∨c%4=2∨c%4=3:=by omega
 rcases e with _|_|_|e<;>rcases hq with h1|h1|h1|h1<;>simp only[nbr,h1]at h<;>
  first
  |(split at h<;>first|(simp only[qat]at h;omega)|(cases h;done))
  |(simp only[qat]at h;omega)
  |(cases h;done)
theorem jr{w v:Nat}(h:tab5 w v=true):tabName w v=true/\tabCell w v=true/\pq w v=true/\ascN (bd w v)=true/\(bd w v).length<=1000:=by
 unfold tab5 at h
 simp only[qaa,qaX]at h
 exact h
theorem nameIn{w v:Nat}(ht:tab5 w v=true){c e:Nat}(hc:c<4*w*v)(he:e<3):Cc 90 [.i (.ofNat w),.i (.ofNat v),.i (.ofNat c),.i (.ofNat e)] (nameN w v c e):=by
 have h1:=qab.1 (jr ht).1 c (qaj.2 hc)
 exact fM (n:=60) rfl (by kernel_rfl) rfl (qab.1 h1 e (qaj.2 he))
theorem cellIn{w v:Nat}(ht:tab5 w v=true){c:Nat}(hc:c<4*w*v):Cc 95 [.i (.ofNat w),.i (.ofNat v),.i (.ofNat c)] (cellN w c):=
 fM (n:=60) rfl (by kernel_rfl) rfl (qab.1 (jr ht).2.1 c (qaj.2 hc))
def valS(w v:Int):Prop:=1<=w/\1<=v/\w<=256/\v<=256/\w*v<=256
instance (w v : Int) : Decidable (valS w v) := by unfold valS; infer_instance
theorem tg{w v a b:Int}(h:0<=w/\w<=a/\0<=v/\v<=b):0<=w*v/\w*v<=a*b:=
 ⟨Int.mul_nonneg h.1 h.2.2.1,Int.mul_le_mul h.2.1 h.2.2.2 h.2.2.1 (by omega)⟩
theorem shCheck(w v:Int):Cc 86 [.i w,.i v] [.i (if valS w v then 0 else 1)]:=by
 refine q86 rfl ?_;unfold p86
 by_cases h1:1<=w
 ·by_cases h2:1<=v
  ·by_cases h3:w<=256
   ·by_cases h4:v<=256
    ·have hm:=tg (w:=w) (v:=v) (a:=256) (b:=256) (by omega)
     by_cases h5:w*v<=256
     ·simp(disch:=omega)only[↓qXX];simp[valS,h1,h2,h3,h4,h5]
     ·simp(disch:=omega)only[↓qXX];simp[valS,h5]
    ·simp(disch:=omega)only[↓qXX];simp[valS,h4]
   ·simp(disch:=omega)only[↓qXX];simp[valS,h3]
  ·simp(disch:=omega)only[↓qXX];simp[valS,h2]
 ·simp(disch:=omega)only[↓qXX];simp[valS,h1]
theorem gh{w v:Int}(h:valS w v):Cc 86 [.i w,.i v] [.i 0]:=by
 have:=shCheck w v;rw[if_pos h]at this;exact this
def smS(w v:Int):Prop:=1<=w/\w<=5/\1<=v/\v<=5
theorem pm{w v:Int}(h:smS w v):valS w v:=by
 unfold smS at h;have:=tg (w:=w) (v:=v) (a:=5) (b:=5) (by omega);unfold valS;omega
theorem sm4{w v:Int}(h:smS w v):4<=4*w*v/\4*w*v<=100:=by
 unfold smS at h
 have h1:=tg (w:=4*w) (v:=v) (a:=20) (b:=5) (by omega)
 have h2:4*w<=4*w*v:=by
  have:=Int.mul_le_mul_of_nonneg_left h.2.2.1 (show 0<=4*w by omega)
  rw[Int.mul_one]at this;exact this
 omega
theorem has_c{w v:Int}(h:smS w v)(c:Int):Cc 131 [.i w,.i v,.i c] [.b (decide (0<=c)&&decide (c<4*w*v))]:=by
 have h4:=sm4 h
 unfold smS at h
 refine q131 rfl ?_;unfold p131
 by_cases h1:0<=c
 ·by_cases h2:c<4*w*v
  ·simp(disch:=omega)only[↓qXX];simp[h1,h2]
  ·simp(disch:=omega)only[↓qXX];simp[h1,h2]
 ·simp(disch:=omega)only[↓qXX];simp[h1]
theorem uV{w v c:Int}(h:smS w v)(hc:¬(0<=c/\c<4*w*v)):Cc 95 [.i w,.i v,.i c] [.i 0,.i 0,.i 0,.i 7]:=by
 refine q95 rfl ?_;unfold p95
 simp(disch:=omega)only[↓qXX]
 refine aE (gh (pm h)) ?_
 simp(disch:=omega)only[↓qXX]
 have e:(decide (0<=c)&&decide (c<4*w*v))=false:=by simp;omega
 refine aE (e▸has_c h c) ?_
 simp(disch:=omega)only[↓qXX,qbU]
theorem sa{w v c e:Int}(h:smS w v)(hc:¬(0<=c/\c<4*w*v)):Cc 125 [.i w,.i v,.i c,.i e] [.i 0,.i 7]:=by
 refine q125 rfl ?_;unfold p125
 simp(disch:=omega)only[↓qXX]
 refine aE (uV h hc) ?_
 simp(disch:=omega)only[↓qXX]
theorem uW{w v c e:Int}(h:smS w v)(hc:¬(0<=c/\c<4*w*v)):Cc 90 [.i w,.i v,.i c,.i e] [.i 0,.i 0,.i 7]:=by
 refine q90 rfl ?_;unfold p90
 simp(disch:=omega)only[↓qXX]
 refine aE (sa h hc) ?_
 simp(disch:=omega)only[↓qXX]
theorem pN{x y q:Int}(h:-4096<=x/\x<=4096/\-4096<=y/\y<=4096/\q<=3):Cc 133 [.i x,.i y,.i q] [.i 0]:=by
 refine q133 rfl ?_;unfold p133
 simp(disch:=omega)only[↓qXX]
theorem mB{x y q e:Int}(h:-4096<=x/\x<=4096/\-4096<=y/\y<=4096/\q<=3)(he:2<e):Cc 114 [.i x,.i y,.i q,.i e] [.i 0,.i 0,.i 0,.i 1]:=by
 refine q114 rfl ?_;unfold p114
 simp(disch:=omega)only[↓qXX]
 refine aE (pN h) ?_
 simp(disch:=omega)only[↓qXX]
theorem toNat2{w v:Int}(h:smS w v):∃a b:Nat,w = .ofNat a/\v = .ofNat b/\1<=a/\a<=5/\1<=b/\b<=5:=by
 unfold smS at h
 obtain⟨a,rfl⟩:=qa1 (show 0<=w by omega)
 obtain⟨b,rfl⟩:=qa1 (show 0<=v by omega)
 exact⟨a,b,rfl,rfl,by omega,by omega,by omega,by omega⟩
theorem lt_nat{a b c:Nat}(h:(c:Int)<4*(a:Int)*(b:Int)):c<4*a*b:=by
 have:(4*(a:Int)*(b:Int))=((4*a*b:Nat):Int):=by simp
 rw[this]at h;omega
theorem qT{w v c e:Int}(h:smS w v)(hc:0<=c/\c<4*w*v)(he:2<e):Cc 125 [.i w,.i v,.i c,.i e] [.i 0,.i 1]:=by
 have h4:=sm4 h
 obtain⟨a,b,rfl,rfl,ha⟩:=toNat2 h
 obtain⟨k,rfl⟩:=qa1 hc.1
 have hk:k<4*a*b:=lt_nat hc.2
 have hk2:4*a*b<=100:=by
  have:(4*(a:Int)*(b:Int))=((4*a*b:Nat):Int):=by simp
  have h5:=h4.2
  change 4*(a:Int)*(b:Int)<=100 at h5
  rw[this]at h5;omega
 refine q125 rfl ?_;unfold p125
 simp(disch:=omega)only[↓qXX]
 refine aE (cellIn (mo a b ha.1 ha.2.1 ha.2.2.1 ha.2.2.2) hk) ?_
 unfold cellN
 simp(disch:=omega)only[↓qXX]
 have h1:k / 4%a<=k / 4:=Nat.mod_le _ _
 have h2:k / 4 / a<=k / 4:=Nat.div_le_self _ _
 have h3:(0:Int)<=((k / 4 / a:Nat):Int):=qa3 _
 have h5:(0:Int)<=((k / 4%a:Nat):Int):=qa3 _
 refine aE (mB (x:=Int.ofNat (k / 4%a)) (y:=Int.ofNat (k / 4 / a)) (q:=Int.ofNat (k%4)) (by simp only[qaf];omega) he) ?_
 simp(disch:=omega)only[↓qXX]
theorem rZ{w v c e:Int}(h:smS w v)(hc:0<=c/\c<4*w*v)(he:2<e):Cc 90 [.i w,.i v,.i c,.i e] [.i 0,.i 0,.i 1]:=by
 refine q90 rfl ?_;unfold p90
 simp(disch:=omega)only[↓qXX]
 refine aE (qT h hc he) ?_
 simp(disch:=omega)only[↓qXX]
def isUn(w v c e:Int):Bool:=decide (0<=c)&&decide (c<4*w*v)&&decide (e<=2)&&(match nbr w.toNat v.toNat c.toNat e.toNat with
 |some n=>Nat.blt c.toNat n
 |none=>false)
theorem name_c{w v c e:Int}(h:smS w v)(he:0<=e):∃a b r:Int,Cc 90 [.i w,.i v,.i c,.i e] [.i a,.i b,.i r]/\(isUn w v c e=true↔r=0/\a=c/\b=e):=by
 by_cases hc:0<=c/\c<4*w*v
 ·by_cases h2:e<=2
  ·obtain⟨a,b,rfl,rfl,ha⟩:=toNat2 h
   obtain⟨k,rfl⟩:=qa1 hc.1
   obtain⟨j,rfl⟩:=qa1 he
   have hk:k<4*a*b:=lt_nat hc.2
   have hn:=nameIn (mo a b ha.1 ha.2.1 ha.2.2.1 ha.2.2.2) hk (e:=j) (by omega)
   unfold nameN at hn
   cases e:nbr a b k j with
   |none=>
    rw[e]at hn
    refine⟨_,_,_,hn,?_⟩
    have:isUn (.ofNat a) (.ofNat b) (k:Int) (j:Int)=false:=by
     unfold isUn
     have e':nbr (Int.ofNat a).toNat (Int.ofNat b).toNat (k:Int).toNat (j:Int).toNat=none:=e
     rw[e'];simp
    rw[this]
    simp
   |some n=>
    rw[e]at hn
    refine⟨_,_,_,hn,?_⟩
    have hne:=nbr_ne ha.1 e
    have e':nbr (Int.ofNat a).toNat (Int.ofNat b).toNat (k:Int).toNat (j:Int).toNat=some n:=e
    unfold isUn
    rw[e']
    simp only[qaa,decide_eq_true_eq,qaH,qcu]
    constructor
    ·rintro⟨_,h3⟩
     exact⟨by trivial,by show((min k n:Nat):Int)=k;omega,by trivial⟩
    ·rintro⟨_,h3,_⟩
     have h3:((min k n:Nat):Int)=k:=h3
     exact⟨⟨⟨hc.1,hc.2⟩,h2⟩,by omega⟩
  ·refine⟨_,_,_,rZ h hc (by omega),?_⟩
   have:isUn w v c e=false:=by unfold isUn;simp[h2]
   rw[this];simp
 ·refine⟨_,_,_,uW h hc,?_⟩
  have:isUn w v c e=false:=by
   unfold isUn
   have:(decide (0<=c)&&decide (c<4*w*v))=false:=by simp;omega
   rw[this];simp
  rw[this];simp
theorem sV{w v c e:Int}(h:isUn w v c e=true):0<=c/\c<4*w*v/\e<=2:=by
 unfold isUn at h
 simp only[qaa,decide_eq_true_eq]at h
 exact⟨h.1.1.1,h.1.1.2,h.1.2⟩
end Go.Am

/-
 RULES FOR NUMBERS THAT COUNT.
-/
set_option maxRecDepth 100000
namespace Go.Am
namespace Sx
section
variable [Val] [Kno] {C:Cfg} {Sg:FuncId->Option Sig} {T:Nat->Site}
theorem dt{j:Nat}{K:Int->Prop}(h:j<=4294967296):(PH C Sg T).ari .add .i64 (Int.ofNat j) 1 (@hid _ ⟨K⟩)=K (Int.ofNat j+1):=
 p_add (by show -9223372036854775808<=(j:Int)+1;omega) (by show(j:Int)+1<=9223372036854775807;omega)
theorem n_sub{j:Nat}{K:Int->Prop}(h1:1<=j)(h:j<=4294967296):(PH C Sg T).ari .sub .i64 (Int.ofNat j) 1 (@hid _ ⟨K⟩)=K (Int.ofNat (j - 1)):=by
 rw[p_sub (by show -9223372036854775808<=(j:Int) - 1;omega) (by show(j:Int) - 1<=9223372036854775807;omega)]
 congr 1
 show(j:Int) - 1=((j - 1:Nat):Int)
 omega
theorem cd{j n:Nat}{K:Bool->Prop}(h:j<n):(PH C Sg T).cmp .lss (Int.ofNat j) (Int.ofNat n) (@hid _ ⟨K⟩)=K true:=p_lss_t (by show(j:Int)<n;omega)
theorem cu{j n:Nat}{K:Bool->Prop}(h:n<=j):(PH C Sg T).cmp .lss (Int.ofNat j) (Int.ofNat n) (@hid _ ⟨K⟩)=K false:=p_lss_f (by show(n:Int)<=j;omega)
end
theorem cV{α:Type}{l:List α}{i:Nat}{a:α}(h:l[i]? = some a):i<l.length:=by
 rcases qaw i l.length with h1|h1
 ·exact h1
 ·rw[qae h1]at h;cases h
theorem dN{α:Type}{l:List α}{i:Nat}(h:i<l.length):∃a,l[i]? = some a:=⟨_,qaA h⟩
end Sx
end Go.Am

/-
 THE TEST OF PATTERNS,told of lists.
-/
set_option maxRecDepth 100000
set_option maxHeartbeats 4000000
namespace Go.Am
open Sx Go.Proofs
def ltC(a b:Crs):Bool:=decide (a.1<b.1)||(decide (a.1=b.1)&&decide (a.2.1<b.2.1))
def ascC:List Crs->Bool
 |a :: b :: l=>ltC a b&&ascC (b :: l)
 |_=>true
theorem gW:∀ {l:List Crs},ascC l=true↔∀(i:Nat) a b,l[i]? = some a->l[i+1]? = some b->ltC a b=true
 | []=>by simp[ascC]
 | [a]=>by simp[ascC]
 |a :: b :: l=>by
  simp only[ascC,qaa]
  rw[gW (l:=b :: l)]
  constructor
  ·rintro⟨h1,h2⟩ i x y hx hy
   cases i with
   |zero=>
    simp only[qbc,qat,qbJ]at hx hy
    subst hx hy;exact h1
   |succ i=>exact h2 i x y (by simpa using hx) (by simpa using hy)
  ·intro h
   exact⟨h 0 a b rfl rfl,λi x y hx hy=>h (i+1) x y (by simpa using hx) (by simpa using hy)⟩
def unC(w v:Int)(c:Crs):Bool:=isUn w v c.1 c.2.1
def chkC(w v:Int)(l:List Crs):Int:=if l.all isK=false then 1 else if l.all (unC w v)=false then 7 else if ascC l=true then 0 else 6
theorem tY(c:Crs):Cc 91 [.i c.1,.i c.2.1,.i c.2.2] [.i c.1,.i c.2.1]:=by
 refine q91 rfl ?_;unfold p91
 simp(disch:=omega)only[↓qXX]
theorem order_c{a b:Crs}(h:0<=a.1/\a.1<=1000/\0<=b.1/\b.1<=1000/\0<=a.2.1/\a.2.1<=255/\0<=b.2.1/\b.2.1<=255):∃d:Int,Cc 92 [.i a.1,.i a.2.1,.i b.1,.i b.2.1] [.i d]/\(d<0↔ltC a b=true):=by
 by_cases h1:a.1=b.1
 ·refine⟨a.2.1 - b.2.1,?_,by simp only[ltC,qaG,qaa,decide_eq_true_eq];omega⟩
  refine q92 rfl ?_;unfold p92
  simp(disch:=omega)only[↓qXX]
 ·refine⟨a.1 - b.1,?_,by simp only[ltC,qaG,qaa,decide_eq_true_eq];omega⟩
  refine q92 rfl ?_;unfold p92
  simp(disch:=omega)only[↓qXX]
theorem check_c{w v:Int}(hs:smS w v){h:HL}{x:Value}{l:List Crs}(hl:LsH h x 3 encC l)(hk:∀c∈l,okC c)(hn:l.length<=4294967296) :
  aq cc ae 49 [.i w,.i v,.v x] (absH aa h) [.i (chkC w v l)] (absH aa h):=by
 obtain⟨rs,h',h3,rfl,rfl⟩:=x49 (K:=λrs h'=>rs=[.i (chkC w v l)]/\h'=h) (H:=h) (glsI (glsI (glsV hl.good gls0))) (by
  unfold p49
  simp(disch:=omega)only[↓qXX]
  refine aE (gh (pm hs)) ?_
  simp(disch:=omega)only[↓qXX]
  refine aW (um hl hn) ?_
  simp(disch:=omega)only[↓qXX]
  cases hb:l.all isK with
  |false=>
   simp(disch:=omega)only[↓qXX,qbU]
   exact⟨by simp[chkC,hb],by trivial⟩
  |true=>
   simp(disch:=omega)only[↓qXX,qaJ]
   refine gm hl ?_
   refine rI l.length (λj=>∀i,i<j->∀c,l[i]? = some c->unC w v c=true) rfl (qbu _) (λi hi=>absurd hi (qcF _)) ?_
   intro j hj hi self hself
   simp(disch:=omega)only[↓qXX]
   by_cases hlt:j<l.length
   ·rw[cd hlt]
    simp(disch:=omega)only[↓qXX]
    obtain⟨c,hc⟩:=dN hlt
    have hmem:=qai hc
    have hok:=hk c hmem
    unfold okC at hok
    have bad:unC w v c=false->chkC w v l=7:=λhu=>by
     have:l.all (unC w v)=false:=List.all_eq_false.2 ⟨c,hmem,by simp[hu]⟩
     simp[chkC,hb,this]
    refine fQ hl rfl hc ?_
    unfold encC
    simp(disch:=omega)only[↓qXX]
    obtain⟨a,b,r,hnm,hiff⟩:=name_c (c:=c.1) (e:=c.2.1) hs (by omega)
    refine aE hnm ?_
    simp(disch:=omega)only[↓qXX]
    by_cases hr:r=0
    ·subst hr
     simp(disch:=omega)only[↓qXX]
     refine aE (tY c) ?_
     simp(disch:=omega)only[↓qXX]
     by_cases hab:a=c.1/\b=c.2.1
     ·have hu:unC w v c=true:=hiff.2 ⟨rfl,hab.1,hab.2⟩
      simp(disch:=omega)only[↓qXX,qaJ]
      rw[dt (by omega)]
      refine hself hlt λi hi' c' hc'=>?_
      rcases qaw i j with h|h
      ·exact hi i h c' hc'
      ·obtain rfl:i=j:=by omega
       rw[hc]at hc';cases hc';exact hu
     ·have hu:unC w v c=false:=by
       rw[←qaB];intro hu
       have:=hiff.1 hu
       exact hab ⟨this.2.1,this.2.2⟩
      rw[p_eqs2_f hab]
      simp(disch:=omega)only[↓qXX,qbU]
      exact⟨by rw[bad hu],by trivial⟩
    ·have hu:unC w v c=false:=by
      rw[←qaB];intro hu
      exact hr (hiff.1 hu).1
     simp(disch:=omega)only[↓qXX]
     exact⟨by rw[bad hu],by trivial⟩
   ·obtain rfl:j=l.length:=by omega
    rw[cu (qaz _)]
    simp(disch:=omega)only[↓qXX]
    have hu:l.all (unC w v)=true:=qab.2 λc hc=>by
     obtain⟨i,hi'⟩:=qbi hc
     exact hi i (cV hi') c hi'
    refine rI (j0:=1) (max 1 l.length) (λj=>1<=j/\∀(i:Nat) a b,i+1<j->l[i]? = some a->l[i+1]? = some b->ltC a b=true) rfl (qcs _ _) ⟨qaz _,λi a b hi=>by omega⟩ ?_
    intro j hj' ⟨h1,hi2⟩ self hself
    simp(disch:=omega)only[↓qXX]
    refine gm hl ?_
    by_cases hlt:j<l.length
    ·rw[cd hlt]
     simp(disch:=omega)only[↓qXX]
     rw[n_sub h1 (by omega)]
     obtain⟨c,hc⟩:=dN (l:=l) (i:=j - 1) (by omega)
     obtain⟨d,hd⟩:=dN hlt
     have hc1:=hk c (qai hc)
     have hd1:=hk d (qai hd)
     have hc2:=sV (qab.1 hu c (qai hc))
     have hd2:=sV (qab.1 hu d (qai hd))
     have h4:=sm4 hs
     unfold okC at hc1 hd1
     refine fQ hl rfl hc ?_
     unfold encC
     simp(disch:=omega)only[↓qXX]
     refine aE (tY c) ?_
     simp(disch:=omega)only[↓qXX]
     refine fQ hl rfl hd ?_
     unfold encC
     simp(disch:=omega)only[↓qXX]
     refine aE (tY d) ?_
     simp(disch:=omega)only[↓qXX]
     obtain⟨o,ho,hoi⟩:=order_c (a:=c) (b:=d) (by omega)
     refine aE ho ?_
     simp(disch:=omega)only[↓qXX]
     by_cases hlo:o<0
     ·simp(disch:=omega)only[↓qXX]
      rw[dt (by omega)]
      refine hself (by omega) ⟨by omega,λi a b hi' ha hb'=>?_⟩
      rcases qaw (i+1) j with h|h
      ·exact hi2 i a b h ha hb'
      ·have e1:i=j - 1:=by omega
       have e2:i+1=j:=by omega
       rw[e2,hd]at hb'
       rw[e1,hc]at ha
       cases ha;cases hb'
       exact hoi.1 hlo
     ·have hna:ascC l=false:=by
       rw[←qaB,gW]
       intro hall
       have:=hall (j - 1) c d hc (by rw[show j - 1+1=j by omega];exact hd)
       exact hlo (hoi.2 this)
      simp(disch:=omega)only[↓qXX]
      exact⟨by simp[chkC,hb,hu,hna],by trivial⟩
    ·rw[cu (by omega)]
     simp(disch:=omega)only[↓qXX]
     have ha:ascC l=true:=gW.2 λi a b ha hb'=>hi2 i a b (by have:=cV hb';omega) ha hb'
     exact⟨by simp[chkC,hb,hu,ha],by trivial⟩)
 exact h3
end Go.Am

/-
 A CREASE AMONG OTHERS: binary search,told of lists;the kind across an edge.
-/
set_option maxRecDepth 100000
set_option maxHeartbeats 4000000
namespace Go.Am
open Sx Go.Proofs
def ltU(c:Crs)(a b:Int):Bool:=decide (c.1<a)||(decide (c.1=a)&&decide (c.2.1<b))
theorem iY{c:Crs}{a b:Int}:ltU c a b=true↔c.1<a∨(c.1=a/\c.2.1<b):=by
 simp only[ltU,qaG,qaa,decide_eq_true_eq]
theorem order_u{c:Crs}{a b:Int}(h:0<=c.1/\c.1<=1000/\0<=a/\a<=1000/\0<=c.2.1/\c.2.1<=255/\0<=b/\b<=255):∃d:Int,Cc 92 [.i c.1,.i c.2.1,.i a,.i b] [.i d]/\(d<0↔ltU c a b=true)/\(d=0↔c.1=a/\c.2.1=b):=by
 by_cases h1:c.1=a
 ·refine⟨c.2.1 - b,?_,by rw[iY];omega,by omega⟩
  refine q92 rfl ?_;unfold p92
  simp(disch:=omega)only[↓qXX]
 ·refine⟨c.1 - a,?_,by rw[iY];omega,by omega⟩
  refine q92 rfl ?_;unfold p92
  simp(disch:=omega)only[↓qXX]
theorem find1_c{c:Crs}{a b:Int}(h:0<=c.1/\c.1<=1000/\0<=a/\a<=1000/\0<=c.2.1/\c.2.1<=255/\0<=b/\b<=255):∃d:Int,Cc 176 [.i c.1,.i c.2.1,.i c.2.2,.i a,.i b] [.i d]/\(d<0↔ltU c a b=true)/\(d=0↔c.1=a/\c.2.1=b):=by
 obtain⟨d,hd,h1,h2⟩:=order_u h
 refine⟨d,?_,h1,h2⟩
 refine q176 rfl ?_;unfold p176
 simp(disch:=omega)only[↓qXX]
 refine aE (tY c) ?_
 simp(disch:=omega)only[↓qXX]
 refine aE hd ?_
 simp(disch:=omega)only[↓qXX]
abbrev cloF:Value:=.func (.func 176) ⟨[]⟩ ⟨[]⟩
theorem goodF1:aX cloF=true:=rfl
theorem p_half{a:Int}{K:Int->Prop}(h0:0<=a)(hk:K (a / 2)):P1.shf .shr .u64 a .u64 1 (@hid _ ⟨K⟩):=by
 refine s_shf (mf 0) (K:=λn=>if n=a / 2 then yes else none) (λn hn=>?_) ?_
 ·by_cases e:n=a / 2
  ·rw[e];exact hk
  ·simp only[if_neg e]at hn;cases hn
 ·have e0:∀(K:Int->RT),(BA ae aa (runF 0)).shf .shr .u64 a .u64 1 K=shfB .shr .u64 a .u64 1 K:=λ_=>rfl
  rw[e0]
  have e1:leZ 0 1=true:=rfl
  unfold shfB
  rw[e1]
  simp only
  rw[gF]
  have:a.fdiv (2 ^ min (1:Int).toNat IntKind.u64.bits)=a / 2:=by
   show a.fdiv 2=a / 2
   exact Int.fdiv_eq_ediv_of_nonneg a (by omega)
  rw[this,if_pos rfl]
theorem rP{a:Int}{K:Int->Prop}(h1:0<=a)(h2:a<=9223372036854775807)(hk:K a):P1.conv .u64 a (@hid _ ⟨K⟩):=by
 show K (IntKind.wrap .u64 a)
 have:IntKind.wrap .u64 a=a:=by
  simp only[IntKind.wrap,IntKind.bits,IntKind.signed,qc1,qar,if_false]
  omega
 rw[this];exact hk
def rngC(c:Crs):Prop:=0<=c.1/\c.1<=1000/\0<=c.2.1/\c.2.1<=255/\0<=c.2.2/\c.2.2<=255
def At(l:List Crs)(a b:Int)(i:Nat):Prop:=i<=l.length/\(∀(k:Nat) c,l[k]? = some c->k<i->ltU c a b=true)/\∀(k:Nat) c,l[k]? = some c->i<=k->ltU c a b=false
def isAt(l:List Crs)(a b:Int)(i:Nat):Bool:=match l[i]? with
 |some c=>decide (c.1=a)&&decide (c.2.1=b)
 |none=>false
theorem asc_le{l:List Crs}(h:ascC l=true):∀(n i:Nat) a b,l[i]? = some a->l[i+n+1]? = some b->ltC a b=true
 |0,i,a,b,ha,hb=>gW.1 h i a b ha hb
 |n+1,i,a,b,ha,hb=>by
  obtain⟨c,hc⟩:=dN (l:=l) (i:=i+n+1) (by have:=cV hb;omega)
  have h1:=asc_le h n i a c ha hc
  have h2:=gW.1 h (i+n+1) c b hc (by rw[show i+n+1+1=i+(n+1)+1 by omega];exact hb)
  simp only[ltC,qaG,qaa,decide_eq_true_eq]at h1 h2 ⊢
  omega
theorem asc_lt{l:List Crs}(h:ascC l=true){i j:Nat}{a b:Crs}(hij:i<j)(ha:l[i]? = some a)(hb:l[j]? = some b):ltC a b=true:=
 asc_le h (j - i - 1) i a b ha (by rw[show i+(j - i - 1)+1=j by omega];exact hb)
theorem bin_c{h:HL}{x:Value}{l:List Crs}(hl:LsH h x 3 encC l)(hk:∀c∈l,rngC c)(hn:l.length<=1000)(hasc:ascC l=true){a b:Int}(hu:0<=a/\a<=1000/\0<=b/\b<=255) :
  ∃i:Nat,At l a b i/\aq cc ae 175 [.v x,.i a,.i b,.v cloF] (absH aa h) [.i (Int.ofNat i),.b (isAt l a b i)] (absH aa h):=by
 obtain⟨rs,h',h1,i,rfl,rfl,h2⟩:=x175 (K:=λrs h'=>∃i:Nat,rs=[.i (Int.ofNat i),.b (isAt l a b i)]/\h'=h/\At l a b i) (H:=h) (glsV hl.good (glsI (glsI (glsV goodF1 gls0)))) (by
  unfold p175
  simp(disch:=omega)only[↓qXX]
  refine gm hl ?_
  refine db (m:=l.length) (λm ls h'=>∃i j:Nat,ls=[.i (Int.ofNat i),.i (Int.ofNat j)]/\h'=h/\i<=j/\j<=l.length/\m=j - i/\(∀(k:Nat) c,l[k]? = some c->k<i->ltU c a b=true)/\∀(k:Nat) c,l[k]? = some c->j<=k->ltU c a b=false) ⟨0,l.length,rfl,rfl,by omega,by omega,by omega,λk c _ hk=>by omega,λk c hc hk=>by have:=cV hc;omega⟩ ?_
  rintro m ls h' ⟨i,j,rfl,rfl,hij,hj,rfl,hlo,hhi⟩ self hself
  refine hidL ?_
  simp(disch:=omega)only[↓qXX]
  by_cases hlt:i<j
  ·rw[cd hlt]
   simp(disch:=omega)only[↓qXX]
   rw[p_add (by show -9223372036854775808<=(i:Int)+j;omega) (by show(i:Int)+j<=9223372036854775807;omega)]
   refine rP (by show 0<=(i:Int)+j;omega) (by show(i:Int)+j<=9223372036854775807;omega) ?_
   refine p_half (by show 0<=(i:Int)+j;omega) ?_
   have hmid:(Int.ofNat i+Int.ofNat j) / 2=Int.ofNat ((i+j) / 2):=by simp
   rw[hmid]
   rw[p_conv (by show -9223372036854775808<=(((i+j) / 2:Nat):Int);omega) (by show(((i+j) / 2:Nat):Int)<=9223372036854775807;omega)]
   obtain⟨c,hc⟩:=dN (l:=l) (i:=(i+j) / 2) (by omega)
   have hr:=hk c (qai hc)
   unfold rngC at hr
   refine fQ hl rfl hc ?_
   unfold encC
   simp(disch:=omega)only[↓qXX]
   obtain⟨d,hd,d1,d2⟩:=find1_c (c:=c) (a:=a) (b:=b) (by omega)
   refine lT (jZ (hd _) rfl [.agg [.i .i64 c.1,.i .u8 c.2.1,.i .u8 c.2.2],.agg [.i .i64 a,.i .u8 b]] rfl rfl) ?_
   simp(disch:=omega)only[↓qXX]
   by_cases hd0:d<0
   ·have ht:=d1.1 hd0
    simp(disch:=omega)only[↓qXX]
    rw[dt (by omega)]
    simp(disch:=omega)only[↓qXX]
    refine hself (j - ((i+j) / 2+1)) _ _ (by omega) ⟨(i+j) / 2+1,j,rfl,rfl,by omega,hj,rfl,λk e he hk'=>?_,hhi⟩
    rcases qaw k ((i+j) / 2)with q|q
    ·have:=asc_lt hasc q he hc
     rw[iY]at ht ⊢
     simp only[ltC,qaG,qaa,decide_eq_true_eq]at this
     omega
    ·obtain rfl:k=(i+j) / 2:=by omega
     rw[hc]at he;cases he;exact ht
   ·have hf:ltU c a b=false:=by
     rw[←qaB];intro hh;exact hd0 (d1.2 hh)
    simp(disch:=omega)only[↓qXX]
    refine hself ((i+j) / 2 - i) _ _ (by omega) ⟨i,(i+j) / 2,rfl,rfl,by omega,by omega,rfl,hlo,λk e he hk'=>?_⟩
    rcases qaw ((i+j) / 2) k with q|q
    ·have:=asc_lt hasc q hc he
     rw[←qaB,iY]at hf ⊢
     simp only[ltC,qaG,qaa,decide_eq_true_eq]at this
     omega
    ·obtain rfl:k=(i+j) / 2:=by omega
     rw[hc]at he;cases he;exact hf
  ·obtain rfl:i=j:=by omega
   rw[cu (qaz _)]
   simp(disch:=omega)only[↓qXX]
   by_cases hi:i<l.length
   ·rw[cd hi]
    simp(disch:=omega)only[↓qXX]
    obtain⟨c,hc⟩:=dN hi
    have hr:=hk c (qai hc)
    unfold rngC at hr
    refine fQ hl rfl hc ?_
    unfold encC
    simp(disch:=omega)only[↓qXX]
    obtain⟨d,hd,d1,d2⟩:=find1_c (c:=c) (a:=a) (b:=b) (by omega)
    refine lT (jZ (hd _) rfl [.agg [.i .i64 c.1,.i .u8 c.2.1,.i .u8 c.2.2],.agg [.i .i64 a,.i .u8 b]] rfl rfl) ?_
    simp(disch:=omega)only[↓qXX]
    by_cases hz:d=0
    ·have:=d2.1 hz
     rw[p_eql_t hz]
     simp(disch:=omega)only[↓qXX]
     exact⟨i,by simp[isAt,hc,this.1,this.2],by trivial,hj,hlo,hhi⟩
    ·have h3:¬(c.1=a/\c.2.1=b):=λq=>hz (d2.2 q)
     rw[p_eql_f hz]
     simp(disch:=omega)only[↓qXX]
     refine⟨i,?_,by trivial,hj,hlo,hhi⟩
     have:isAt l a b i=false:=by
      simp only[isAt,hc]
      rw[←qaB]
      simpa using h3
     rw[this]
   ·rw[cu (by omega)]
    simp(disch:=omega)only[↓qXX]
    refine⟨i,?_,by trivial,hj,hlo,hhi⟩
    have:isAt l a b i=false:=by
     simp only[isAt,qae (qcZ.1 hi)]
    rw[this])
 exact⟨i,h2,h1⟩
end Go.Am

/-
 THE KIND ACROSS AN EDGE,told of lists.
-/
set_option maxRecDepth 100000
set_option maxHeartbeats 4000000
namespace Go.Am
open Sx Go.Proofs
theorem find_c{h:HL}{x:Value}{l:List Crs}(hl:LsH h x 3 encC l)(hk:∀c∈l,rngC c)(hn:l.length<=1000)(hasc:ascC l=true){a b:Int}(hu:0<=a/\a<=1000/\0<=b/\b<=255) :
  ∃i:Nat,At l a b i/\aq cc ae 145 [.v x,.i a,.i b] (absH aa h) [.i (Int.ofNat i),.b (isAt l a b i)] (absH aa h):=by
 obtain⟨i,hi,hc⟩:=bin_c hl hk hn hasc hu
 obtain⟨rs,h',h1,rfl,rfl⟩:=x145 (K:=λrs h'=>rs=[.i (Int.ofNat i),.b (isAt l a b i)]/\h'=h) (H:=h) (glsV hl.good (glsI (glsI gls0))) (by
  unfold p145
  simp(disch:=omega)only[↓qXX]
  refine aW hc ?_
  simp(disch:=omega)only[↓qXX]
  exact⟨by trivial,by trivial⟩)
 exact⟨i,hi,h1⟩
def eqU(a b:Int)(c:Crs):Bool:=decide (c.1=a)&&decide (c.2.1=b)
def eD(l:List Crs)(a b:Int):Int:=match l.find? (eqU a b)with
 |some c=>c.2.2
 |none=>0
theorem kind_at{l:List Crs}{a b:Int}{i:Nat}(h:At l a b i)(hasc:ascC l=true):(isAt l a b i=true->∃c,l[i]? = some c/\eD l a b=c.2.2)/\(isAt l a b i=false->eD l a b=0):=by
 obtain⟨h1,h2,h3⟩:=h
 have uniq:∀(k:Nat) c,l[k]? = some c->eqU a b c=true->k=i:=by
  intro k c hc he
  simp only[eqU,qaa,decide_eq_true_eq]at he
  rcases Nat.lt_trichotomy k i with q|q|q
  ·have:=h2 k c hc q
   rw[iY]at this
   omega
  ·exact q
  ·obtain⟨d,hd⟩:=dN (l:=l) (i:=i) (by have:=cV hc;omega)
   have e1:=asc_lt hasc q hd hc
   have e2:=h3 i d hd (qaz _)
   rw[←qaB,iY]at e2
   simp only[ltC,qaG,qaa,decide_eq_true_eq]at e1
   omega
 have isA:isAt l a b i=true↔∃c,l[i]? = some c/\eqU a b c=true:=by
  unfold isAt eqU
  cases e:l[i]? with
  |none=>simp
  |some c=>simp
 unfold eD
 cases hf:l.find? (eqU a b)with
 |none=>
  have hno:=List.find?_eq_none.1 hf
  constructor
  ·intro ha
   obtain⟨c,hc,he⟩:=isA.1 ha
   exact absurd he (hno c (qai hc))
  ·intro _;rfl
 |some c=>
  have hp:=List.find?_some hf
  obtain⟨k,hk⟩:=qbi (qcO hf)
  have hki:=uniq k c hk hp
  subst hki
  constructor
  ·intro _;exact⟨c,hk,rfl⟩
  ·intro hn
   have:=isA.2 ⟨c,hk,hp⟩
   rw[hn]at this;cases this
structure Pat(w v:Nat)(l:List Crs):Prop where
 sheet:1<=w/\w<=5/\1<=v/\v<=5
 rng:∀c∈l,rngC c
 len:l.length<=1000
 ok:chkC (.ofNat w) (.ofNat v) l=0
theorem Pat.sm{w v:Nat}{l:List Crs}(h:Pat w v l):smS (.ofNat w) (.ofNat v):=by
 have:=h.sheet
 unfold smS
 simp only[qaf]
 omega
theorem Pat.asc{w v:Nat}{l:List Crs}(h:Pat w v l):ascC l=true:=by
 have:=h.ok
 unfold chkC at this
 split at this
 ·cases this
 ·split at this
  ·cases this
  ·split at this
   ·assumption
   ·cases this
theorem Pat.check{w v:Nat}{l:List Crs}(h:Pat w v l){H:HL}{x:Value}(hl:LsH H x 3 encC l):aq cc ae 49 [.i (.ofNat w),.i (.ofNat v),.v x] (absH aa H) [.i 0] (absH aa H):=by
 have:=check_c h.sm hl (λc hc=>by
  have:=h.rng c hc
  unfold rngC at this
  unfold okC
  omega) (by have:=h.len;omega)
 rw[h.ok]at this
 exact this
theorem kind_c{w v:Nat}{l:List Crs}(hp:Pat w v l){H:HL}{x:Value}(hl:LsH H x 3 encC l){c e n:Nat}(hc:c<4*w*v)(he:e<3)(hn:nbr w v c e=some n)(hn2:n<=1000) :
  aq cc ae 73 [.i (.ofNat w),.i (.ofNat v),.v x,.i (.ofNat c),.i (.ofNat e)] (absH aa H) [.i (eD l (.ofNat (min c n)) (.ofNat e)),.i 0] (absH aa H):=by
 have hsh:=hp.sheet
 have hnm:=nameIn (mo w v hsh.1 hsh.2.1 hsh.2.2.1 hsh.2.2.2) hc he
 unfold nameN at hnm
 rw[hn]at hnm
 simp only at hnm
 obtain⟨i,hi,hfi⟩:=find_c hl hp.rng hp.len hp.asc (a:=.ofNat (min c n)) (b:=.ofNat e) (by simp only[qaf];omega)
 obtain⟨k1,k2⟩:=kind_at hi hp.asc
 obtain⟨rs,h',h1,e1,e2⟩:=x115 (K:=λrs h'=>rs=[.i (.ofNat (min c n)),.i (.ofNat e),.i (.ofNat i),.b (isAt l (.ofNat (min c n)) (.ofNat e) i),.i 0]/\h'=H) (H:=H) (glsI (glsI (glsV hl.good (glsI (glsI gls0))))) (by
  unfold p115
  simp(disch:=omega)only[↓qXX]
  refine aW (hp.check hl) ?_
  simp(disch:=omega)only[↓qXX]
  refine aE hnm ?_
  simp(disch:=omega)only[↓qXX]
  refine aW hfi ?_
  simp(disch:=omega)only[↓qXX]
  exact⟨by trivial,by trivial⟩)
 rw[e1,e2]at h1
 obtain⟨rs2,h2,h3,e3,e4⟩:=x73 (K:=λrs h'=>rs=[.i (eD l (.ofNat (min c n)) (.ofNat e)),.i 0]/\h'=H) (H:=H) (glsI (glsI (glsV hl.good (glsI (glsI gls0))))) (by
  unfold p73
  simp(disch:=omega)only[↓qXX]
  refine aW h1 ?_
  simp(disch:=omega)only[↓qXX]
  cases hb:isAt l (.ofNat (min c n)) (.ofNat e) i with
  |false=>
   simp(disch:=omega)only[↓qXX,qbU]
   rw[k2 hb]
   exact⟨by trivial,by trivial⟩
  |true=>
   obtain⟨c',hc',hkk⟩:=k1 hb
   simp(disch:=omega)only[↓qXX,qaJ]
   refine uM (o:=2) (k:=1) (cs:=[.int .u8 c'.2.2]) hl rfl hc' rfl (by omega) ?_
   simp(disch:=omega)only[↓qXX]
   rw[hkk]
   exact⟨by trivial,by trivial⟩)
 rw[e3,e4]at h3
 exact h3
end Go.Am

/-
 STORES INTO LISTS: a block that holds a list of elements,one of them written.
-/
namespace Go.Am
namespace Sx
section
variable [Val] [Kno]
variable {C:Cfg} {Sg:FuncId->Option Sig} {T:Nat->Site} {α:Type}
def putE(h:HL)(id e:Nat)(enc:α->List Value)(l:List α):HL:=h.set id (.o (.cells (l.flatMap enc) e true))
theorem tI{h:HL}{id e:Nat}{enc:α->List Value}{l:List α}(hlt:id<h.length):(putE h id e enc l)[id]? = some (.o (.cells (l.flatMap enc) e true)):=by
 unfold putE
 rw[qaO hlt]
theorem putE_put{h:HL}{id e:Nat}{enc:α->List Value}{l l':List α}:(putE h id e enc l).set id (.o (.cells (l'.flatMap enc) e true))=putE h id e enc l':=by
 unfold putE
 rw[List.set_set]
theorem jh{h:HL}{id e cx:Nat}{enc:α->List Value}(henc:∀a,(enc a).length=e){l:List α}(hlt:id<h.length):LsH (putE h id e enc l) (.slice (some ⟨id,0,tag e⟩) l.length cx) e enc l:=by
 have hl:=gG (e:=e) (enc:=enc) (l:=l) λa _=>henc a
 exact⟨λa _=>henc a,hl,.inr ⟨id,0,cx,_,true,rfl,tI hlt,cut_all hl⟩⟩
theorem lr{e:Nat}{enc:α->List Value}(henc:∀a,(enc a).length=e):∀ {l:List α} {i:Nat} (a:α),i<l.length->(l.flatMap enc).take (i*e)++enc a++(l.flatMap enc).drop (i*e+e)=(l.set i a).flatMap enc
 | [],_,_,h=>by simp at h
 |b :: l,0,a,_=>by
  have hb:=henc b
  simp only[qbS,qc0,qbq,qaP,qcJ,qbo]
  rw[qcw,qct (by omega),qbq,show e - (enc b).length=0 by omega,qbs]
 |b :: l,i+1,a,h=>by
  have hb:=henc b
  have ih:=lr henc (l:=l) (i:=i) a (by simpa using h)
  simp only[List.set_cons_succ,qbo]
  rw[←ih,qbj,qb7,List.take_append,qcw]
  rw[qaU (by omega),qct (by omega),qbq]
  rw[show i*e+e - (enc b).length=i*e by omega,show i*e+e+e - (enc b).length=i*e+e by omega]
  simp[qaC]
theorem r_set{h:HL}{id e cx len:Nat}{enc:α->List Value}(henc:∀a,(enc a).length=e){l:List α}{i:Nat}{a:α}{n:Int}{new:List Value}{K:List Value->HL->Prop}(hlt:id<h.length)(hn:n=Int.ofNat i)(hi:i<l.length)(hlen:l.length=len)(hnew:new=enc a)
  (hk:K [] (putE h id e enc (l.set i a))):(PH C Sg T).opt (idS e (.slice (some ⟨id,0,tag e⟩) len cx) n) (@hid _ ⟨λx=>(PH C Sg T).heap (.st x new) (putE h id e enc l) (@hid _ ⟨K⟩)⟩):=by
 subst hn hlen hnew
 have hx:idS e (.slice (some ⟨id,0,tag e⟩) l.length cx) (Int.ofNat i)=some (.pointer (some ⟨id,i*e,none⟩)):=by
  rw[idS_eq]
  have hh:0<=Int.ofNat i/\Int.ofNat i<(l.length:Int):=⟨qa3 i,by show(i:Int)<l.length;omega⟩
  simp only[if_pos hh]
  have:¬(tag e=some 1):=by simp[tag]
  simp only[if_neg this,qaP]
  rfl
 refine bw hx ?_
 have hl:=gG (e:=e) (enc:=enc) (l:=l) λa _=>henc a
 have hle:i*e+e<=l.length*e:=by
  have:=qa6 e (show i+1<=l.length by omega)
  rw[qbj,qb7]at this;exact this
 have hrun:(Hp.st (.pointer (some ⟨id,i*e,none⟩)) (enc a)).run (getH T (putE h id e enc l)) (putE h id e enc l).length=some ([.set id (.cells ((l.set i a).flatMap enc) e true)],[]):=by
  show stP (.pointer (some ⟨id,i*e,none⟩)) (enc a) (getH T (putE h id e enc l)) (putE h id e enc l).length=_
  unfold stP
  simp only
  rw[eP (tI hlt)]
  simp only
  unfold splice
  rw[henc a,hl,if_pos hle,lr henc a hi]
  rfl
 refine iq hrun ?_
 show K [] (bY _ _)
 have:bY (putE h id e enc l) [.set id (.cells ((l.set i a).flatMap enc) e true)]=putE h id e enc (l.set i a):=putE_put
 rw[this]
 exact hk
end
end Sx
end Go.Am

/-
 RAYS ARE SORTED: insertion,told of lists.
-/
set_option maxRecDepth 100000
set_option maxHeartbeats 4000000
namespace Go.Am
open Sx Go.Proofs
abbrev Ray:=Int×Int
def encR(r:Ray):List Value:=[.int .i64 r.1,.int .u8 r.2]
theorem eM(r:Ray):(encR r).length=2:=rfl
def rngR(r:Ray):Prop:=0<=r.1/\r.1<=100/\0<=r.2/\r.2<=255
def insR(e:Ray):List Ray->List Ray
 | []=>[e]
 |p :: P=>if e.1<p.1 then p :: insR e P else e :: p :: P
def iD:List Ray->List Ray->List Ray
 | [],P=>P
 |e :: r,P=>iD r (insR e P)
def eZ(l:List Ray):List Ray:=(iD l []).reverse
theorem ky(e:Ray):∀P,(insR e P).length=P.length+1
 | []=>rfl
 |p :: P=>by
  unfold insR
  split
  ·simp[ky e P]
  ·simp
theorem sU{e:Ray}:∀ {P:List Ray} {r:Ray},r∈insR e P->r=e∨r∈P
 | [],r,h=>by simpa[insR]using h
 |p :: P,r,h=>by
  unfold insR at h
  split at h
  ·rcases qak.1 h with h|h
   ·exact .inr (by simp[h])
   ·rcases sU h with h|h
    ·exact .inl h
    ·exact .inr (by simp[h])
  ·rcases qak.1 h with h|h
   ·exact .inl h
   ·exact .inr h
theorem get_mid{α:Type}(A:List α)(x:α)(R:List α):(A++x :: R)[A.length]? = some x:=by simp
theorem get_mid1{α:Type}(A:List α)(x y:α)(R:List α):(A++x :: y :: R)[A.length+1]? = some y:=by
 rw[qam (by omega)]
 simp
theorem set_mid{α:Type}(A:List α)(x y:α)(R:List α):(A++x :: R).set A.length y=A++y :: R:=by simp
theorem set_mid1{α:Type}(A:List α)(x y z:α)(R:List α):(A++x :: y :: R).set (A.length+1) z=A++x :: z :: R:=by
 rw[qbR _ _ (by omega)]
 simp
theorem cmpR_c{a b:Ray}(ha:rngR a)(hb:rngR b):Cc 75 [.i a.1,.i a.2,.i b.1,.i b.2] [.i (a.1 - b.1)]:=by
 unfold rngR at ha hb
 refine q75 rfl ?_;unfold p75
 simp(disch:=omega)only[↓qXX]
abbrev cloR:Value:=.func (.func 75) ⟨[]⟩ ⟨[]⟩
theorem ux:aX cloR=true:=rfl
theorem ins_c{h:HL}{id cx:Nat}{l:List Ray}(hlt:id<h.length)(hr:∀r∈l,rngR r)(hn:l.length<=1000) :
  aq cc ae 146 [.v (.slice (some ⟨id,0,tag 2⟩) l.length cx),.i 0,.i (Int.ofNat l.length),.v cloR] (absH aa (putE h id 2 encR l)) [] (absH aa (putE h id 2 encR (eZ l))):=by
 have hgood:aX (.slice (some ⟨id,0,tag 2⟩) l.length cx)=true:=(jh (cx:=cx) eM hlt (l:=l)).good
 obtain⟨rs,h',h1,e1,e2⟩:=x146 (ls:=[.v (.slice (some ⟨id,0,tag 2⟩) l.length cx),.i 0,.i (Int.ofNat l.length),.v cloR]) (K:=λrs h'=>rs=[]/\h'=putE h id 2 encR (eZ l)) (H:=putE h id 2 encR l) (glsV hgood (glsI (glsI (glsV ux gls0)))) (by
  unfold p146
  simp(disch:=omega)only[↓qXX]
  cases hl:l with
  |nil=>
   refine db (m:=0) (λ_ ls h'=>ls=[.i 1]/\h'=putE h id 2 encR []) ⟨rfl,rfl⟩ ?_
   rintro m ls h' ⟨rfl,rfl⟩ self hself
   refine hidL ?_
   simp(disch:=omega)only[↓qXX]
   rw[p_lss_f (by decide)]
   simp(disch:=omega)only[↓qXX]
   exact⟨by trivial,rfl⟩
  |cons e0 r0=>
   rw[hl]at hr hn hgood
   refine db (m:=r0.length) (λm ls h'=>∃P rest,ls=[.i (Int.ofNat P.length)]/\h'=putE h id 2 encR (P.reverse++rest)/\P.length+rest.length=(e0 :: r0).length/\m=rest.length/\iD rest P=iD (e0 :: r0) []/\(∀r∈P,rngR r)/\∀r∈rest,rngR r)
    ⟨[e0],r0,rfl,rfl,by simp;omega,rfl,rfl,λr hr'=>hr r (by simp at hr';simp[hr']),λr hr'=>hr r (by simp[hr'])⟩ ?_
   rintro m ls h' ⟨P,rest,rfl,rfl,hlen,rfl,hs,hP,hR⟩ self hself
   refine hidL ?_
   simp(disch:=omega)only[↓qXX]
   cases hrest:rest with
   |nil=>
    rw[hrest]at hlen hs
    rw[cu (by simp only[qcr]at hlen;omega)]
    simp(disch:=omega)only[↓qXX]
    refine⟨by trivial,?_⟩
    show putE h id 2 encR (P.reverse++[])=putE h id 2 encR (eZ (e0 :: r0))
    have:eZ (e0 :: r0)=P.reverse:=by
     unfold eZ
     rw[←hs]
     rfl
    rw[this,qaM]
   |cons e rest=>
    rw[hrest]at hlen hs hR hself
    have he:rngR e:=hR e qay
    rw[cd (by simp only[qaN]at hlen ⊢;omega)]
    simp(disch:=omega)only[↓qXX]
    refine db (m:=P.length) (λm ls h'=>∃A B,ls=[.i (Int.ofNat A.length)]/\h'=putE h id 2 encR (A.reverse++e :: (B++rest))/\m=A.length/\(insR e A).reverse++B=(insR e P).reverse/\(∀r∈A,rngR r)/\A.length+B.length=P.length)
     ⟨P,[],rfl,by simp,rfl,by simp,hP,by simp⟩ ?_
    rintro m ls h' ⟨A,B,rfl,rfl,rfl,hins,hA,hAB⟩ self2 hself2
    refine hidL ?_
    simp(disch:=omega)only[↓qXX]
    have fin:A.reverse++e :: B=(insR e P).reverse->self [.i (Int.ofNat P.length+1)] (putE h id 2 encR (A.reverse++e :: (B++rest))):=by
     intro hq
     refine hself rest.length _ _ (by simp) ⟨insR e P,rest,?_,?_,?_,rfl,hs,λr hr'=>?_,λr hr'=>hR r (by simp[hr'])⟩
     ·rw[ky];rfl
     ·rw[←hq];simp
     ·rw[ky];simp only[qaN]at hlen ⊢;omega
     ·rcases sU hr' with h|h
      ·rw[h];exact he
      ·exact hP r h
    have hPl:P.length<=1000:=by simp only[qaN]at hlen hn;omega
    cases hA':A with
    |nil=>
     rw[hA']at hins
     have hq:(A.reverse++e :: B)=(insR e P).reverse:=by rw[hA',←hins];rfl
     have:=fin hq
     rw[hA']at this
     rw[p_gtr_f (by simp)]
     simp(disch:=omega)only[↓qXX]
     rw[dt (by omega)]
     exact this
    |cons p A2=>
     rw[hA']at hins hA hAB
     have hp:rngR p:=hA p qay
     have hL:∀R,(p :: A2).reverse++R=A2.reverse++p :: R:=λR=>by simp
     have hrl:A2.reverse.length=A2.length:=qcD
     have hlenL:(A2.reverse++p :: e :: (B++rest)).length=(e0 :: r0).length:=by
      simp only[qaD,qaN,qcD]at hlen hAB ⊢
      omega
     rw[p_gtr_t (by simp only[qaN,qaf];omega)]
     simp(disch:=omega)only[↓qXX]
     rw[hL]
     have hls:LsH (putE h id 2 encR (A2.reverse++p :: e :: (B++rest))) (.slice (some ⟨id,0,tag 2⟩) (e0 :: r0).length cx) 2 encR (A2.reverse++p :: e :: (B++rest)):=by
      rw[←hlenL]
      exact jh eM hlt
     have g1:(A2.reverse++p :: e :: (B++rest))[A2.length+1]? = some e:=by rw[←hrl];exact get_mid1 _ _ _ _
     have g0:(A2.reverse++p :: e :: (B++rest))[A2.length]? = some p:=by rw[←hrl];exact get_mid _ _ _
     refine fQ hls (by simp) g1 ?_
     unfold encR
     simp(disch:=omega)only[↓qXX]
     rw[n_sub (by simp) (by simp only[qaN]at hAB ⊢;omega)]
     refine fQ hls (by simp) g0 ?_
     unfold encR
     simp(disch:=omega)only[↓qXX]
     refine lT (jZ (cmpR_c he hp _) rfl [.agg [.i .i64 e.1,.i .u8 e.2],.agg [.i .i64 p.1,.i .u8 p.2]] rfl rfl) ?_
     simp(disch:=omega)only[↓qXX]
     by_cases hcmp:e.1<p.1
     ·rw[p_lss_t (by omega)]
      simp(disch:=omega)only[↓qXX]
      have sub1:∀K:Int->Prop,P1.ari .sub .i64 (Int.ofNat (p :: A2).length) 1 (@hid _ ⟨K⟩)=K (Int.ofNat ((p :: A2).length - 1)):=λK=>n_sub (by simp) (by simp only[qaN]at hAB ⊢;omega)
      rw[sub1]
      rw[sub1]
      refine fQ hls (by simp) g0 ?_
      unfold encR
      simp(disch:=omega)only[↓qXX]
      refine fQ hls (by simp) g1 ?_
      unfold encR
      simp(disch:=omega)only[↓qXX]
      refine r_set eM (a:=p) (i:=A2.length+1) hlt (by simp) (by simp) hlenL rfl ?_
      have s1:(A2.reverse++p :: e :: (B++rest)).set (A2.length+1) p=A2.reverse++p :: p :: (B++rest):=by rw[←hrl];exact set_mid1 _ _ _ _ _
      rw[s1]
      refine r_set eM (a:=e) (i:=A2.length) hlt (by simp) (by simp) (by rw[←hlenL];simp) rfl ?_
      have s2:(A2.reverse++p :: p :: (B++rest)).set A2.length e=A2.reverse++e :: p :: (B++rest):=by rw[←hrl];exact set_mid _ _ _ _
      rw[s2]
      rw[sub1]
      refine hself2 A2.length _ _ (by rw[hA'];simp) ⟨A2,p :: B,by simp,by simp,rfl,?_,λr hr'=>hA r (by simp[hr']),by simp only[qaN]at hAB ⊢;omega⟩
      rw[←hins]
      have:insR e (p :: A2)=p :: insR e A2:=by
       show(if e.1<p.1 then p :: insR e A2 else e :: p :: A2)=_
       rw[if_pos hcmp]
      rw[this]
      simp
     ·rw[p_lss_f (by omega)]
      simp(disch:=omega)only[↓qXX]
      rw[dt (by omega)]
      have hq:(A.reverse++e :: B)=(insR e P).reverse:=by
       rw[hA',←hins]
       unfold insR
       rw[if_neg hcmp]
       simp
      have:=fin hq
      rw[hA',hL]at this
      exact this)
 rw[e1,e2]at h1
 exact h1
end Go.Am

/-
 RAYS ARE SORTED: slices.SortFunc,for at most twelve of them.
-/
set_option maxRecDepth 100000
set_option maxHeartbeats 4000000
namespace Go.Am
open Sx Go.Proofs
def lenB(n:Nat):Nat:=if n=0 then 0 else Nat.log2 n+1
theorem len_tab:((List.range 13).all λn=>isAns [.i (.ofNat (lenB n))] (runF 60 (.f 117) [.i (.ofNat n)] .empty tell))=true:=by kernel_rfl
theorem len_c{n:Nat}(h:n<=12):Cc 117 [.i (.ofNat n)] [.i (.ofNat (lenB n))]:=
 fM (n:=60) rfl (by kernel_rfl) rfl (qab.1 len_tab n (qaj.2 (by omega)))
theorem pdq_c{h:HL}{id cx:Nat}{l:List Ray}(hlt:id<h.length)(hr:∀r∈l,rngR r)(hn:l.length<=12)(k:Int) :
  aq cc ae 116 [.v (.slice (some ⟨id,0,tag 2⟩) l.length cx),.i 0,.i (Int.ofNat l.length),.i k,.v cloR] (absH aa (putE h id 2 encR l)) [] (absH aa (putE h id 2 encR (eZ l))):=by
 have hgood:aX (.slice (some ⟨id,0,tag 2⟩) l.length cx)=true:=(jh (cx:=cx) eM hlt (l:=l)).good
 obtain⟨rs,h',h1,e1,e2⟩:=x116 (ls:=[.v (.slice (some ⟨id,0,tag 2⟩) l.length cx),.i 0,.i (Int.ofNat l.length),.i k,.v cloR]) (K:=λrs h'=>rs=[]/\h'=putE h id 2 encR (eZ l)) (H:=putE h id 2 encR l) (glsV hgood (glsI (glsI (glsI (glsV ux gls0))))) (by
  unfold p116
  simp(disch:=omega)only[↓qXX]
  refine⟨1,?_⟩
  refine hidL ?_
  simp(disch:=omega)only[↓qXX]
  have e:Int.ofNat l.length - 0=Int.ofNat l.length:=by omega
  rw[p_sub (by show -9223372036854775808<=(l.length:Int) - 0;omega) (by show(l.length:Int) - 0<=9223372036854775807;omega),e]
  rw[p_leq_t (by show(l.length:Int)<=12;omega)]
  simp(disch:=omega)only[↓qXX]
  refine aW (ins_c hlt hr (by omega)) ?_
  simp(disch:=omega)only[↓qXX]
  exact⟨by trivial,by trivial⟩)
 rw[e1,e2]at h1
 exact h1
theorem sort_c{h:HL}{id cx:Nat}{l:List Ray}(hlt:id<h.length)(hr:∀r∈l,rngR r)(hn:l.length<=12) :
  aq cc ae 74 [.v (.slice (some ⟨id,0,tag 2⟩) l.length cx),.v cloR] (absH aa (putE h id 2 encR l)) [] (absH aa (putE h id 2 encR (eZ l))):=by
 have hls:=jh (cx:=cx) eM hlt (l:=l)
 obtain⟨rs,h',h1,e1,e2⟩:=x74 (ls:=[.v (.slice (some ⟨id,0,tag 2⟩) l.length cx),.v cloR]) (K:=λrs h'=>rs=[]/\h'=putE h id 2 encR (eZ l)) (H:=putE h id 2 encR l) (glsV hls.good (glsV ux gls0)) (by
  unfold p74
  simp(disch:=omega)only[↓qXX]
  refine gm hls ?_
  refine rP (by show 0<=(l.length:Int);omega) (by show(l.length:Int)<=9223372036854775807;omega) ?_
  refine aE (len_c hn) ?_
  simp(disch:=omega)only[↓qXX]
  refine aW (pdq_c hlt hr hn _) ?_
  simp(disch:=omega)only[↓qXX]
  exact⟨by trivial,by trivial⟩)
 rw[e1,e2]at h1
 exact h1
theorem sort0_c(H:HL):aq cc ae 74 [.v (.slice none 0 0),.v cloR] (absH aa H) [] (absH aa H):=by
 obtain⟨rs,h',h1,e1,e2⟩:=x74 (ls:=[.v (.slice none 0 0),.v cloR]) (K:=λrs h'=>rs=[]/\h'=H) (H:=H) (glsV rfl (glsV ux gls0)) (by
  unfold p74
  simp(disch:=omega)only[↓qXX]
  refine bw (x:=(0:Int)) rfl ?_
  refine rP (by omega) (by omega) ?_
  refine aE (len_c (n:=0) (by omega)) ?_
  simp(disch:=omega)only[↓qXX]
  obtain⟨rs,h',g1,g2,g3⟩:=x116 (ls:=[.v (.slice none 0 0),.i 0,.i 0,.i (.ofNat (lenB 0)),.v cloR]) (K:=λrs h'=>rs=[]/\h'=H) (H:=H) (glsV rfl (glsI (glsI (glsI (glsV ux gls0))))) (by
   unfold p116
   simp(disch:=omega)only[↓qXX]
   refine⟨1,?_⟩
   refine hidL ?_
   simp(disch:=omega)only[↓qXX]
   obtain⟨rs,h',g1,g2,g3⟩:=x146 (ls:=[.v (.slice none 0 0),.i 0,.i 0,.v cloR]) (K:=λrs h'=>rs=[]/\h'=H) (H:=H) (glsV rfl (glsI (glsI (glsV ux gls0)))) (by
    unfold p146
    simp(disch:=omega)only[↓qXX]
    refine⟨1,?_⟩
    refine hidL ?_
    simp(disch:=omega)only[↓qXX]
    exact⟨by trivial,by trivial⟩)
   rw[g2,g3]at g1
   refine aW g1 ?_
   simp(disch:=omega)only[↓qXX]
   exact⟨by trivial,by trivial⟩)
  rw[g2,g3]at g1
  refine aW g1 ?_
  simp(disch:=omega)only[↓qXX]
  exact⟨by trivial,by trivial⟩)
 rw[e1,e2]at h1
 exact h1
end Go.Am

/-
 AROUND A CORNER: the iterator makes a round for each cell.
-/
set_option maxRecDepth 100000
set_option maxHeartbeats 4000000
namespace Go.Am
open Sx Go.Proofs
theorem ce{h:HL}{p:Value}{cs:List Value}{n:Nat}{K:List Value->Prop}(hp:Ptr h p cs)(hn:cs.length=n)(hk:K cs):P1.peek (.lg cc n p) h (@hid _ ⟨K⟩):=kC (hp.lg hn) hk
theorem dV{h:HL}{p:Value}{cs ds:List Value}{o k:Nat}{K:List Value->Prop}(hp:Ptr h p cs)(hok:o+k<=cs.length)(hd:ds=(cs.drop o).take k)(hk:K ds) :
  P1.opt (fdP o p) (@hid _ ⟨λy=>P1.chk y (@hid _ ⟨P1.peek (.lg cc k y) h (@hid _ ⟨K⟩)⟩)⟩):=by
 obtain⟨q,h3,h4⟩:=hp.fd o k hok
 subst hd
 have hlen:((cs.drop o).take k).length=k:=by rw[qaZ,qbQ];omega
 refine bw h3 ?_
 show aX q=true/\_
 exact⟨h4.good,kC (h4.lg hlen) hk⟩
theorem sw(x y:Nat):aS x y (many x)=aS x y 0:=by
 unfold aS
 rw[Nat.mod_self,Nat.zero_mod]
theorem ne8{j:Nat}(x y:Nat)(h1:0<j)(h2:j<many x)(hx:0<x)(hy:0<y)(hxy:x%2=y%2):aS x y j≠aS x y 0:=by
 unfold aS many ring at *
 by_cases hp:x%2=1
 ·simp only[hp,if_true]at h2 ⊢
  have:j=1∨j=2∨j=3:=by omega
  rcases this with rfl|rfl|rfl<;>simp
 ·simp only[hp,if_false]at h2 ⊢
  have:j=1∨j=2∨j=3∨j=4∨j=5∨j=6∨j=7:=by omega
  rcases this with rfl|rfl|rfl|rfl|rfl|rfl|rfl<;>simp<;>omega
abbrev spkL(w x y j:Nat):List S0:=[.leaf (.i .i64 (.ofNat (idOf w (aS x y j)))),.agg [.i .i64 (.ofNat (od x j)),.i .i64 (.ofNat (min (idOf w (aS x y j)) (idOf w (aS x y (j+1))))),.i .u8 (.ofNat (dh x j))]]
theorem start_at{x y:Nat}:aS x y 0=(x / 2,y / 2,if x%2=1 then 2 else 0):=by
 unfold aS many ring
 by_cases hp:x%2=1<;>simp[hp]
theorem many_pos(x:Nat):0<many x:=by unfold many;split<;>omega
theorem eqs3_t{a b c:Int}{K:Bool->Prop}:P1.eqs [(.i a,.i a),(.i b,.i b),(.i c,.i c)] (@hid _ ⟨K⟩)=K true:=by
 show K (bZ _)=K true
 simp[bZ,gj]
theorem cel_ext{c d:Cel}(h:Int.ofNat c.1=Int.ofNat d.1/\Int.ofNat c.2.1=Int.ofNat d.2.1/\Int.ofNat c.2.2=Int.ofNat d.2.2):c=d:=by
 obtain⟨h1,h2,h3⟩:=h
 exact Prod.ext (qbA h1) (Prod.ext (qbA h2) (qbA h3))
theorem walk_c{w v x y:Nat}(hsh:1<=w/\w<=4/\1<=v/\v<=4)(hcor:ed w v x y=true){l:Nat}{pa ps:Value}(J:Nat->HL->Prop)
  (hP:∀j h,J j h->Ptr h pa [.int .i64 (.ofNat x),.int .i64 (.ofNat y)]/\Ptr h ps [.int .i64 (.ofNat w),.int .i64 (.ofNat v)])
  (hY:∀j,j<many x->∀h,J j h->∃h',eG cc l (ah (spkL w x y j)) (absH aa h) (.bool true) (absH aa h')/\J (j+1) h') {h0:HL} (h0J:J 0 h0) :
  ∃h',aq cc ae 109 [.v (.func (.yield l) #[] #[]),.v pa,.v ps] (absH aa h0) [] (absH aa h')/\J (many x) h':=by
 have hc2:=hcor
 unfold ed at hc2
 simp only[qaa,qaH]at hc2
 obtain⟨hx0,hy0,hx1,hy1,hxy⟩:=hc2
 have hxy:=qad hxy
 obtain⟨rs,h',h1,rfl,hJ⟩:=x109 (ls:=[.v (.func (.yield l) #[] #[]),.v pa,.v ps]) (K:=λrs h'=>rs=[]/\J (many x) h') (H:=h0) (glsV rfl (glsV (hP 0 h0 h0J).1.good (glsV (hP 0 h0 h0J).2.good gls0))) (by
  unfold p109
  have hpa:=(hP 0 h0 h0J).1
  simp(disch:=omega)only[↓qXX]
  refine dV hpa (o:=0) (k:=1) (ds:=[.int .i64 (.ofNat x)]) (by simp) rfl ?_
  simp(disch:=omega)only[↓qXX]
  rw[p_quo_nn (by simp) (by decide) (by simp only[qaf];omega)]
  refine dV hpa (o:=1) (k:=1) (ds:=[.int .i64 (.ofNat y)]) (by simp) rfl ?_
  simp(disch:=omega)only[↓qXX]
  rw[p_quo_nn (by simp) (by decide) (by simp only[qaf];omega)]
  refine dV hpa (o:=0) (k:=1) (ds:=[.int .i64 (.ofNat x)]) (by simp) rfl ?_
  simp(disch:=omega)only[↓qXX]
  rw[p_rem_nn (by simp) (by decide)]
  have key:∀B:List Lf->HL->Prop,B [.i (Int.ofNat (aS x y 0).1),.i (Int.ofNat (aS x y 0).2.1),.i (Int.ofNat (aS x y 0).2.2)] h0->P1.cmp .neq (Int.ofNat x%2) 0 (@hid _ ⟨λt27=>P1.join (@hid _ ⟨B⟩) (@hid _ ⟨λj191=>P1.cond t27 (@hid _ ⟨j191 [(.i (Int.ofNat x / 2)),(.i (Int.ofNat y / 2)),(.i 2)] h0⟩) (@hid _ ⟨j191 [(.i (Int.ofNat x / 2)),(.i (Int.ofNat y / 2)),(.i 0)] h0⟩)⟩)⟩):=by
   intro B hB
   rw[start_at]at hB
   by_cases hp:x%2=1
   ·rw[if_pos hp]at hB
    rw[p_neq_t (by simp only[qaf];omega)]
    exact⟨λ_=>hB,λh=>by cases h⟩
   ·rw[if_neg hp]at hB
    rw[p_neq_f (by simp only[qaf];omega)]
    exact⟨λh=>(by cases h),λ_=>hB⟩
  refine key _ ?_
  simp(disch:=omega)only[↓qXX]
  refine db (m:=many x) (λm ls h=>∃j,j<many x/\m=many x - j/\ls=[.i (Int.ofNat (jO x j)),.i (Int.ofNat (aS x y j).1),.i (Int.ofNat (aS x y j).2.1),.i (Int.ofNat (aS x y j).2.2)]/\J j h) ⟨0,many_pos x,rfl,rfl,h0J⟩ ?_
  rintro m ls H ⟨j,hj,rfl,rfl,hJ⟩ self hself
  refine hidL ?_
  have st:=tT hsh hcor hj
  simp(disch:=omega)only[↓qXX]
  refine ce (hP j H hJ).2 rfl ?_
  simp(disch:=omega)only[↓qXX]
  refine aE st.id ?_
  simp(disch:=omega)only[↓qXX]
  refine db (m:=dh x j) (λm ls h=>∃k,k<=dh x j/\m=dh x j - k/\ls=[.i (Int.ofNat (jO x j)),.i (Int.ofNat k),.i (Int.ofNat (aS x y j).1),.i (Int.ofNat (aS x y j).2.1),.i (Int.ofNat (aS x y j).2.2)]/\h=H) ⟨0,qbu _,rfl,rfl,rfl⟩ ?_
  rintro m2 ls2 h2 ⟨k,hk,rfl,rfl,rfl⟩ self2 hself2
  refine hidL ?_
  have hle:=st.le
  simp(disch:=omega)only[↓qXX]
  rw[p_lss_t (by simp only[qaf];omega)]
  simp(disch:=omega)only[↓qXX]
  refine ce (hP j h2 hJ).1 rfl ?_
  simp(disch:=omega)only[↓qXX]
  by_cases hkl:k<dh x j
  ·have again:self2 [.i (Int.ofNat (jO x j)),.i (Int.ofNat k+1),.i (Int.ofNat (aS x y j).1),.i (Int.ofNat (aS x y j).2.1),.i (Int.ofNat (aS x y j).2.2)] h2:=hself2 (dh x j - (k+1)) _ _ (by omega) ⟨k+1,by omega,rfl,rfl,rfl⟩
   have add1:∀K:Int->Prop,P1.ari .add .u8 (Int.ofNat k) 1 (@hid _ ⟨K⟩)=K (Int.ofNat k+1):=λK=>p_add8 (by simp only[qaf];omega) (by simp only[qaf];omega)
   rcases st.skip k hkl with ht|⟨ht,hs⟩
   ·refine aE ht ?_
    simp(disch:=omega)only[↓qXX,qbU]
    rw[add1]
    exact again
   ·refine aE ht ?_
    simp(disch:=omega)only[↓qXX,qaJ]
    by_cases hkk:k=jO x j
    ·rw[p_eql_t (by rw[hkk])]
     simp(disch:=omega)only[↓qXX]
     rw[add1]
     exact again
    ·have h3:jO x j=3/\Cc 112 [.i (.ofNat (aS x y j).1),.i (.ofNat (aS x y j).2.1),.i (.ofNat (aS x y j).2.2),.i (.ofNat k),.i (.ofNat x),.i (.ofNat y)] [.b false]:=by
      rcases hs with hs|hs
      ·exact absurd hs hkk
      ·exact hs
     rw[p_eql_f (by simp only[qaf];omega)]
     simp(disch:=omega)only[↓qXX]
     rw[p_eql_t (by rw[h3.1];rfl)]
     simp(disch:=omega)only[↓qXX]
     refine ce (hP j h2 hJ).1 rfl ?_
     simp(disch:=omega)only[↓qXX]
     refine aE h3.2 ?_
     simp(disch:=omega)only[↓qXX,qbU]
     rw[add1]
     exact again
  ·obtain rfl:k=dh x j:=by omega
   refine aE st.take ?_
   simp(disch:=omega)only[↓qXX,qaJ]
   have hne:=st.ne
   rw[p_eql_f (by simp only[qaf];omega)]
   simp(disch:=omega)only[↓qXX]
   by_cases h3:jO x j=3
   ·rw[p_eql_t (by rw[h3];rfl)]
    simp(disch:=omega)only[↓qXX]
    refine ce (hP j h2 hJ).1 rfl ?_
    simp(disch:=omega)only[↓qXX]
    refine aE (st.lv h3) ?_
    simp(disch:=omega)only[↓qXX,qaJ]
    refine ce (hP j h2 hJ).2 rfl ?_
    simp(disch:=omega)only[↓qXX]
    refine aE st.name ?_
    simp(disch:=omega)only[↓qXX]
    refine ce (hP j h2 hJ).2 rfl ?_
    simp(disch:=omega)only[↓qXX]
    refine ce (hP j h2 hJ).1 rfl ?_
    simp(disch:=omega)only[↓qXX]
    refine aE st.dir ?_
    simp(disch:=omega)only[↓qXX]
    obtain⟨H',hu,hJ'⟩:=hY j hj h2 hJ
    refine p_callY (ys:=spkL w x y j) hu ?_
    simp(disch:=omega)only[↓qXX,qaJ]
    refine aE st.next ?_
    simp(disch:=omega)only[↓qXX]
    by_cases hlast:j+1=many x
    ·rw[hlast,sw]
     rw[eqs3_t]
     simp(disch:=omega)only[↓qXX]
     refine⟨by trivial,?_⟩
     rw[←hlast];exact hJ'
    ·have hne:aS x y (j+1)≠aS x y 0:=ne8 x y (by omega) (by omega) hx0 hy0 hxy
     rw[p_eqs3_f (λhq=>hne (cel_ext hq))]
     simp(disch:=omega)only[↓qXX]
     exact hself (many x - (j+1)) _ _ (by omega) ⟨j+1,by omega,rfl,rfl,hJ'⟩
   ·rw[p_eql_f (by simp only[qaf];omega)]
    simp(disch:=omega)only[↓qXX]
    refine ce (hP j h2 hJ).2 rfl ?_
    simp(disch:=omega)only[↓qXX]
    refine aE st.name ?_
    simp(disch:=omega)only[↓qXX]
    refine ce (hP j h2 hJ).2 rfl ?_
    simp(disch:=omega)only[↓qXX]
    refine ce (hP j h2 hJ).1 rfl ?_
    simp(disch:=omega)only[↓qXX]
    refine aE st.dir ?_
    simp(disch:=omega)only[↓qXX]
    obtain⟨H',hu,hJ'⟩:=hY j hj h2 hJ
    refine p_callY (ys:=spkL w x y j) hu ?_
    simp(disch:=omega)only[↓qXX,qaJ]
    refine aE st.next ?_
    simp(disch:=omega)only[↓qXX]
    by_cases hlast:j+1=many x
    ·rw[hlast,sw]
     rw[eqs3_t]
     simp(disch:=omega)only[↓qXX]
     refine⟨by trivial,?_⟩
     rw[←hlast];exact hJ'
    ·have hne:aS x y (j+1)≠aS x y 0:=ne8 x y (by omega) (by omega) hx0 hy0 hxy
     rw[p_eqs3_f (λhq=>hne (cel_ext hq))]
     simp(disch:=omega)only[↓qXX]
     exact hself (many x - (j+1)) _ _ (by omega) ⟨j+1,by omega,rfl,rfl,hJ'⟩ )
 exact⟨h',h1,hJ⟩
end Go.Am

/-
 A ROUND OF corners.Creases: the ray of a spoke,if there is a crease.
-/
set_option maxRecDepth 100000
set_option maxHeartbeats 4000000
namespace Go.Am
open Sx Go.Proofs
def gn(l:List Crs)(d u e:Nat):List Ray:=if eD l (.ofNat u) (.ofNat e)=0 then []else [(.ofNat d,eD l (.ofNat u) (.ofNat e))]
structure RF(H:HL)(n0 a b L w v:Nat)(x:Value)(l:List Crs):Prop where
 len:H.length=n0
 ha:H[a]? = some (.o (.cells [.int .i64 (.ofNat w),.int .i64 (.ofNat v),x] 3 true))
 hx:LsH H x 3 encC l
 xb:blk x≠some b
 xL:blk x≠some L
 ab:a≠b
 aL:a≠L
 bL:b≠L
 lt:a<n0/\b<n0/\L<n0
structure RS(H:HL)(n0 a b L:Nat)(R:List Ray)(h:HL):Prop where
 old:∀(i:Nat) o,i≠b->i≠L->H[i]? = some o->h[i]? = some o
 len:n0<=h.length
 out:∃xo,h[b]? = some (.o (.cells [xo] 1 true))/\MkL n0 h xo 2 encR R/\aX xo=true
 lp:h[L]? = some (.lp 592 .ready none [.pointer (some ⟨a,0,none⟩),.pointer (some ⟨b,0,none⟩)])
theorem cv{h:HL}{a:Nat}{cs:List Value}{e:Nat}{rw':Bool}(ha:h[a]? = some (.o (.cells cs e rw'))):Ptr h (.pointer (some ⟨a,0,none⟩)) cs:=
 ⟨a,0,cs,e,rw',rfl,ha,gZ.2 ⟨by omega,by simp⟩⟩
theorem st_run{h:HL}{id e:Nat}{cs new:List Value}(hg:h[id]? = some (.o (.cells cs e true)))(hl:new.length=cs.length):(Hp.st (.pointer (some ⟨id,0,none⟩)) new).run (getH aa h) h.length=some ([.set id (.cells new e true)],[]):=by
 show stP (.pointer (some ⟨id,0,none⟩)) new (getH aa h) h.length=_
 unfold stP
 simp only
 rw[eP hg]
 simp only
 unfold splice
 rw[if_pos (by omega)]
 simp[hl]
theorem round_c{H:HL}{n0 a b L w v:Nat}{x:Value}{l:List Crs}(hF:RF H n0 a b L w v x l)(hp:Pat w v l){R:List Ray}(hR:R.length<=100){h:HL}(hS:RS H n0 a b L R h){c d u e n:Nat}(hc:u<4*w*v)(he:e<3)(hn:nbr w v u e=some n)(hun:u<n)(hn2:n<=1000) :
  ∃h',eG cc L (ah [.leaf (.i .i64 (.ofNat c)),.agg [.i .i64 (.ofNat d),.i .i64 (.ofNat u),.i .u8 (.ofNat e)]]) (absH aa h) (.bool true) (absH aa h')/\RS H n0 a b L (R++gn l d u e) h':=by
 obtain⟨xo,hb,hmk,hgx⟩:=hS.out
 have hx2:aX x=true:=hF.hx.good
 obtain⟨bb,h',hu,hK1,hK2⟩:=xy592 (K:=λrs h'=>rs=[.b true]/\RS H n0 a b L (R++gn l d u e) h') (ys:=[.leaf (.i .i64 (.ofNat c)),.agg [.i .i64 (.ofNat d),.i .i64 (.ofNat u),.i .u8 (.ofNat e)]]) (ls:=[.i (.ofNat c),.i (.ofNat d),.i (.ofNat u),.i (.ofNat e)]) hS.lp ⟨rfl,rfl,by
   intro y hy z hz
   simp only[qak,qbH,or_false]at hy
   rcases hy with rfl|rfl<;>simp only[S0.cells,qak,qbH,or_false]at hz
   ·subst hz;trivial
   ·rcases hz with rfl|rfl|rfl<;>trivial⟩ (by
  unfold py592
  simp(disch:=omega)only[↓qXX]
  refine bi rfl ?_
  simp(disch:=omega)only[↓qXX]
  refine bi rfl ?_
  simp(disch:=omega)only[↓qXX]
  have hnew:(h++[HO.o (.cells [.int .i64 0,.int .i64 0,.int .u8 0] 3 true)])[h.length]? = some (.o (.cells [.int .i64 0,.int .i64 0,.int .u8 0] 3 true)):=by simp
  refine iq (acts:=[.set h.length (.cells [.int .i64 (.ofNat d),.int .i64 (.ofNat u),.int .u8 (.ofNat e)] 3 true)]) (cs:=[]) (st_run hnew rfl) ?_
  have e1:bY (h++[HO.o (.cells [.int .i64 0,.int .i64 0,.int .u8 0] 3 true)]) [.set h.length (.cells [.int .i64 (.ofNat d),.int .i64 (.ofNat u),.int .u8 (.ofNat e)] 3 true)]=h++[HO.o (.cells [.int .i64 (.ofNat d),.int .i64 (.ofNat u),.int .u8 (.ofNat e)] 3 true)]:=by
   show(h++[_]).set h.length _=_
   simp
  rw[e1]
  have hLlt:L<h.length:=cV hS.lp
  refine p_lp1 (κ:=592) (pd:=none) (vs:=[.pointer (some ⟨a,0,none⟩),.pointer (some ⟨b,0,none⟩)]) (by rw[qag hLlt];exact hS.lp) ?_
  have facts:∃h3,h3=(h++[HO.o (.cells [.int .i64 (.ofNat d),.int .i64 (.ofNat u),.int .u8 (.ofNat e)] 3 true)]).set L (.lp 592 .busy none [.pointer (some ⟨a,0,none⟩),.pointer (some ⟨b,0,none⟩)])/\(∀(i:Nat) o,i≠L->h[i]? = some o->h3[i]? = some o)/\h3[h.length]? = some (.o (.cells [.int .i64 (.ofNat d),.int .i64 (.ofNat u),.int .u8 (.ofNat e)] 3 true))/\h3[L]? = some (.lp 592 .busy none [.pointer (some ⟨a,0,none⟩),.pointer (some ⟨b,0,none⟩)])/\h3.length=h.length+1:=by
   refine⟨_,rfl,λi o hi ho=>?_,?_,?_,by simp⟩
   ·rw[qap (qb3 hi),qag (cV ho)];exact ho
   ·rw[qap (by omega)];simp
   ·rw[qaO (by simp;omega)]
  obtain⟨h3,hh3,f1,f2,f3,f4⟩:=facts
  rw[←hh3]
  have ha3:=f1 a _ hF.aL (hS.old a _ hF.ab hF.aL hF.ha)
  refine ce (cv ha3) rfl ?_
  simp(disch:=omega)only[↓qXX]
  refine bi hx2 ?_
  simp(disch:=omega)only[↓qXX]
  obtain⟨q,q1,q2⟩:=(cv f2).fd 1 2 (by simp)
  refine bw q1 (bi q2.good ?_)
  refine dV q2 (o:=0) (k:=1) (ds:=[.int .i64 (.ofNat u)]) (by simp) rfl ?_
  simp(disch:=omega)only[↓qXX]
  refine bw q1 (bi q2.good ?_)
  refine dV q2 (o:=1) (k:=1) (ds:=[.int .u8 (.ofNat e)]) (by simp) rfl ?_
  simp(disch:=omega)only[↓qXX]
  have hls3:LsH h3 x 3 encC l:=hF.hx.keep λj o hj hbj=>f1 j o (λq=>hF.xL (by rw[hbj,q])) (hS.old j o (λq=>hF.xb (by rw[hbj,q])) (λq=>hF.xL (by rw[hbj,q])) hj)
  have hkd:=kind_c hp hls3 hc he hn hn2
  rw[qco (by omega:u<=n)]at hkd
  refine aW hkd ?_
  simp(disch:=omega)only[↓qXX]
  by_cases hk0:eD l (.ofNat u) (.ofNat e)=0
  ·rw[p_neq_f hk0]
   simp(disch:=omega)only[↓qXX]
   refine p_lp2 f3 ?_
   simp(disch:=omega)only[↓qXX]
   refine⟨by trivial,?_⟩
   have hray:gn l d u e=[]:=if_pos hk0
   rw[hray,qaM]
   refine⟨λi o hi1 hi2 ho=>?_,by rw[qcG,f4];have:=hS.len;omega,⟨xo,?_,hmk.keep λj o hj hbj=>?_,hgx⟩,?_⟩
   ·rw[qap (qb3 hi2)];exact f1 i o hi2 (hS.old i o hi1 hi2 ho)
   ·rw[qap (qb3 hF.bL)];exact f1 b _ hF.bL hb
   ·have:=(ss hmk.2 hbj).1
    have hLn:=hF.lt.2.2
    rw[qap (by omega)];exact f1 j o (by omega) hj
   ·rw[qaO (by rw[f4];omega)]
  ·rw[p_neq_t hk0]
   simp(disch:=omega)only[↓qXX]
   have hb3:=f1 b _ hF.bL hb
   refine ce (cv hb3) rfl ?_
   simp(disch:=omega)only[↓qXX]
   refine bi hgx ?_
   simp(disch:=omega)only[↓qXX]
   refine dV (cv f2) (o:=0) (k:=1) (ds:=[.int .i64 (.ofNat d)]) (by simp) rfl ?_
   simp(disch:=omega)only[↓qXX]
   have hl0:(h3.take n0).length=n0:=by rw[qaZ,f4];have:=hS.len;omega
   have hmk3:MkL (h3.take n0).length h3 xo 2 encR R:=by
    rw[hl0]
    exact hmk.keep λj o hj hbj=>f1 j o (by have:=(ss hmk.2 hbj).1;have:=hF.lt.2.2;omega) hj
   refine tw (h0:=h3.take n0) (a:=(.ofNat d,eD l (.ofNat u) (.ofNat e))) ⟨h3.drop n0,by simp⟩ hmk3 rfl rfl rfl rfl (by
    unfold cf
    rw[qaa,qaX,qaX]
    omega) λv' h' hp' hm' hg' hold hblk=>?_
   have nb:∀i,i<n0->blk xo≠some i:=λi hi hq=>by have:=(ss hmk.2 hq).1;omega
   simp(disch:=omega)only[↓qXX]
   refine bi hg' ?_
   simp(disch:=omega)only[↓qXX]
   have hb':=hold b _ hb3 (nb b hF.lt.2.1)
   refine iq (st_run hb' rfl) ?_
   have e2:bY h' [.set b (.cells [v'] 1 true)]=h'.set b (.o (.cells [v'] 1 true)):=rfl
   rw[e2]
   simp(disch:=omega)only[↓qXX]
   have hL':=hold L _ f3 (nb L hF.lt.2.2)
   refine p_lp2 (by rw[qap hF.bL];exact hL') ?_
   simp(disch:=omega)only[↓qXX]
   refine⟨by trivial,?_⟩
   have hray:gn l d u e=[(.ofNat d,eD l (.ofNat u) (.ofNat e))]:=if_neg hk0
   rw[hray]
   rw[hl0]at hm'
   have hbl:=cV hb'
   have hLl:=cV hL'
   have hlen':n0<=h'.length:=by have:=hp'.len;rw[hl0]at this;exact this
   refine⟨λi o hi1 hi2 ho=>?_,by rw[qcG,qcG];exact hlen',⟨v',?_,hm'.keep λj o hj hbj=>?_,hg'⟩,?_⟩
   ·rw[qap (qb3 hi2),qap (qb3 hi1)]
    have hin:i<n0:=by have:=cV ho;rw[hF.len]at this;exact this
    exact hold i o (f1 i o hi2 (hS.old i o hi1 hi2 ho)) (nb i hin)
   ·rw[qap (qb3 hF.bL),qaO hbl]
   ·have h5:=(ss hm'.2 hbj).1
    have h6:=hF.lt
    rw[qap (by omega),qap (by omega)];exact hj
   ·rw[qaO (by rw[qcG];exact hLl)])
 cases hK1
 exact⟨h',hu,hK2⟩
end Go.Am

/-
 corners.walk and corners.corner,told.
-/
set_option maxRecDepth 100000
set_option maxHeartbeats 4000000
namespace Go.Am
open Sx Go.Proofs
abbrev cloW(n:Nat):Value:=.func (.func 109) ⟨[]⟩ ⟨[.pointer (some ⟨n+1,0,none⟩),.pointer (some ⟨n,0,none⟩)]⟩
theorem walkF_c(H:HL)(w v x y:Int):aq cc ae 72 [.i w,.i v,.i x,.i y] (absH aa H) [.v (cloW H.length)] (absH aa (H++[.o (.cells [.int .i64 w,.int .i64 v] 2 true),.o (.cells [.int .i64 x,.int .i64 y] 2 true)])):=by
 obtain⟨rs,h',h1,e1,e2⟩:=u72 (ls:=[.i w,.i v,.i x,.i y]) (K:=λrs h'=>rs=[.v (cloW H.length)]/\h'=H++[.o (.cells [.int .i64 w,.int .i64 v] 2 true),.o (.cells [.int .i64 x,.int .i64 y] 2 true)]) (H:=H) rfl (by
  unfold p72
  simp(disch:=omega)only[↓qXX]
  refine bi rfl ?_
  refine⟨?_,?_⟩
  ·simp
  ·simp)
 rw[e1,e2]at h1
 exact h1
theorem corner_i{w v x y:Int}(h:1<=w/\w<=4/\1<=v/\v<=4/\0<x/\x<2*w/\0<y/\y<2*v/\x%2=y%2):Cc 71 [.i w,.i v,.i x,.i y] [.i 0]:=by
 refine q71 rfl ?_;unfold p71
 simp(disch:=omega)only[↓qXX]
 refine aE (gh (pm (by unfold smS;omega))) ?_
 simp(disch:=omega)only[↓qXX]
theorem corner_c{w v x y:Nat}(hsh:1<=w/\w<=4/\1<=v/\v<=4)(hcor:ed w v x y=true):Cc 71 [.i (.ofNat w),.i (.ofNat v),.i (.ofNat x),.i (.ofNat y)] [.i 0]:=by
 have hc2:=hcor
 unfold ed at hc2
 simp only[qaa,qaH]at hc2
 obtain⟨hx0,hy0,hx1,hy1,hxy⟩:=hc2
 have hxy:=qad hxy
 exact corner_i (by simp only[qaf];omega)
end Go.Am

/-
 SPOKES ARE UNITS: by the kernel.
-/
set_option maxRecDepth 100000
namespace Go.Am
open Sx Go.Proofs
def jT(w x y j:Nat):Nat:=min (idOf w (aS x y j)) (idOf w (aS x y (j+1)))
def uniT(w v x y j:Nat):Bool:=match nbr w v (jT w x y j) (dh x j)with
 |some n=>Nat.blt (jT w x y j) n&&(Nat.blt (jT w x y j) (4*w*v)&&Nat.ble n 1000)
 |none=>false
def uniAll(w v:Nat):Bool:=(List.range (2*w)).all λx=>(List.range (2*v)).all λy=>!(ed w v x y)||(List.range (many x)).all λj=>uniT w v x y j
theorem uni_all:∀w v:Nat,1<=w->w<=4->1<=v->v<=4->uniAll w v=true:=by
 have key:((List.range 4).all λw=>(List.range 4).all λv=>uniAll (w+1) (v+1))=true:=by kernel_rfl
 intro w v h1 h2 h3 h4
 have h5:=qab.1 key (w - 1) (qaj.2 (by omega))
 have h6:=qab.1 h5 (v - 1) (qaj.2 (by omega))
 have e1:w - 1+1=w:=by omega
 have e2:v - 1+1=v:=by omega
 rw[e1,e2]at h6
 exact h6
theorem uni_of{w v x y:Nat}(h1:1<=w/\w<=4/\1<=v/\v<=4)(h2:ed w v x y=true){j:Nat}(hj:j<many x):∃n,nbr w v (jT w x y j) (dh x j)=some n/\jT w x y j<n/\jT w x y j<4*w*v/\n<=1000:=by
 have h:=uni_all w v h1.1 h1.2.1 h1.2.2.1 h1.2.2.2
 have h3:=h2
 unfold ed at h3
 simp only[qaa,qaH]at h3
 have h4:=qab.1 (qab.1 h x (qaj.2 (by omega))) y (qaj.2 (by omega))
 rw[h2]at h4
 simp only[qaJ,qbC]at h4
 have h5:=qab.1 h4 j (qaj.2 hj)
 unfold uniT at h5
 split at h5
 ·rename_i n e
  simp only[qaa,qaH,qaX]at h5
  exact⟨n,e,h5.1,h5.2.1,h5.2.2⟩
 ·cases h5
def cS(l:List Crs)(w x y:Nat):Nat->List Ray
 |0=>[]
 |j+1=>cS l w x y j++gn l (od x j) (jT w x y j) (dh x j)
theorem qK(l:List Crs)(d u e:Nat):(gn l d u e).length<=1:=by
 unfold gn
 split<;>simp
theorem gc(l:List Crs)(w x y:Nat):∀j,(cS l w x y j).length<=j
 |0=>qaz _
 |j+1=>by
  unfold cS
  rw[qaD]
  have:=gc l w x y j
  have:=qK l (od x j) (jT w x y j) (dh x j)
  omega
end Go.Am

/-
 corners.Creases,told.
-/
set_option maxRecDepth 100000
set_option maxHeartbeats 4000000
namespace Go.Am
open Sx Go.Proofs
theorem walkR_c{w v x y:Nat}(hsh:1<=w/\w<=4/\1<=v/\v<=4)(hcor:ed w v x y=true){l:List Crs}(hp:Pat w v l){H:HL}{n0 a b L pa ps:Nat}{xv:Value}(hF:RF H n0 a b L w v xv l)
  (hpa:H[pa]? = some (.o (.cells [.int .i64 (.ofNat x),.int .i64 (.ofNat y)] 2 true))) (hps:H[ps]? = some (.o (.cells [.int .i64 (.ofNat w),.int .i64 (.ofNat v)] 2 true))) (d1:pa≠b/\pa≠L/\ps≠b/\ps≠L) (hS:RS H n0 a b L [] H) :
  ∃h',aq cc ae 109 [.v (.func (.yield L) #[] #[]),.v (.pointer (some ⟨pa,0,none⟩)),.v (.pointer (some ⟨ps,0,none⟩))] (absH aa H) [] (absH aa h')/\RS H n0 a b L (cS l w x y (many x)) h':=by
 refine walk_c hsh hcor (λj h=>RS H n0 a b L (cS l w x y j) h) (λj h hj=>⟨cv (hj.old pa _ d1.1 d1.2.1 hpa),cv (hj.old ps _ d1.2.2.1 d1.2.2.2 hps)⟩) (λj hj h hJ=>?_) hS
 obtain⟨n,u1,u2,u3,u4⟩:=uni_of hsh hcor hj
 have hm:many x<=8:=by unfold many;split<;>omega
 exact round_c hF hp (by have:=gc l w x y j;omega) hJ u3 (by have:=(tT hsh hcor hj).le;omega) u1 u2 u4
end Go.Am

/-
 corners.Creases,told: the list of rays.
-/
set_option maxRecDepth 100000
set_option maxHeartbeats 4000000
namespace Go.Am
open Sx Go.Proofs
theorem pre_of{H h:HL}(hk:∀(i:Nat) o,H[i]? = some o->h[i]? = some o):Pre H h:=by
 refine⟨h.drop H.length,?_⟩
 conv=>lhs;rw[←qbF H.length h]
 congr 1
 apply qaS
 intro i
 rw[qba]
 by_cases hi:i<H.length
 ·rw[if_pos hi,hk i _ (qaA hi),qaA hi]
 ·rw[if_neg hi,qae (by omega)]
theorem putE_self{h:HL}{id:Nat}{R:List Ray}(hg:h[id]? = some (.o (.cells (R.flatMap encR) 2 true))):putE h id 2 encR R=h:=by
 unfold putE
 apply qaS
 intro i
 by_cases hi:id=i
 ·subst hi
  rw[qaO (cV hg),hg]
 ·rw[qap hi]
theorem clip_c(H:HL){id n:Nat}:aq cc ae 76 [.v (.slice (some ⟨id,0,tag 2⟩) n 0)] (absH aa H) [.v (.slice (some ⟨id,0,tag 2⟩) n (n+1))] (absH aa H):=by
 obtain⟨rs,h',h1,e1,e2⟩:=x76 (ls:=[.v (.slice (some ⟨id,0,tag 2⟩) n 0)]) (K:=λrs h'=>rs=[.v (.slice (some ⟨id,0,tag 2⟩) n (n+1))]/\h'=H) (H:=H) (glsV rfl gls0) (by
  unfold p76
  simp(disch:=omega)only[↓qXX]
  refine bw (x:=Int.ofNat n) rfl ?_
  refine bw (x:=Int.ofNat n) rfl ?_
  have e:slS 2 (.slice (some ⟨id,0,tag 2⟩) n 0) none (some (Int.ofNat n)) (some (Int.ofNat n))=some (.slice (some ⟨id,0,tag 2⟩) n (n+1)):=by
   unfold slS
   simp only
   rw[if_neg (by simp),if_pos (by simp[dY])]
   simp[eO,bT]
  refine bw e ?_
  refine bi rfl ?_
  exact⟨by trivial,by trivial⟩)
 rw[e1,e2]at h1
 exact h1
theorem qY:∀(l P:List Ray),(iD l P).length=l.length+P.length
 | [],P=>by simp[iD]
 |e :: r,P=>by
  rw[show iD (e :: r) P=iD r (insR e P)from rfl,qY r,ky]
  simp only[qaN]
  omega
theorem mm(l:List Ray):(eZ l).length=l.length:=by
 unfold eZ
 rw[qcD,qY]
 simp
theorem qq{l:List Crs}(hr:∀c∈l,rngC c)(a b:Int):0<=eD l a b/\eD l a b<=255:=by
 unfold eD
 split
 ·rename_i c hf
  have:=hr c (qcO hf)
  unfold rngC at this
  omega
 ·omega
theorem nC{l:List Crs}(hr:∀c∈l,rngC c)(w x y:Nat):∀j,∀r∈cS l w x y j,rngR r
 |0,r,h=>by cases h
 |j+1,r,h=>by
  unfold cS at h
  rcases qaK.1 h with h|h
  ·exact nC hr w x y j r h
  ·unfold gn at h
   split at h
   ·cases h
   ·have e:=qax.1 h
    subst e
    have hd:od x j<8:=by unfold od;split<;>omega
    have:=qq hr (Int.ofNat (jT w x y j)) (Int.ofNat (dh x j))
    unfold rngR
    simp only[qaf]at this ⊢
    omega
theorem clip0_c(H:HL):aq cc ae 76 [.v (.slice none 0 0)] (absH aa H) [.v (.slice none 0 0)] (absH aa H):=by
 obtain⟨rs,h',h1,e1,e2⟩:=x76 (ls:=[.v (.slice none 0 0)]) (K:=λrs h'=>rs=[.v (.slice none 0 0)]/\h'=H) (H:=H) (glsV rfl gls0) (by
  unfold p76
  simp(disch:=omega)only[↓qXX]
  refine bw (x:=(0:Int)) rfl ?_
  refine bw (x:=(0:Int)) rfl ?_
  refine bw (x:=.slice none 0 0) rfl ?_
  refine bi rfl ?_
  exact⟨by trivial,by trivial⟩)
 rw[e1,e2]at h1
 exact h1
theorem p_pend{kn kr:Prop}{ks:List (Nat×Prop)}(hk:kn):P1.pend none (@hid _ ⟨kn⟩) kr ks:=hk
theorem creases_c{w v x y:Nat}(hsh:1<=w/\w<=4/\1<=v/\v<=4)(hcor:ed w v x y=true){l:List Crs}(hp:Pat w v l){H:HL}{xv:Value}(hl:LsH H xv 3 encC l) :
  ∃G rx,aq cc ae 37 [.i (.ofNat w),.i (.ofNat v),.v xv,.i (.ofNat x),.i (.ofNat y)] (absH aa H) [.v rx,.i 0] (absH aa (H++G))/\LsH (H++G) rx 2 encR (eZ (cS l w x y (many x)))/\capS rx=some (Int.ofNat (eZ (cS l w x y (many x))).length):=by
 obtain⟨rs,h',h1,rx,e1,hpre,hrx,hcap⟩:=x37 (ls:=[.i (.ofNat w),.i (.ofNat v),.v xv,.i (.ofNat x),.i (.ofNat y)]) (K:=λrs h'=>∃rx,rs=[.v rx,.i 0]/\Pre H h'/\LsH h' rx 2 encR (eZ (cS l w x y (many x)))/\capS rx=some (Int.ofNat (eZ (cS l w x y (many x))).length)) (H:=H) (glsI (glsI (glsV hl.good (glsI (glsI gls0))))) (by
  unfold p37
  simp(disch:=omega)only[↓qXX]
  have a1:(H++[HO.o (.cells [.int .i64 (.ofNat w),.int .i64 (.ofNat v),xv] 3 true)])[H.length]? = some (.o (.cells [.int .i64 (.ofNat w),.int .i64 (.ofNat v),xv] 3 true)):=by simp
  refine ce (cv a1) rfl ?_
  simp(disch:=omega)only[↓qXX]
  refine bi hl.good ?_
  simp(disch:=omega)only[↓qXX]
  refine aW (hp.check (hl.pre ⟨_,rfl⟩)) ?_
  simp(disch:=omega)only[↓qXX]
  refine dV (cv a1) (o:=0) (k:=2) (ds:=[.int .i64 (.ofNat w),.int .i64 (.ofNat v)]) (by simp) rfl ?_
  simp(disch:=omega)only[↓qXX]
  refine aE (corner_c hsh hcor) ?_
  simp(disch:=omega)only[↓qXX]
  obtain⟨hA,ehA⟩ : ∃hA,hA=H++[HO.o (.cells [.int .i64 (.ofNat w),.int .i64 (.ofNat v),xv] 3 true)]++[HO.o (.cells [.slice none 0 0] 1 true)]:=⟨_,rfl⟩
  have lA:hA.length=H.length+2:=by rw[ehA];simp
  have gA:hA[H.length]? = some (.o (.cells [.int .i64 (.ofNat w),.int .i64 (.ofNat v),xv] 3 true)):=by rw[ehA];simp
  have gB:hA[H.length+1]? = some (.o (.cells [.slice none 0 0] 1 true)):=by rw[ehA];simp
  have pA:Pre H hA:=⟨_,by rw[ehA,qaC]⟩
  have e2:(H++[HO.o (.cells [.int .i64 (.ofNat w),.int .i64 (.ofNat v),xv] 3 true)]).length=H.length+1:=by simp
  rw[e2,←ehA]
  refine dV (cv gA) (o:=0) (k:=2) (ds:=[.int .i64 (.ofNat w),.int .i64 (.ofNat v)]) (by simp) rfl ?_
  simp(disch:=omega)only[↓qXX]
  refine aW (walkF_c hA _ _ _ _) ?_
  simp(disch:=omega)only[↓qXX]
  obtain⟨hB,ehB⟩ : ∃hB,hB=hA++[HO.o (.cells [.int .i64 (.ofNat w),.int .i64 (.ofNat v)] 2 true),HO.o (.cells [.int .i64 (.ofNat x),.int .i64 (.ofNat y)] 2 true)]:=⟨_,rfl⟩
  rw[←ehB]
  have lB:hB.length=H.length+4:=by rw[ehB];simp;omega
  have pB:Pre hA hB:=⟨_,ehB⟩
  have gs:hB[hA.length]? = some (.o (.cells [.int .i64 (.ofNat w),.int .i64 (.ofNat v)] 2 true)):=by rw[ehB];simp
  have ga:hB[hA.length+1]? = some (.o (.cells [.int .i64 (.ofNat x),.int .i64 (.ofNat y)] 2 true)):=by rw[ehB];simp
  obtain⟨hC,ehC⟩ : ∃hC,hC=hB++[HO.lp 592 .ready none [.pointer (some ⟨H.length,0,none⟩),.pointer (some ⟨H.length+1,0,none⟩)]]:=⟨_,rfl⟩
  have pC:Pre hB hC:=⟨_,ehC⟩
  have lC:hC.length=H.length+5:=by rw[ehC];simp;omega
  have gl:hC[hB.length]? = some (.lp 592 .ready none [.pointer (some ⟨H.length,0,none⟩),.pointer (some ⟨H.length+1,0,none⟩)]):=by rw[ehC];simp
  have hxC:LsH hC xv 3 encC l:=((hl.pre pA).pre pB).pre pC
  have hxb:∀i,H.length<=i->blk xv≠some i:=λi hi hq=>by
   obtain⟨_,_,⟨rfl,_⟩|⟨id,off,cx,vs,rw',rfl,h2,_⟩⟩:=hl
   ·cases hq
   ·have e:id=i:=qan hq
    have:=cV h2
    omega
  have hF:RF hC (H.length+5) H.length (H.length+1) hB.length w v xv l:=⟨lC,pC.get (pB.get gA),hxC,hxb _ (by omega),hxb _ (by omega),by omega,by omega,by omega,by omega⟩
  have hS:RS hC (H.length+5) H.length (H.length+1) hB.length [] hC:=⟨λ_ _ _ _ h=>h,by omega,⟨_,pC.get (pB.get gB),MkL.nil _ _ _ _,rfl⟩,gl⟩
  obtain⟨h5,c5,s5⟩:=walkR_c hsh hcor hp hF (pC.get ga) (pC.get gs) (by omega) hS
  rw[ehC]at c5
  refine p_rfun (sg:=⟨[lv,lv,lv],[]⟩) (xs:=[.leaf (.v (.func (.yield hB.length) #[] #[])),.leaf (.v (.pointer (some ⟨hA.length+1,0,none⟩))),.leaf (.v (.pointer (some ⟨hA.length,0,none⟩)))]) c5 rfl rfl rfl rfl s5.lp (by simp) ?_
  refine p_pend ?_
  obtain⟨xo,gx,mk,ggx⟩:=s5.out
  have hbl:H.length+1≠hB.length:=by omega
  have gx2:(h5.set hB.length (.lp 592 .exhausted none [.pointer (some ⟨H.length,0,none⟩),.pointer (some ⟨H.length+1,0,none⟩)]))[H.length+1]? = some (.o (.cells [xo] 1 true)):=by rw[qap (qb3 hbl)];exact gx
  refine ce (cv gx2) rfl ?_
  simp(disch:=omega)only[↓qXX]
  refine bi ggx ?_
  simp(disch:=omega)only[↓qXX]
  obtain⟨h6,eh6⟩ : ∃h6,h6=h5.set hB.length (.lp 592 .exhausted none [.pointer (some ⟨H.length,0,none⟩),.pointer (some ⟨H.length+1,0,none⟩)]):=⟨_,rfl⟩
  rw[←eh6]at gx2 ⊢
  have o6:∀(i:Nat) o,i≠hB.length->h5[i]? = some o->h6[i]? = some o:=λi o hi ho=>by rw[eh6,qap (qb3 hi)];exact ho
  have oH:∀(i:Nat) o,H[i]? = some o->h6[i]? = some o:=λi o ho=>by
   have:=cV ho
   exact o6 i o (by omega) (s5.old i o (by omega) (by omega) (pC.get (pB.get (pA.get ho))))
  have hm8:many x<=8:=by unfold many;split<;>omega
  have hrl:=gc l w x y (many x)
  have hrr:=nC hp.rng w x y (many x)
  obtain⟨m1,m2,⟨rfl,hn⟩|⟨id,hid0,rfl,hg⟩⟩:=mk
  ·have hnil:cS l w x y (many x)=[]:=qa2.1 hn
   refine aW (sort0_c h6) ?_
   simp(disch:=omega)only[↓qXX]
   refine ce (cv gx2) rfl ?_
   simp(disch:=omega)only[↓qXX]
   refine bi rfl ?_
   simp(disch:=omega)only[↓qXX]
   refine aW (clip0_c h6) ?_
   simp(disch:=omega)only[↓qXX]
   exact⟨_,by trivial,pre_of oH,by rw[hnil];exact LsH.nil _ _ _,by rw[hnil];rfl⟩
  ·have hg6:=o6 id _ (by omega) hg
   have hs:=sort_c (h:=h6) (cx:=0) (cV hg6) hrr (by omega)
   rw[putE_self hg6]at hs
   refine aW hs ?_
   simp(disch:=omega)only[↓qXX]
   have gx7:(putE h6 id 2 encR (eZ (cS l w x y (many x))))[H.length+1]? = some (.o (.cells [.slice (some ⟨id,0,tag 2⟩) (cS l w x y (many x)).length 0] 1 true)):=by
    unfold putE
    rw[qap (by omega)];exact gx2
   refine ce (cv gx7) rfl ?_
   simp(disch:=omega)only[↓qXX]
   refine bi ggx ?_
   simp(disch:=omega)only[↓qXX]
   refine aW (clip_c _) ?_
   simp(disch:=omega)only[↓qXX]
   refine⟨_,by trivial,pre_of λi o ho=>?_,?_,by rw[mm];rfl⟩
   ·unfold putE
    have:=cV ho
    rw[qap (by omega)];exact oH i o ho
   ·rw[←mm]
    exact jh eM (cV hg6))
 obtain⟨G,rfl⟩:=hpre
 rw[e1]at h1
 exact⟨G,rx,h1,hrx,hcap⟩
end Go.Am

/-
 LISTS THAT ARE MADE AND FILLED: a block of zeros behind the heap,written element by element.
-/
namespace Go.Am
namespace Sx
section
variable [Val] [Kno]
variable {C:Cfg} {Sg:FuncId->Option Sig} {T:Nat->Site} {α:Type}
theorem vc{enc:α->List Value}{z:α}{n:Nat}:aU (enc z) n=(List.replicate n z).flatMap enc:=by
 unfold aU
 rw[List.flatMap_def,List.map_replicate]
def iR(z:α)(A:List α)(k:Nat):List α:=A.take k++List.replicate (A.length - k) z
theorem fillZ_len{z:α}{A:List α}{k:Nat}(h:k<=A.length):(iR z A k).length=A.length:=by
 unfold iR
 rw[qaD,qaZ,List.length_replicate];omega
theorem fillZ_0{z:α}{A:List α}:iR z A 0=List.replicate A.length z:=by simp[iR]
theorem fillZ_all{z:α}{A:List α}:iR z A A.length=A:=by simp[iR]
theorem fillZ_set{z a:α}{A:List α}{k:Nat}(ha:A[k]? = some a):(iR z A k).set k a=iR z A (k+1):=by
 have hk:=cV ha
 unfold iR
 obtain⟨m,hm⟩ : ∃m,A.length - k=m+1:=⟨A.length - k - 1,by omega⟩
 have hl:(A.take k).length=k:=by rw[qaZ];omega
 rw[hm,qbN,qbR _ _ (by omega),hl,qbw,qcJ,show A.length - (k+1)=m by omega]
 rw[show A.take (k+1)=A.take k++[a]by
  rw[qb0,ha];rfl]
 simp
def newE(h:HL)(e:Nat)(enc:α->List Value)(l:List α):HL:=h++[.o (.cells (l.flatMap enc) e true)]
theorem oM{h:HL}{e:Nat}{enc:α->List Value}{l:List α}:putE (h++[.o .dead]) h.length e enc l=newE h e enc l:=by
 unfold putE newE
 rw[qbR _ _ (qaz _),qbw];rfl
theorem im(h:HL)(e:Nat)(enc:α->List Value)(l:List α):Pre h (newE h e enc l):=⟨_,rfl⟩
theorem newE_ls{h:HL}{e cx:Nat}{enc:α->List Value}(henc:∀a,(enc a).length=e){l:List α}{n:Nat}(hn:n=l.length):LsH (newE h e enc l) (.slice (some ⟨h.length,0,tag e⟩) n cx) e enc l:=by
 subst hn
 rw[←oM]
 exact jh henc (by simp)
theorem r_setN{h:HL}{e cx len:Nat}{enc:α->List Value}(henc:∀a,(enc a).length=e){l:List α}{i:Nat}{a:α}{n:Int}{new:List Value}{K:List Value->HL->Prop}(hn:n=Int.ofNat i)(hi:i<l.length)(hlen:l.length=len)(hnew:new=enc a)
  (hk:K [] (newE h e enc (l.set i a))):(PH C Sg T).opt (idS e (.slice (some ⟨h.length,0,tag e⟩) len cx) n) (@hid _ ⟨λx=>(PH C Sg T).heap (.st x new) (newE h e enc l) (@hid _ ⟨K⟩)⟩):=by
 rw[←oM]at hk
 rw[←oM]
 exact r_set henc (by simp) hn hi hlen hnew hk
theorem mkOk_nat{n:Nat}(h:n<=1048576):mkOk (Int.ofNat n) (Int.ofNat n)=some ():=by
 unfold mkOk
 rw[if_pos]
 exact⟨qa3 n,Int.le_refl _,by show(n:Int)<=1048576;omega⟩
theorem new_zeros{h:HL}{e:Nat}{enc:α->List Value}{z:α}{n:Nat}{v:List Value}(hv:v=enc z):h++[HO.o (.cells (aU v n) e true)]=newE h e enc (List.replicate n z):=by
 subst hv
 unfold newE
 rw[vc]
end
end Sx
end Go.Am

/-
 DEGREE,ANGLES,STRAIGHT: told of the list of rays.
-/
set_option maxRecDepth 100000
set_option maxHeartbeats 4000000
namespace Go.Am
open Sx Go.Proofs
def rysC(l:List Crs)(w x y:Nat):List Ray:=eZ (cS l w x y (many x))
def okR(R:List Ray):Prop:=∀r∈R,0<=r.1/\r.1<8/\0<=r.2/\r.2<=255
def encI(n:Int):List Value:=[.int .i64 n]
end Go.Am

/-
 PATTERNS FROM PLAIN DATA: With,P.Of,told of lists.
-/
set_option maxRecDepth 100000
set_option maxHeartbeats 4000000
namespace Go.Am
open Sx Go.Proofs
theorem encU_len(u:Nat×Nat):(encU u).length=2:=rfl
def enc8(n:Int):List Value:=[.int .u8 n]
theorem og(n:Int):(enc8 n).length=1:=rfl
theorem units_c{a b:Nat}(h1:1<=a)(h2:a<=5)(h3:1<=b)(h4:b<=5)(h:HL):∃s G,aq cc ae 16 [.i (.ofNat a),.i (.ofNat b)] (absH aa h) [.v s] (absH aa (h++G))/\LsH (h++G) s 2 encU (bd a b):=by
 have ht:=(jr (mo a b h1 h2 h3 h4)).2.2.1
 unfold pq at ht
 split at ht
 ·rename_i e
  obtain⟨s,G,c1,c2⟩:=made (g:=16) (rest:=[]) rfl (by kernel_rfl) rfl rfl e h
  exact⟨s,G,c1,λu _=>encU_len u,c2⟩
 ·cases ht
def mC(z:(Nat×Nat)×Int):Option Crs:=if z.2=0 then none else some (.ofNat z.1.1,.ofNat z.1.2,z.2)
def patL(us:List (Nat×Nat))(ks:List Int):List Crs:=(us.zip ks).filterMap mC
theorem with_c{w v:Nat}(h1:1<=w)(h2:w<=5)(h3:1<=v)(h4:v<=5){H:HL}{kx:Value}{ks:List Int}(hk:LsH H kx 1 enc8 ks)(hn:ks.length<=100000) :
  ∃G rx,aq cc ae 18 [.i (.ofNat w),.i (.ofNat v),.v kx] (absH aa H) [.i (.ofNat w),.i (.ofNat v),.v rx] (absH aa (H++G))/\LsH (H++G) rx 3 encC (patL (bd w v) ks):=by
 obtain⟨sx,G1,hu,hux⟩:=units_c h1 h2 h3 h4 H
 have hul:=(jr (mo w v h1 h2 h3 h4)).2.2.2.2
 obtain⟨rs,h',hc,rx,e1,⟨G,rfl⟩,hrx⟩:=x18 (ls:=[.i (.ofNat w),.i (.ofNat v),.v kx]) (K:=λrs h'=>∃rx,rs=[.i (.ofNat w),.i (.ofNat v),.v rx]/\Pre H h'/\LsH h' rx 3 encC (patL (bd w v) ks)) (H:=H) (glsI (glsI (glsV hk.good gls0))) (by
  unfold p18
  simp(disch:=omega)only[↓qXX]
  refine aW hu ?_
  simp(disch:=omega)only[↓qXX]
  generalize hzz:(bd w v).zip ks=zz
  have hzl:zz.length=min (bd w v).length ks.length:=by rw[←hzz,List.length_zip]
  refine ew zz.length (λj (s:Value×HL)=>[.i (Int.ofNat j),.i (.ofNat w),.i (.ofNat v),.v s.1]) (λ_ s=>s.2) (λj s=>Pre (H++G1) s.2/\MkL (H++G1).length s.2 s.1 3 encC ((zz.take j).filterMap mC)/\aX s.1=true) (j0:=0) (s0:=(.slice none 0 0,H++G1)) rfl rfl (qbu _) ⟨Pre.refl _,MkL.nil _ _ _ _,rfl⟩ ?_
  rintro j ⟨sv,sh⟩ hj ⟨hpre,hmk,hgv⟩ self hself
  simp only at hpre hmk hgv ⊢
  have hU:=hux.pre hpre
  have hK:=(hk.pre ⟨G1,rfl⟩).pre hpre
  simp(disch:=omega)only[↓qXX]
  have fin:∀K0:List Lf->HL->Prop,K0=(λrs h'=>∃rx,rs=[.i (.ofNat w),.i (.ofNat v),.v rx]/\Pre H h'/\LsH h' rx 3 encC (patL (bd w v) ks))->j=zz.length->K0 [.i (.ofNat w),.i (.ofNat v),.v sv] sh:=by
   rintro K0 rfl rfl
   refine⟨_,rfl,Pre.trans ⟨G1,rfl⟩ hpre,?_⟩
   have:=hmk.ls
   rw[qcf,←hzz]at this
   exact this
  refine gm hU ?_
  by_cases hlt:j<zz.length
  ·rw[cd (by omega)]
   simp(disch:=omega)only[↓qXX]
   refine gm hK ?_
   rw[cd (by omega)]
   simp(disch:=omega)only[↓qXX]
   obtain⟨u,hu⟩:=dN (l:=bd w v) (i:=j) (by omega)
   obtain⟨k,hkk⟩:=dN (l:=ks) (i:=j) (by omega)
   have hz:zz[j]? = some (u,k):=by rw[←hzz,qcd];exact⟨hu,hkk⟩
   have htk:(zz.take (j+1)).filterMap mC=(zz.take j).filterMap mC++(mC (u,k)).toList:=by
    rw[qb0,hz,List.filterMap_append]
    congr 1
   refine fQ hK rfl hkk ?_
   unfold enc8
   simp(disch:=omega)only[↓qXX]
   by_cases hk0:k=0
   ·rw[p_neq_f hk0]
    simp(disch:=omega)only[↓qXX]
    rw[dt (by omega)]
    refine hself (sv,sh) hlt ⟨hpre,?_,hgv⟩
    rw[htk,show mC (u,k)=none from if_pos hk0]
    simpa using hmk
   ·rw[p_neq_t hk0]
    simp(disch:=omega)only[↓qXX]
    refine uM (o:=0) (k:=1) (cs:=[.int .i64 (.ofNat u.1)]) hU rfl hu rfl (by omega) ?_
    simp(disch:=omega)only[↓qXX]
    refine uM (o:=1) (k:=1) (cs:=[.int .u8 (.ofNat u.2)]) hU rfl hu rfl (by omega) ?_
    simp(disch:=omega)only[↓qXX]
    refine fQ hK rfl hkk ?_
    unfold enc8
    simp(disch:=omega)only[↓qXX]
    have hfl:((zz.take j).filterMap mC).length<=j:=qbT (qcl _ _) (by rw[qaZ];omega)
    refine tw (h0:=H++G1) (a:=(.ofNat u.1,.ofNat u.2,k)) hpre hmk rfl rfl rfl rfl (by
     unfold cf
     rw[qaa,qaX,qaX]
     omega) λv' h' hp' hm' hg' _ _=>?_
    simp(disch:=omega)only[↓qXX]
    refine bi hg' ?_
    simp(disch:=omega)only[↓qXX]
    rw[dt (by omega)]
    refine hself (v',h') hlt ⟨hp',?_,hg'⟩
    rw[htk,show mC (u,k)=some (.ofNat u.1,.ofNat u.2,k)from if_neg hk0]
    exact hm'
  ·have hje:j=zz.length:=by omega
   by_cases hju:j<(bd w v).length
   ·rw[cd hju]
    simp(disch:=omega)only[↓qXX]
    refine gm hK ?_
    rw[cu (by omega)]
    simp(disch:=omega)only[↓qXX]
    exact fin _ rfl hje
   ·rw[cu (by omega)]
    simp(disch:=omega)only[↓qXX]
    exact fin _ rfl hje)
 rw[e1]at hc
 exact⟨G,rx,hc,hrx⟩
def kinL(N:Nat)(ks:List Int):List Int:=(List.range N).map λi=>ks.getD i 0%4
theorem eR(N:Nat)(ks:List Int):(kinL N ks).length=N:=by simp[kinL]
theorem sX{N:Nat}{ks:List Int}{i:Nat}(h:i<N):(kinL N ks)[i]? = some (ks.getD i 0%4):=by
 unfold kinL
 rw[qav,qch h];rfl
theorem kinL_rng{N:Nat}{ks:List Int}{k:Int}(h:k∈kinL N ks):0<=k/\k<4:=by
 unfold kinL at h
 obtain⟨i,_,rfl⟩:=qaE.1 h
 omega
theorem uu{α:Type}{z:α}{A:List α}{i:Nat}(h:∀j a,i<=j->A[j]? = some a->a=z):iR z A i=A:=by
 unfold iR
 conv=>rhs;rw[←qbF i A]
 congr 1
 symm
 rw[List.eq_replicate_iff]
 refine⟨by rw[qbQ],λb hb=>?_⟩
 obtain⟨j,hj⟩:=qbi hb
 rw[qa0]at hj
 exact h (i+j) b (by omega) hj
theorem of_c{a b:Int}(ha:0<=a/\a<=255)(hb:0<=b/\b<=255){w v:Nat}(hw:Int.ofNat w=1+a%4)(hv:Int.ofNat v=1+b%4){H:HL}{kx:Value}{ks:List Int}(hk:LsH H kx 1 enc8 ks)(hr:∀k∈ks,0<=k/\k<=255) :
  ∃G rx,aq cc ae 9 [.i a,.i b,.v kx] (absH aa H) [.i (.ofNat w),.i (.ofNat v),.v rx] (absH aa (H++G))/\LsH (H++G) rx 3 encC (patL (bd w v) (kinL (6*w*v) ks)):=by
 have hw':(w:Int)=1+a%4:=hw
 have hv':(v:Int)=1+b%4:=hv
 obtain⟨rs,h',hc,rx,e1,⟨G,rfl⟩,hrx⟩:=x9 (ls:=[.i a,.i b,.v kx]) (K:=λrs h'=>∃rx,rs=[.i (.ofNat w),.i (.ofNat v),.v rx]/\Pre H h'/\LsH h' rx 3 encC (patL (bd w v) (kinL (6*w*v) ks))) (H:=H) (glsI (glsI (glsV hk.good gls0))) (by
  unfold p9
  simp(disch:=omega)only[↓qXX]
  rw[←hw,←hv]
  have hm:=tg (w:=6*(w:Int)) (v:=(v:Int)) (a:=24) (b:=4) (by omega)
  have e6:6*Int.ofNat w=Int.ofNat (6*w):=by simp
  have e7:Int.ofNat (6*w)*Int.ofNat v=Int.ofNat (6*w*v):=by simp
  have hN:6*w*v<=96:=by
   have:((6*w*v:Nat):Int)<=96:=by
    simp only[qcq]
    exact hm.2
   omega
  rw[e6,p_mul (by rw[e7];show(-9223372036854775808:Int)<=((6*w*v:Nat):Int);omega) (by rw[e7];show((6*w*v:Nat):Int)<=9223372036854775807;omega),e7]
  refine bw (mkOk_nat (by omega)) ?_
  simp(disch:=omega)only[↓qXX]
  show P1.loop _ _ (H++[HO.o (.cells (aU _ (6*w*v)) 1 true)])
  rw[new_zeros (v:=[.int .u8 0]) (enc:=enc8) (z:=0) rfl]
  obtain⟨G2,rx,hcW,hrx⟩:=with_c (w:=w) (v:=v) (by omega) (by omega) (by omega) (by omega) (newE_ls (h:=H) (cx:=6*w*v+1) og (l:=kinL (6*w*v) ks) (n:=6*w*v) (eR _ _).symm) (by rw[eR];omega)
  refine ew (6*w*v) (λj (_:Unit)=>[.i (Int.ofNat j)]) (λj _=>newE H 1 enc8 (iR 0 (kinL (6*w*v) ks) j)) (λ_ _=>True) (j0:=0) (s0:=()) rfl (by rw[fillZ_0,eR]) (qbu _) trivial ?_
  intro j _ hj _ self hself
  simp(disch:=omega)only[↓qXX]
  refine bw (x:=Int.ofNat (6*w*v)) rfl ?_
  have hK:=hk.pre (im H 1 enc8 (iR 0 (kinL (6*w*v) ks) j))
  have hfl:=fillZ_len (z:=(0:Int)) (A:=kinL (6*w*v) ks) (k:=j) (by rw[eR];omega)
  rw[eR]at hfl
  by_cases hlt:j<6*w*v
  ·rw[cd hlt]
   simp(disch:=omega)only[↓qXX]
   refine gm hK ?_
   by_cases hlk:j<ks.length
   ·rw[cd hlk]
    simp(disch:=omega)only[↓qXX]
    obtain⟨k,hkk⟩:=dN hlk
    have hkr:=hr k (qai hkk)
    refine fQ hK rfl hkk ?_
    unfold enc8
    simp(disch:=omega)only[↓qXX]
    refine r_setN (enc:=enc8) og (a:=k%4) rfl (by omega) hfl rfl ?_
    rw[dt (by omega),fillZ_set (by rw[sX hlt,List.getD_eq_getElem?_getD,hkk];rfl)]
    exact hself () hlt trivial
   ·rw[cu (by omega)]
    simp(disch:=omega)only[↓qXX]
    rw[uu λi a hi hia=>by
     have hiN:=cV hia
     rw[eR]at hiN
     rw[sX hiN,List.getD_eq_getElem?_getD,qae (by omega)]at hia
     exact(qan hia).symm]
    refine aW hcW ?_
    simp(disch:=omega)only[↓qXX]
    exact⟨rx,by trivial,(im _ _ _ _).trans ⟨_,rfl⟩,hrx⟩
  ·obtain rfl:j=6*w*v:=by omega
   rw[cu (qaz _)]
   simp(disch:=omega)only[↓qXX]
   have:=fillZ_all (z:=(0:Int)) (A:=kinL (6*w*v) ks)
   rw[eR]at this
   rw[this]
   refine aW hcW ?_
   simp(disch:=omega)only[↓qXX]
   exact⟨rx,by trivial,(im _ _ _ _).trans ⟨_,rfl⟩,hrx⟩)
 rw[e1]at hc
 exact⟨G,rx,hc,hrx⟩
end Go.Am

/-
 PATTERNS FROM PLAIN DATA ARE VALID.
-/
set_option maxRecDepth 100000
set_option maxHeartbeats 4000000
namespace Go.Am
open Sx Go.Proofs
theorem ltN_iff{a b:Nat×Nat}:ltN a b=true↔a.1<b.1∨(a.1=b.1/\a.2<b.2):=by
 unfold ltN
 rw[qaG,qaa,qaH,qaH,qbg]
theorem qz{a b c e:Nat}:(c,e)∈bd a b↔c<4*a*b/\e<3/\∃n,nbr a b c e=some n/\c<n:=by
 unfold bd
 simp only[qbx,qaj,qbp]
 constructor
 ·rintro⟨c',h1,e',h2,h3⟩
  split at h3
  ·rename_i n hn
   split at h3
   ·rename_i hlt
    cases h3
    exact⟨h1,h2,n,hn,hlt⟩
   ·cases h3
  ·cases h3
 ·rintro⟨h1,h2,n,h3,h4⟩
  refine⟨c,h1,e,h2,?_⟩
  rw[h3]
  simp only[if_pos h4]
theorem unC_of{a b x y:Nat}{k:Int}(hk:(x,y)∈bd a b):unC (.ofNat a) (.ofNat b) (.ofNat x,.ofNat y,k)=true:=by
 obtain⟨q1,q2,n,q3,q4⟩:=qz.1 hk
 unfold unC isUn
 have q3':nbr (Int.ofNat a).toNat (Int.ofNat b).toNat (Int.ofNat x).toNat (Int.ofNat y).toNat=some n:=q3
 simp only[qaa,decide_eq_true_eq]
 refine⟨⟨⟨qa3 x,?_⟩,by show(y:Int)<=2;omega⟩,?_⟩
 ·show(x:Int)<4*(a:Int)*(b:Int)
  have:(4*(a:Int)*(b:Int))=((4*a*b:Nat):Int):=by simp
  rw[this];omega
 ·rw[q3']
  simpa[qaH]using q4
theorem kD{us:List (Nat×Nat)}{ks:List Int}{c:Crs}(h:c∈patL us ks):∃u k,u∈us/\k∈ks/\k≠0/\c=(.ofNat u.1,.ofNat u.2,k):=by
 unfold patL at h
 obtain⟨⟨u,k⟩,h1,h2⟩:=qbp.1 h
 unfold mC at h2
 split at h2
 ·cases h2
 ·rename_i hk
  cases h2
  have:=List.of_mem_zip h1
  exact⟨u,k,this.1,this.2,hk,rfl⟩
theorem kI:∀ {l:List (Nat×Nat)},ascN l=true->l.Pairwise λa b=>ltN a b=true
 | [],_=>.nil
 | [x],_=>qcQ _ _
 |x :: y :: l,h=>by
  simp only[ascN,qaa]at h
  have ih:=kI h.2
  refine qbb.2 ⟨λz hz=>?_,ih⟩
  rcases qak.1 hz with rfl|hz
  ·exact h.1
  ·have h2:=(qbb.1 ih).1 z hz
   have h1:=h.1
   rw[ltN_iff]at h1 h2 ⊢
   omega
theorem kJ:∀ {l:List Crs},(l.Pairwise λa b=>ltC a b=true)->ascC l=true
 | [],_=>rfl
 | [x],_=>rfl
 |x :: y :: l,h=>by
  obtain⟨h1,h2⟩:=qbb.1 h
  simp only[ascC,qaa]
  exact⟨h1 y qay,kJ h2⟩
theorem lU:∀ {us:List (Nat×Nat)} {ks:List Int},(us.Pairwise λa b=>ltN a b=true)->(patL us ks).Pairwise λa b=>ltC a b=true
 | [],ks,_=>by simp[patL]
 |u :: us,[],_=>by simp[patL]
 |u :: us,k :: ks,h=>by
  obtain⟨h1,h2⟩:=qbb.1 h
  have ih:=lU (ks:=ks) h2
  unfold patL at ih ⊢
  rw[qb4,qck]
  split
  ·exact ih
  ·rename_i c hc
   refine qbb.2 ⟨λb hb=>?_,ih⟩
   obtain⟨u',k',m1,_,_,rfl⟩:=kD (us:=us) (ks:=ks) hb
   unfold mC at hc
   split at hc
   ·cases hc
   ·cases hc
    have:=ltN_iff.1 (h1 u' m1)
    simp only[ltC,qaG,qaa,decide_eq_true_eq,qaf]
    omega
theorem pat_of{w v:Nat}(h1:1<=w)(h2:w<=5)(h3:1<=v)(h4:v<=5){ks:List Int}(hk:∀k∈ks,0<=k/\k<4):Pat w v (patL (bd w v) ks):=by
 have ht:=jr (mo w v h1 h2 h3 h4)
 have hwv:4*w*v<=100:=by
  have:=Nat.mul_le_mul (show 4*w<=20 by omega) h4
  omega
 have key:∀c∈patL (bd w v) ks,rngC c/\isK c=true/\unC (.ofNat w) (.ofNat v) c=true:=λc hc=>by
  obtain⟨⟨x,y⟩,k,m1,m2,m3,rfl⟩:=kD hc
  have hm:=qz.1 m1
  have:=hk k m2
  refine⟨?_,?_,unC_of m1⟩
  ·unfold rngC
   simp only[qaf]
   omega
  ·unfold isK
   simp only[qaa,decide_eq_true_eq]
   omega
 refine⟨⟨h1,h2,h3,h4⟩,λc hc=>(key c hc).1,?_,?_⟩
 ·refine qbT (qcl _ _) ?_
  rw[List.length_zip]
  have:=ht.2.2.2.2
  omega
 ·unfold chkC
  have a1:(patL (bd w v) ks).all isK=true:=qab.2 λc hc=>(key c hc).2.1
  have a2:(patL (bd w v) ks).all (unC (.ofNat w) (.ofNat v))=true:=qab.2 λc hc=>(key c hc).2.2
  rw[a1,a2,kJ (lU (kI ht.2.2.2.1))]
  rfl
end Go.Am

/-
 WHAT RUNS OVER AN EMPTY HEAP TELL,II: plain answers,whatever is left behind.
-/
set_option maxRecDepth 100000
set_option maxHeartbeats 4000000
namespace Go.Am
open Sx Go.Proofs
theorem plainR{l:List Lf}{σ:Nat->Nat}(hl:l.all (λl=>match l with | .v _=>false|_=>true)=true):l.map (renL σ)=l:=by
 induction l with
 |nil=>rfl
 |cons a l ih=>
  simp only[qbm,qaa]at hl
  rw[qaq,ih hl.2]
  cases a<;>first|rfl|(simp at hl)
theorem plainO{l:List Lf}{n:Nat}(hl:l.all (λl=>match l with | .v _=>false|_=>true)=true):∀a∈l,OkL n a:=by
 intro a ha
 have:=qab.1 hl a ha
 cases a<;>first|trivial|cases this
theorem renL_id(l:Lf):renL id l=l:=by
 cases l with
 |v x=>
  show Lf.v (renV id x)=_
  unfold renV
  split<;>rfl
 |_=>rfl
theorem made0{g n:Nat}{ls:List Lf}(hg:aO ls=true)(hno:neuN g=none)(hl:∀l∈ls,OkL 0 l){ck:List Lf->HTr->Bool}(hck:∀rs h,ck rs h=true->∀l∈rs,OkL h.n l)
  (h:runF n (.f g) ls .empty (λrs h=>ans (ck rs h))=yes) (H:HL):∃rs h',ck rs h'=true/\∃G,aq cc ae g ls (absH aa H) (rs.map (renL (iB 0 (absH aa H).length id))) (absH aa (H++G)):=by
 obtain⟨rs,h',a1,a2⟩:=(mf n).f g ls .empty _ [] (dj hg) h
 have a2:ck rs h'=true:=ans_yes a2
 have e0:absH aa (toL HTr.empty)=[]:=rfl
 rw[e0]at a1
 have key:=call_al (N:=neuN) mixed bv hno (H:=absH aa H) id a1 (λj o hj=>by simp at hj) hl (λl hl'=>by
  rw[ch,cJ];exact hck rs h' a2 l hl')
 have e1:ls.map (renL id)=ls:=by
  have:(renL id:Lf->Lf)=id:=funext renL_id
  rw[this,List.map_id]
 rw[e1,qcr,qbs]at key
 refine⟨rs,h',a2,((absH aa (toL h')).map rE).map .o,?_⟩
 rw[sq,absH_o];exact key
theorem made_p{g k:Nat}{ls rs0:List Lf}(hg:aO ls=true)(hno:neuN g=none)(hl:∀l∈ls,OkL 0 l)(hp:rs0.all (λl=>match l with | .v _=>false|_=>true)=true)
  (h:runF k (.f g) ls .empty (λrs _=>ans (eqLs rs rs0))=yes) (H:HL):∃G,aq cc ae g ls (absH aa H) rs0 (absH aa (H++G)):=by
 obtain⟨rs,h',a1,G,a2⟩:=made0 (ck:=λrs _=>eqLs rs rs0) hg hno hl (λrs h hc l hl'=>by
  have:=eA hc
  subst this
  exact plainO hp l hl') h H
 have:=eA a1
 subst this
 rw[plainR hp]at a2
 exact⟨G,a2⟩
def isYes(x:RT):Bool:=match x with
 |some []=>true
 |_=>false
theorem isYes_ok{x:RT}(h:isYes x=true):x=yes:=by
 unfold isYes at h
 split at h
 ·rfl
 ·cases h
end Go.Am

/-
 THE ENDS OF UNITS,and the spokes of corners: tables by the kernel.
-/
set_option maxRecDepth 100000
namespace Go.Am
open Sx Go.Proofs
def cw(w u e:Nat):(Nat×Nat)×(Nat×Nat):=
 let x:=2*(u / 4%w)
 let y:=2*(u / 4 / w)
 match e,u%4 with
 |0,0=>((x,y),(x+2,y))
 |0,1=>((x+2,y),(x+2,y+2))
 |0,2=>((x,y+2),(x+2,y+2))
 |0,_=>((x,y),(x,y+2))
 |1,0=>((x+1,y+1),(x+2,y))
 |1,1=>((x+1,y+1),(x+2,y))
 |1,_=>((x,y+2),(x+1,y+1))
 |_,0=>((x,y),(x+1,y+1))
 |_,3=>((x,y),(x+1,y+1))
 |_,_=>((x+1,y+1),(x+2,y+2))
def dirN(a b:Nat×Nat):Nat:=
 if Nat.beq a.2 b.2 then(if Nat.blt a.1 b.1 then 0 else 4)
 else if Nat.beq a.1 b.1 then(if Nat.blt a.2 b.2 then 2 else 6)
 else if Nat.blt a.1 b.1 then(if Nat.blt a.2 b.2 then 1 else 7)
 else(if Nat.blt a.2 b.2 then 3 else 5)
def dirT(a b:Nat×Nat):Bool:=told 36 [.i (.ofNat a.1),.i (.ofNat a.2),.i (.ofNat b.1),.i (.ofNat b.2)] [.i (.ofNat (dirN a b))]
def endT(w v:Nat)(u:Nat×Nat):Bool:=
 isYes (runF 60 (.f 19) [.i (.ofNat w),.i (.ofNat v),.i (.ofNat u.1),.i (.ofNat u.2)] .empty (λrs _=>ans (eqLs rs [.i (.ofNat (cw w u.1 u.2).1.1),.i (.ofNat (cw w u.1 u.2).1.2),.i (.ofNat (cw w u.1 u.2).2.1),.i (.ofNat (cw w u.1 u.2).2.2)]))) &&
 (dirT (cw w u.1 u.2).1 (cw w u.1 u.2).2&&dirT (cw w u.1 u.2).2 (cw w u.1 u.2).1)
def sF(w v:Nat):Bool:=(bd w v).all (endT w v)
def spkJ(x d:Nat):Option Nat:=if x%2=1 then(if d%2=1 then some ((d+5) / 2%4)else none)else some ((d+7)%8)
def eqP(a b:Nat×Nat):Bool:=Nat.beq a.1 b.1&&Nat.beq a.2 b.2
theorem ru{a b:Nat×Nat}:eqP a b=true↔a=b:=by
 unfold eqP
 rw[qaa,qbg,qbg,Prod.ext_iff]
def mtD(w:Nat)(p:Nat×Nat)(d:Nat)(u:Nat×Nat):Bool:=eqP (cw w u.1 u.2).1 p&&Nat.beq (dirN (cw w u.1 u.2).1 (cw w u.1 u.2).2) d||eqP (cw w u.1 u.2).2 p&&Nat.beq (dirN (cw w u.1 u.2).2 (cw w u.1 u.2).1) d
def isSp(w x y d:Nat)(u:Nat×Nat):Bool:=match spkJ x d with
 |some j=>Nat.beq u.1 (jT w x y j)&&Nat.beq u.2 (dh x j)
 |none=>false
def mtT(w v x y:Nat):Bool:=(bd w v).all λu=>(List.range 8).all λd=>(mtD w (x,y) d u)==(isSp w x y d u)
def mtAll(w v:Nat):Bool:=(List.range (2*w)).all λx=>(List.range (2*v)).all λy=>!(ed w v x y)||mtT w v x y
def ends9(w v:Nat):Bool:=sF w v&&mtAll w v
theorem oh:∀w v:Nat,1<=w->w<=4->1<=v->v<=4->ends9 w v=true:=by
 have key:((List.range 4).all λw=>(List.range 4).all λv=>ends9 (w+1) (v+1))=true:=by kernel_rfl
 intro w v h1 h2 h3 h4
 have h5:=qab.1 key (w - 1) (qaj.2 (by omega))
 have h6:=qab.1 h5 (v - 1) (qaj.2 (by omega))
 have e1:w - 1+1=w:=by omega
 have e2:v - 1+1=v:=by omega
 rw[e1,e2]at h6
 exact h6
section
variable {w v:Nat} (hsh:1<=w/\w<=4/\1<=v/\v<=4)
include hsh
theorem ends_c{u e:Nat}(hu:(u,e)∈bd w v)(H:HL):∃G,aq cc ae 19 [.i (.ofNat w),.i (.ofNat v),.i (.ofNat u),.i (.ofNat e)] (absH aa H) [.i (.ofNat (cw w u e).1.1),.i (.ofNat (cw w u e).1.2),.i (.ofNat (cw w u e).2.1),.i (.ofNat (cw w u e).2.2)] (absH aa (H++G)):=by
 have h:=(qaa _ _▸oh w v hsh.1 hsh.2.1 hsh.2.2.1 hsh.2.2.2:sF w v=true/\mtAll w v=true).1
 have h2:=qab.1 h (u,e) hu
 unfold endT at h2
 rw[qaa]at h2
 exact made_p rfl (by kernel_rfl) (plainO rfl) rfl (isYes_ok h2.1) H
theorem dir_c{u e:Nat}(hu:(u,e)∈bd w v) :
  Cc 36 [.i (.ofNat (cw w u e).1.1),.i (.ofNat (cw w u e).1.2),.i (.ofNat (cw w u e).2.1),.i (.ofNat (cw w u e).2.2)] [.i (.ofNat (dirN (cw w u e).1 (cw w u e).2))]/\
  Cc 36 [.i (.ofNat (cw w u e).2.1),.i (.ofNat (cw w u e).2.2),.i (.ofNat (cw w u e).1.1),.i (.ofNat (cw w u e).1.2)] [.i (.ofNat (dirN (cw w u e).2 (cw w u e).1))]:=by
 have h:=(qaa _ _▸oh w v hsh.1 hsh.2.1 hsh.2.2.1 hsh.2.2.2:sF w v=true/\mtAll w v=true).1
 have h2:=qab.1 h (u,e) hu
 unfold endT at h2
 rw[qaa,qaa]at h2
 exact⟨cW h2.2.1 rfl (by kernel_rfl) rfl,cW h2.2.2 rfl (by kernel_rfl) rfl⟩
theorem mt_of{x y:Nat}(hcor:ed w v x y=true){u:Nat×Nat}(hu:u∈bd w v){d:Nat}(hd:d<8):mtD w (x,y) d u=isSp w x y d u:=by
 have h:=(qaa _ _▸oh w v hsh.1 hsh.2.1 hsh.2.2.1 hsh.2.2.2:sF w v=true/\mtAll w v=true).2
 have h3:=hcor
 unfold ed at h3
 simp only[qaa,qaH]at h3
 have h4:=qab.1 (qab.1 h x (qaj.2 (by omega))) y (qaj.2 (by omega))
 rw[hcor]at h4
 simp only[qaJ,qbC]at h4
 exact eq_of_beq (qab.1 (qab.1 h4 u hu) d (qaj.2 hd))
end
end Go.Am

/-
 THE RAYS AT A CORNER,by their directions: both ways of looking for them tell the same (plain lists).
-/
set_option maxRecDepth 100000
set_option maxHeartbeats 4000000
namespace Go.Am
open Sx Go.Proofs
def dirR(l:List Crs)(w x y d:Nat):List Ray:=match spkJ x d with
 |some j=>gn l d (jT w x y j) (dh x j)
 |none=>[]
def refR(l:List Crs)(w x y:Nat):List Ray:=(List.range 8).flatMap (dirR l w x y)
theorem hI{l:List Crs}{w x y d:Nat}{r:Ray}(h:r∈dirR l w x y d):r.1=Int.ofNat d:=by
 unfold dirR at h
 split at h
 ·unfold gn at h
  split at h
  ·cases h
  ·rw[qax]at h;subst h;rfl
 ·cases h
theorem ki{l:List Crs}{w x y d:Nat}:(dirR l w x y d).length<=1:=by
 unfold dirR
 split
 ·exact qK _ _ _ _
 ·simp
theorem pair1{l:List Ray}(h:l.length<=1):l.Pairwise λa b=>a.1<b.1:=by
 rcases l with _|⟨a,_|⟨b,l⟩⟩
 ·exact .nil
 ·exact qcQ _ _
 ·simp at h
theorem pT{l:List Crs}{w x y:Nat}:∀ {ds:List Nat},(ds.Pairwise λa b=>a<b)->(ds.flatMap (dirR l w x y)).Pairwise λa b=>a.1<b.1
 | [],_=>.nil
 |d :: ds,h=>by
  obtain⟨h1,h2⟩:=qbb.1 h
  rw[qbo,qcA]
  refine⟨pair1 ki,pT h2,λa ha b hb=>?_⟩
  obtain⟨d',hd',hb⟩:=qbx.1 hb
  rw[hI ha,hI hb]
  have:=h1 d' hd'
  show(d:Int)<d'
  omega
theorem sS{e:Ray}:∀ {P:List Ray},(∀p∈P,e.1<p.1)->insR e P=P++[e]
 | [],_=>rfl
 |p :: P,h=>by
  unfold insR
  rw[if_pos (h p qay),sS λq hq=>h q (qao _ hq)]
  rfl
theorem insR_head{e:Ray}{P:List Ray}(h:∀p∈P,p.1<e.1):insR e P=e :: P:=by
 cases P with
 |nil=>rfl
 |cons p P=>
  have:=h p qay
  unfold insR
  rw[if_neg (by omega)]
theorem qX:∀ {A P:List Ray},(A.Pairwise λa b=>a.1<b.1)->(∀a∈A,∀p∈P,p.1<a.1)->iD A P=A.reverse++P
 | [],P,_,_=>rfl
 |a :: A,P,h,hp=>by
  obtain⟨h1,h2⟩:=qbb.1 h
  show iD A (insR a P)=_
  rw[insR_head (hp a qay),qX h2 (λb hb p hq=>by
   rcases qak.1 hq with rfl|hq
   ·exact h1 b hb
   ·exact hp b (qao _ hb) p hq)]
  simp
theorem qW:∀(A B P:List Ray),iD (A++B) P=iD B (iD A P)
 | [],_,_=>rfl
 |a :: A,B,P=>by
  show iD (A++B) (insR a P)=_
  rw[qW A B];rfl
theorem qZ{A B:List Ray}(h:(B++A).Pairwise λa b=>a.1<b.1)(hB:B.length<=1):eZ (A++B)=B++A:=by
 obtain⟨h1,h2,h3⟩:=qcA.1 h
 unfold eZ
 rw[qW,qX h2 (λa _ p hp=>by cases hp),qaM]
 rcases B with _|⟨b,_|⟨b',B⟩⟩
 ·show A.reverse.reverse=_
  simp
 ·show(insR b A.reverse).reverse=_
  rw[sS λp hp=>h3 b qay p (List.mem_reverse.1 hp)]
  simp
 ·simp at hB
theorem rays_odd{l:List Crs}{w x y:Nat}(h:x%2=1):cS l w x y (many x)=dirR l w x y 3++dirR l w x y 5++dirR l w x y 7++dirR l w x y 1:=by
 have e:many x=4:=if_pos h
 rw[e]
 simp[cS,dirR,spkJ,h,od]
theorem rays_even{l:List Crs}{w x y:Nat}(h:¬x%2=1):cS l w x y (many x)=dirR l w x y 1++dirR l w x y 2++dirR l w x y 3++dirR l w x y 4++dirR l w x y 5++dirR l w x y 6++dirR l w x y 7++dirR l w x y 0:=by
 have e:many x=8:=if_neg h
 rw[e]
 simp[cS,dirR,spkJ,h,od]
theorem refR_pair(l:List Crs)(w x y:Nat):(refR l w x y).Pairwise λa b=>a.1<b.1:=pT qbO
theorem oZ(l:List Crs)(w x y:Nat):rysC l w x y=refR l w x y:=by
 have hp:=refR_pair l w x y
 have hr:refR l w x y=dirR l w x y 0++(dirR l w x y 1++(dirR l w x y 2++(dirR l w x y 3++(dirR l w x y 4++(dirR l w x y 5++(dirR l w x y 6++dirR l w x y 7)))))):=by
  unfold refR
  show List.flatMap _ [0,1,2,3,4,5,6,7]=_
  simp
 rw[hr]at hp ⊢
 unfold rysC
 by_cases h:x%2=1
 ·rw[rays_odd h]
  have z:∀d,d%2=0->dirR l w x y d=[]:=λd hd=>by simp[dirR,spkJ,h,hd]
  rw[z 0 rfl,z 2 rfl,z 4 rfl,z 6 rfl]at hp ⊢
  simp only[qbq]at hp ⊢
  have:=qZ (A:=dirR l w x y 3++(dirR l w x y 5++dirR l w x y 7)) (B:=dirR l w x y 1) hp ki
  simpa[qaC]using this
 ·rw[rays_even h]
  have:=qZ (A:=dirR l w x y 1++(dirR l w x y 2++(dirR l w x y 3++(dirR l w x y 4++(dirR l w x y 5++(dirR l w x y 6++dirR l w x y 7)))))) (B:=dirR l w x y 0) hp ki
  simpa[qaC]using this
theorem oW(l:List Crs)(w x y:Nat):(refR l w x y).length<=8:=by
 rw[←oZ]
 unfold rysC
 rw[mm]
 have:=gc l w x y (many x)
 have hm:many x<=8:=by unfold many;split<;>omega
 omega
theorem refR_ok{l:List Crs}(hr:∀c∈l,rngC c)(w x y:Nat):okR (refR l w x y):=by
 intro r hm
 obtain⟨d,hd,hm⟩:=qbx.1 hm
 rw[qaj]at hd
 have e:=hI hm
 have h2:0<=r.2/\r.2<=255:=by
  unfold dirR at hm
  split at hm
  ·unfold gn at hm
   split at hm
   ·cases hm
   ·rw[qax]at hm
    subst hm
    exact qq hr _ _
  ·cases hm
 rw[e]
 simp only[qaf]
 omega
def rayD(w x y d:Nat)(c:Crs):Option Ray:=if mtD w (x,y) d (c.1.toNat,c.2.1.toNat)then some (.ofNat d,c.2.2)else none
theorem uA{l:List Crs}{a b:Int}(h:∀c∈l,¬(c.1=a/\c.2.1=b)):eD l a b=0:=by
 unfold eD
 rw[List.find?_eq_none.2 λc hc=>by simpa[eqU]using h c hc]
theorem uz{c:Crs}{l:List Crs}{a b:Int}(h:¬(c.1=a/\c.2.1=b)):eD (c :: l) a b=eD l a b:=by
 unfold eD
 rw[List.find?_cons_of_neg (by simpa[eqU]using h)]
theorem kindU_hit{c:Crs}{l:List Crs}{a b:Int}(h:c.1=a/\c.2.1=b):eD (c :: l) a b=c.2.2:=by
 unfold eD
 rw[List.find?_cons_of_pos (by simpa[eqU]using h)]
theorem fm_one{l:List Crs}(hp:l.Pairwise λa b=>ltC a b=true)(hk:∀c∈l,c.2.2≠0)(d u e:Nat):(l.filterMap λc=>if c.1=Int.ofNat u/\c.2.1=Int.ofNat e then some ((.ofNat d,c.2.2):Ray)else none)=gn l d u e:=by
 induction l with
 |nil=>rfl
 |cons c l ih=>
  obtain⟨h1,h2⟩:=qbb.1 hp
  have ih:=ih h2 λc hc=>hk c (qao _ hc)
  rw[qck]
  by_cases h:c.1=Int.ofNat u/\c.2.1=Int.ofNat e
  ·rw[if_pos h]
   have hno:∀b∈l,¬(b.1=Int.ofNat u/\b.2.1=Int.ofNat e):=λb hb hq=>by
    have:=h1 b hb
    simp only[ltC,qaG,qaa,decide_eq_true_eq]at this
    omega
   rw[ih]
   have e1:gn l d u e=[]:=if_pos (uA hno)
   have e2:gn (c :: l) d u e=[(.ofNat d,c.2.2)]:=by
    unfold gn
    rw[kindU_hit h,if_neg (hk c qay)]
   rw[e1,e2]
  ·rw[if_neg h]
   simp only
   rw[ih]
   unfold gn
   rw[uz h]
theorem sM{α β:Type}{f g:α->Option β}:∀ {l:List α},(∀a∈l,f a=g a)->l.filterMap f=l.filterMap g
 | [],_=>rfl
 |a :: l,h=>by
  rw[qck,qck,h a qay,sM λb hb=>h b (qao _ hb)]
theorem ref_dir{w v x y:Nat}(hsh:1<=w/\w<=4/\1<=v/\v<=4)(hcor:ed w v x y=true){l:List Crs}(hl:l.Pairwise λa b=>ltC a b=true)(hk:∀c∈l,c.2.2≠0)(hu:∀c∈l,∃u e:Nat,(u,e)∈bd w v/\c.1 = .ofNat u/\c.2.1 = .ofNat e){d:Nat}(hd:d<8) :
  l.filterMap (rayD w x y d)=dirR l w x y d:=by
 have e:l.filterMap (rayD w x y d)=l.filterMap λc=>match spkJ x d with
  |some j=>if c.1=Int.ofNat (jT w x y j)/\c.2.1=Int.ofNat (dh x j)then some ((.ofNat d,c.2.2):Ray)else none
  |none=>none:=by
  refine sM λc hc=>?_
  obtain⟨u,e,hm,e1,e2⟩:=hu c hc
  unfold rayD
  rw[e1,e2]
  have:=mt_of hsh hcor hm hd
  have e3:((Int.ofNat u).toNat,(Int.ofNat e).toNat)=(u,e):=rfl
  rw[e3,this]
  unfold isSp
  cases hj:spkJ x d with
  |none=>rfl
  |some j=>
   simp only[qaa,qbg,qaf,Int.natCast_inj]
 rw[e]
 unfold dirR
 cases hj:spkJ x d with
 |none=>simp
 |some j=>exact fm_one hl hk d _ _
end Go.Am

/-
 crimpref09.Creases,told of lists.
-/
set_option maxRecDepth 100000
set_option maxHeartbeats 4000000
namespace Go.Am
open Sx Go.Proofs
theorem eqs2{a b c d:Int}{t:Bool}{K:Bool->Prop}(h:t=(decide (a=c)&&decide (b=d))):P1.eqs [(.i a,.i c),(.i b,.i d)] (@hid _ ⟨K⟩)=K t:=by
 show K (bZ _)=K t
 have e:bZ [(.i a,.i c),(.i b,.i d)]=t:=by
  rw[h,qbt]
  simp[bZ,gj]
 rw[e]
theorem eE{a b:Nat}:decide (Int.ofNat a=Int.ofNat b)=Nat.beq a b:=by
 rw[qbt,decide_eq_true_eq,qbg]
 exact⟨qbA,λh=>by rw[h]⟩
theorem refC_c{w v x y:Nat}(hsh:1<=w/\w<=4/\1<=v/\v<=4)(hcor:ed w v x y=true){l:List Crs}(hl:l.Pairwise λa b=>ltC a b=true)(hk:∀c∈l,c.2.2≠0)(hu:∀c∈l,∃u e:Nat,(u,e)∈bd w v/\c.1 = .ofNat u/\c.2.1 = .ofNat e)(hn:l.length<=1000){H:HL}{xv:Value}(hx:LsH H xv 3 encC l) :
  ∃G rx,aq cc ae 11 [.i (.ofNat w),.i (.ofNat v),.v xv,.i (.ofNat x),.i (.ofNat y)] (absH aa H) [.v rx] (absH aa (H++G))/\LsH (H++G) rx 2 encR (refR l w x y):=by
 obtain⟨rs,h',hc,rx,e1,⟨G,rfl⟩,hrx⟩:=x11 (ls:=[.i (.ofNat w),.i (.ofNat v),.v xv,.i (.ofNat x),.i (.ofNat y)]) (K:=λrs h'=>∃rx,rs=[.v rx]/\Pre H h'/\LsH h' rx 2 encR (refR l w x y)) (H:=H) (glsI (glsI (glsV hx.good (glsI (glsI gls0))))) (by
  unfold p11
  simp(disch:=omega)only[↓qXX]
  refine ew 8 (λd (s:Value×HL)=>[.v s.1,.i (Int.ofNat d)]) (λ_ s=>s.2) (λd s=>Pre H s.2/\MkL H.length s.2 s.1 2 encR ((List.range d).flatMap (dirR l w x y))/\aX s.1=true) (j0:=0) (s0:=(.slice none 0 0,H)) rfl rfl (qbu _) ⟨Pre.refl _,MkL.nil _ _ _ _,rfl⟩ ?_
  rintro d ⟨sv,sh⟩ hd ⟨hpre,hmk,hgv⟩ self hself
  simp only at hpre hmk hgv ⊢
  simp(disch:=omega)only[↓qXX]
  by_cases hlt:d<8
  ·rw[show(8:Int)=Int.ofNat 8 from rfl,cd hlt]
   simp(disch:=omega)only[↓qXX]
   have hR:((List.range d).flatMap (dirR l w x y)).length<=8:=by
    have e:List.range 8=List.range d++(List.range 8).drop d:=by
     have:=qbF d (List.range 8)
     rw[List.take_range,qco (by omega)]at this
     exact this.symm
    have h8:=oW l w x y
    unfold refR at h8
    rw[e,qcE,qaD]at h8
    omega
   have hgl:∀j,(((List.range d).flatMap (dirR l w x y))++(l.take j).filterMap (rayD w x y d)).length<=1008:=λj=>by
    rw[qaD]
    have:=qcl (rayD w x y d) (l.take j)
    rw[qaZ]at this
    omega
   refine ew l.length (λj (s:Value×HL)=>[.v s.1,.i (Int.ofNat j)]) (λ_ s=>s.2) (λj s=>Pre H s.2/\MkL H.length s.2 s.1 2 encR ((List.range d).flatMap (dirR l w x y)++(l.take j).filterMap (rayD w x y d))/\aX s.1=true) (j0:=0) (s0:=(sv,sh)) rfl rfl (qbu _) ⟨hpre,by simpa using hmk,hgv⟩ ?_
   rintro j ⟨tv,th⟩ hj ⟨kpre,kmk,kgv⟩ self2 hself2
   simp only at kpre kmk kgv ⊢
   have hX:=hx.pre kpre
   simp(disch:=omega)only[↓qXX]
   refine gm hX ?_
   by_cases hlj:j<l.length
   ·rw[cd hlj]
    simp(disch:=omega)only[↓qXX]
    obtain⟨c,hc⟩:=dN hlj
    obtain⟨u,e,hm,e1,e2⟩:=hu c (qai hc)
    have htk:(l.take (j+1)).filterMap (rayD w x y d)=(l.take j).filterMap (rayD w x y d)++(rayD w x y d c).toList:=by
     rw[qb0,hc,List.filterMap_append]
     congr 1
    have hrd:rayD w x y d c=if mtD w (x,y) d (u,e)then some (.ofNat d,c.2.2)else none:=by
     unfold rayD
     rw[e1,e2];rfl
    refine fQ hX rfl hc ?_
    unfold encC
    simp(disch:=omega)only[↓qXX]
    rw[e1,e2]
    obtain⟨G1,hE⟩:=ends_c hsh hm th
    obtain⟨D1,D2⟩:=dir_c hsh hm
    refine aW hE ?_
    simp(disch:=omega)only[↓qXX]
    have kpre1:Pre H (th++G1):=kpre.trans ⟨_,rfl⟩
    have kmk1:=kmk.pre (h':=th++G1) ⟨_,rfl⟩
    have bnd:Int.ofNat j+1<=9223372036854775807:=by show(j:Int)+1<=_;omega
    have miss:mtD w (x,y) d (u,e)=false->self2 [.v tv,.i (Int.ofNat j+1)] (th++G1):=λhm=>by
     refine hself2 (tv,th++G1) hlj ⟨kpre1,?_,kgv⟩
     rw[htk,hrd,hm]
     simpa using kmk1
    have app:mtD w (x,y) d (u,e)=true->∀K:List Value->HL->Prop,(∀v' h',aX v'=true->self2 [.v v',.i (Int.ofNat j+1)] h'->K [v'] h')->
      P1.heap (.ap cc 2 16 tv (.slice (some ⟨(th++G1).length,0,some 12⟩) 1 2)) (th++G1++[.o (.cells [.int .i64 (.ofNat d),.int .u8 c.2.2] 2 true)]) (@hid _ ⟨K⟩):=λhm K hK=>by
     refine tw (h0:=H) (a:=(.ofNat d,c.2.2)) kpre1 kmk1 rfl rfl rfl rfl (by
      unfold cf
      rw[qaa,qaX,qaX]
      have:=hgl j
      omega) λv' h' hp' hm' hg' _ _=>hK v' h' hg' ?_
     refine hself2 (v',h') hlj ⟨hp',?_,hg'⟩
     rw[htk,hrd,hm,←qaC]
     exact hm'
    generalize hA:(cw w u e).1=A at D1 D2 ⊢
    generalize hB:(cw w u e).2=B at D1 D2 ⊢
    have hmt:mtD w (x,y) d (u,e)=(eqP A (x,y)&&Nat.beq (dirN A B) d||eqP B (x,y)&&Nat.beq (dirN B A) d):=by
     unfold mtD
     simp only[hA,hB]
    rw[eqs2 (t:=eqP A (x,y)) (by rw[eE,eE];rfl)]
    have eqd:∀(K:Bool->Prop) (a:Nat),P1.cmp .eql (Int.ofNat a) (Int.ofNat d) (@hid _ ⟨K⟩)=K (Nat.beq a d):=λK a=>by
     by_cases h:a=d
     ·rw[p_eql_t (by rw[h]),h,qb6]
     ·rw[p_eql_f (λq=>h (qbA q)),show Nat.beq a d=false by rw[←qaB,qbg];exact h]
    have second:∀(b1:Bool),(b1=(eqP A (x,y)&&Nat.beq (dirN A B) d))->b1=false->eqP B (x,y)=false->mtD w (x,y) d (u,e)=false:=λb1 h1 h2 h3=>by
     rw[hmt,←h1,h2,h3];rfl
    cases hA1:eqP A (x,y)with
    |true=>
     have hAx:=ru.1 hA1
     rw[hAx]at D1 D2
     simp(disch:=omega)only[↓qXX]
     refine aE D1 ?_
     simp(disch:=omega)only[↓qXX]
     rw[eqd]
     cases hd1:Nat.beq (dirN (x,y) B) d with
     |true=>
      simp(disch:=omega)only[↓qXX]
      refine app (by rw[hmt,hA1,hAx,hd1];rfl) _ λv' h' hg' hs=>?_
      simp(disch:=omega)only[↓qXX]
      refine bi hg' ?_
      simp(disch:=omega)only[↓qXX]
      rw[dt (by omega)]
      exact hs
     |false=>
      simp(disch:=omega)only[↓qXX]
      rw[eqs2 (t:=eqP B (x,y)) (by rw[eE,eE];rfl)]
      cases hB1:eqP B (x,y)with
      |true=>
       have hBx:=ru.1 hB1
       rw[hBx]at D1 D2
       simp(disch:=omega)only[↓qXX]
       rw[hAx]
       refine aE D2 ?_
       simp(disch:=omega)only[↓qXX]
       rw[eqd]
       rw[hBx]at hd1
       simp(disch:=omega)only[↓qXX,hd1]
       rw[dt (by omega)]
       exact miss (by rw[hmt,hA1,hAx,hB1,hBx,hd1];rfl)
      |false=>
       simp(disch:=omega)only[↓qXX]
       rw[dt (by omega)]
       exact miss (by rw[hmt,hA1,hAx,hB1,hd1];rfl)
    |false=>
     simp(disch:=omega)only[↓qXX]
     rw[eqs2 (t:=eqP B (x,y)) (by rw[eE,eE];rfl)]
     cases hB1:eqP B (x,y)with
     |true=>
      have hBx:=ru.1 hB1
      rw[hBx]at D1 D2
      simp(disch:=omega)only[↓qXX]
      refine aE D2 ?_
      simp(disch:=omega)only[↓qXX]
      rw[eqd]
      cases hd1:Nat.beq (dirN (x,y) A) d with
      |true=>
       simp(disch:=omega)only[↓qXX]
       refine app (by rw[hmt,hA1,hB1,hBx,hd1];rfl) _ λv' h' hg' hs=>?_
       simp(disch:=omega)only[↓qXX]
       refine bi hg' ?_
       simp(disch:=omega)only[↓qXX]
       rw[dt (by omega)]
       exact hs
      |false=>
       simp(disch:=omega)only[↓qXX]
       rw[dt (by omega)]
       exact miss (by rw[hmt,hA1,hB1,hBx,hd1];rfl)
     |false=>
      simp(disch:=omega)only[↓qXX]
      rw[dt (by omega)]
      exact miss (by rw[hmt,hA1,hB1];rfl)
   ·obtain rfl:j=l.length:=by omega
    rw[cu (qaz _)]
    simp(disch:=omega)only[↓qXX]
    rw[dt (by omega)]
    refine hself (tv,th) hlt ⟨kpre,?_,kgv⟩
    rw[List.range_succ,qcE,qbo,List.flatMap_nil,qaM,←ref_dir hsh hcor hl hk hu hlt]
    rw[qcf]at kmk
    exact kmk
  ·obtain rfl:d=8:=by omega
   rw[show(8:Int)=Int.ofNat 8 from rfl,cu (qaz _)]
   simp(disch:=omega)only[↓qXX]
   exact⟨_,by trivial,hpre,hmk.ls⟩)
 rw[e1]at hc
 exact⟨G,rx,hc,hrx⟩
end Go.Am

/-
 THE CORNERS OF A SHEET,as a list;the sum of the angles.
-/
set_option maxRecDepth 100000
set_option maxHeartbeats 4000000
namespace Go.Am
open Sx Go.Proofs
end Go.Am

/-
 A CHAIN OF REFLECTIONS: places.Closes,told of the rays.
-/
set_option maxRecDepth 100000
set_option maxHeartbeats 4000000
namespace Go.Am
open Sx Go.Proofs
theorem callv_cf{g:FuncId}{sg:Sig}{p:Value}{ls rs:List Lf}{H H':List HObj}(hc:aq cc ae g (.v p :: ls) H rs H')(hs:ae g=some sg)(xs:List S0)(h1:bm (.leaf (.v p) :: xs) sg.ps=true)(h2:bn (.leaf (.v p) :: xs) = .v p :: ls) :
  ri cc (.func (.func g) ⟨[p]⟩ ⟨[]⟩) (ah xs) sg.rs H rs H':=by
 obtain⟨sg',xs',ys,c1,c2,c3,c4⟩:=hc
 rw[hs]at c1
 cases c1
 obtain⟨w1,_⟩:=ca c2.1 h1 (c2.2.1.trans h2.symm)
 rw[w1]at c4
 have e:(⟨[p]⟩ : Array Value).toList++ah xs++(⟨[]⟩ : Array Value).toList=ah (.leaf (.v p) :: xs):=by
  show [p]++ah xs++[]=p :: ah xs
  simp
 exact⟨ys,c3,.inl ⟨g,⟨[p]⟩,⟨[]⟩,rfl,by rw[e];exact c4⟩⟩
theorem n_rem{k:IntKind}{d:Nat}{m:Int}(n:Nat)(hm:m=Int.ofNat n)(hn:0<n){K:Int->Prop}:P1.ari .rem k (Int.ofNat d) m (@hid _ ⟨K⟩)=K (Int.ofNat (d%n)):=by
 subst hm
 rw[p_rem_nn (show 0<=Int.ofNat d from qa3 d) (show(0:Int)<Int.ofNat n by simp only[qaf];omega)]
 rfl
def mvC(t x y:Nat):List Value:=[.int .u8 (.ofNat t),.int .i64 (mvX t x y),.int .i64 (mvY t x y)]
theorem add_c{H:HL}{a t k x y:Nat}(hr:Refl x y k)(ht:t<8)(hto:fO x t=true)(ha:H[a]? = some (.o (.cells (mvC t x y) 3 true))) :
  aq cc ae 38 [.v (.pointer (some ⟨a,0,none⟩)),.i (.ofNat (lnK k)),.i (lnC k x y)] (absH aa H) [] (absH aa (H.set a (.o (.cells (mvC (tn t k) x y) 3 true)))):=by
 obtain⟨rs,h',h1,e1,e2⟩:=x38 (ls:=[.v (.pointer (some ⟨a,0,none⟩)),.i (.ofNat (lnK k)),.i (lnC k x y)]) (K:=λrs h'=>rs=[]/\h'=H.set a (.o (.cells (mvC (tn t k) x y) 3 true))) (H:=H) (glsV rfl (glsI (glsI gls0))) (by
  unfold p38
  simp(disch:=omega)only[↓qXX]
  refine aE hr.mof ?_
  simp(disch:=omega)only[↓qXX]
  refine bw (x:=.pointer (some ⟨a,0,none⟩)) rfl ?_
  refine bi rfl ?_
  refine dV (cv ha) (o:=0) (k:=3) (ds:=mvC t x y) (by simp[mvC]) rfl ?_
  unfold mvC
  simp(disch:=omega)only[↓qXX]
  refine aE (hr.thn t ht hto) ?_
  simp(disch:=omega)only[↓qXX]
  refine bw (x:=.pointer (some ⟨a,0,none⟩)) rfl ?_
  refine bi rfl ?_
  refine bw (x:=.pointer (some ⟨a,0,none⟩)) rfl ?_
  refine bi rfl ?_
  refine iq (st_run ha rfl) ?_
  exact⟨by trivial,by trivial⟩)
 rw[e1,e2]at h1
 exact h1
theorem ident_c:Cc 22 [] [.i 0,.i 0,.i 0]:=by
 refine q22 rfl ?_;unfold p22
 simp(disch:=omega)only[↓qXX]
def okRd(x:Nat)(R:List Ray):Prop:=∀r∈R,∃d:Nat,r.1=Int.ofNat d/\d<8/\jP x (d%4)=true
theorem tW(D:List Int):cg D<8:=by
 unfold cg
 suffices ∀(D:List Int) (t:Nat),t<8->D.foldl (λt d=>tn t (d.toNat%4)) t<8 from this D 0 (by omega)
 intro D
 induction D with
 |nil=>intro t h;exact h
 |cons d D ih=>intro t _;exact ih _ (tn_lt _ _)
theorem re(D:List Int)(d:Int):cg (D++[d])=tn (cg D) (d.toNat%4):=by
 unfold cg
 rw[List.foldl_append];rfl
theorem okTurn_tn{x t k:Nat}(h:fO x t=true)(hd:jP x k=true)(ht:t<8):fO x (tn t k)=true:=by
 unfold fO jP tn at *
 simp only[qaG,qbg]at h hd ⊢
 rcases h with h|h
 ·exact .inl h
 ·rcases hd with hd|hd
  ·exact .inl hd
  ·right
   have:t=0∨t=1∨t=2∨t=3∨t=4∨t=5∨t=6∨t=7:=by omega
   rcases this with rfl|rfl|rfl|rfl|rfl|rfl|rfl|rfl<;>simp[Nat.blt]at h ⊢<;>(split<;>simp[Nat.blt]at *<;>omega)
theorem tr{x:Nat}:∀(D:List Int) (t:Nat),(∀d∈D,jP x (d.toNat%4)=true)->t<8->fO x t=true->fO x (D.foldl (λt d=>tn t (d.toNat%4)) t)=true
 | [],_,_,_,h=>h
 |d :: D,t,hd,ht,h=>tr D _ (λe he=>hd e (qao _ he)) (tn_lt _ _) (okTurn_tn h (hd d qay) ht)
theorem tt{x:Nat}{D:List Int}(hD:∀d∈D,∃k:Nat,d=Int.ofNat k/\k<8/\jP x (k%4)=true):fO x (cg D)=true:=by
 refine tr D 0 (λd hd=>?_) (by omega) (by unfold fO;simp[Nat.blt])
 obtain⟨k,rfl,_,h⟩:=hD d hd
 exact h
theorem lnK_pick{k:Nat}(hk:k<4):dn [(.i 2),(.i 4),(.i 1),(.i 3)] 0 [(Int.ofNat k,1)] 1=some [.i (.ofNat (lnK k))]:=by
 have:k=0∨k=1∨k=2∨k=3:=by omega
 rcases this with rfl|rfl|rfl|rfl<;>rfl
theorem take_map{R:List Ray}{j:Nat}{r:Ray}(h:R[j]? = some r):(R.take (j+1)).map (·.1)=(R.take j).map (·.1)++[r.1]:=by
 rw[qb0,h,qbE];rfl
theorem closes_c{w v x y:Nat}(hsh:1<=w/\w<=4/\1<=v/\v<=4)(hcor:ed w v x y=true){l:List Crs}(hp:Pat w v l)(hR:okRd x (rysC l w x y))(hn:(rysC l w x y).length<=8){H:HL}{xv:Value}(hl:LsH H xv 3 encC l) :
  ∃G,aq cc ae 12 [.i (.ofNat w),.i (.ofNat v),.v xv,.i (.ofNat x),.i (.ofNat y)] (absH aa H) [.b (Nat.beq (cg ((rysC l w x y).map (·.1))) 0),.i 0] (absH aa (H++G)):=by
 obtain⟨G1,rx,hc1,hls,_⟩:=creases_c hsh hcor hp hl
 change LsH _ rx 2 encR (rysC l w x y)at hls
 have hc2:=hcor
 unfold ed at hc2
 simp only[qaa,qaH,qbg]at hc2
 generalize rysC l w x y=R at hls hR hn ⊢
 obtain⟨rs,h',h1,e1,G,rfl⟩:=x12 (ls:=[.i (.ofNat w),.i (.ofNat v),.v xv,.i (.ofNat x),.i (.ofNat y)]) (K:=λrs h'=>rs=[.b (Nat.beq (cg (R.map (·.1))) 0),.i 0]/\Pre H h') (H:=H) (glsI (glsI (glsV hl.good (glsI (glsI gls0))))) (by
  unfold p12
  simp(disch:=omega)only[↓qXX]
  refine aW hc1 ?_
  simp(disch:=omega)only[↓qXX]
  refine bi rfl ?_
  refine gm hls ?_
  generalize hHc:H++G1=Hc at hls ⊢
  have hpre:Pre H Hc:=⟨G1,hHc.symm⟩
  refine ew R.length (λj (_:Unit)=>[.i (Int.ofNat j)]) (λj _=>Hc++[HO.o (.cells (mvC (cg ((R.take j).map (·.1))) x y) 3 true)]) (λ_ _=>True) (j0:=0) (s0:=()) rfl rfl (qbu _) trivial ?_
  intro j _ hj _ self hself
  have hls2:LsH (Hc++[HO.o (.cells (mvC (cg ((R.take j).map (·.1))) x y) 3 true)]) rx 2 encR R:=hls.pre ⟨_,rfl⟩
  have hblk:(Hc++[HO.o (.cells (mvC (cg ((R.take j).map (·.1))) x y) 3 true)])[Hc.length]? = some (.o (.cells (mvC (cg ((R.take j).map (·.1))) x y) 3 true)):=by simp
  simp(disch:=omega)only[↓qXX]
  by_cases hlt:j<R.length
  ·rw[cd hlt]
   simp(disch:=omega)only[↓qXX]
   obtain⟨r,hr⟩:=dN hlt
   obtain⟨d,e,hd8,hdk⟩:=hR r (qai hr)
   refine fQ hls2 rfl hr ?_
   unfold encR
   simp(disch:=omega)only[↓qXX]
   rw[e]
   rw[n_rem 4 (show(4:Int)=Int.ofNat 4 from rfl) (by omega)]
   have hk:d%4<4:=qbY _ (by omega)
   rw[p_inB (show 0<=Int.ofNat (d%4)from qa3 _) (by show((d%4:Nat):Int)<((4:Nat):Int);omega)]
   refine bw (lnK_pick hk) ?_
   simp(disch:=omega)only[↓qXX]
   have hrf:=refl_of (x:=x) (y:=y) (k:=d%4) (by omega) hk hdk
   refine aE hrf.thr ?_
   simp(disch:=omega)only[↓qXX]
   have hadd:=add_c hrf (tW _) (tt λd hd=>by
    obtain⟨q,hq,rfl⟩:=qaE.1 hd
    exact hR q (qa7 hq)) hblk
   have hset:(Hc++[HO.o (.cells (mvC (cg ((R.take j).map (·.1))) x y) 3 true)]).set Hc.length (.o (.cells (mvC (tn (cg ((R.take j).map (·.1))) (d%4)) x y) 3 true))=Hc++[HO.o (.cells (mvC (cg ((R.take (j+1)).map (·.1))) x y) 3 true)]:=by
    rw[take_map hr,re,e]
    simp
   rw[hset]at hadd
   refine lT (callv_cf hadd rfl [.agg [.i .u8 (.ofNat (lnK (d%4))),.i .i64 (lnC (d%4) x y)]] rfl rfl) ?_
   simp(disch:=omega)only[↓qXX]
   rw[dt (by omega)]
   exact hself () hlt trivial
  ·obtain rfl:j=R.length:=by omega
   rw[cu (qaz _)]
   simp(disch:=omega)only[↓qXX]
   refine dV (cv hblk) (o:=0) (k:=3) (ds:=mvC (cg ((R.take R.length).map (·.1))) x y) (by simp[mvC]) rfl ?_
   unfold mvC
   simp(disch:=omega)only[↓qXX]
   refine aE ident_c ?_
   simp(disch:=omega)only[↓qXX]
   rw[qcf]
   by_cases h0:cg (R.map (·.1))=0
   ·rw[h0]
    rw[p_eqs_t (show Int.ofNat 0=0 from rfl),p_eqs_t (show mvX 0 x y=0 from rfl),p_eqs_t (show mvY 0 x y=0 from rfl),p_eqs0]
    exact⟨by trivial,hpre.trans ⟨_,rfl⟩⟩
   ·rw[p_eqs_f (show ¬Int.ofNat (cg (R.map (·.1)))=0 from λq=>h0 (qbA q))]
    refine⟨?_,hpre.trans ⟨_,rfl⟩⟩
    rw[show Nat.beq (cg (R.map (·.1))) 0=false by rw[←qaB,qbg];exact h0])
 rw[e1]at h1
 exact⟨G,h1⟩
theorem ln_facts{k x y:Nat}(hk:k<4)(hx:x<8)(hy:y<8)(hpar:(x%2=0/\y%2=0)∨(k%2=1/\x%2=y%2)):-8<=lnA k*Int.ofNat x/\lnA k*Int.ofNat x<=8/\-8<=lnB k*Int.ofNat y/\lnB k*Int.ofNat y<=8/\(lnA k*Int.ofNat x+lnB k*Int.ofNat y)%2=0/\(lnA k*Int.ofNat x+lnB k*Int.ofNat y) / 2=lnC k x y:=by
 have:k=0∨k=1∨k=2∨k=3:=by omega
 rcases this with rfl|rfl|rfl|rfl<;>simp only[lnA,lnB,lnC,qaf]<;>omega
theorem prod_c{x y:Nat}(hxy:0<x/\x<8/\0<y/\y<8/\x%2=y%2){D:List Int}(hD:∀d∈D,∃k:Nat,d=Int.ofNat k/\k<8/\jP x (k%4)=true)(hn:D.length<=8){H:HL}{dx:Value}(hl:LsH H dx 1 encI D) :
  ∃G,aq cc ae 13 [.i (.ofNat x),.i (.ofNat y),.v dx] (absH aa H) (mvL (cg D) x y) (absH aa (H++G)):=by
 obtain⟨rs,h',h1,e1,G,rfl⟩:=x13 (ls:=[.i (.ofNat x),.i (.ofNat y),.v dx]) (K:=λrs h'=>rs=mvL (cg D) x y/\Pre H h') (H:=H) (glsI (glsI (glsV hl.good gls0))) (by
  unfold p13
  simp(disch:=omega)only[↓qXX]
  refine ew D.length (λj (_:HL)=>[.i (Int.ofNat j),.i (.ofNat (cg (D.take j))),.i (mvX (cg (D.take j)) x y),.i (mvY (cg (D.take j)) x y)]) (λ_ s=>s) (λ_ s=>Pre H s) (j0:=0) (s0:=H) rfl rfl (qbu _) (Pre.refl _) ?_
  intro j s hj hpre self hself
  simp(disch:=omega)only[↓qXX]
  refine gm (hl.pre hpre) ?_
  by_cases hlt:j<D.length
  ·rw[cd hlt]
   simp(disch:=omega)only[↓qXX]
   obtain⟨d,hd⟩:=dN hlt
   obtain⟨k,rfl,hk8,hdk⟩:=hD d (qai hd)
   have hN:s++[HO.o (.cells [.int .u8 2,.int .u8 4,.int .u8 1,.int .u8 3] 1 true)]=newE s 1 enc8 [2,4,1,3]:=rfl
   rw[hN]
   refine fQ ((hl.pre hpre).pre (im _ _ _ _)) rfl hd ?_
   unfold encI
   simp(disch:=omega)only[↓qXX]
   rw[n_rem 4 (show(4:Int)=Int.ofNat 4 from rfl) (by omega)]
   have hk:k%4<4:=qbY _ (by omega)
   have hrf:=refl_of (x:=x) (y:=y) (k:=k%4) hxy hk hdk
   have hs:=hself (newE s 1 enc8 [2,4,1,3]) hlt (hpre.trans (im _ _ _ _))
   have ht:D.take (j+1)=D.take j++[Int.ofNat k]:=by rw[qb0,hd];rfl
   rw[ht,re]at hs
   have hs:self [.i (Int.ofNat (j+1)),.i (.ofNat (tn (cg (D.take j)) (k%4))),.i (mvX (tn (cg (D.take j)) (k%4)) x y),.i (mvY (tn (cg (D.take j)) (k%4)) x y)] (newE s 1 enc8 [2,4,1,3]):=hs
   have hget:([2,4,1,3]:List Int)[k%4]? = some (.ofNat (lnK (k%4))):=by
    have:k%4=0∨k%4=1∨k%4=2∨k%4=3:=by omega
    rcases this with e|e|e|e<;>rw[e]<;>rfl
   refine fQ (newE_ls (h:=s) (e:=1) (enc:=enc8) (l:=[2,4,1,3]) (cx:=5) og (n:=4) rfl) rfl hget ?_
   unfold enc8
   simp(disch:=omega)only[↓qXX]
   refine aE hrf.acr ?_
   have hpar:(x%2=0/\y%2=0)∨((k%4)%2=1/\x%2=y%2):=by
    unfold jP at hdk
    rw[qaG,qbg,qbg]at hdk
    omega
   obtain⟨f1,f2,f3,f4,f5,f6⟩:=ln_facts hk hxy.2.1 hxy.2.2.2.1 hpar
   simp(disch:=omega)only[↓qXX]
   rw[f6]
   refine aE hrf.rof ?_
   simp(disch:=omega)only[↓qXX]
   refine aE (hrf.rth _ (tW _) (tt λd hd=>hD d (qa7 hd))) ?_
   simp(disch:=omega)only[↓qXX]
   rw[dt (by omega)]
   exact hs
  ·obtain rfl:j=D.length:=by omega
   rw[cu (qaz _)]
   simp(disch:=omega)only[↓qXX]
   exact⟨by rw[qcf],hpre⟩)
 rw[e1]at h1
 exact⟨G,h1⟩
end Go.Am

/-
 POINTS THAT ARE NO CORNERS;the directions of the rays.
-/
set_option maxRecDepth 100000
set_option maxHeartbeats 4000000
namespace Go.Am
open Sx Go.Proofs
def coS(w v x y:Int):Prop:=0<x/\0<y/\x<2*w/\y<2*v/\x%2=y%2
instance (w v x y : Int) : Decidable (coS w v x y) := by unfold coS; infer_instance
theorem cornerI_c{w v:Int}(hs:smS w v)(x y:Int):Cc 71 [.i w,.i v,.i x,.i y] [.i (if coS w v x y then 0 else 7)]:=by
 refine q71 rfl ?_;unfold p71
 have hs':=hs
 unfold smS at hs'
 simp(disch:=omega)only[↓qXX]
 refine aE (gh (pm hs)) ?_
 by_cases h1:0<x
 ·by_cases h2:0<y
  ·by_cases h3:x<2*w
   ·by_cases h4:y<2*v
    ·by_cases h5:x%2=y%2
     ·simp(disch:=omega)only[↓qXX];simp[coS,h1,h2,h3,h4,h5]
     ·simp(disch:=omega)only[↓qXX];simp[coS,h5]
    ·simp(disch:=omega)only[↓qXX];simp[coS,h4]
   ·simp(disch:=omega)only[↓qXX];simp[coS,h3]
  ·simp(disch:=omega)only[↓qXX];simp[coS,h2]
 ·simp(disch:=omega)only[↓qXX];simp[coS,h1]
theorem is_c{w v:Int}(hs:smS w v)(x y:Int):Cc 10 [.i w,.i v,.i x,.i y] [.i (if coS w v x y then 1 else 0)]:=by
 refine q10 rfl ?_;unfold p10
 unfold smS at hs
 by_cases h1:0<x
 ·by_cases h2:0<y
  ·by_cases h3:x<2*w
   ·by_cases h4:y<2*v
    ·by_cases h6:y<=x
     ·by_cases h5:x%2=y%2
      ·have:(x - y)%2=0:=by omega
       simp(disch:=omega)only[↓qXX];simp[coS,h1,h2,h3,h4,h5]
      ·have:(x - y)%2≠0:=by omega
       simp(disch:=omega)only[↓qXX];simp[coS,h5]
     ·by_cases h5:x%2=y%2
      ·have:-((-(x - y))%2)=0:=by omega
       simp(disch:=omega)only[↓qXX];simp[coS,h1,h2,h3,h4,h5]
      ·have:-((-(x - y))%2)≠0:=by omega
       simp(disch:=omega)only[↓qXX];simp[coS,h5]
    ·simp(disch:=omega)only[↓qXX];simp[coS,h4]
   ·simp(disch:=omega)only[↓qXX];simp[coS,h3]
  ·simp(disch:=omega)only[↓qXX];simp[coS,h2]
 ·simp(disch:=omega)only[↓qXX];simp[coS,h1]
theorem coS_cor{w v:Nat}{x y:Int}(h:coS (.ofNat w) (.ofNat v) x y):∃a b:Nat,x = .ofNat a/\y = .ofNat b/\ed w v a b=true:=by
 unfold coS at h
 obtain⟨a,rfl⟩:=qa1 (show 0<=x by omega)
 obtain⟨b,rfl⟩:=qa1 (show 0<=y by omega)
 refine⟨a,b,rfl,rfl,?_⟩
 unfold ed
 simp only[qaa,qaH,qbg]
 simp only[qaf]at h
 omega
theorem crC_no{w v:Nat}{x y:Int}{l:List Crs}(hp:Pat w v l)(hno:¬coS (.ofNat w) (.ofNat v) x y){H:HL}{xv:Value}(hl:LsH H xv 3 encC l) :
  ∃G,aq cc ae 37 [.i (.ofNat w),.i (.ofNat v),.v xv,.i x,.i y] (absH aa H) [.v (.slice none 0 0),.i 7] (absH aa (H++G)):=by
 have hc:=cornerI_c hp.sm x y
 rw[if_neg hno]at hc
 obtain⟨rs,h',h1,e1,G,rfl⟩:=x37 (ls:=[.i (.ofNat w),.i (.ofNat v),.v xv,.i x,.i y]) (K:=λrs h'=>rs=[.v (.slice none 0 0),.i 7]/\Pre H h') (H:=H) (glsI (glsI (glsV hl.good (glsI (glsI gls0))))) (by
  unfold p37
  simp(disch:=omega)only[↓qXX]
  have a1:(H++[HO.o (.cells [.int .i64 (.ofNat w),.int .i64 (.ofNat v),xv] 3 true)])[H.length]? = some (.o (.cells [.int .i64 (.ofNat w),.int .i64 (.ofNat v),xv] 3 true)):=by simp
  refine ce (cv a1) rfl ?_
  simp(disch:=omega)only[↓qXX]
  refine bi hl.good ?_
  simp(disch:=omega)only[↓qXX]
  refine aW (hp.check (hl.pre ⟨_,rfl⟩)) ?_
  simp(disch:=omega)only[↓qXX]
  refine dV (cv a1) (o:=0) (k:=2) (ds:=[.int .i64 (.ofNat w),.int .i64 (.ofNat v)]) (by simp) rfl ?_
  simp(disch:=omega)only[↓qXX]
  refine aE hc ?_
  simp(disch:=omega)only[↓qXX]
  exact⟨by trivial,⟨_,rfl⟩⟩)
 rw[e1]at h1
 exact⟨G,h1⟩
theorem closes_no{w v:Nat}{x y:Int}{l:List Crs}(hp:Pat w v l)(hno:¬coS (.ofNat w) (.ofNat v) x y){H:HL}{xv:Value}(hl:LsH H xv 3 encC l) :
  ∃G,aq cc ae 12 [.i (.ofNat w),.i (.ofNat v),.v xv,.i x,.i y] (absH aa H) [.b false,.i 7] (absH aa (H++G)):=by
 obtain⟨G1,hc⟩:=crC_no hp hno hl
 obtain⟨rs,h',h1,e1,G,rfl⟩:=x12 (ls:=[.i (.ofNat w),.i (.ofNat v),.v xv,.i x,.i y]) (K:=λrs h'=>rs=[.b false,.i 7]/\Pre H h') (H:=H) (glsI (glsI (glsV hl.good (glsI (glsI gls0))))) (by
  unfold p12
  simp(disch:=omega)only[↓qXX]
  refine aW hc ?_
  simp(disch:=omega)only[↓qXX]
  exact⟨by trivial,⟨_,rfl⟩⟩)
 rw[e1]at h1
 exact⟨G,h1⟩
theorem qL{l:List Crs}{w x y:Nat}{r:Ray}(h:r∈refR l w x y):∃d:Nat,r.1=Int.ofNat d/\d<8/\jP x (d%4)=true:=by
 obtain⟨d,hd,hm⟩:=qbx.1 h
 rw[qaj]at hd
 refine⟨d,hI hm,hd,?_⟩
 unfold dirR at hm
 split at hm
 ·rename_i j hj
  unfold spkJ at hj
  unfold jP
  rw[qaG,qbg,qbg]
  split at hj
  ·split at hj
   ·omega
   ·cases hj
  ·omega
 ·cases hm
theorem eh{l:List Crs}{w x y d:Nat}:∃b,(dirR l w x y d).map (·.1)=bD b d:=by
 have h1:=ki (l:=l) (w:=w) (x:=x) (y:=y) (d:=d)
 have h2:∀r∈dirR l w x y d,r.1=Int.ofNat d:=λr hr=>hI hr
 generalize dirR l w x y d=L at h1 h2 ⊢
 rcases L with _|⟨a,_|⟨b,L⟩⟩
 ·exact⟨false,rfl⟩
 ·exact⟨true,by show [a.1]=[Int.ofNat d];rw[h2 a qay]⟩
 ·simp at h1
theorem turn_want(l:List Crs)(w x y:Nat):Nat.beq (cg ((refR l w x y).map (·.1))) 0=rg ((refR l w x y).map (·.1)):=by
 have hr:refR l w x y=dirR l w x y 0++(dirR l w x y 1++(dirR l w x y 2++(dirR l w x y 3++(dirR l w x y 4++(dirR l w x y 5++(dirR l w x y 6++dirR l w x y 7)))))):=by
  unfold refR
  show List.flatMap _ [0,1,2,3,4,5,6,7]=_
  simp
 rw[hr]
 simp only[qbE]
 obtain⟨b0,e0⟩:=eh (l:=l) (w:=w) (x:=x) (y:=y) (d:=0)
 obtain⟨b1,e1⟩:=eh (l:=l) (w:=w) (x:=x) (y:=y) (d:=1)
 obtain⟨b2,e2⟩:=eh (l:=l) (w:=w) (x:=x) (y:=y) (d:=2)
 obtain⟨b3,e3⟩:=eh (l:=l) (w:=w) (x:=x) (y:=y) (d:=3)
 obtain⟨b4,e4⟩:=eh (l:=l) (w:=w) (x:=x) (y:=y) (d:=4)
 obtain⟨b5,e5⟩:=eh (l:=l) (w:=w) (x:=x) (y:=y) (d:=5)
 obtain⟨b6,e6⟩:=eh (l:=l) (w:=w) (x:=x) (y:=y) (d:=6)
 obtain⟨b7,e7⟩:=eh (l:=l) (w:=w) (x:=x) (y:=y) (d:=7)
 rw[e0,e1,e2,e3,e4,e5,e6,e7]
 exact eq_of_beq (chk_of b0 b1 b2 b3 b4 b5 b6 b7)
end Go.Am

/-
 The examples of chapter 10.
-/
set_option maxRecDepth 100000
namespace Go.Am
open Sx Go.Proofs
theorem lives10:∀H,aq cc ae 14 [] H [.b true] H:=fM (n:=60) rfl (by kernel_rfl) rfl (by kernel_rfl)
end Go.Am

/-
 PlacesCloses: the law,at every pattern,corner and point.
-/
set_option maxRecDepth 100000
set_option maxHeartbeats 4000000
namespace Go.Am
open Sx Go.Proofs
theorem oP{b:List Lf->HL->Prop}{m:(List Lf->HL->Prop)->Prop}(P:List Lf->HL->Prop)(h1:∀l h,P l h->b l h)(h2:∀j:List Lf->HL->Prop,(∀l h,P l h->j l h)->m j):P1.join (@hid _ ⟨b⟩) (@hid _ ⟨m⟩):=h2 _ h1
structure PatF(w v:Nat)(l:List Crs):Prop where
 pat:Pat w v l
 pair:l.Pairwise λa b=>ltC a b=true
 ne:∀c∈l,c.2.2≠0
 un:∀c∈l,∃u e:Nat,(u,e)∈bd w v/\c.1 = .ofNat u/\c.2.1 = .ofNat e
theorem patF_of{w v:Nat}(h1:1<=w)(h2:w<=5)(h3:1<=v)(h4:v<=5){ks:List Int}(hk:∀k∈ks,0<=k/\k<4):PatF w v (patL (bd w v) ks) where
 pat:=pat_of h1 h2 h3 h4 hk
 pair:=lU (kI (jr (mo w v h1 h2 h3 h4)).2.2.2.1)
 ne:=λc hc=>by
  obtain⟨u,k,_,_,h,rfl⟩:=kD hc
  exact h
 un:=λc hc=>by
  obtain⟨u,k,h,_,_,rfl⟩:=kD hc
  exact⟨u.1,u.2,h,rfl,rfl⟩
theorem kin_ok(N:Nat)(ks:List Int):∀k∈kinL N ks,0<=k/\k<4:=λ_ h=>kinL_rng h
theorem sz{w v x y:Nat}(hsh:1<=w/\w<=4/\1<=v/\v<=4)(hcor:ed w v x y=true){l:List Crs}(hF:PatF w v l){H:HL}{xv:Value}(hl:LsH H xv 3 encC l) :
  ∃G,aq cc ae 12 [.i (.ofNat w),.i (.ofNat v),.v xv,.i (.ofNat x),.i (.ofNat y)] (absH aa H) [.b (Nat.beq (cg ((refR l w x y).map (·.1))) 0),.i 0] (absH aa (H++G)):=by
 rw[←oZ]
 exact closes_c hsh hcor hF.pat (λr hr=>by rw[oZ]at hr;exact qL hr) (by rw[oZ];exact oW l w x y) hl
theorem want_len{D:List Int}(h:D.length=0):rg D=true:=by simp[rg,h]
theorem want_odd{D:List Int}(h:D.length≠0)(h2:D.length%2≠0):rg D=false:=by
 unfold rg
 have e1:Nat.beq D.length 0=false:=by rw[←qaB,qbg];exact h
 have e2:Nat.beq (D.length%2) 0=false:=by rw[←qaB,qbg];exact h2
 rw[e1,e2];rfl
theorem rh{D:List Int}(h:D.length≠0)(h2:D.length%2=0):rg D=decide (sumD D D.length=4):=by
 unfold rg
 have e1:Nat.beq D.length 0=false:=by rw[←qaB,qbg];exact h
 rw[e1,h2];rfl
theorem getD_i{D:List Int}{i:Nat}{r:Int}(h:D[i]? = some r):D.getD i 0=r:=by
 rw[List.getD_eq_getElem?_getD,h];rfl
theorem jQ{a b c p q:Int}(ha:0<=a/\a<=255)(hb:0<=b/\b<=255)(hc:0<=c/\c<=255){H:HL}{kx:Value}{ks:List Int}(hk:LsH H kx 1 enc8 ks)(hr:∀k∈ks,0<=k/\k<=255) :
  ∃G,aq cc ae 3 [.i a,.i b,.v kx,.i c,.i p,.i q] (absH aa H) [.b true] (absH aa (H++G)):=by
 obtain⟨w,hw⟩:=qa1 (show 0<=1+a%4 by omega)
 obtain⟨v,hv⟩:=qa1 (show 0<=1+b%4 by omega)
 have hsh:1<=w/\w<=4/\1<=v/\v<=4:=by omega
 have hF:=patF_of hsh.1 (by omega:w<=5) hsh.2.2.1 (by omega:v<=5) (kin_ok (6*w*v) ks)
 obtain⟨G1,xv,c1,hx⟩:=of_c ha hb hw.symm hv.symm hk hr
 generalize patL (bd w v) (kinL (6*w*v) ks)=l at hF hx
 have hsm:=hF.pat.sm
 obtain⟨rs,h',hcl',e1,G,rfl⟩:=x3 (ls:=[.i a,.i b,.v kx,.i c,.i p,.i q]) (K:=λrs h'=>rs=[.b true]/\Pre H h') (H:=H) (glsI (glsI (glsV hk.good (glsI (glsI (glsI gls0)))))) (by
  unfold p3
  simp(disch:=omega)only[↓qXX]
  refine aW c1 ?_
  simp(disch:=omega)only[↓qXX]
  generalize hH1:H++G1=H1 at hx ⊢
  have hpH:Pre H H1:=⟨G1,hH1.symm⟩
  refine ew (2*v) (λj (s:Int×HL)=>[.i s.1,.i (Int.ofNat j)]) (λ_ s=>s.2) (λj s=>Pre H1 s.2/\0<=s.1/\s.1<=8*j) (j0:=1) (s0:=(0,H1)) rfl rfl (by omega) ⟨Pre.refl _,by omega,by omega⟩ ?_
  rintro j ⟨n,s⟩ hj ⟨hpre,hn0,hn1⟩ self hself
  simp only at hpre hn0 hn1 ⊢
  simp(disch:=omega)only[↓qXX]
  rw[p_mul (by simp only[qaf];omega) (by simp only[qaf];omega),show(2:Int)*Int.ofNat v=Int.ofNat (2*v)by simp]
  by_cases hlt:j<2*v
  ·rw[cd hlt]
   simp(disch:=omega)only[↓qXX]
   refine ew (2*w) (λi (s:Int×HL)=>[.i s.1,.i (Int.ofNat i)]) (λ_ s=>s.2) (λi t=>Pre H1 t.2/\n<=t.1/\t.1<=n+i - 1) (j0:=1) (s0:=(n,s)) rfl rfl (by omega) ⟨hpre,by omega,by omega⟩ ?_
   rintro i ⟨m,t⟩ hi ⟨kpre,hm0,hm1⟩ self2 hself2
   simp only at kpre hm0 hm1 ⊢
   simp(disch:=omega)only[↓qXX]
   rw[p_mul (by simp only[qaf];omega) (by simp only[qaf];omega),show(2:Int)*Int.ofNat w=Int.ofNat (2*w)by simp]
   by_cases hli:i<2*w
   ·rw[cd hli]
    simp(disch:=omega)only[↓qXX]
    have his:=is_c hsm (Int.ofNat i) (Int.ofNat j)
    have hgo:∀(m':Int) (t':HL),Pre H1 t'->m<=m'->m'<=m+1->self2 [.i m',.i (Int.ofNat i+1)] t':=λm' t' hp' h1 h2=>hself2 (m',t') hli ⟨hp',by omega,by simp only[qbZ,qcn];omega⟩
    by_cases hco:coS (.ofNat w) (.ofNat v) (.ofNat i) (.ofNat j)
    ·rw[if_pos hco]at his
     refine aE his ?_
     simp(disch:=omega)only[↓qXX]
     obtain⟨_,_,e1,e2,hcor⟩:=coS_cor hco
     cases e1
     cases e2
     by_cases hnn:m+1 - 1=c%25
     ·rw[p_neq_f hnn]
      simp(disch:=omega)only[↓qXX]
      have hX:=hx.pre kpre
      obtain⟨G2,wx,c2,hwx⟩:=refC_c hsh hcor hF.pair hF.ne hF.un hF.pat.len hX
      refine aW c2 ?_
      simp(disch:=omega)only[↓qXX]
      have hT:=turn_want l w i j
      have hR0:=refR_ok hF.pat.rng w i j
      have hRl:=oW l w i j
      obtain⟨_,hclo⟩ : ∃u:Unit,∀h',Pre H1 h'->∃G,aq cc ae 12 [.i (.ofNat w),.i (.ofNat v),.v xv,.i (.ofNat i),.i (.ofNat j)] (absH aa h') [.b (Nat.beq (cg ((refR l w i j).map (·.1))) 0),.i 0] (absH aa (h'++G)):=⟨(),λh' hp'=>sz hsh hcor hF (hx.pre hp')⟩
      have hD:∀d∈(refR l w i j).map (·.1),∃k:Nat,d=Int.ofNat k/\k<8/\jP i (k%4)=true:=λd hd=>by
       obtain⟨r,hr,rfl⟩:=qaE.1 hd
       exact qL hr
      have kpre2:Pre H1 (t++G2):=kpre.app G2
      generalize refR l w i j=R at *
      have hDl:(R.map (·.1)).length=R.length:=qbD _
      have hDg:∀ {z:Nat} {r:Ray},R[z]? = some r->(R.map (·.1))[z]? = some r.1:=λh=>by rw[qav,h];rfl
      generalize R.map (·.1)=D at *
      generalize t++G2=T0 at *
      refine ew R.length (λz (s:Value×Int×HL)=>[.v s.1,.i s.2.1,.i (Int.ofNat z)]) (λ_ s=>s.2.2) (λz s=>Pre T0 s.2.2/\MkL T0.length s.2.2 s.1 1 encI (D.take z)/\aX s.1=true/\s.2.1=sumD D z/\0<=s.2.1/\s.2.1<=8*z) (j0:=0) (s0:=(.slice none 0 0,0,T0)) rfl rfl (qbu _) ⟨Pre.refl _,MkL.nil _ _ _ _,rfl,rfl,Int.le_refl 0,Int.le_refl 0⟩ ?_
      rintro z ⟨dv,sm,th⟩ hz ⟨tpre,tmk,tgv,tsum,ts0,ts1⟩ self3 hself3
      simp only at tpre tmk tgv tsum ts0 ts1 ⊢
      have hW:=hwx.pre tpre
      simp(disch:=omega)only[↓qXX]
      refine gm hW ?_
      by_cases hlz:z<R.length
      ·rw[cd hlz]
       simp(disch:=omega)only[↓qXX]
       obtain⟨r,hr⟩:=dN hlz
       obtain⟨r2,hr2⟩:=dN (l:=R) (i:=(z+1)%R.length) (qbY _ (by omega))
       have q1:=hR0 r (qai hr)
       have q2:=hR0 r2 (qai hr2)
       refine uM (o:=0) (k:=1) (cs:=[.int .i64 r.1]) hW rfl hr rfl (by omega) ?_
       simp(disch:=omega)only[↓qXX]
       have htk:D.take (z+1)=D.take z++[r.1]:=by rw[qb0,hDg hr];rfl
       refine tw (h0:=T0) (a:=r.1) tpre tmk rfl rfl rfl rfl (by
        unfold cf
        rw[qaa,qaX,qaX,qaZ]
        omega) λv' h' hp' hm' hg' _ _=>?_
       rw[←htk]at hm'
       have hW':=hwx.pre hp'
       simp(disch:=omega)only[↓qXX]
       refine bi hg' ?_
       simp(disch:=omega)only[↓qXX]
       rw[n_rem 2 (show(2:Int)=Int.ofNat 2 from rfl) (by omega)]
       by_cases hp2:z%2=0
       ·rw[hp2,p_eql_t (show Int.ofNat 0=0 from rfl)]
        simp(disch:=omega)only[↓qXX]
        rw[dt (by omega)]
        refine gm hW' ?_
        have em:(Int.ofNat z+1)%Int.ofNat R.length=Int.ofNat ((z+1)%R.length):=by simp
        rw[p_rem_nn (by show(0:Int)<=(z:Int)+1;omega) (by show(0:Int)<(R.length:Int);omega),em]
        refine uM (o:=0) (k:=1) (cs:=[.int .i64 r2.1]) hW' rfl hr2 rfl (by omega) ?_
        simp(disch:=omega)only[↓qXX]
        refine uM (o:=0) (k:=1) (cs:=[.int .i64 r.1]) hW' rfl hr rfl (by omega) ?_
        simp(disch:=omega)only[↓qXX]
        rw[dt (by omega)]
        refine hself3 (v',sm+(r2.1 - r.1+8)%8,h') hlz ⟨hp',hm',hg',?_,by simp only;omega,by simp only[qbZ,qcn];omega⟩
        show _=sumD D z+_
        rw[if_pos hp2,getD_i (hDg hr),hDl,getD_i (hDg hr2),tsum]
       ·rw[p_eql_f (show Int.ofNat (z%2)≠0 from λq=>hp2 (qbA q))]
        simp(disch:=omega)only[↓qXX]
        rw[dt (by omega)]
        refine hself3 (v',sm,h') hlz ⟨hp',hm',hg',?_,ts0,by simp only[qbZ,qcn];omega⟩
        show _=sumD D z+_
        rw[if_neg hp2,tsum,Int.add_zero]
      ·obtain rfl:z=R.length:=by omega
       rw[cu (qaz _),p_cond_f]
       have hls:=tmk.ls
       rw[←hDl,qcf]at hls
       rw[←hDl]at tsum
       refine oP (λl' h'=>l'=[.b (Nat.beq (cg D) 0)]/\h'=th) ?_ ?_
       ·rintro _ h' ⟨rfl,he⟩
        rw[he]
        simp(disch:=omega)only[↓qXX]
        obtain⟨G3,c3⟩:=hclo th (kpre2.trans tpre)
        refine aW c3 ?_
        simp(disch:=omega)only[↓qXX]
        rw[p_eqsb_t rfl]
        simp(disch:=omega)only[↓qXX,qaJ]
        have hco2:=hco
        unfold coS at hco2
        simp only[qaf]at hco2
        obtain⟨G4,c4⟩:=prod_c (x:=i) (y:=j) (by omega) hD (by omega) (hls.pre (h':=th++G3) ⟨_,rfl⟩)
        refine aW c4 ?_
        simp(disch:=omega)only[↓qXX]
        have pend:Pre H1 (th++G3++G4):=((kpre2.trans tpre).app G3).app G4
        by_cases h0:cg D=0
        ·rw[h0]
         rw[p_eqs_t (show Int.ofNat 0=0 from rfl),p_eqs_t (show mvX 0 i j=0 from rfl),p_eqs_t (show mvY 0 i j=0 from rfl),p_eqs0]
         rw[show Nat.beq 0 0=true from rfl,p_eqsb_t rfl]
         simp(disch:=omega)only[↓qXX,qaJ]
         rw[dt (by omega)]
         exact hgo _ _ pend (by omega) (by omega)
        ·rw[p_eqs_f (show ¬Int.ofNat (cg D)=0 from λq=>h0 (qbA q))]
         rw[show Nat.beq (cg D) 0=false by rw[←qaB,qbg];exact h0,p_eqsb_t rfl]
         simp(disch:=omega)only[↓qXX,qaJ]
         rw[dt (by omega)]
         exact hgo _ _ pend (by omega) (by omega)
       ·intro jj hjj
        rw[hT]at hjj
        refine gm hW ?_
        by_cases hz0:R.length=0
        ·rw[p_eql_t (show Int.ofNat R.length=0 by rw[hz0];rfl)]
         simp(disch:=omega)only[↓qXX]
         exact hjj _ _ ⟨by rw[want_len (by omega)],rfl⟩
        ·rw[p_eql_f (show Int.ofNat R.length≠0 from λq=>hz0 (qbA q))]
         simp(disch:=omega)only[↓qXX]
         refine gm hW ?_
         rw[n_rem 2 (show(2:Int)=Int.ofNat 2 from rfl) (by omega)]
         by_cases hp2:R.length%2=0
         ·rw[hp2,p_eql_t (show Int.ofNat 0=0 from rfl)]
          simp(disch:=omega)only[↓qXX]
          by_cases h4:sm=4
          ·rw[p_eql_t h4]
           exact hjj _ _ ⟨by rw[rh (by omega) (by omega),←tsum];simp[h4],rfl⟩
          ·rw[p_eql_f h4]
           exact hjj _ _ ⟨by rw[rh (by omega) (by omega),←tsum];simp[h4],rfl⟩
         ·rw[p_eql_f (show Int.ofNat (R.length%2)≠0 from λq=>hp2 (qbA q))]
          simp(disch:=omega)only[↓qXX]
          exact hjj _ _ ⟨by rw[want_odd (by omega) (by omega)],rfl⟩
     ·rw[p_neq_t hnn]
      simp(disch:=omega)only[↓qXX]
      rw[dt (by omega)]
      exact hgo _ _ kpre (by omega) (by omega)
    ·rw[if_neg hco]at his
     refine aE his ?_
     simp(disch:=omega)only[↓qXX]
     rw[dt (by omega)]
     exact hgo _ _ kpre (by omega) (by omega)
   ·obtain rfl:i=2*w:=by omega
    rw[cu (qaz _)]
    simp(disch:=omega)only[↓qXX]
    rw[dt (by omega)]
    refine hself (m,t) hlt ⟨kpre,by simp only;omega,by simp only[qbZ,qcq,qcn]at *;omega⟩
  ·obtain rfl:j=2*v:=by omega
   rw[cu (qaz _)]
   simp(disch:=omega)only[↓qXX]
   have hX:=hx.pre hpre
   have his:=is_c hsm p q
   by_cases hco:coS (.ofNat w) (.ofNat v) p q
   ·rw[if_pos hco]at his
    obtain⟨i,j,rfl,rfl,hcor⟩:=coS_cor hco
    obtain⟨G2,c2⟩:=sz hsh hcor hF hX
    refine aW c2 ?_
    rw[p_unB,p_unI,p_un0]
    have hend:Pre H (s++G2):=(hpH.trans hpre).app G2
    refine oP (λl' h'=>l'=[.b false]/\h'=s++G2) ?_ ?_
    ·rintro _ _ ⟨rfl,rfl⟩
     simp(disch:=omega)only[↓qXX]
     rw[p_eqsb_t rfl]
     simp(disch:=omega)only[↓qXX,qbU]
     refine aE lives10 ?_
     simp(disch:=omega)only[↓qXX]
     exact⟨by trivial,hend⟩
    ·intro jj hjj
     unfold coS at hco
     simp(disch:=omega)only[↓qXX]
     rw[p_mul (by simp only[qaf];omega) (by simp only[qaf];omega),p_geq_f hco.2.2.1]
     simp(disch:=omega)only[↓qXX]
     rw[p_mul (by simp only[qaf];omega) (by simp only[qaf];omega),p_geq_f hco.2.2.2.1]
     simp(disch:=omega)only[↓qXX]
     refine aE his ?_
     simp(disch:=omega)only[↓qXX]
     exact hjj _ _ ⟨rfl,rfl⟩
   ·rw[if_neg hco]at his
    obtain⟨G2,c2⟩:=closes_no hF.pat hco hX
    refine aW c2 ?_
    rw[p_unB,p_unI,p_un0]
    have hend:Pre H (s++G2):=(hpH.trans hpre).app G2
    refine oP (λl' h'=>l'=[.b true]/\h'=s++G2) ?_ ?_
    ·rintro _ _ ⟨rfl,rfl⟩
     simp(disch:=omega)only[↓qXX]
     rw[p_eqsb_t rfl]
     simp(disch:=omega)only[↓qXX,qaJ,qbU]
     refine aE lives10 ?_
     simp(disch:=omega)only[↓qXX]
     exact⟨by trivial,hend⟩
    ·intro jj hjj
     by_cases g1:p<=0
     ·rw[p_leq_t g1]
      simp(disch:=omega)only[↓qXX]
      exact hjj _ _ ⟨rfl,rfl⟩
     ·rw[p_leq_f (by omega)]
      simp(disch:=omega)only[↓qXX]
      by_cases g2:q<=0
      ·rw[p_leq_t g2]
       simp(disch:=omega)only[↓qXX]
       exact hjj _ _ ⟨rfl,rfl⟩
      ·rw[p_leq_f (by omega)]
       simp(disch:=omega)only[↓qXX]
       rw[p_mul (by simp only[qaf];omega) (by simp only[qaf];omega)]
       by_cases g3:2*Int.ofNat w<=p
       ·rw[p_geq_t g3]
        simp(disch:=omega)only[↓qXX]
        exact hjj _ _ ⟨rfl,rfl⟩
       ·rw[p_geq_f (by omega)]
        simp(disch:=omega)only[↓qXX]
        rw[p_mul (by simp only[qaf];omega) (by simp only[qaf];omega)]
        by_cases g4:2*Int.ofNat v<=q
        ·rw[p_geq_t g4]
         simp(disch:=omega)only[↓qXX]
         exact hjj _ _ ⟨rfl,rfl⟩
        ·rw[p_geq_f (by omega)]
         simp(disch:=omega)only[↓qXX]
         refine aE his ?_
         simp(disch:=omega)only[↓qXX]
         exact hjj _ _ ⟨rfl,rfl⟩)
 rw[e1]at hcl'
 exact⟨G,hcl'⟩
end Go.Am

/-
 ARGUMENTS WITHOUT ADDRESSES,as the row reads them.
-/
namespace Go.Am
namespace Sx
open Go.ChangeShapes Go.WideShapes Go.ChangeAt Go.WideMaps Go.WideElems Go.RowKit
def FitC:List LK->List Value->Prop
 | [],[]=>True
 | .i k :: ks,v :: vs=>(∃n,v = .int k n/\(Lit.int k n).wf=true)/\FitC ks vs
 | .b :: ks,v :: vs=>(∃t,v = .bool t)/\FitC ks vs
 |_,_=>False
def FitL:List LK->List Lf->Prop
 | [],[]=>True
 | .i k :: ks,.i n :: ls=>(Lit.int k n).wf=true/\FitL ks ls
 | .b :: ks,.b _ :: ls=>FitL ks ls
 |_,_=>False
theorem FitC.len:∀ {ks:List LK} {vs:List Value},FitC ks vs->vs.length=ks.length
 | [],[],_=>rfl
 | .i k :: ks,v :: vs,h=>by simp[FitC.len h.2]
 | .b :: ks,v :: vs,h=>by simp[FitC.len h.2]
 | .v :: _,_,h=>by cases h
 | [],_ :: _,h=>by cases h
 | .i _ :: _,[],h=>by cases h
 | .b :: _,[],h=>by cases h
theorem FitC.app:∀ {ks ks':List LK} {vs vs':List Value},FitC ks vs->FitC ks' vs'->FitC (ks++ks') (vs++vs')
 | [],_,[],_,_,h=>h
 | .i k :: ks,_,v :: vs,_,h,h'=>⟨h.1,FitC.app h.2 h'⟩
 | .b :: ks,_,v :: vs,_,h,h'=>⟨h.1,FitC.app h.2 h'⟩
 | .v :: _,_,_,_,h,_=>by cases h
 | [],_,_ :: _,_,h,_=>by cases h
 | .i _ :: _,_,[],_,h,_=>by cases h
 | .b :: _,_,[],_,h,_=>by cases h
theorem FitL.app:∀ {ks ks':List LK} {vs vs':List Lf},FitL ks vs->FitL ks' vs'->FitL (ks++ks') (vs++vs')
 | [],_,[],_,_,h=>h
 | .i k :: ks,_,.i v :: vs,_,h,h'=>⟨h.1,FitL.app h.2 h'⟩
 | .b :: ks,_,.b v :: vs,_,h,h'=>FitL.app (ks:=ks) h h'
 | .v :: _,_,_,_,h,_=>by cases h
 | [],_,_ :: _,_,h,_=>by cases h
 | .i _ :: _,_,[],_,h,_=>by cases h
 | .b :: _,_,[],_,h,_=>by cases h
 | .i _ :: _,_,.b _ :: _,_,h,_=>by cases h
 | .i _ :: _,_,.v _ :: _,_,h,_=>by cases h
 | .b :: _,_,.i _ :: _,_,h,_=>by cases h
 | .b :: _,_,.v _ :: _,_,h,_=>by cases h
theorem FitC.sl:∀ {ks:List LK} {vs:List Value},FitC ks vs->∃xs:List SL,xs.map SL.val=vs/\aG xs ks=true/\(∀x∈xs,x.good)/\FitL ks (xs.map SL.lf)
 | [],[],_=>⟨[],rfl,rfl,λ_ h=>(by cases h),trivial⟩
 | .i k :: ks,v :: vs,h=>by
  obtain⟨⟨n,rfl,hw⟩,h2⟩:=h
  obtain⟨xs,a,b,c,d⟩:=FitC.sl h2
  exact⟨.i k n :: xs,by simp[a,SL.val],by simp[aG,b,SL.is,cZ],λx hx=>by
   rcases qak.1 hx with rfl|hx
   ·trivial
   ·exact c x hx,hw,d⟩
 | .b :: ks,v :: vs,h=>by
  obtain⟨⟨n,rfl⟩,h2⟩:=h
  obtain⟨xs,a,b,c,d⟩:=FitC.sl h2
  exact⟨.b n :: xs,by simp[a,SL.val],by simp[aG,b,SL.is],λx hx=>by
   rcases qak.1 hx with rfl|hx
   ·trivial
   ·exact c x hx,d⟩
 | .v :: _,_,h=>by cases h
 | [],_ :: _,h=>by cases h
 | .i _ :: _,[],h=>by cases h
 | .b :: _,[],h=>by cases h
def flatF(F:TypeId->Option (List LK)):List Field->Nat->Option (List LK)
 | [],_=>some []
 |f :: fs,off=>match Nat.beq f.offset off,F f.type with
  |true,some ks=>(flatF F fs (off+ks.length)).map (ks ++ ·)
  |_,_=>none
def flatT(P:Program):Nat->TypeId->Option (List LK)
 |0,_=>none
 |d+1,t=>match P.underlying t with
  |some (.int k)=>some [.i k]
  |some .bool=>some [.b]
  |some (.struct fs)=>match flatF (flatT P d) fs.toList 0 with
   |some ks=>match Nat.beq ks.length (P.cellsOf t)with
    |true=>some ks
    |false=>none
   |none=>none
  |_=>none
section
variable {H:Type} {enc:TypeId×Value->H} {P:Program}
theorem iE{α:Type}(l:List α)(c:Nat):l.take (l.take c).length=l.take c:=by
 rw[qaZ]
 rcases Nat.le_total c l.length with h|h
 ·rw[qco h]
 ·rw[Nat.min_eq_right h,qaU h,qaU (qaz _)]
theorem sL{F:TypeId->Option (List LK)}{w:World}{base:Nat}{sp:Nat->Bool}{held:Bool}{fuel:Nat}
  (hF:∀t ks,F t=some ks->∀cs (x:DataW H×List MemPlace),DataW.trod enc P w base sp held fuel t cs=some x->x.2=[]/\FitC ks cs/\∀w' b' s' h',DataW.trod enc P w' b' s' h' fuel t cs=some x) (cs:List Value) :
  ∀(fs:List Field) (off:Nat) (ks:List LK) (xs:List (DataW H×List MemPlace)),flatF F fs off=some ks->fs.mapM (λf=>DataW.trod enc P w base sp held fuel f.type ((cs.drop f.offset).take (P.cellsOf f.type)))=some xs->
   xs.flatMap (·.2)=[]/\FitC ks ((cs.drop off).take ks.length)/\∀w' b' s' h',fs.mapM (λf=>DataW.trod enc P w' b' s' h' fuel f.type ((cs.drop f.offset).take (P.cellsOf f.type)))=some xs
 | [],off,ks,xs,h1,h2=>by
  simp only[flatF,qat]at h1
  subst h1
  simp only[qc2,qcS,qat]at h2
  subst h2
  refine⟨rfl,by simp[FitC],λ_ _ _ _=>by simp⟩
 |f :: fs,off,ks,xs,h1,h2=>by
  simp only[flatF]at h1
  split at h1
  ·rename_i k1 e1 e2
   obtain⟨k2,e3,rfl⟩:=qac.1 h1
   have e1:=qad e1
   rw[qbL]at h2
   obtain⟨x,h3,h2⟩:=qal.1 h2
   obtain⟨ys,h4,h2⟩:=qal.1 h2
   cases h2
   obtain⟨a1,a2,a3⟩:=hF _ _ e2 _ _ h3
   obtain⟨b1,b2,b3⟩:=sL hF cs fs _ k2 ys e3 h4
   refine⟨by simp[a1,b1],?_,λw' b' s' h'=>?_⟩
   ·rw[qaD,qc5]
    refine FitC.app ?_ (by rw[qbB];exact b2)
    have hl:=FitC.len a2
    rw[e1]at a2 hl
    rw[←hl,iE]
    exact a2
   ·rw[qbL,a3 w' b' s' h',b3 w' b' s' h']
    rfl
  ·cases h1
theorem oz:∀(d:Nat) (t:TypeId) (ks:List LK),flatT P d t=some ks->∀(w:World) (base:Nat) (sp:Nat->Bool) (held:Bool) (fuel:Nat) (cs:List Value) (x:DataW H×List MemPlace),DataW.trod enc P w base sp held fuel t cs=some x->
  x.2=[]/\FitC ks cs/\∀w' b' s' h',DataW.trod enc P w' b' s' h' fuel t cs=some x
 |0,_,_,h=>by cases h
 |d+1,t,ks,h=>by
  intro w base sp held fuel cs x hx
  simp only[flatT]at h
  split at h
  ·rename_i k e
   cases h
   obtain⟨n,rfl,rfl,hw⟩:=DataW.trod_int e hx
   refine⟨rfl,⟨⟨n,rfl,hw⟩,trivial⟩,λw' b' s' h'=>?_⟩
   cases fuel with
   |zero=>simp[DataW.trod]at hx
   |succ m=>simp[DataW.trod,e,hw]
  ·rename_i e
   cases h
   obtain⟨n,rfl,rfl⟩:=DataW.trod_bool e hx
   refine⟨rfl,⟨⟨n,rfl⟩,trivial⟩,λw' b' s' h'=>?_⟩
   cases fuel with
   |zero=>simp[DataW.trod]at hx
   |succ m=>simp[DataW.trod,e]
  ·rename_i fs e
   split at h
   ·rename_i k2 e2
    split at h
    ·rename_i e3
     cases h
     have e3:=qad e3
     cases fuel with
     |zero=>simp[DataW.trod]at hx
     |succ m=>
      simp only[DataW.trod,e]at hx
      split at hx
      ·rename_i hl
       obtain⟨xs,h5,rfl⟩:=qac.1 hx
       obtain⟨a1,a2,a3⟩:=sL (λt ks h cs x hx=>oz d t ks h w base sp held m cs x hx) cs fs.toList 0 ks xs e2 h5
       rw[qbs,qaU (by omega)]at a2
       refine⟨a1,a2,λw' b' s' h'=>?_⟩
       simp only[DataW.trod,e,hl,if_true]
       rw[a3 w' b' s' h']
       rfl
      ·cases hx
    ·cases h
   ·cases h
  ·cases h
end
section
variable [Val]
end
end Sx
end Go.Am
namespace Go.Am
namespace Sx
theorem FitL.i{k:IntKind}{ks:List LK}{ls:List Lf}(h:FitL (.i k :: ks) ls):∃n r,ls = .i n :: r/\(Lit.int k n).wf=true/\FitL ks r:=by
 match ls,h with
 | .i n :: r,h=>exact⟨n,r,rfl,h.1,h.2⟩
theorem FitL.b{ks:List LK}{ls:List Lf}(h:FitL (.b :: ks) ls):∃n r,ls = .b n :: r/\FitL ks r:=by
 match ls,h with
 | .b n :: r,h=>exact⟨n,r,rfl,h⟩
theorem FitL.nil{ls:List Lf}(h:FitL [] ls):ls=[]:=by
 match ls,h with
 | [],_=>rfl
theorem wf_u8{n:Int}(h:(Lit.int .u8 n).wf=true):0<=n/\n<=255:=by
 simp only[Lit.wf,qaa,decide_eq_true_eq]at h
 exact h
theorem mp{H:Type}{enc:TypeId×Value->H}{P:Program}{w:World}{base:Nat}{sp:Nat->Bool}{held:Bool}:∀ {ts:List TypeId} {vs:List Value} {ds:List (DataW H)} {ps:List MemPlace},DataW.TrodAll enc P w base sp held ts vs ds ps->ds.length=ts.length
 | [],[],[],_,_=>rfl
 |_ :: _,_ :: _,_ :: _,_,h=>by
  obtain⟨p,q,_,h2,_⟩:=h
  simp[mp h2]
 | [],_ :: _,_,_,h=>by cases h
 | [],[],_ :: _,_,h=>by cases h
 |_ :: _,[],_,_,h=>by cases h
 |_ :: _,_ :: _,[],_,h=>by cases h
end Sx
end Go.Am

/-
 ARGUMENTS WITH SLICES,as the row reads them: what is known of them at first.
-/
set_option maxRecDepth 100000
namespace Go.Am
namespace Sx
open Go.ChangeShapes Go.WideShapes Go.ChangeAt Go.WideMaps Go.WideElems Go.RowKit
inductive CK2 where
 |i (k:IntKind)
 |b
 |s (ks:List LK)
def CK2.lk:CK2->LK
 | .i k=>.i k
 | .b=>.b
 | .s _=>.v
def SlFit(w:World)(ks:List LK)(v:Value):Prop:=
 v = .slice none 0 0∨∃(a:Addr) (len cap:Nat) (c:Array Value) (t:TypeId) (fr:Nat×Nat) (cells:List Value),v = .slice (some a) len cap/\a.spot=none/\len<=cap/\cap<=maxLen/\
  w.heap[a.block]? = some (.cells c t fr)/\(cap=0∨a.off+cap*ks.length<=c.size)/\cells.length=len*ks.length/\(∀(i:Nat) v,cells[i]? = some v->c[a.off+i]? = some v)/\
  ∀i,i<len->FitC ks ((cells.drop (i*ks.length)).take ks.length)
def CellFit(w:World):CK2->Value->Prop
 | .i k,v=>∃n,v = .int k n/\(Lit.int k n).wf=true
 | .b,v=>∃t,v = .bool t
 | .s ks,v=>SlFit w ks v
def df(w:World):List CK2->List Value->Prop
 | [],[]=>True
 |k :: ks,v :: vs=>CellFit w k v/\df w ks vs
 |_,_=>False
def aV(h:HL):List CK2->List Lf->Prop
 | [],[]=>True
 | .i k :: ks,.i n :: ls=>(Lit.int k n).wf=true/\aV h ks ls
 | .b :: ks,.b _ :: ls=>aV h ks ls
 | .s es :: ks,.v x :: ls=>(∃n cells,SlC h x es.length n cells/\n<=maxLen/\∀i,i<n->FitC es ((cells.drop (i*es.length)).take es.length))/\aV h ks ls
 |_,_=>False
theorem df.len{w:World}:∀ {ks:List CK2} {vs:List Value},df w ks vs->vs.length=ks.length
 | [],[],_=>rfl
 |_ :: _,_ :: _,h=>by simp[df.len h.2]
 | [],_ :: _,h=>by cases h
 |_ :: _,[],h=>by cases h
theorem df.app{w:World}:∀ {ks ks':List CK2} {vs vs':List Value},df w ks vs->df w ks' vs'->df w (ks++ks') (vs++vs')
 | [],_,[],_,_,h=>h
 |_ :: _,_,_ :: _,_,h,h'=>⟨h.1,df.app h.2 h'⟩
 | [],_,_ :: _,_,h,_=>by cases h
 |_ :: _,_,[],_,h,_=>by cases h
theorem aV.app{h:HL}:∀ {ks ks':List CK2} {vs vs':List Lf},aV h ks vs->aV h ks' vs'->aV h (ks++ks') (vs++vs')
 | [],_,[],_,_,h=>h
 | .i _ :: ks,_,.i _ :: _,_,h,h'=>⟨h.1,aV.app (ks:=ks) h.2 h'⟩
 | .b :: ks,_,.b _ :: _,_,h,h'=>aV.app (ks:=ks) h h'
 | .s _ :: ks,_,.v _ :: _,_,h,h'=>⟨h.1,aV.app (ks:=ks) h.2 h'⟩
 | [],_,_ :: _,_,h,_=>by cases h
 | .i _ :: _,_,[],_,h,_=>by cases h
 | .b :: _,_,[],_,h,_=>by cases h
 | .s _ :: _,_,[],_,h,_=>by cases h
 | .i _ :: _,_,.b _ :: _,_,h,_=>by cases h
 | .i _ :: _,_,.v _ :: _,_,h,_=>by cases h
 | .b :: _,_,.i _ :: _,_,h,_=>by cases h
 | .b :: _,_,.v _ :: _,_,h,_=>by cases h
 | .s _ :: _,_,.i _ :: _,_,h,_=>by cases h
 | .s _ :: _,_,.b _ :: _,_,h,_=>by cases h
def ckF(F:TypeId->Option (List CK2)):List Field->Nat->Option (List CK2)
 | [],_=>some []
 |f :: fs,off=>match Nat.beq f.offset off,F f.type with
  |true,some ks=>(ckF F fs (off+ks.length)).map (ks ++ ·)
  |_,_=>none
def ckT(P:Program):Nat->TypeId->Option (List CK2)
 |0,_=>none
 |d+1,t=>match P.underlying t with
  |some (.int k)=>some [.i k]
  |some .bool=>some [.b]
  |some (.slice e)=>match flatT P 20 e with
   |some ks=>match Nat.beq (P.cellsOf e) ks.length&&Nat.blt 0 ks.length with
    |true=>some [.s ks]
    |false=>none
   |none=>none
  |some (.struct fs)=>match ckF (ckT P d) fs.toList 0 with
   |some ks=>match Nat.beq ks.length (P.cellsOf t)with
    |true=>some ks
    |false=>none
   |none=>none
  |_=>none
section
variable {H:Type} {enc:TypeId×Value->H} {P:Program}
def Lies(w:World)(v:Value):Prop:=∀a len cap,v = .slice (some a) len cap->a.spot=none/\∃c t fr,w.heap[a.block]? = some (.cells c t fr)
theorem gJ{α β:Type}{f g:α->Option β}:∀ {l:List α},(∀x∈l,f x=g x)->l.mapM f=l.mapM g
 | [],_=>rfl
 |a :: l,h=>by
  rw[qbL,qbL,h a qay,gJ λx hx=>h x (qao _ hx)]
theorem bf{a:Addr}(h:a.spot=none)(i:Nat):a.add i=⟨a.block,a.off+i,none⟩:=by
 obtain⟨b,o,s⟩:=a
 cases h
 unfold Addr.add
 simp
theorem slice_ok{w:World}{t e:TypeId}{ks:List LK}(ht:P.underlying t=some (.slice e))(he:flatT P 20 e=some ks)(hc:P.cellsOf e=ks.length)(h0:0<ks.length){base:Nat}(hbase:base=0){held:Bool}{fuel:Nat}{cs:List Value}{x:DataW H×List MemPlace}
  (hx:DataW.trod enc P w base (λ_=>true) held fuel t cs=some x) (hl:∀v∈cs,Lies w v) :
  ∃v,cs=[v]/\SlFit w ks v/\∀(w':World) (s':Nat->Bool),(∀b,b<w.heap.size->w'.heap[b]? = w.heap[b]?)->(∀b,b<w.heap.size->s' b=true)->DataW.trod enc P w' base s' held fuel t cs=some x:=by
 subst hbase
 have hx0:=hx
 rcases DataW.trod_slice ht hx with⟨rfl,rfl⟩|⟨a,len,cap,elems,rest,n,rfl,rfl,rfl,hb,hlc,hm,hlen,hel,hsp,_⟩
 ·refine⟨_,rfl,.inl rfl,λw' s' _ _=>?_⟩
  cases fuel with
  |zero=>simp[DataW.trod]at hx
  |succ m=>simp[DataW.trod,ht]
 ·obtain⟨hs,c,t',fr,hblk⟩:=hl _ qay a len cap rfl
  obtain⟨hrl,hr⟩:=hsp rfl
  rw[hc]at hel hr
  have hlt:a.block<w.heap.size:=by
   rcases qaw a.block w.heap.size with h|h
   ·exact h
   ·rw[qaT h]at hblk;cases hblk
  have each:∀i,i<cap->∃ci y,w.cells? 0 (a.add (i*ks.length)) ks.length=some ci/\DataW.trod enc P w 0 (λ_=>true) held n e ci=some y/\(elems++rest)[i]? = some y:=by
   intro i hi
   by_cases h1:i<len
   ·have h2:=hel i h1
    have h3:elems[i]? = some elems[i]:=qaA (by omega)
    rw[h3]at h2
    obtain⟨ci,h4,h5⟩:=qal.1 h2
    exact⟨ci,_,h4,h5,by rw[qag (by omega)];exact h3⟩
   ·have h2:=hr (i - len) (by omega)
    rw[show len+(i - len)=i by omega]at h2
    have h3:rest[i - len]? = some (rest[i - len]'(by omega)):=qaA (by omega)
    rw[h3]at h2
    obtain⟨ci,h4,h5⟩:=qal.1 h2
    exact⟨ci,_,h4,h5,by rw[qam (by omega),hlen];exact h3⟩
  have rd:∀i,i<cap->∀j,j<ks.length->∀ci,w.cells? 0 (a.add (i*ks.length)) ks.length=some ci->c[a.off+i*ks.length+j]? = ci[j]?:=by
   intro i hi j hj ci hci
   have h1:=(World.cells?_some hci).2.2 j hj
   rw[bf hs,bf rfl]at h1
   rw[←h1]
   unfold World.cell?
   simp[hblk]
  have hsz:cap=0∨a.off+cap*ks.length<=c.size:=by
   by_cases hcap:cap=0
   ·exact .inl hcap
   ·right
    obtain⟨ci,y,h1,_,_⟩:=each (cap - 1) (by omega)
    have h2:=rd (cap - 1) (by omega) (ks.length - 1) (by omega) ci h1
    have hcl:=(World.cells?_some h1).2.1
    rw[qaA (by omega)]at h2
    have h3:=(qaF.1 h2).1
    have h4:cap*ks.length=(cap - 1)*ks.length+ks.length:=by
     rw[←Nat.succ_mul];congr 1;omega
    omega
  have hsz2:a.off+len*ks.length<=c.size∨len=0:=by
   rcases hsz with h|h
   ·right;omega
   ·left
    have:=qa6 ks.length hlc
    omega
  refine⟨_,rfl,.inr ⟨a,len,cap,c,t',fr,(c.toList.drop a.off).take (len*ks.length),rfl,hs,hlc,hm,hblk,hsz,?_,?_,?_⟩,?_⟩
  ·rw[qaZ,qbQ]
   have hcz:c.toList.length=c.size:=qcj
   rcases hsz2 with h|h
   ·omega
   ·subst h;omega
  ·intro i v hv
   rw[qba]at hv
   split at hv
   ·rw[qa0]at hv
    simpa using hv
   ·cases hv
  ·intro i hi
   obtain⟨ci,y,h1,h2,_⟩:=each i (by omega)
   obtain⟨_,h3,_⟩:=oz 20 e ks he w 0 _ held n ci y h2
   have hcl:=(World.cells?_some h1).2.1
   have:(((c.toList.drop a.off).take (len*ks.length)).drop (i*ks.length)).take ks.length=ci:=by
    apply qaS
    intro j
    by_cases hj:j<ks.length
    ·have hle:i*ks.length+ks.length<=len*ks.length:=by
      have:=qa6 ks.length (show i+1<=len by omega)
      rw[qbj,qb7]at this;exact this
     rw[qba,if_pos hj,qa0,qba,if_pos (by omega),qa0,←rd i (by omega) j hj ci h1]
     rw[qcv,qbn]
    ·rw[qae (by rw[qaZ];omega),qae (by omega)]
   rw[this];exact h3
  ·intro w' s' hw hs'
   have hcell:∀i,i<cap->w'.cells? 0 (a.add (i*ks.length)) ks.length=w.cells? 0 (a.add (i*ks.length)) ks.length:=by
    intro i hi
    unfold World.cells?
    have:∀j,w'.cell? ((a.add (i*ks.length)).add j)=w.cell? ((a.add (i*ks.length)).add j):=by
     intro j
     rw[bf hs,bf rfl]
     unfold World.cell?
     rw[hw _ hlt]
    simp only[this]
   have el:∀i,i<cap->(w'.cells? 0 (a.add (i*P.cellsOf e)) (P.cellsOf e)).bind (DataW.trod enc P w' 0 s' held n e)=(elems++rest)[i]?:=by
    intro i hi
    rw[hc,hcell i hi]
    obtain⟨ci,y,h1,h2,h3⟩:=each i hi
    rw[h1,h3,qah]
    exact(oz 20 e ks he w 0 _ held n ci y h2).2.2 w' 0 s' held
   have el0:∀i,i<cap->(w.cells? 0 (a.add (i*P.cellsOf e)) (P.cellsOf e)).bind (DataW.trod enc P w 0 (λ_=>true) held n e)=(elems++rest)[i]?:=by
    intro i hi
    rw[hc]
    obtain⟨ci,y,h1,h2,h3⟩:=each i hi
    rw[h1,h3,qah]
    exact h2
   unfold DataW.trod at hx0 ⊢
   simp only[ht]at hx0 ⊢
   rw[if_pos ⟨qbu _,hlc,hm⟩]at hx0 ⊢
   rw[gJ (λi hi=>(el i (by have:=qaj.1 hi;omega)).trans (el0 i (by have:=qaj.1 hi;omega)).symm)]
   rw[gJ (l:=List.range (cap - len)) (λj hj=>(el (len+j) (by have:=qaj.1 hj;omega)).trans (el0 (len+j) (by have:=qaj.1 hj;omega)).symm)]
   rw[hs' _ hlt]
   exact hx0
theorem ckF_ok{F:TypeId->Option (List CK2)}{w:World}{held:Bool}{fuel:Nat}(cs:List Value)(hl:∀v∈cs,Lies w v)
  (hF:∀t ks,F t=some ks->∀cs (x:DataW H×List MemPlace),(∀v∈cs,Lies w v)->DataW.trod enc P w 0 (λ_=>true) held fuel t cs=some x->df w ks cs/\∀(w':World) (s':Nat->Bool),(∀b,b<w.heap.size->w'.heap[b]? = w.heap[b]?)->(∀b,b<w.heap.size->s' b=true)->DataW.trod enc P w' 0 s' held fuel t cs=some x) :
  ∀(fs:List Field) (off:Nat) (ks:List CK2) (xs:List (DataW H×List MemPlace)),ckF F fs off=some ks->fs.mapM (λf=>DataW.trod enc P w 0 (λ_=>true) held fuel f.type ((cs.drop f.offset).take (P.cellsOf f.type)))=some xs->
   df w ks ((cs.drop off).take ks.length)/\∀(w':World) (s':Nat->Bool),(∀b,b<w.heap.size->w'.heap[b]? = w.heap[b]?)->(∀b,b<w.heap.size->s' b=true)->fs.mapM (λf=>DataW.trod enc P w' 0 s' held fuel f.type ((cs.drop f.offset).take (P.cellsOf f.type)))=some xs
 | [],off,ks,xs,h1,h2=>by
  simp only[ckF,qat]at h1
  subst h1
  simp only[qc2,qcS,qat]at h2
  subst h2
  refine⟨by simp[df],λ_ _ _ _=>by simp⟩
 |f :: fs,off,ks,xs,h1,h2=>by
  simp only[ckF]at h1
  split at h1
  ·rename_i k1 e1 e2
   obtain⟨k2,e3,rfl⟩:=qac.1 h1
   have e1:=qad e1
   rw[qbL]at h2
   obtain⟨x,h3,h2⟩:=qal.1 h2
   obtain⟨ys,h4,h2⟩:=qal.1 h2
   cases h2
   obtain⟨a2,a3⟩:=hF _ _ e2 _ _ (λv hv=>hl v (qbv (qa7 hv))) h3
   obtain⟨b2,b3⟩:=ckF_ok cs hl hF fs _ k2 ys e3 h4
   refine⟨?_,λw' s' hw hs'=>?_⟩
   ·rw[qaD,qc5]
    refine df.app ?_ (by rw[qbB];exact b2)
    have hl:=df.len a2
    rw[e1]at a2 hl
    rw[←hl,iE]
    exact a2
   ·rw[qbL,a3 w' s' hw hs',b3 w' s' hw hs']
    rfl
  ·cases h1
theorem ckT_ok:∀(d:Nat) (t:TypeId) (ks:List CK2),ckT P d t=some ks->∀(w:World) (held:Bool) (fuel:Nat) (cs:List Value) (x:DataW H×List MemPlace),(∀v∈cs,Lies w v)->DataW.trod enc P w 0 (λ_=>true) held fuel t cs=some x->
  df w ks cs/\∀(w':World) (s':Nat->Bool),(∀b,b<w.heap.size->w'.heap[b]? = w.heap[b]?)->(∀b,b<w.heap.size->s' b=true)->DataW.trod enc P w' 0 s' held fuel t cs=some x
 |0,_,_,h=>by cases h
 |d+1,t,ks,h=>by
  intro w held fuel cs x hl hx
  simp only[ckT]at h
  split at h
  ·rename_i k e
   cases h
   obtain⟨n,rfl,rfl,hw⟩:=DataW.trod_int e hx
   refine⟨⟨⟨n,rfl,hw⟩,trivial⟩,λw' s' _ _=>?_⟩
   cases fuel with
   |zero=>simp[DataW.trod]at hx
   |succ m=>simp[DataW.trod,e,hw]
  ·rename_i e
   cases h
   obtain⟨n,rfl,rfl⟩:=DataW.trod_bool e hx
   refine⟨⟨⟨n,rfl⟩,trivial⟩,λw' s' _ _=>?_⟩
   cases fuel with
   |zero=>simp[DataW.trod]at hx
   |succ m=>simp[DataW.trod,e]
  ·rename_i e e0
   split at h
   ·rename_i k2 e2
    split at h
    ·rename_i e3
     cases h
     simp only[qaa,qaH]at e3
     obtain⟨v,rfl,a2,a3⟩:=slice_ok e0 e2 (qad e3.1) e3.2 rfl hx hl
     exact⟨⟨a2,trivial⟩,a3⟩
    ·cases h
   ·cases h
  ·rename_i fs e
   split at h
   ·rename_i k2 e2
    split at h
    ·rename_i e3
     cases h
     have e3:=qad e3
     cases fuel with
     |zero=>simp[DataW.trod]at hx
     |succ m=>
      simp only[DataW.trod,e]at hx
      split at hx
      ·rename_i hlen
       obtain⟨xs,h5,rfl⟩:=qac.1 hx
       obtain⟨a2,a3⟩:=ckF_ok cs hl (λt ks h cs x hl hx=>ckT_ok d t ks h w held m cs x hl hx) fs.toList 0 ks xs e2 h5
       rw[qbs,qaU (by omega)]at a2
       refine⟨a2,λw' s' hw hs'=>?_⟩
       simp only[DataW.trod,e,hlen,if_true]
       rw[a3 w' s' hw hs']
       rfl
      ·cases hx
    ·cases h
   ·cases h
  ·cases h
abbrev Blk2:=HObj×Option Pl
def pD(w:World)(b:Blk2):Prop:=b.1 = .dead∨∃vs e p c t fr,b.1 = .cells vs e false/\b.2=some p/\p.esz=e/\vs.all flat=true/\vs.all aJ=true/\vs.length<=p.room/\w.heap[p.b]? = some (.cells c t fr)/\c.size=p.o+p.room/\∀(i:Nat) v,vs[i]? = some v->c[p.o+i]? = some v
theorem lj:∀ {ks:List LK} {vs:List Value},FitC ks vs->vs.all flat=true/\vs.all aJ=true
 | [],[],_=>⟨rfl,rfl⟩
 | .i k :: ks,v :: vs,h=>by
  obtain⟨⟨n,rfl,_⟩,h2⟩:=h
  obtain⟨a,b⟩:=lj h2
  exact⟨by simp[a,flat,ea,scalar],by simp[b];rfl⟩
 | .b :: ks,v :: vs,h=>by
  obtain⟨⟨n,rfl⟩,h2⟩:=h
  obtain⟨a,b⟩:=lj h2
  exact⟨by simp[a,flat,ea,scalar],by simp[b];rfl⟩
 | .v :: _,_,h=>by cases h
 | [],_ :: _,h=>by cases h
 | .i _ :: _,[],h=>by cases h
 | .b :: _,[],h=>by cases h
theorem rq{ks:List LK}(hk:0<ks.length){cells:List Value}{n:Nat}(hl:cells.length=n*ks.length)(h:∀i,i<n->FitC ks ((cells.drop (i*ks.length)).take ks.length)):cells.all flat=true/\cells.all aJ=true:=by
 have main:∀j,j<cells.length->∃v,cells[j]? = some v/\flat v=true/\aJ v=true:=by
  intro j hj
  have h1:j / ks.length<n:=by
   rw[Nat.div_lt_iff_lt_mul hk];omega
  obtain⟨a,b⟩:=lj (h _ h1)
  have hm:=qbY j hk
  have hd:=Nat.div_add_mod j ks.length
  have hmem:((cells.drop (j / ks.length*ks.length)).take ks.length)[j%ks.length]? = some cells[j]:=by
   rw[qba,if_pos hm,qa0]
   rw[show j / ks.length*ks.length+j%ks.length=j by rw[Nat.mul_comm];exact hd]
   exact qaA hj
  exact⟨_,qaA hj,qab.1 a _ (qai hmem),qab.1 b _ (qai hmem)⟩
 constructor<;>
 ·rw[qab]
  intro v hv
  obtain⟨j,hj⟩:=qbi hv
  have hlt:j<cells.length:=by
   rcases qaw j cells.length with h|h
   ·exact h
   ·rw[qae h]at hj;cases hj
  obtain⟨v',h1,h2,h3⟩:=main j hlt
  rw[hj]at h1
  cases h1
  first|exact h2|exact h3
section
variable [Val] [Glo]
theorem cell_abs{w:World}{ck:CK2}{v:Value}(hp:∀ks,ck = .s ks->0<ks.length)(h:CellFit w ck v)(n0:Nat):∃(x:SL) (bl:List Blk2),(∀b∈bl,pD w b)/\x.is ck.lk=true/\x.good/\
  (∀mu:HMap,(∀(i:Nat) b,bl[i]? = some b->mu (n0+i)=b.2)->VR noL mu x.val v)/\∀hp:HL,(∀(i:Nat) b,bl[i]? = some b->hp[n0+i]? = some (.o b.1))->aV hp [ck] [x.lf]:=by
 cases ck with
 |i k=>
  obtain⟨n,rfl,hw⟩:=h
  exact⟨.i k n,[],by simp,by simp[SL.is,CK2.lk,cZ],trivial,λmu _=>.scalar rfl,λhp _=>⟨hw,trivial⟩⟩
 |b=>
  obtain⟨t,rfl⟩:=h
  exact⟨.b t,[],by simp,rfl,trivial,λmu _=>.scalar rfl,λhp _=>trivial⟩
 |s ks=>
  have hk:=hp ks rfl
  rcases h with rfl|⟨a,len,cap,c,t,fr,cells,rfl,hs,hlc,hm,hblk,hsz,hcl,hget,hfit⟩
  ·refine⟨.v (.slice none 0 0),[],by simp,rfl,rfl,λmu _=>.scalar rfl,λhp _=>⟨⟨0,[],⟨by simp,.inl ⟨rfl,rfl⟩⟩,qbu _,λi hi=>by omega⟩,trivial⟩⟩
  ·obtain⟨hf1,hf2⟩:=rq hk hcl hfit
   have gd:aX (.slice (some ⟨n0,0,tag ks.length⟩) len 0)=true:=by simp[aX,noLoc,bh,cz,bO,aZ,aF,tag]
   have ha:a=⟨a.block,a.off,none⟩:=by cases a;cases hs;rfl
   have fit:∀hp:HL,hp[n0]? = some (.o (.cells cells ks.length false))->aV hp [.s ks] [.v (.slice (some ⟨n0,0,tag ks.length⟩) len 0)]:=λhp h1=>
    ⟨⟨len,cells,⟨hcl,.inr ⟨n0,0,0,cells,false,rfl,h1,cut_all hcl⟩⟩,by omega,hfit⟩,trivial⟩
   by_cases hcap:cap=0
   ·subst hcap
    obtain rfl:len=0:=by omega
    have hce:cells=[]:=List.eq_nil_of_length_eq_zero (by omega)
    subst hce
    refine⟨.v (.slice (some ⟨n0,0,tag ks.length⟩) 0 0),[(.cells [] ks.length false,some ⟨a.block,c.size,0,ks.length⟩)],λb hb=>?_,rfl,gd,λmu _=>.hslice0 (qbu _),λhp h1=>fit hp (h1 0 _ rfl)⟩
    simp only[qax]at hb
    subst hb
    exact .inr ⟨[],ks.length,_,c,t,fr,rfl,rfl,rfl,rfl,rfl,qbu _,hblk,by simp,λi v hv=>by simp at hv⟩
   ·have hsz:a.off+cap*ks.length<=c.size:=hsz.resolve_left hcap
    have hle:=qa6 ks.length hlc
    refine⟨.v (.slice (some ⟨n0,0,tag ks.length⟩) len 0),[(.cells cells ks.length false,some ⟨a.block,a.off,c.size - a.off,ks.length⟩)],λb hb=>?_,rfl,gd,λmu h1=>?_,λhp h1=>fit hp (h1 0 _ rfl)⟩
    ·simp only[qax]at hb
     subst hb
     exact .inr ⟨cells,ks.length,_,c,t,fr,rfl,rfl,rfl,hf1,hf2,by show cells.length<=c.size - a.off;omega,hblk,by show c.size=a.off+(c.size - a.off);omega,hget⟩
    ·have h2:=h1 0 _ rfl
     rw[ha]
     have:=VR.hslice (la:=noL) (mu:=mu) (id:=n0) (off:=0) (len:=len) (cap:=cap) (cx:=0) h2 (by show 0+cap*ks.length<=c.size - a.off;omega) hlc (.inl rfl)
     exact this
theorem pP{w:World}:∀ {cks:List CK2} {vs:List Value},(∀ks,CK2.s ks∈cks->0<ks.length)->df w cks vs->∀n0,∃(xs:List SL) (bl:List Blk2),(∀b∈bl,pD w b)/\aG xs (cks.map CK2.lk)=true/\(∀x∈xs,x.good)/\xs.length=vs.length/\
  (∀mu:HMap,(∀(i:Nat) b,bl[i]? = some b->mu (n0+i)=b.2)->VRs noL mu (xs.map SL.val) vs)/\∀hp:HL,(∀(i:Nat) b,bl[i]? = some b->hp[n0+i]? = some (.o b.1))->aV hp cks (xs.map SL.lf)
 | [],[],_,_,n0=>⟨[],[],by simp,rfl,by simp,rfl,λmu _=>⟨rfl,λi x y h=>by simp at h⟩,λhp _=>trivial⟩
 |ck :: cks,v :: vs,hp,h,n0=>by
  obtain⟨x,bl,a1,a2,a3,a4,a5⟩:=cell_abs (λks e=>hp ks (by rw[e];exact qay)) h.1 n0
  obtain⟨xs,bl',b1,b2,b3,b4,b5,b6⟩:=pP (λks e=>hp ks (qao _ e)) h.2 (n0+bl.length)
  have g1:∀ {α:Type} {f:Nat->α} {g:Blk2->α},(∀(i:Nat) b,(bl++bl')[i]? = some b->f (n0+i)=g b)->(∀(i:Nat) b,bl[i]? = some b->f (n0+i)=g b)/\∀(i:Nat) b,bl'[i]? = some b->f (n0+bl.length+i)=g b:=by
   intro α f g h
   refine⟨λi b hb=>h i b ?_,λi b hb=>?_⟩
   ·rw[qag (by
     rcases qaw i bl.length with h|h
     ·exact h
     ·rw[qae h]at hb;cases hb)];exact hb
   ·rw[qbn]
    refine h _ b ?_
    rw[qam (by omega),qbK];exact hb
  refine⟨x :: xs,bl++bl',λb hb=>?_,by simp[aG,a2,b2],λy hy=>?_,by simp[b4],λmu hmu=>?_,λhp hh=>?_⟩
  ·rcases qaK.1 hb with h|h
   ·exact a1 b h
   ·exact b1 b h
  ·rcases qak.1 hy with rfl|hy
   ·exact a3
   ·exact b3 y hy
  ·obtain⟨h1,h2⟩:=g1 (f:=mu) (g:=λb=>b.2) hmu
   have c1:=a4 mu h1
   obtain⟨c2,c3⟩:=b5 mu h2
   refine⟨by simpa using c2,λi p q hi hj=>?_⟩
   cases i with
   |zero=>
    simp only[qaq,qbc,qat]at hi hj
    subst hi hj;exact c1
   |succ i=>exact c3 i p q (by simpa using hi) (by simpa using hj)
  ·obtain⟨h1,h2⟩:=g1 (f:=λi=>hp[i]?) (g:=λb=>some (HO.o b.1)) hh
   exact aV.app (a5 hp h1) (b6 hp h2)
 | [],_ :: _,_,h,_=>by cases h
 |_ :: _,[],_,h,_=>by cases h
end
end
end Sx
end Go.Am

/-
 ARGUMENTS WITH SLICES: from the row's arguments to the machine,and back.
-/
set_option maxRecDepth 100000
namespace Go.Am
namespace Sx
open Go.ChangeShapes Go.WideShapes Go.ChangeAt Go.WideMaps Go.WideElems Go.RowKit
section
variable {H:Type} {enc:TypeId×Value->H} {P:Program}
theorem lE{w:World}{r:Reach}{b0:Nat}{u:TypeId}{v:Value}(h:Cell.okWide P w r b0 u v):Lies w v:=by
 rintro a len cap rfl
 have h1:∃e,w.has P r b0 a e cap:=by
  unfold Cell.okWide at h
  split at h<;>first|(rename_i e1 e2;cases e2;done)|(rename_i e1;cases e1;done)|skip
  all_goals
   unfold Cell.ok at h
   split at h<;>first|(cases h;done)|(rename_i e1 e2;cases e2;done)|skip
   all_goals first|(rename_i heq;injection heq with q1 q2 q3;subst q2 q3;cases q1;exact⟨_,h.2.2⟩)|skip
 obtain⟨e,_,h2,row,cells,h3,_⟩:=h1
 refine⟨h2,?_⟩
 unfold World.shape? at h3
 split at h3
 ·rename_i c el fr e1
  exact⟨c,el,fr,e1⟩
 ·cases h3
theorem lies_val{w:World}{r:Reach}{b0:Nat}{t:TypeId}{v:Value}(h:Value.okWide P w r b0 t v):∀x∈v.cells.toList,Lies w x:=by
 intro x hx
 unfold Value.okWide at h
 split at h
 ·obtain⟨cs,rfl,_,ts,_,_,h2⟩:=h
  obtain⟨i,hi⟩:=qbi hx
  obtain⟨u,_,h3⟩:=h2 i x (by simpa[Value.cells]using hi)
  exact lE h3
 ·obtain⟨cs,rfl,_,ts,_,_,h2⟩:=h
  obtain⟨i,hi⟩:=qbi hx
  obtain⟨u,_,h3⟩:=h2 i x (by simpa[Value.cells]using hi)
  exact lE h3
 ·have:x=v∨∃cs,v = .agg cs:=by
   cases v<;>first|(right;exact⟨_,rfl⟩)|(left;simpa[Value.cells]using hx)
  rcases this with rfl|⟨cs,rfl⟩
  ·exact lE h
  ·exfalso
   unfold Cell.okWide at h
   split at h<;>first|(rename_i e1 e2;cases e2;done)|(rename_i e1;cases e1;done)|skip
   all_goals
    unfold Cell.ok at h
    split at h<;>first|(cases h;done)|(rename_i e1 e2;cases e2;done)|skip
def skC(P:Program)(t:TypeId)(cks:List CK2):Option SK:=
 match P.underlying t,cks with
 |some (.struct _),cks=>some (.agg (cks.map CK2.lk))
 |some (.int _),[k]=>some (.leaf k.lk)
 |some .bool,[k]=>some (.leaf k.lk)
 |some (.slice _),[k]=>some (.leaf k.lk)
 |_,_=>none
def posK(cks:List CK2):Bool:=cks.all λk=>match k with
 | .s ks=>Nat.blt 0 ks.length
 |_=>true
theorem posK_ok{cks:List CK2}(h:posK cks=true):∀ks,CK2.s ks∈cks->0<ks.length:=by
 intro ks hk
 have:=qab.1 h _ hk
 simpa[qaH]using this
section
variable [Val] [Glo]
structure Abs(W:World)(n0:Nat)(bl:List Blk2):Prop where
 ok:∀b∈bl,pD W b
abbrev MuAt(mu:HMap)(n0:Nat)(bl:List Blk2):Prop:=∀(i:Nat) b,bl[i]? = some b->mu (n0+i)=b.2
abbrev HpAt(hp:HL)(n0:Nat)(bl:List Blk2):Prop:=∀(i:Nat) b,bl[i]? = some b->hp[n0+i]? = some (.o b.1)
abbrev Stays(W W':World):Prop:=∀b,b<W.heap.size->W'.heap[b]? = W.heap[b]?
theorem open_arg2{W:World}{r:Reach}{b0:Nat}{held:Bool}{t:TypeId}{cks:List CK2}{sk:SK}{v:Value}{d:DataW H}{ps:List MemPlace}(h:ckT P 20 t=some cks)(hsk:skC P t cks=some sk)(hpos:posK cks=true)(hval:Value.okWide P W r b0 t v)(hd:DataW.Trod enc P W 0 (λ_=>true) held t v d ps)(n0:Nat) :
  ∃(x:S0) (bl:List Blk2),(∀b∈bl,pD W b)/\x.is sk=true/\x.good/\(∀mu:HMap,MuAt mu n0 bl->VR noL mu x.val v)/\(∀hp:HL,HpAt hp n0 bl->aV hp cks (x.cells.map SL.lf))/\
   ∀(W':World) (s':Nat->Bool),Stays W W'->(∀b,b<W.heap.size->s' b=true)->DataW.Trod enc P W' 0 s' held t v d ps:=by
 obtain⟨fuel,hf⟩:=hd
 obtain⟨a1,a2⟩:=ckT_ok 20 t cks h W held fuel _ _ (lies_val hval) hf
 obtain⟨xs,bl,b1,b2,b3,b4,b5,b6⟩:=pP (posK_ok hpos) a1 n0
 have close:∀(W':World) (s':Nat->Bool),Stays W W'->(∀b,b<W.heap.size->s' b=true)->DataW.Trod enc P W' 0 s' held t v d ps:=λW' s' h1 h2=>⟨fuel,a2 W' s' h1 h2⟩
 have leaf:(∀fs,P.underlying t≠some (.struct fs))->(∀n e,P.underlying t≠some (.array n e))->∀k,cks=[k]->sk = .leaf k.lk->∃(x:S0) (bl:List Blk2),(∀b∈bl,pD W b)/\x.is sk=true/\x.good/\(∀mu:HMap,MuAt mu n0 bl->VR noL mu x.val v)/\(∀hp:HL,HpAt hp n0 bl->aV hp cks (x.cells.map SL.lf))/\
   ∀(W':World) (s':Nat->Bool),Stays W W'->(∀b,b<W.heap.size->s' b=true)->DataW.Trod enc P W' 0 s' held t v d ps:=by
  rintro hs1 hs2 k rfl rfl
  have hv:v.cells.toList=[v]:=by
   have h1:=df.len a1
   cases v with
   |agg cs=>
    exfalso
    unfold Value.okWide at hval
    split at hval
    ·rename_i e;exact hs1 _ e
    ·rename_i e;exact hs2 _ _ e
    ·unfold Cell.okWide at hval
     split at hval<;>first|(rename_i e1 e2;cases e2;done)|(rename_i e1;cases e1;done)|skip
     all_goals
      unfold Cell.ok at hval
      split at hval<;>first|(cases hval;done)|(rename_i e1 e2;cases e2;done)|skip
   |_=>simp[Value.cells]
  rw[hv]at a1 b4 b5
  obtain⟨x,rfl⟩ : ∃x,xs=[x]:=List.length_eq_one_iff.1 b4
  refine⟨.leaf x,bl,b1,?_,λl hl=>?_,λmu hmu=>?_,λhp hh=>b6 hp hh,close⟩
  ·show x.is k.lk=true
   simpa[aG]using b2
  ·simp only[S0.cells,qax]at hl
   subst hl;exact b3 _ qay
  ·exact(b5 mu hmu).2 0 _ _ rfl rfl
 unfold skC at hsk
 split at hsk
 ·rename_i fs e
  cases hsk
  obtain⟨cs,rfl,_⟩:=okWide_struct e hval
  refine⟨.agg xs,bl,b1,b2,b3,λmu hmu=>?_,λhp hh=>b6 hp hh,close⟩
  obtain⟨c1,c2⟩:=b5 mu hmu
  refine .agg (by simpa[Value.cells]using c1) λi x y hx hy=>c2 i x y (by simpa using hx) (by simpa[Value.cells]using hy)
 ·rename_i k e;cases hsk;exact leaf (λ_ h=>by rw[e]at h;cases h) (λ_ _ h=>by rw[e]at h;cases h) _ rfl rfl
 ·rename_i e;cases hsk;exact leaf (λ_ h=>by rw[e]at h;cases h) (λ_ _ h=>by rw[e]at h;cases h) _ rfl rfl
 ·rename_i e' e;cases hsk;exact leaf (λ_ h=>by rw[e]at h;cases h) (λ_ _ h=>by rw[e]at h;cases h) _ rfl rfl
 ·cases hsk
def argK(P:Program):List TypeId->Option (List (List CK2)×List SK)
 | []=>some ([],[])
 |t :: ts=>match ckT P 20 t,argK P ts with
  |some cks,some (l,sks)=>match skC P t cks,posK cks with
   |some sk,true=>some (cks :: l,sk :: sks)
   |_,_=>none
  |_,_=>none
theorem at_app{α:Type}{bl bl':List Blk2}{f:Nat->α}{g:Blk2->α}{n0:Nat}(h:∀(i:Nat) b,(bl++bl')[i]? = some b->f (n0+i)=g b):(∀(i:Nat) b,bl[i]? = some b->f (n0+i)=g b)/\∀(i:Nat) b,bl'[i]? = some b->f (n0+bl.length+i)=g b:=by
 refine⟨λi b hb=>h i b ?_,λi b hb=>?_⟩
 ·rw[qag (by
   rcases qaw i bl.length with h|h
   ·exact h
   ·rw[qae h]at hb;cases hb)];exact hb
 ·rw[qbn]
  refine h _ b ?_
  rw[qam (by omega),qbK];exact hb
theorem np{W:World}{r:Reach}{b0:Nat}{held:Bool}:∀(ts:List TypeId) (l:List (List CK2)) (sks:List SK) (vs:List Value) (ds:List (DataW H)) (ps:List MemPlace) (n0:Nat),argK P ts=some (l,sks)->
  (∀(j:Nat) t v,ts[j]? = some t->vs[j]? = some v->Value.okWide P W r b0 t v)->DataW.TrodAll enc P W 0 (λ_=>true) held ts vs ds ps->
  ∃(xs:List S0) (bl:List Blk2),(∀b∈bl,pD W b)/\bm xs sks=true/\(∀x∈xs,x.good)/\(∀mu:HMap,MuAt mu n0 bl->VRs noL mu (ah xs) vs)/\(∀hp:HL,HpAt hp n0 bl->aV hp l.flatten (bn xs))/\
   ∀(W':World) (s':Nat->Bool),Stays W W'->(∀b,b<W.heap.size->s' b=true)->DataW.TrodAll enc P W' 0 s' held ts vs ds ps
 | [],l,sks,[],[],ps,n0,h,_,ht=>by
  cases h
  exact⟨[],[],by simp,rfl,by simp,λmu _=>⟨rfl,λi x y h=>by simp[ah]at h⟩,λhp _=>trivial,λ_ _ _ _=>ht⟩
 |t :: ts,l,sks,v :: vs,d :: ds,ps,n0,h,hv,ht=>by
  simp only[argK]at h
  split at h
  ·rename_i cks l' sks' e1 e2
   split at h
   ·rename_i sk e3 e4
    cases h
    obtain⟨p,q,h1,h2,rfl⟩:=ht
    obtain⟨x,bl,a1,a2,a3,a4,a5,a6⟩:=open_arg2 e1 e3 e4 (hv 0 t v rfl rfl) h1 n0
    obtain⟨xs,bl',b1,b2,b3,b4,b5,b6⟩:=np ts l' sks' vs ds q (n0+bl.length) e2 (λj t v h1 h2=>hv (j+1) t v h1 h2) h2
    refine⟨x :: xs,bl++bl',λb hb=>?_,by simp[bm,a2,b2],λy hy=>?_,λmu hmu=>?_,λhp hh=>?_,λW' s' h1 h2=>⟨p,q,a6 W' s' h1 h2,b6 W' s' h1 h2,rfl⟩⟩
    ·rcases qaK.1 hb with h|h
     ·exact a1 b h
     ·exact b1 b h
    ·rcases qak.1 hy with rfl|hy
     ·exact a3
     ·exact b3 y hy
    ·obtain⟨h1,h2⟩:=at_app (f:=mu) (g:=λb=>b.2) hmu
     have c1:=a4 mu h1
     obtain⟨c2,c3⟩:=b4 mu h2
     refine⟨by simpa[ah]using c2,λi p q hi hj=>?_⟩
     cases i with
     |zero=>
      simp only[ah,qaq,qbc,qat]at hi hj
      subst hi hj;exact c1
     |succ i=>exact c3 i p q (by simpa[ah]using hi) (by simpa using hj)
    ·obtain⟨h1,h2⟩:=at_app (f:=λi=>hp[i]?) (g:=λb=>some (HO.o b.1)) hh
     rw[qbX]
     exact aV.app (a5 hp h1) (b5 hp h2)
   ·cases h
  ·cases h
 | [],_,_,_ :: _,_,_,_,_,_,ht=>by cases ht
 | [],_,_,[],_ :: _,_,_,_,_,ht=>by cases ht
 |_ :: _,_,_,[],_,_,_,_,_,ht=>by cases ht
 |_ :: _,_,_,_ :: _,[],_,_,_,_,ht=>by cases ht
theorem rn{C:Cfg}{f:FuncId}{args:List Value}{r:Value}{H':List HObj}{bl:List Blk2}{W:World}(hbl:∀b∈bl,pD W b)(h:dg C f args (bl.map (·.1)) r H'){args':Array Value}(hargs:∀mu:HMap,MuAt mu 0 bl->VRs noL mu args args'.toList)(hr:flat r=true)
  (hG:∀g vs,C.G g=some vs->gBlk g<W.heap.size/\vs.all aJ=true/\∃c e fr,W.heap[gBlk g]? = some (.cells c e fr)/\bC (λ_=>none) vs c (gOff g)) (hf:∀g vs,C.G g=some vs->vs.all gfl=true) :
  Calls C.P f args' W λe W'=>e = .returned r/\W'.os=W.os/\W'.output=W.output/\W'.tape=W.tape/\∀b,b<W.heap.size->W'.heap[b]? = W.heap[b]?:=by
 let mu:HMap:=λid=>(bl[id]?).bind (·.2)
 have hmu:MuAt mu 0 bl:=λi b hb=>by simp only[mu,qaP,hb,qah]
 have hob:∀(id:Nat) o,(bl.map (·.1))[id]? = some o->∃b,bl[id]? = some b/\o=b.1/\pD W b:=by
  intro id o ho
  rw[qav]at ho
  obtain⟨b,h1,rfl⟩:=qac.1 ho
  exact⟨b,h1,rfl,hbl b (qai h1)⟩
 have hun:∀(id:Nat) o,(bl.map (·.1))[id]? = some o->o.owned=false:=by
  intro id o ho
  obtain⟨b,_,rfl,h3⟩:=hob id o ho
  rcases h3 with h3|⟨vs,e,p,c,t,fr,h3,_⟩<;>rw[h3]<;>rfl
 have hno:∀b,¬Own mu (bl.map (·.1)) b:=by
  rintro b ⟨id,o,p,h1,h2,_⟩
  rw[hun id o h1]at h2;cases h2
 have hW0:WR C W.heap.size mu (bl.map (·.1)) W:=by
  refine⟨λid o h1 h2=>?_,λi j oi oj pi pj h1 h2 h3=>?_,λi o p h1 h2=>?_,λi o p h1 h2 _ h4=>?_,λid h1=>?_,λg vs hg=>?_⟩
  ·obtain⟨b,q1,rfl,q3⟩:=hob id o h1
   rcases q3 with q3|⟨vs,e,p,c,t,fr,q3,q4,q5,q6,q7,q8,q9,q10,q11⟩
   ·rw[q3]at h2;cases h2
   ·refine⟨p,by simp only[mu,q1,qah,q4],?_⟩
    rw[q3]
    refine⟨q5,q8,q7,c,t,fr,q9,q10,λh=>by(cases h),λi v hv=>⟨v,q11 i v hv,.of_flat (qab.1 q6 v (qai hv))⟩⟩
  ·rw[hun i oi h1]at h3;cases h3
  ·rw[hun i o h1]at h2;cases h2
  ·obtain⟨b,q1,rfl,q3⟩:=hob i o h1
   rcases q3 with q3|⟨vs,e,p',c,t,fr,q3,q4,q5,q6,q7,q8,q9,q10,q11⟩
   ·rw[q3]at h2;cases h2
   ·simp only[mu,q1,qah,q4,qat]at h4
    subst h4
    rcases qaw p'.b W.heap.size with h|h
    ·exact h
    ·rw[qaT h]at q9;cases q9
  ·simp only[mu]
   rw[qae (by simpa using h1)];rfl
  ·obtain⟨h1,h2,c,e,fr,h4,h5⟩:=hG g vs hg
   exact⟨h1,h2,c,e,fr,h4,ie (hf g vs hg) h5⟩
 intro cs
 obtain⟨v,mu',w',a1,a2,a3,_,a5⟩:=h _ W.heap.size mu W args' (qaz _) (hargs mu hmu) hW0 cs
 rw[cb hr a1]at a5
 obtain⟨fr,b1,b2,b3⟩:=a5
 exact⟨.returned r,w',fr,⟨rfl,a3.os,a3.output,a3.tape,λb hb=>a3.keep b hb (hno b)⟩,b1,b2,b3⟩
theorem post_sl{P:Program}{f:Func}{s:ChangeSpec}{apart fresh handsOn:Bool}{W W':World}{args:Array Value}{v:Value}{ds gs:List (DataW H)}{before pa:List MemPlace}
  (hW:DataW.Whole enc P f.params.toList s.vars apart W args.toList ds gs before)
  (hres:∀(b:Nat) (sp:Nat->Bool) (hd:Bool),DataW.TrodAll enc P W' b sp hd f.resultTypes.toList (v.resultList f.resultTypes.size) (s.fn H (ds++gs)).results [])
  (hargs:DataW.TrodAll enc P W' 0 (λb=>decide (b<W.heap.size)) true f.params.toList args.toList (s.fn H (ds++gs)).args pa)
  (hvars:∀sp:Nat->Bool,DataW.TrodVars enc P W' sp s.vars (s.fn H (ds++gs)).vars [])
  (h1:W'.os=W.os) (h2:W'.output=W.output) (h3:∀b,b<W.heap.size->W'.heap[b]? = W.heap[b]?) :
  s.post enc P f apart fresh handsOn false W args v W':=
 ⟨ds,gs,before,[],pa,[],hW,hres _ _ _,hargs,hvars _,kept_of h1 h2 h3 _,λh=>by cases h⟩
end
end
section
variable [Val]
theorem pM{C:Cfg}{N:FuncId->Option Nat}{Sg:FuncId->Option Sig}(hm:C.P.follows .mixedOrders=true){g:FuncId}{sg:Sig}(hs:Sg g=some sg){ls rs:List Lf}{H H':List HObj}(hc:let _:Kno:=KnoC C N;aq C Sg g ls H rs H'){xs ys:List S0}(h1:bm xs sg.ps=true)(h2:bn xs=ls)(h3:bm ys sg.rs=true)(h4:bn ys=rs) :
  dg C g (ah xs) H (dU (ah ys)) H':=by
 let _:Kno:=KnoC C N
 obtain⟨sg',xs',ys',c1,c2,c3,c4⟩:=hc
 rw[hs]at c1
 cases c1
 obtain⟨w1,_⟩:=ca c2.1 h1 (c2.2.1.trans h2.symm)
 obtain⟨w2,_⟩:=ca c3.1 h3 (c3.2.1.trans h4.symm)
 rw[w1,w2]at c4
 exact iF hm c4
end
end Sx
end Go.Am

/-
 ARGUMENTS WITH SLICES: lists of what lies behind them.
-/
set_option maxRecDepth 100000
namespace Go.Am
namespace Sx
theorem pQ{α:Type}{ks:List LK}{enc:α->List Value}{ok:α->Prop}(dec:∀cs,FitC ks cs->∃a,enc a=cs/\ok a):∀(n:Nat) (cells:List Value),cells.length=n*ks.length->(∀i,i<n->FitC ks ((cells.drop (i*ks.length)).take ks.length))->∃l:List α,l.length=n/\l.flatMap enc=cells/\∀a∈l,ok a
 |0,cells,hl,_=>⟨[],rfl,by
   simp only[qbS,qa2]at hl
   rw[hl];rfl,λ_ h=>by cases h⟩
 |n+1,cells,hl,hf=>by
  obtain⟨a,h1,h2⟩:=dec _ (by have:=hf 0 (by omega);rw[qbS,qbs]at this;exact this)
  obtain⟨l,h3,h4,h5⟩:=pQ dec n (cells.drop ks.length) (by rw[qbQ,hl,qbj];omega) (λi hi=>by
   have:=hf (i+1) (by omega)
   rw[qbB]
   rw[qbj,qb7,Nat.add_comm]at this
   exact this)
  refine⟨a :: l,by simp[h3],?_,λb hb=>?_⟩
  ·rw[qbo,h1,h4,qbF]
  ·rcases qak.1 hb with rfl|hb
   ·exact h2
   ·exact h5 b hb
theorem ls_of{α:Type}{ks:List LK}{enc:α->List Value}{ok:α->Prop}(hlen:∀a,(enc a).length=ks.length)(dec:∀cs,FitC ks cs->∃a,enc a=cs/\ok a){h:HL}{x:Value}{n:Nat}{cells:List Value}(hs:SlC h x ks.length n cells)(hf:∀i,i<n->FitC ks ((cells.drop (i*ks.length)).take ks.length)) :
  ∃l:List α,LsH h x ks.length enc l/\l.length=n/\∀a∈l,ok a:=by
 obtain⟨l,h1,h2,h3⟩:=pQ dec n cells hs.1 hf
 refine⟨l,⟨λa _=>hlen a,?_⟩,h1,h3⟩
 rw[h1,h2];exact hs
theorem aV.i{h:HL}{k:IntKind}{ks:List CK2}{ls:List Lf}(hf:aV h (.i k :: ks) ls):∃n r,ls = .i n :: r/\(Lit.int k n).wf=true/\aV h ks r:=by
 match ls,hf with
 | .i n :: r,hf=>exact⟨n,r,rfl,hf.1,hf.2⟩
theorem aV.b{h:HL}{ks:List CK2}{ls:List Lf}(hf:aV h (.b :: ks) ls):∃n r,ls = .b n :: r/\aV h ks r:=by
 match ls,hf with
 | .b n :: r,hf=>exact⟨n,r,rfl,hf⟩
theorem aV.s{h:HL}{es:List LK}{ks:List CK2}{ls:List Lf}(hf:aV h (.s es :: ks) ls):∃x r n cells,ls = .v x :: r/\SlC h x es.length n cells/\n<=maxLen/\(∀i,i<n->FitC es ((cells.drop (i*es.length)).take es.length))/\aV h ks r:=by
 match ls,hf with
 | .v x :: r,⟨⟨n,cells,h1,h2,h3⟩,h4⟩=>exact⟨x,r,n,cells,rfl,h1,h2,h3,h4⟩
theorem aV.nil{h:HL}{ls:List Lf}(hf:aV h [] ls):ls=[]:=by
 match ls,hf with
 | [],_=>rfl
theorem hp_at(bl:List Blk2):HpAt (bl.map λb=>HO.o b.1) 0 bl:=λi b hb=>by
 rw[qaP,qav,hb];rfl
theorem absH_bl(T:Nat->Site)(bl:List Blk2):absH T (bl.map λb=>HO.o b.1)=bl.map (·.1):=by
 induction bl with
 |nil=>rfl
 |cons b l ih=>show absO T (.o b.1) :: absH T (l.map λb=>HO.o b.1)=_;rw[ih];rfl
end Sx
end Go.Am

/-
 PlacesCloses: the law,at the leaves.
-/
set_option maxRecDepth 100000
namespace Go.Am
open Sx Go.Proofs
theorem dec8(cs:List Value)(h:FitC [.i .u8] cs):∃a:Int,enc8 a=cs/\(0<=a/\a<=255):=by
 obtain⟨v1,rfl⟩ : ∃v1,cs=[v1]:=by
  have hl:=FitC.len h
  match cs,hl with
  | [v1],_=>exact⟨v1,rfl⟩
 obtain⟨⟨a,rfl,ha⟩,_⟩:=h
 exact⟨a,rfl,wf_u8 ha⟩
theorem gM(ls:List Lf)(h:HL)(hf:aV h [.i .u8,.i .u8,.s [.i .u8],.i .u8,.i .i64,.i .i64] ls):∃h',aq cc ae 3 ls (absH aa h) [.b true] (absH aa h'):=by
 obtain⟨w,ls,rfl,hw,hf⟩:=hf.i
 obtain⟨v,ls,rfl,hv,hf⟩:=hf.i
 obtain⟨s,ls,n,cells,rfl,h1,_,h3,hf⟩:=hf.s
 obtain⟨x,ls,rfl,hx,hf⟩:=hf.i
 obtain⟨p,ls,rfl,_,hf⟩:=hf.i
 obtain⟨q,ls,rfl,_,hf⟩:=hf.i
 obtain rfl:=hf.nil
 obtain⟨l,hl,_,hk⟩:=ls_of (enc:=enc8) (ok:=λa=>0<=a/\a<=255) (λ_=>rfl) dec8 h1 h3
 obtain⟨G,hc⟩:=jQ (wf_u8 hw) (wf_u8 hv) (wf_u8 hx) hl hk
 exact⟨_,hc⟩
end Go.Am

/-
 WHAT THE ROW SAYS OF THE LISTED VARIABLES.
-/
set_option maxRecDepth 100000
namespace Go.Proofs.YtplljlaeahkchaaGreatDoor
open Go Go.Am Go.Am.Sx
open Go.ChangeShapes Go.WideShapes Go.ChangeAt Go.WideMaps Go.WideElems Go.RowKit
abbrev laidC:List (String×DataW Unit):= [("crimp/moves.turns",Rows.laid_crimp_moves_turns), ("crimp/cells.quarters",Rows.laid_crimp_cells_quarters), ("crimp/corners.ways",Rows.laid_crimp_corners_ways)]
theorem name1 : Tryz.prog.globalNamed "crimp/moves.turns" = some 1:=by kernel_rfl
theorem name3 : Tryz.prog.globalNamed "crimp/cells.quarters" = some 3:=by kernel_rfl
theorem name2 : Tryz.prog.globalNamed "crimp/corners.ways" = some 2:=by kernel_rfl
theorem of_laid{W:World}(h:laidMetH Tryz.prog laidC W):∃_:Unit,∀(g:Nat) (vs:List Value),cc.G g=some vs->
  gBlk g<W.heap.size/\vs.all aJ=true/\∃c e fr,W.heap[gBlk g]? = some (.cells c e fr)/\bC (λ_=>none) vs c (gOff g):=by
 rw[MakeChecks.laidMetH_plain _ _ _ (by kernel_rfl)]at h
 obtain⟨ps,h,_,_⟩:=h
 refine⟨(),λg vs hg=>?_⟩
 have hcell:=gl_cell g vs hg
 unfold cc at hg
 simp only at hg
 split at hg
 ·cases hg
  exact lu (by kernel_rfl) hcell (by kernel_rfl) (iX h "crimp/moves.turns" Rows.laid_crimp_moves_turns qay 1 137 8 gl1 name1 (by kernel_rfl) (by kernel_rfl))
 ·cases hg
  exact lu (by kernel_rfl) hcell (by kernel_rfl) (iX h "crimp/cells.quarters" Rows.laid_crimp_cells_quarters (qao _ qay) 3 241 8 gl3 name3 (by kernel_rfl) (by kernel_rfl))
 ·cases hg
  exact lu (by kernel_rfl) hcell (by kernel_rfl) (iX h "crimp/corners.ways" Rows.laid_crimp_corners_ways (qao _ (qao _ qay)) 2 237 8 gl2 name2 (by kernel_rfl) (by kernel_rfl))
 ·cases hg
theorem own:ownKnob Tryz.prog.godebug=none:=by kernel_rfl
theorem door_met(os:Os)(args:Array Value):laidMetH Tryz.prog laidC ((World.doorLaid Tryz.prog 400 os).forCall (λ_ _=>0) ⟨#[],args,[]⟩).memory:=
 laidMetH_of_parts3 (fuel:=8) (laidMet_of_run' 8 (by kernel_rfl) (by kernel_rfl)) (by kernel_rfl) (by kernel_rfl)
end Go.Proofs.YtplljlaeahkchaaGreatDoor

end

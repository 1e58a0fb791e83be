/-
  PART 7 OF THE PROOF: E54 E55 E21 E22 E23 E24 E25 Mp1 E28 E29 E31 Hx6 E60 E61 E9 Cd1 Cs1 Cs2 Cs3 E62 Cd2 (no conditions).
-/
import Derived.Test.YtkmefaealkffkaaGreatDoorCT6
import Derived.SevenTiedAt
import Derived.Test.YtkmefaealkffkaaGreatDoorCards
import Derived.Test.YtkmefaealkffkaaGreatDoorTie
set_option linter.unusedSectionVars false
set_option linter.unusedSimpArgs false
set_option linter.unusedVariables false
set_option linter.constructorNameAsVariable false
set_option linter.defProp false
noncomputable section
/-
 SORTING TOLD (creases): a few insertions,where a list may be sorted already.
-/
set_option maxRecDepth 100000
set_option maxHeartbeats 8000000
namespace Go.Am
open Sx Go.Proofs
theorem geqd{p:Nat}{m:Int}(q:Nat)(hm:m=Int.ofNat q){K:Bool->Prop}:P1.cmp .geq (Int.ofNat p) m (@hid _ ⟨K⟩)=K (decide (q<=p)):=by
 subst hm
 show K (decide (Int.ofNat p ≥ Int.ofNat q))=_
 congr 1
 rw[decide_eq_decide]
 simp only[qab]
 omega
def Lft(key:Crs->Int)(a b:Nat)(l:List Crs):Prop:=a=0∨∃z,l[a - 1]? = some z/\∀k x,a<=k->k<b->l[k]? = some x->key z<=key x
theorem Lft.keep{key:Crs->Int}{a b:Nat}{l l':List Crs}(h:Lft key a b l)(hp:SP a b l l')(hab:a<=b)(hb:b<=l.length):Lft key a b l':=by
 rcases h with h|⟨z,h1,h2⟩
 ·exact .inl h
 ·by_cases ha:a=0
  ·exact .inl ha
  ·refine .inr ⟨z,by rw[hp.2 _ (by omega)];exact h1,λk x hk hkb hx=>?_⟩
   obtain⟨j,j1,j2,j3⟩:=hp.mem hab hb ⟨hk,hkb⟩ hx
   exact h2 j x j1 j2 j3
theorem SS.more{key:Crs->Int}{a i:Nat}{l:List Crs}{x y:Crs}(h:SS key a i l)(hi:a<i)(hx:l[i]? = some x)(hy:l[i - 1]? = some y)(hk:key y<=key x):SS key a (i+1) l:=by
 intro p q u v hp hpq hq hu hv
 by_cases e:q=i
 ·subst e
  rw[hx]at hv
  cases hv
  by_cases e2:p=q - 1
  ·subst e2
   rw[hy]at hu
   cases hu
   exact hk
  ·have:=h p (q - 1) u y hp (by omega) (by omega) hu hy
   omega
 ·exact h p q u v hp hpq (by omega) hu hv
section
variable {cv:Value} {ok:Crs->Prop} {key:Crs->Int} (hc:CmpK cv ok key) {id cx len:Nat} (hL:len<=100000)
include hc hL
theorem pins_c{h:HL}(hlt:id<h.length){a b:Nat}{l:List Crs}(hab:a<b)(hb:b<=len)(hn:l.length=len)(hok:∀x∈l,ok x)(hlf:Lft key a b l) :
  ∃(l':List Crs) (t:Bool),SP a b l l'/\(t=true->SS key a b l')/\aI cc ac 64 [.v (slV id len cx),.i (.ofNat a),.i (.ofNat b),.v cv] (absH ae (putE h id 3 encC l)) [.b t] (absH ae (putE h id 3 encC l')):=by
 obtain⟨rs,h',h1,l',t,rfl,rfl,e1,e2⟩:=x64 (ls:=[.v (slV id len cx),.i (.ofNat a),.i (.ofNat b),.v cv]) (K:=λrs h'=>∃(l':List Crs) (t:Bool),rs=[.b t]/\h'=putE h id 3 encC l'/\SP a b l l'/\(t=true->SS key a b l')) (H:=putE h id 3 encC l) (glsV (cj _ _ _) (glsI (glsI (glsV hc.good gls0)))) (by
  unfold f64;simp only[qxh]
  simp(disch:=omega)only[↓qXX]
  rw[ch (by omega)]
  refine fM 5 (λc (s:Nat×List Crs)=>[.i (Int.ofNat s.1),.i (Int.ofNat c)]) (λ_ s=>putE h id 3 encC s.2) (λ_ s=>a+1<=s.1/\s.1<=b/\SP a b l s.2/\SS key a s.1 s.2) (j0:=0) (s0:=(a+1,l)) rfl rfl (by omega) ⟨qal _,by simp only;omega,SP.refl _ _ _,SS.one (qal _)⟩ ?_
  rintro c ⟨i0,l1⟩ hc5 ⟨hi1,hi2,hp,hs⟩ self hself
  simp only at hi1 hi2 hp hs ⊢
  have hn1:l1.length=len:=hp.len.trans hn
  simp(disch:=omega)only[↓qXX]
  rw[show(5:Int)=Int.ofNat 5 from rfl]
  by_cases hc6:c<5
  ·rw[bp hc6,p_cond_t]
   refine bZ (λl' h'=>∃i,l'=[.i (Int.ofNat i)]/\h'=putE h id 3 encC l1/\a+1<=i/\i<=b/\SS key a i l1/\(i<b->∃x y,l1[i]? = some x/\l1[i - 1]? = some y/\key x<key y)) ?_ ?_
   ·rintro _ _ ⟨i,rfl,rfl,hia,hib,hsi,hlast⟩
    simp(disch:=omega)only[↓qXX]
    by_cases hibe:i=b
    ·subst hibe
     rw[p_eql_t rfl]
     simp(disch:=omega)only[↓qXX]
     exact⟨l1,true,by trivial,rfl,hp,λ_=>hsi⟩
    ·rw[p_eql_f (show Int.ofNat i≠Int.ofNat b from λq=>hibe (qbO q))]
     simp(disch:=omega)only[↓qXX]
     rw[n_sb (by omega) (by omega),show(50:Int)=Int.ofNat 50 from rfl]
     by_cases h50:b - a<50
     ·rw[bp h50]
      simp(disch:=omega)only[↓qXX]
      exact⟨l1,false,by trivial,rfl,hp,λq=>by cases q⟩
     ·rw[bC (by omega)]
      simp(disch:=omega)only[↓qXX]
      obtain⟨x,y,hx,hy,hxy⟩:=hlast (by omega)
      rw[cD (by omega) (by omega),cD (by omega) (by omega)]
      refine aO (lsE hlt hn1) rfl hy ?_
      unfold encC
      simp(disch:=omega)only[↓qXX]
      refine aO (lsE hlt hn1) rfl hx ?_
      unfold encC
      simp(disch:=omega)only[↓qXX]
      refine cM aA (a:=y) hlt rfl (by omega) hn1 rfl ?_
      refine cM aA (a:=x) hlt rfl (by rw[qav];omega) (by rw[qav];exact hn1) rfl ?_
      have g:∀k,((l1.set i y).set (i - 1) x)[k]? = if k=i - 1 then some x else if k=i then some y else l1[k]?:=λk=>fc hx hy
      have hp2:SP a b l ((l1.set i y).set (i - 1) x):=hp.trans (SP.swap hx hy (by omega) (by omega))
      have hs2:SS key a (i - 1) ((l1.set i y).set (i - 1) x):=λp q u v h1 h2 h3 hu hv=>by
       rw[g,if_neg (by omega),if_neg (by omega)]at hu hv
       exact hsi p q u v h1 h2 (by omega) hu hv
      generalize (l1.set i y).set (i - 1) x=l2 at hp2 hs2 ⊢
      rw[n_sb (by omega) (by omega),geqd 2 (show(2:Int)=Int.ofNat 2 from rfl)]
      refine bZ (λl' h'=>l'=[]/\∃l3,h'=putE h id 3 encC l3/\SP a b l l3/\SS key a i l3) ?_ ?_
      ·rintro _ _ ⟨rfl,l3,rfl,hp3,hs3⟩
       have hn3:l3.length=len:=hp3.len.trans hn
       rw[p_un0,n_sb (by omega) (by omega),geqd 2 (show(2:Int)=Int.ofNat 2 from rfl)]
       refine bZ (λl' h'=>l'=[]/\∃l4,h'=putE h id 3 encC l4/\SP a b l l4/\SS key a i l4) ?_ ?_
       ·rintro _ _ ⟨rfl,l4,rfl,hp4,hs4⟩
        simp(disch:=omega)only[↓qXX]
        rw[ch (by omega)]
        exact hself (i,l4) hc6 ⟨hia,hib,hp4,hs4⟩
       ·intro jj hjj
        by_cases h2:2<=b - i
        ·rw[decide_eq_true h2,p_cond_t,ch (by omega)]
         refine bZ (λl' h'=>l'=[]/\∃l4,h'=putE h id 3 encC l4/\SP a b l l4/\SS key a i l4) ?_ ?_
         ·rintro _ _ ⟨rfl,l4,rfl,hp4,hs4⟩
          simp(disch:=omega)only[↓qXX]
          exact hjj _ _ ⟨rfl,l4,rfl,hp4,hs4⟩
         ·intro j2 hj2
          refine aF (m:=b - (i+1)) (λm ls h'=>∃q l4,ls=[.i (Int.ofNat q)]/\h'=putE h id 3 encC l4/\b - q=m/\i+1<=q/\SP i b l3 l4) ⟨i+1,l3,rfl,rfl,rfl,qal _,SP.refl _ _ _⟩ ?_
          rintro m ls h' ⟨q,l4,rfl,rfl,rfl,hq,hp4⟩ self2 hself2
          refine hidL ?_
          have hn4:l4.length=len:=hp4.len.trans hn3
          have hp5:SP a b l l4:=hp3.trans (hp4.mono (by omega) (qal _))
          have fin:=hj2 _ _ ⟨rfl,l4,rfl,hp5,hs3.keep hp4 (by omega)⟩
          simp(disch:=omega)only[↓qXX]
          by_cases hqb:q<b
          ·rw[bp hqb]
           simp(disch:=omega)only[↓qXX]
           obtain⟨u,hu⟩:=aQ (l:=l4) (i:=q) (by omega)
           obtain⟨v,hv⟩:=aQ (l:=l4) (i:=q - 1) (by omega)
           refine aO (lsE hlt hn4) rfl hu ?_
           unfold encC
           simp(disch:=omega)only[↓qXX]
           rw[cD (by omega) (by omega)]
           refine aO (lsE hlt hn4) rfl hv ?_
           unfold encC
           simp(disch:=omega)only[↓qXX]
           obtain⟨d,hd,hdk⟩:=hc.cmp u v (okP hok hp5 u (qad hu)) (okP hok hp5 v (qad hv))
           refine co (hd _) ?_
           simp(disch:=omega)only[↓qXX]
           by_cases hk:key u<key v
           ·rw[p_lss_t (hdk.2 hk)]
            simp(disch:=omega)only[↓qXX,qaL]
            rw[cD (by omega) (by omega),cD (by omega) (by omega)]
            refine aO (lsE hlt hn4) rfl hv ?_
            unfold encC
            simp(disch:=omega)only[↓qXX]
            refine aO (lsE hlt hn4) rfl hu ?_
            unfold encC
            simp(disch:=omega)only[↓qXX]
            refine cM aA (a:=v) hlt rfl (by omega) hn4 rfl ?_
            refine cM aA (a:=u) hlt rfl (by rw[qav];omega) (by rw[qav];exact hn4) rfl ?_
            rw[ch (by omega)]
            exact hself2 (b - (q+1)) _ _ (by omega) ⟨q+1,_,rfl,rfl,rfl,by omega,hp4.trans (SP.swap hu hv (by omega) (by omega))⟩
           ·rw[p_lss_f (show 0<=d by have:=mt hdk.1 hk;omega)]
            simp(disch:=omega)only[↓qXX,qbk]
            exact fin
          ·rw[bC (by omega)]
           simp(disch:=omega)only[↓qXX]
           exact fin
        ·rw[decide_eq_false h2,p_cond_f]
         exact hjj _ _ ⟨rfl,l3,rfl,hp3,hs3⟩
      ·intro jj hjj
       by_cases h2:2<=i - a
       ·rw[decide_eq_true h2,p_cond_t,cD (by omega) (by omega)]
        refine bZ (λl' h'=>l'=[]/\∃l3,h'=putE h id 3 encC l3/\SP a b l l3/\SS key a i l3) ?_ ?_
        ·rintro _ _ ⟨rfl,l3,rfl,hp3,hs3⟩
         simp(disch:=omega)only[↓qXX]
         exact hjj _ _ ⟨rfl,l3,rfl,hp3,hs3⟩
        ·intro j2 hj2
         refine aF (m:=i - 1) (λm ls h'=>∃j l3,ls=[.i (Int.ofNat j)]/\h'=putE h id 3 encC l3/\j=m/\a<=j/\j<=i - 1/\SP a b l l3/\InsI key a (i - 1) j l3) ⟨i - 1,l2,rfl,rfl,rfl,by omega,qal _,hp2,InsI.start hs2⟩ ?_
         rintro m ls h' ⟨j,l3,rfl,rfl,rfl,hja,hji,hp3,hI⟩ self2 hself2
         refine hidL ?_
         have hn3:l3.length=len:=hp3.len.trans hn
         have ei:i - 1+1=i:=by omega
         have fin:(j=a∨∃x y,l3[j]? = some x/\l3[j - 1]? = some y/\key y<=key x)->j2 [] (putE h id 3 encC l3):=λhd=>by
          have:=hI.done ⟨hja,hji⟩ hd
          rw[ei]at this
          exact hj2 _ _ ⟨rfl,l3,rfl,hp3,this⟩
         simp(disch:=omega)only[↓qXX]
         rw[geqd 1 (show(1:Int)=Int.ofNat 1 from rfl)]
         by_cases hj1:1<=j
         ·rw[decide_eq_true hj1]
          simp(disch:=omega)only[↓qXX]
          obtain⟨u,hu⟩:=aQ (l:=l3) (i:=j) (by omega)
          obtain⟨v,hv⟩:=aQ (l:=l3) (i:=j - 1) (by omega)
          refine aO (lsE hlt hn3) rfl hu ?_
          unfold encC
          simp(disch:=omega)only[↓qXX]
          rw[cD (by omega) (by omega)]
          refine aO (lsE hlt hn3) rfl hv ?_
          unfold encC
          simp(disch:=omega)only[↓qXX]
          obtain⟨d,hd,hdk⟩:=hc.cmp u v (okP hok hp3 u (qad hu)) (okP hok hp3 v (qad hv))
          refine co (hd _) ?_
          simp(disch:=omega)only[↓qXX]
          by_cases hk:key u<key v
          ·rw[p_lss_t (hdk.2 hk)]
           simp(disch:=omega)only[↓qXX,qaL]
           have hjaa:a<j:=by
            rcases qaz a j with q|q
            ·exact q
            ·obtain rfl:j=a:=by omega
             rcases hlf.keep hp3 (by omega) (by omega)with q|⟨z,z1,z2⟩
             ·omega
             ·rw[hv]at z1
              cases z1
              have:=z2 j u (qal _) hab hu
              omega
           rw[cD (by omega) (by omega),cD (by omega) (by omega)]
           refine aO (lsE hlt hn3) rfl hv ?_
           unfold encC
           simp(disch:=omega)only[↓qXX]
           refine aO (lsE hlt hn3) rfl hu ?_
           unfold encC
           simp(disch:=omega)only[↓qXX]
           refine cM aA (a:=v) hlt rfl (by omega) hn3 rfl ?_
           refine cM aA (a:=u) hlt rfl (by rw[qav];omega) (by rw[qav];exact hn3) rfl ?_
           rw[cD (by omega) (by omega)]
           exact hself2 (j - 1) _ _ (by omega) ⟨j - 1,_,rfl,rfl,rfl,by omega,by omega,hp3.trans (SP.swap hu hv (by omega) (by omega)),hI.step ⟨hjaa,hji⟩ hu hv hk⟩
          ·rw[p_lss_f (show 0<=d by have:=mt hdk.1 hk;omega)]
           simp(disch:=omega)only[↓qXX,qbk]
           exact fin (.inr ⟨u,v,hu,hv,by omega⟩)
         ·rw[decide_eq_false hj1]
          simp(disch:=omega)only[↓qXX]
          exact fin (.inl (by omega))
       ·rw[decide_eq_false h2,p_cond_f]
        exact hjj _ _ ⟨rfl,l2,rfl,hp2,SS.one (by omega)⟩
   ·intro jj hjj
    refine aF (m:=b - i0) (λm ls h'=>∃i,ls=[.i (Int.ofNat i)]/\h'=putE h id 3 encC l1/\b - i=m/\a+1<=i/\i<=b/\SS key a i l1) ⟨i0,rfl,rfl,rfl,hi1,hi2,hs⟩ ?_
    rintro m ls h' ⟨i,rfl,rfl,rfl,hia,hib,hsi⟩ self2 hself2
    refine hidL ?_
    simp(disch:=omega)only[↓qXX]
    by_cases hlb:i<b
    ·rw[bp hlb]
     simp(disch:=omega)only[↓qXX]
     obtain⟨x,hx⟩:=aQ (l:=l1) (i:=i) (by omega)
     obtain⟨y,hy⟩:=aQ (l:=l1) (i:=i - 1) (by omega)
     refine aO (lsE hlt hn1) rfl hx ?_
     unfold encC
     simp(disch:=omega)only[↓qXX]
     rw[cD (by omega) (by omega)]
     refine aO (lsE hlt hn1) rfl hy ?_
     unfold encC
     simp(disch:=omega)only[↓qXX]
     obtain⟨d,hd,hdk⟩:=hc.cmp x y (okP hok hp x (qad hx)) (okP hok hp y (qad hy))
     refine co (hd _) ?_
     simp(disch:=omega)only[↓qXX]
     by_cases hk:key x<key y
     ·rw[p_lss_t (hdk.2 hk)]
      simp(disch:=omega)only[↓qXX,qaL]
      exact hjj _ _ ⟨i,rfl,rfl,hia,hib,hsi,λ_=>⟨x,y,hx,hy,hk⟩⟩
     ·rw[p_lss_f (show 0<=d by have:=mt hdk.1 hk;omega)]
      simp(disch:=omega)only[↓qXX,qbk]
      rw[ch (by omega)]
      exact hself2 (b - (i+1)) _ _ (by omega) ⟨i+1,rfl,rfl,rfl,by omega,by omega,hsi.more (by omega) hx hy (by omega)⟩
    ·rw[bC (by omega)]
     simp(disch:=omega)only[↓qXX]
     exact hjj _ _ ⟨i,rfl,rfl,hia,hib,hsi,λq=>absurd q hlb⟩
  ·rw[bC (by omega)]
   simp(disch:=omega)only[↓qXX]
   exact⟨l1,false,by trivial,rfl,hp,λq=>by cases q⟩)
 exact⟨l',t,e1,e2,h1⟩
end
end Go.Am

/-
 SORTING TOLD (creases): pdqsort,SortFunc,where all keys differ.
-/
set_option maxRecDepth 100000
set_option maxHeartbeats 8000000
namespace Go.Am
open Sx Go.Proofs
theorem p_eql_d{a b:Int}{K:Bool->Prop}:P1.cmp .eql a b (@hid _ ⟨K⟩)=K (a==b):=rfl
theorem BL.mono{key:Crs->Int}{a b c d a' b' c' d':Nat}{l:List Crs}(h:BL key a b c d l)(h1:a<=a')(h2:b'<=b)(h3:c<=c')(h4:d'<=d):BL key a' b' c' d' l:=λi j x y p1 p2 p3 p4=>h i j x y (by omega) (by omega) (by omega) (by omega)
structure QI(key:Crs->Int)(a0 b0 a b:Nat)(l0 l:List Crs):Prop where
 sp:SP a0 b0 l0 l
 i1:SS key a0 a l
 i2:SS key b b0 l
 i3:BL key a0 a a b0 l
 i4:BL key a0 b b b0 l
 rng:a0<=a/\a<=b/\b<=b0/\b0<=l.length
theorem QI.keep{key:Crs->Int}{a0 b0 a b:Nat}{l0 l l':List Crs}(h:QI key a0 b0 a b l0 l)(hp:SP a b l l'):QI key a0 b0 a b l0 l':=by
 have hr:=h.rng
 have hl:=hp.len
 exact⟨h.sp.trans (hp.mono hr.1 hr.2.2.1),h.i1.keep hp (by omega),h.i2.keep hp (by omega),h.i3.keep hp ⟨by omega,by omega⟩ (by omega) (by omega),h.i4.keep hp ⟨by omega,by omega⟩ (by omega) (by omega),by omega⟩
theorem QI.lft{key:Crs->Int}{a0 b0 a b:Nat}{l0 l:List Crs}(h:QI key a0 b0 a b l0 l)(hl:Lft key a0 b0 l0):Lft key a b l:=by
 have hr:=h.rng
 by_cases ha:a=a0
 ·subst ha
  have hk:=hl.keep h.sp (by omega) (by have:=h.sp.len;omega)
  rcases hk with hk|⟨z,z1,z2⟩
  ·exact .inl hk
  ·exact .inr ⟨z,z1,λk x h1 h2=>z2 k x h1 (by omega)⟩
 ·obtain⟨z,hz⟩:=aQ (l:=l) (i:=a - 1) (by omega)
  exact .inr ⟨z,hz,λk x h1 h2 hx=>h.i3 (a - 1) k z x (by omega) (by omega) h1 (by omega) hz hx⟩
theorem QI.fin{key:Crs->Int}{a0 b0 a b:Nat}{l0 l:List Crs}(h:QI key a0 b0 a b l0 l)(hs:SS key a b l):SS key a0 b0 l:=by
 have hr:=h.rng
 have h1:SS key a0 b l:=h.i1.join hs (h.i3.mono (qal _) (qal _) (qal _) (by omega))
 exact h1.join h.i2 h.i4
theorem QI.left{key:Crs->Int}{a0 b0 a b m:Nat}{l0 l l':List Crs}(h:QI key a0 b0 a b l0 l)(hm:a<=m/\m<b)(hpo:PO key a b m l)(hp:SP a m l l')(hs:SS key a m l'):QI key a0 b0 (m+1) b l0 l':=by
 have hr:=h.rng
 have hl:=hp.len
 have hq:=h.keep (hp.mono (qal _) (show m<=b by omega))
 obtain⟨pv,p1,p2,p3⟩:=hpo
 have g1:l'[m]? = some pv:=by rw[hp.2 m (by omega)];exact p1
 have g2:∀k x,a<=k->k<m->l'[k]? = some x->key x<=key pv:=λk x h1 h2 hx=>by
  obtain⟨j,j1,j2,j3⟩:=hp.mem (by omega) (by omega) ⟨h1,h2⟩ hx
  have:=p2 j x j1 j2 j3
  omega
 have g3:∀k x,m<k->k<b->l'[k]? = some x->key pv<=key x:=λk x h1 h2 hx=>by
  rw[hp.2 k (by omega)]at hx
  exact p3 k x h1 h2 hx
 refine⟨hq.sp,?_,hq.i2,?_,hq.i4,by omega⟩
 ·have h1:SS key a0 m l':=hq.i1.join hs (hq.i3.mono (qal _) (qal _) (qal _) (by omega))
  refine h1.join (SS.one (qal _)) λi j x y hi hib hj hjd hx hy=>?_
  obtain rfl:j=m:=by omega
  rw[g1]at hy
  cases hy
  by_cases hia:i<a
  ·exact hq.i3 i j x _ hi hia (by omega) (by omega) hx g1
  ·exact g2 i x (by omega) hib hx
 ·intro i j x y hi hib hj hjd hx hy
  by_cases hia:i<a
  ·exact hq.i3 i j x y hi hia (by omega) hjd hx hy
  ·by_cases hjb:j<b
   ·have e1:key x<=key pv:=by
     by_cases him:i=m
     ·subst him
      rw[g1]at hx
      cases hx
      exact qcI _
     ·exact g2 i x (by omega) (by omega) hx
    have:=g3 j y (by omega) hjb hy
    omega
   ·exact hq.i4 i j x y hi (by omega) (by omega) hjd hx hy
theorem QI.right{key:Crs->Int}{a0 b0 a b m:Nat}{l0 l l':List Crs}(h:QI key a0 b0 a b l0 l)(hm:a<=m/\m<b)(hpo:PO key a b m l)(hp:SP (m+1) b l l')(hs:SS key (m+1) b l'):QI key a0 b0 a m l0 l':=by
 have hr:=h.rng
 have hl:=hp.len
 have hq:=h.keep (hp.mono (show a<=m+1 by omega) (qal _))
 obtain⟨pv,p1,p2,p3⟩:=hpo
 have g1:l'[m]? = some pv:=by rw[hp.2 m (by omega)];exact p1
 have g2:∀k x,a<=k->k<m->l'[k]? = some x->key x<=key pv:=λk x h1 h2 hx=>by
  rw[hp.2 k (by omega)]at hx
  have:=p2 k x h1 h2 hx
  omega
 have g3:∀k x,m<k->k<b->l'[k]? = some x->key pv<=key x:=λk x h1 h2 hx=>by
  obtain⟨j,j1,j2,j3⟩:=hp.mem (by omega) (by omega) ⟨h1,h2⟩ hx
  exact p3 j x (by omega) j2 j3
 have h1:SS key (m+1) b0 l':=hs.join hq.i2 (hq.i4.mono (by omega) (qal _) (qal _) (qal _))
 refine⟨hq.sp,hq.i1,?_,hq.i3,?_,by omega⟩
 ·refine SS.join (m:=m+1) (SS.one (qal _)) h1 λi j x y hi hib hj hjd hx hy=>?_
  obtain rfl:i=m:=by omega
  rw[g1]at hx
  cases hx
  by_cases hjb:j<b
  ·exact g3 j y (by omega) hjb hy
  ·exact hq.i4 i j _ y (by omega) (by omega) (by omega) hjd g1 hy
 ·intro i j x y hi hib hj hjd hx hy
  by_cases hia:i<a
  ·exact hq.i3 i j x y hi hia (by omega) hjd hx hy
  ·have e1:=g2 i x (by omega) hib hx
   by_cases hjb:j<b
   ·by_cases hjm:j=m
    ·subst hjm
     rw[g1]at hy
     cases hy
     exact e1
    ·have:=g3 j y (by omega) hjb hy
     omega
   ·exact hq.i4 i j x y hi (by omega) (by omega) hjd hx hy
def DK(key:Crs->Int)(l:List Crs):Prop:=(l.map key).Nodup
theorem DK.ne{key:Crs->Int}{l:List Crs}(h:DK key l){i j:Nat}{x y:Crs}(hij:i<j)(hx:l[i]? = some x)(hy:l[j]? = some y):key x≠key y:=by
 obtain⟨h1,rfl⟩:=qaM.1 hx
 obtain⟨h2,rfl⟩:=qaM.1 hy
 have:=List.pairwise_iff_getElem.1 h i j (by simpa using h1) (by simpa using h2) hij
 simpa using this
theorem DK.keep{key:Crs->Int}{l l':List Crs}{a b:Nat}(h:DK key l)(hp:SP a b l l'):DK key l':=(hp.1.map key).nodup_iff.2 h
section
variable {cv:Value} {ok:Crs->Prop} {key:Crs->Int} (hc:CmpK cv ok key) {id cx len:Nat} (hL:len<=128)
def Rec(cv:Value)(ok:Crs->Prop)(key:Crs->Int)(id cx len N:Nat):Prop:=∀ {h:HL} {a b lim:Nat} {l:List Crs},id<h.length->b - a<=N->a<=b->b<=len->lim<=100->l.length=len->(∀x∈l,ok x)->Lft key a b l->DK key l->
 ∃(l':List Crs) (G:HL),SP a b l l'/\SS key a b l'/\aI cc ac 39 [.v (slV id len cx),.i (.ofNat a),.i (.ofNat b),.i (.ofNat lim),.v cv] (absH ae (putE h id 3 encC l)) [] (absH ae (putE (h++G) id 3 encC l'))
include hc hL
theorem part_n{N:Nat}(hrec:Rec cv ok key id cx len N){h:HL}(hlt:id<h.length){a0 b0 a b p n lim:Nat}{l0 l:List Crs}{jj:List Lf->HL->Prop}{tp tb:Bool}(hq:QI key a0 b0 a b l0 l)(hN:b - a<=N+1)(hlen:len=l.length)(hab:a+13<=b)(hn:n=b - a)(hpv:a<=p/\p<b)(hlim:lim<=100)(hok:∀x∈l,ok x)(hdk:DK key l)(hlf:Lft key a0 b0 l0)
  (hj:∀(a' b':Nat) (t t':Bool) (l':List Crs) (G:HL),QI key a0 b0 a' b' l0 l'->b' - a'<b - a->DK key l'->(∀x∈l',ok x)->l'.length=len->jj [.i (.ofNat lim),.i (.ofNat a'),.b t,.b t',.i (.ofNat b')] (putE (h++G) id 3 encC l')) :
  P1.call 66 [(.v (slV id len cx)),(.i (Int.ofNat a)),(.i (Int.ofNat b)),(.i (Int.ofNat p)),(.v cv)] (putE h id 3 encC l) (@hid _ ⟨λl128 h129=>P1.unI l128 (@hid _ ⟨λn130 l131=>P1.unB l131 (@hid _ ⟨λt132 l133=>P1.un0 l133 (@hid _ ⟨P1.ari .sub .i64 n130 (Int.ofNat a) (@hid _ ⟨λn134=>P1.ari .sub .i64 (Int.ofNat b) n130 (@hid _ ⟨λn135=>P1.ari .quo .i64 (Int.ofNat n) 8 (@hid _ ⟨λn136=>P1.cmp .lss n134 n135 (@hid _ ⟨λt137=>P1.join (@hid _ ⟨λl138 h139=>P1.unB l138 (@hid _ ⟨λt140 l141=>P1.unI l141 (@hid _ ⟨λn142 l143=>P1.unI l143 (@hid _ ⟨λn144 l145=>P1.un0 l145 (@hid _ ⟨jj [(.i (Int.ofNat lim)),(.i n142),(.b t132),(.b t140),(.i n144)] h139⟩)⟩)⟩)⟩)⟩) (@hid _ ⟨λj146=>P1.cond t137 (@hid _ ⟨P1.cmp .geq n134 n136 (@hid _ ⟨λt147=>P1.call 39 [(.v (slV id len cx)),(.i (Int.ofNat a)),(.i n130),(.i (Int.ofNat lim)),(.v cv)] h129 (@hid _ ⟨λl148 h149=>P1.un0 l148 (@hid _ ⟨P1.ari .add .i64 n130 1 (@hid _ ⟨λn150=>j146 [(.b t147),(.i n150),(.i (Int.ofNat b))] h149⟩)⟩)⟩)⟩)⟩) (@hid _ ⟨P1.cmp .geq n135 n136 (@hid _ ⟨λt151=>P1.ari .add .i64 n130 1 (@hid _ ⟨λn152=>P1.call 39 [(.v (slV id len cx)),(.i n152),(.i (Int.ofNat b)),(.i (Int.ofNat lim)),(.v cv)] h129 (@hid _ ⟨λl153 h154=>P1.un0 l153 (@hid _ ⟨j146 [(.b t151),(.i (Int.ofNat a)),(.i n130)] h154⟩)⟩)⟩)⟩)⟩)⟩)⟩)⟩)⟩)⟩)⟩)⟩)⟩)⟩):=by
 have hr:=hq.rng
 obtain⟨l1,m,t,m1,m2,s1,po,c1⟩:=part_c hc (cx:=cx) (by omega) hlt (p:=p) (show a+2<=b by omega) (by omega) hpv hlen.symm hok
 refine aq c1 ?_
 have hq1:=hq.keep s1
 have hl1:l1.length=len:=s1.len.trans hlen.symm
 have ok1:=okP hok s1
 have dk1:=hdk.keep s1
 rw[p_unI,p_unB,p_un0,n_sb (by omega) (by omega),n_sb (by omega) (by omega),n_qu 8 (show(8:Int)=Int.ofNat 8 from rfl) (by omega) (by omega)]
 have hlf1:=hq1.lft hlf
 by_cases hlr:m - a<b - m
 ·rw[bp hlr]
  simp(disch:=omega)only[↓qXX]
  rw[geqd _ rfl]
  have lf2:Lft key a m l1:=by
   rcases hlf1 with q|⟨z,z1,z2⟩
   ·exact .inl q
   ·exact .inr ⟨z,z1,λk x h1 h2=>z2 k x h1 (by omega)⟩
  obtain⟨l2,G,s2,ss2,c2⟩:=hrec (lim:=lim) hlt (show m - a<=N by omega) m1 (by omega) hlim hl1 ok1 lf2 dk1
  refine aq c2 ?_
  simp(disch:=omega)only[↓qXX]
  rw[ch (by omega)]
  exact hj (m+1) b _ _ l2 G (hq1.left ⟨m1,m2⟩ po s2 ss2) (by omega) (dk1.keep s2) (okP ok1 s2) (s2.len.trans hl1)
 ·rw[bC (by omega)]
  simp(disch:=omega)only[↓qXX]
  rw[geqd _ rfl,ch (by omega)]
  have lf2:Lft key (m+1) b l1:=by
   obtain⟨pv',g1,_,g3⟩:=po
   exact .inr ⟨pv',g1,λk x h1 h2 hx=>g3 k x (by omega) h2 hx⟩
  obtain⟨l2,G,s2,ss2,c2⟩:=hrec (lim:=lim) hlt (show b - (m+1)<=N by omega) (by omega) (by omega) hlim hl1 ok1 lf2 dk1
  refine aq c2 ?_
  simp(disch:=omega)only[↓qXX]
  exact hj a m _ _ l2 G (hq1.right ⟨m1,m2⟩ po s2 ss2) (by omega) (dk1.keep s2) (okP ok1 s2) (s2.len.trans hl1)
theorem part_q{N:Nat}(hrec:Rec cv ok key id cx len N){h:HL}(hlt:id<h.length){a0 b0 a b p n lim:Nat}{l0 l:List Crs}{jj:List Lf->HL->Prop}{tp tb:Bool}(hq:QI key a0 b0 a b l0 l)(hN:b - a<=N+1)(hlen:len=l.length)(hab:a+13<=b)(hn:n=b - a)(hpv:a<=p/\p<b)(hlim:lim<=100)(hok:∀x∈l,ok x)(hdk:DK key l)(hlf:Lft key a0 b0 l0)
  (hj:∀(a' b':Nat) (t t':Bool) (l':List Crs) (G:HL),QI key a0 b0 a' b' l0 l'->b' - a'<b - a->DK key l'->(∀x∈l',ok x)->l'.length=len->jj [.i (.ofNat lim),.i (.ofNat a'),.b t,.b t',.i (.ofNat b')] (putE (h++G) id 3 encC l')) :
  P1.cmp .gtr (Int.ofNat a) 0 (@hid _ ⟨λt69=>P1.cond t69 (@hid _ ⟨P1.ari .sub .i64 (Int.ofNat a) 1 (@hid _ ⟨λn70=>P1.opt (idS 3 (slV id len cx) n70) (@hid _ ⟨λx71=>P1.peek (.lg cc 3 x71) (putE h id 3 encC l) (@hid _ ⟨λl72=>P1.ucI .i64 l72 (@hid _ ⟨λn73 l74=>P1.ucI .u8 l74 (@hid _ ⟨λn75 l76=>P1.ucI .u8 l76 (@hid _ ⟨λn77 l78=>P1.uc0 l78 (@hid _ ⟨P1.opt (idS 3 (slV id len cx) (Int.ofNat p)) (@hid _ ⟨λx79=>P1.peek (.lg cc 3 x79) (putE h id 3 encC l) (@hid _ ⟨λl80=>P1.ucI .i64 l80 (@hid _ ⟨λn81 l82=>P1.ucI .u8 l82 (@hid _ ⟨λn83 l84=>P1.ucI .u8 l84 (@hid _ ⟨λn85 l86=>P1.uc0 l86 (@hid _ ⟨P1.callv cv [(.agg ⟨[(.int .i64 n73),(.int .u8 n75),(.int .u8 n77)]⟩),(.agg ⟨[(.int .i64 n81),(.int .u8 n83),(.int .u8 n85)]⟩)] [(.leaf (.i .i64))] (putE h id 3 encC l) (@hid _ ⟨λl87 h88=>P1.unI l87 (@hid _ ⟨λn89 l90=>P1.un0 l90 (@hid _ ⟨P1.cmp .lss n89 0 (@hid _ ⟨λt91=>P1.join (@hid _ ⟨λl92 h93=>P1.unI l92 (@hid _ ⟨λn94 l95=>P1.un0 l95 (@hid _ ⟨P1.call 66 [(.v (slV id len cx)),(.i n94),(.i (Int.ofNat b)),(.i (Int.ofNat p)),(.v cv)] h93 (@hid _ ⟨λl96 h97=>P1.unI l96 (@hid _ ⟨λn98 l99=>P1.unB l99 (@hid _ ⟨λt100 l101=>P1.un0 l101 (@hid _ ⟨P1.ari .sub .i64 n98 n94 (@hid _ ⟨λn102=>P1.ari .sub .i64 (Int.ofNat b) n98 (@hid _ ⟨λn103=>P1.ari .quo .i64 (Int.ofNat n) 8 (@hid _ ⟨λn104=>P1.cmp .lss n102 n103 (@hid _ ⟨λt105=>P1.join (@hid _ ⟨λl106 h107=>P1.unB l106 (@hid _ ⟨λt108 l109=>P1.unI l109 (@hid _ ⟨λn110 l111=>P1.unI l111 (@hid _ ⟨λn112 l113=>P1.un0 l113 (@hid _ ⟨jj [(.i (Int.ofNat lim)),(.i n110),(.b t100),(.b t108),(.i n112)] h107⟩)⟩)⟩)⟩)⟩) (@hid _ ⟨λj114=>P1.cond t105 (@hid _ ⟨P1.cmp .geq n102 n104 (@hid _ ⟨λt115=>P1.call 39 [(.v (slV id len cx)),(.i n94),(.i n98),(.i (Int.ofNat lim)),(.v cv)] h97 (@hid _ ⟨λl116 h117=>P1.un0 l116 (@hid _ ⟨P1.ari .add .i64 n98 1 (@hid _ ⟨λn118=>j114 [(.b t115),(.i n118),(.i (Int.ofNat b))] h117⟩)⟩)⟩)⟩)⟩) (@hid _ ⟨P1.cmp .geq n103 n104 (@hid _ ⟨λt119=>P1.ari .add .i64 n98 1 (@hid _ ⟨λn120=>P1.call 39 [(.v (slV id len cx)),(.i n120),(.i (Int.ofNat b)),(.i (Int.ofNat lim)),(.v cv)] h97 (@hid _ ⟨λl121 h122=>P1.un0 l121 (@hid _ ⟨j114 [(.b t119),(.i n94),(.i n98)] h122⟩)⟩)⟩)⟩)⟩)⟩)⟩)⟩)⟩)⟩)⟩)⟩)⟩)⟩)⟩)⟩)⟩) (@hid _ ⟨λj123=>P1.cond (!t91) (@hid _ ⟨P1.call 65 [(.v (slV id len cx)),(.i (Int.ofNat a)),(.i (Int.ofNat b)),(.i (Int.ofNat p)),(.v cv)] h88 (@hid _ ⟨λl124 h125=>P1.unI l124 (@hid _ ⟨λn126 l127=>P1.un0 l127 (@hid _ ⟨jj [(.i (Int.ofNat lim)),(.i n126),(.b tp),(.b tb),(.i (Int.ofNat b))] h125⟩)⟩)⟩)⟩) (@hid _ ⟨j123 [(.i (Int.ofNat a))] h88⟩)⟩)⟩)⟩)⟩)⟩)⟩)⟩)⟩)⟩)⟩)⟩)⟩)⟩)⟩)⟩)⟩)⟩)⟩)⟩) (@hid _ ⟨P1.call 66 [(.v (slV id len cx)),(.i (Int.ofNat a)),(.i (Int.ofNat b)),(.i (Int.ofNat p)),(.v cv)] (putE h id 3 encC l) (@hid _ ⟨λl128 h129=>P1.unI l128 (@hid _ ⟨λn130 l131=>P1.unB l131 (@hid _ ⟨λt132 l133=>P1.un0 l133 (@hid _ ⟨P1.ari .sub .i64 n130 (Int.ofNat a) (@hid _ ⟨λn134=>P1.ari .sub .i64 (Int.ofNat b) n130 (@hid _ ⟨λn135=>P1.ari .quo .i64 (Int.ofNat n) 8 (@hid _ ⟨λn136=>P1.cmp .lss n134 n135 (@hid _ ⟨λt137=>P1.join (@hid _ ⟨λl138 h139=>P1.unB l138 (@hid _ ⟨λt140 l141=>P1.unI l141 (@hid _ ⟨λn142 l143=>P1.unI l143 (@hid _ ⟨λn144 l145=>P1.un0 l145 (@hid _ ⟨jj [(.i (Int.ofNat lim)),(.i n142),(.b t132),(.b t140),(.i n144)] h139⟩)⟩)⟩)⟩)⟩) (@hid _ ⟨λj146=>P1.cond t137 (@hid _ ⟨P1.cmp .geq n134 n136 (@hid _ ⟨λt147=>P1.call 39 [(.v (slV id len cx)),(.i (Int.ofNat a)),(.i n130),(.i (Int.ofNat lim)),(.v cv)] h129 (@hid _ ⟨λl148 h149=>P1.un0 l148 (@hid _ ⟨P1.ari .add .i64 n130 1 (@hid _ ⟨λn150=>j146 [(.b t147),(.i n150),(.i (Int.ofNat b))] h149⟩)⟩)⟩)⟩)⟩) (@hid _ ⟨P1.cmp .geq n135 n136 (@hid _ ⟨λt151=>P1.ari .add .i64 n130 1 (@hid _ ⟨λn152=>P1.call 39 [(.v (slV id len cx)),(.i n152),(.i (Int.ofNat b)),(.i (Int.ofNat lim)),(.v cv)] h129 (@hid _ ⟨λl153 h154=>P1.un0 l153 (@hid _ ⟨j146 [(.b t151),(.i (Int.ofNat a)),(.i n130)] h154⟩)⟩)⟩)⟩)⟩)⟩)⟩)⟩)⟩)⟩)⟩)⟩)⟩)⟩)⟩)⟩):=by
 have hr:=hq.rng
 by_cases ha:0<a
 ·rw[p_gtr_t (show(0:Int)<Int.ofNat a by simp only[qab];omega)]
  simp(disch:=omega)only[↓qXX]
  rw[cD (by omega) (by omega)]
  obtain⟨x,hx⟩:=aQ (l:=l) (i:=a - 1) (by omega)
  obtain⟨y,hy⟩:=aQ (l:=l) (i:=p) (by omega)
  refine aO (lsE hlt hlen.symm) rfl hx ?_
  unfold encC
  simp(disch:=omega)only[↓qXX]
  refine aO (lsE hlt hlen.symm) rfl hy ?_
  unfold encC
  simp(disch:=omega)only[↓qXX]
  obtain⟨d,hd,hdd⟩:=hc.cmp x y (hok x (qad hx)) (hok y (qad hy))
  refine co (hd _) ?_
  simp(disch:=omega)only[↓qXX]
  have hk:key x<key y:=by
   have h1:=hdk.ne (show a - 1<p by omega) hx hy
   rcases hq.lft hlf with q|⟨z,z1,z2⟩
   ·omega
   ·rw[hx]at z1
    cases z1
    have:=z2 p y hpv.1 hpv.2 hy
    omega
  rw[p_lss_t (hdd.2 hk)]
  simp(disch:=omega)only[↓qXX,qaL]
  exact part_n hc hL hrec hlt (tp:=tp) (tb:=tb) hq hN hlen hab hn hpv hlim hok hdk hlf hj
 ·rw[p_gtr_f (show Int.ofNat a<=(0:Int)by simp only[qab];omega)]
  simp(disch:=omega)only[↓qXX]
  exact part_n hc hL hrec hlt (tp:=tp) (tb:=tb) hq hN hlen hab hn hpv hlim hok hdk hlf hj
theorem pdqC_c:∀N:Nat,Rec cv ok key id cx len N:=by
 intro N
 induction N with
 |zero=>
  intro h a b lim l hlt hN hab hb hlim hn hok hlf hdk
  obtain rfl:a=b:=by omega
  obtain⟨l',s1,s2,c1⟩:=insS_c hc (cx:=cx) (by omega) hlt (qal a) hb hn hok
  obtain⟨rs,h',h1,rfl,rfl⟩:=x39 (ls:=[.v (slV id len cx),.i (.ofNat a),.i (.ofNat a),.i (.ofNat lim),.v cv]) (K:=λrs h'=>rs=[]/\h'=putE (h++[]) id 3 encC l') (H:=putE h id 3 encC l) (glsV (cj _ _ _) (glsI (glsI (glsI (glsV hc.good gls0))))) (by
   unfold f39;simp only[qxh]
   simp(disch:=omega)only[↓qXX]
   refine⟨1,?_⟩
   refine hidL ?_
   simp(disch:=omega)only[↓qXX]
   refine aq c1 ?_
   simp(disch:=omega)only[↓qXX]
   exact⟨by trivial,by rw[qaI]⟩)
  exact⟨l',[],s1,s2,h1⟩
 |succ N hrec=>
  intro h a0 b0 lim0 l0 hlt hN hab hb hlim hn hok hlf hdk
  obtain⟨rs,h',h1,l',G,rfl,rfl,e1,e2⟩:=x39 (ls:=[.v (slV id len cx),.i (.ofNat a0),.i (.ofNat b0),.i (.ofNat lim0),.v cv]) (K:=λrs h'=>∃(l':List Crs) (G:HL),rs=[]/\h'=putE (h++G) id 3 encC l'/\SP a0 b0 l0 l'/\SS key a0 b0 l') (H:=putE h id 3 encC l0) (glsV (cj _ _ _) (glsI (glsI (glsI (glsV hc.good gls0))))) (by
   unfold f39;simp only[qxh]
   simp(disch:=omega)only[↓qXX]
   refine aF (m:=b0 - a0) (λm ls h'=>∃(lim a b:Nat) (tp tb:Bool) (l1:List Crs) (G1:HL),ls=[.i (Int.ofNat lim),.i (Int.ofNat a),.b tp,.b tb,.i (Int.ofNat b)]/\h'=putE (h++G1) id 3 encC l1/\b - a=m/\m<=N+1/\lim<=100/\QI key a0 b0 a b l0 l1/\DK key l1/\(∀x∈l1,ok x)/\l1.length=len) ⟨lim0,a0,b0,true,true,l0,[],rfl,by rw[qaI],rfl,hN,hlim,⟨SP.refl _ _ _,SS.one (by omega),SS.one (by omega),λi j x y q1 q2=>by omega,λi j x y q1 q2 q3 q4=>by omega,by omega⟩,hdk,hok,hn⟩ ?_
   rintro m ls h' ⟨lim,a,b,tp,tb,l1,G1,rfl,rfl,rfl,hm,hlim1,hq,hdk1,hok1,hn1⟩ self hself
   refine hidL ?_
   have hr:=hq.rng
   have hlt1:id<(h++G1).length:=by rw[qaB];omega
   simp(disch:=omega)only[↓qXX]
   rw[n_sb (by omega) (by omega)]
   by_cases h12:b - a<=12
   ·rw[p_leq_t (show Int.ofNat (b - a)<=12 by simp only[qab];omega)]
    simp(disch:=omega)only[↓qXX]
    obtain⟨l2,s1,s2,c1⟩:=insS_c hc (cx:=cx) (by omega) hlt1 hr.2.1 (by omega) hn1 hok1
    refine aq c1 ?_
    simp(disch:=omega)only[↓qXX]
    exact⟨l2,G1,by trivial,rfl,(hq.keep s1).sp,(hq.keep s1).fin s2⟩
   ·rw[p_leq_f (show 12<Int.ofNat (b - a)by simp only[qab];omega),p_cond_f]
    by_cases hl0:lim=0
    ·subst hl0
     rw[p_eql_t (show Int.ofNat 0=0 from rfl)]
     simp(disch:=omega)only[↓qXX]
     obtain⟨l2,s1,s2,c1⟩:=heap_c hc (cx:=cx) (by omega) hlt1 (show a<b by omega) (by omega) hn1 hok1
     refine aq c1 ?_
     simp(disch:=omega)only[↓qXX]
     exact⟨l2,G1,by trivial,rfl,(hq.keep s1).sp,(hq.keep s1).fin s2⟩
    ·rw[p_eql_f (show Int.ofNat lim≠0 from λq=>hl0 (qbO q)),p_cond_f]
     refine bZ (λl' h'=>∃(lim2:Nat) (l2:List Crs) (G2:HL),l'=[.i (Int.ofNat lim2)]/\h'=putE (h++G2) id 3 encC l2/\lim2<=100/\QI key a0 b0 a b l0 l2/\DK key l2/\(∀x∈l2,ok x)/\l2.length=len) ?_ ?_
     ·rintro _ _ ⟨lim2,l2,G2,rfl,rfl,hlim2,hq2,hdk2,hok2,hn2⟩
      have hlt2:id<(h++G2).length:=by rw[qaB];omega
      obtain⟨r,hint,G3,r1,r2,r3,c3⟩:=pivot_c hc (cx:=cx) hlt2 (show a+13<=b by omega) (by omega) (by omega) hn2 hok2
      simp(disch:=omega)only[↓qXX]
      refine aq c3 ?_
      rw[p_unI,p_unI,p_un0]
      have hlt3:id<(h++G2++G3).length:=by rw[qaB];omega
      have key2:∀(p:Nat) (l3:List Crs),a<=p->p<b->QI key a0 b0 a b l0 l3->DK key l3->(∀x∈l3,ok x)->l3.length=len->∀(a' b':Nat) (t t':Bool) (l':List Crs) (G:HL),QI key a0 b0 a' b' l0 l'->b' - a'<b - a->DK key l'->(∀x∈l',ok x)->l'.length=len->self [.i (.ofNat lim2),.i (.ofNat a'),.b t,.b t',.i (.ofNat b')] (putE (h++G2++G3++G) id 3 encC l'):=λp l3 _ _ _ _ _ _ a' b' t t' l' G w1 w2 w3 w4 w5=>by
       refine hself (b' - a') _ _ w2 ⟨lim2,a',b',t,t',l',G2++G3++G,rfl,by simp,rfl,by omega,hlim2,w1,w3,w4,w5⟩
      rw[show P1.cmp .eql (Int.ofNat hint) 2=λK=>K (decide (hint=2))from funext λK=>by
       show K (Int.ofNat hint==2)=K (decide (hint=2))
       congr 1
       rw[qbx,beq_iff_eq,decide_eq_true_eq]
       exact⟨λq=>qbO q,λq=>by rw[q];rfl⟩]
      show P1.join _ _
      refine bZ (λl' h'=>∃(p ht:Nat) (l3:List Crs),l'=[.i (Int.ofNat p),.i (Int.ofNat ht)]/\h'=putE (h++G2++G3) id 3 encC l3/\a<=p/\p<b/\QI key a0 b0 a b l0 l3/\DK key l3/\(∀x∈l3,ok x)/\l3.length=len) ?_ ?_
      ·rintro _ _ ⟨p,ht,l3,rfl,rfl,p1,p2,hq3,hdk3,hok3,hn3⟩
       rw[p_unI,p_unI,p_un0]
       cases tb with
       |false=>
        rw[p_cond_f]
        exact part_q hc hL hrec hlt3 (tp:=tp) (tb:=false) hq3 hm hn3.symm (by omega) rfl ⟨p1,p2⟩ hlim2 hok3 hdk3 hlf λa' b' t t' l' G w1 w2 w3 w4 w5=>by
         simp(disch:=omega)only[↓qXX]
         exact key2 p l3 p1 p2 hq3 hdk3 hok3 hn3 a' b' t t' l' G w1 w2 w3 w4 w5
       |true=>
        cases tp with
        |false=>
         rw[p_cond_t,p_cond_f]
         exact part_q hc hL hrec hlt3 (tp:=false) (tb:=true) hq3 hm hn3.symm (by omega) rfl ⟨p1,p2⟩ hlim2 hok3 hdk3 hlf λa' b' t t' l' G w1 w2 w3 w4 w5=>by
          simp(disch:=omega)only[↓qXX]
          exact key2 p l3 p1 p2 hq3 hdk3 hok3 hn3 a' b' t t' l' G w1 w2 w3 w4 w5
        |true=>
         rw[p_cond_t,p_cond_t,p_eql_d]
         refine bZ (λl' h'=>l'=[]/\∃l4,h'=putE (h++G2++G3) id 3 encC l4/\QI key a0 b0 a b l0 l4/\DK key l4/\(∀x∈l4,ok x)/\l4.length=len) ?_ ?_
         ·rintro _ _ ⟨rfl,l4,rfl,hq4,hdk4,hok4,hn4⟩
          rw[p_un0]
          exact part_q hc hL hrec hlt3 (tp:=true) (tb:=true) hq4 hm hn4.symm (by omega) rfl ⟨p1,p2⟩ hlim2 hok4 hdk4 hlf λa' b' t t' l' G w1 w2 w3 w4 w5=>by
           simp(disch:=omega)only[↓qXX]
           exact key2 p l4 p1 p2 hq4 hdk4 hok4 hn4 a' b' t t' l' G w1 w2 w3 w4 w5
         ·intro j2 hj2
          by_cases h1:ht=1
          ·subst h1
           rw[show(Int.ofNat 1==(1:Int))=true from rfl,p_cond_t]
           obtain⟨l4,t,s1,s2,c4⟩:=pins_c hc (cx:=cx) (by omega) hlt3 (show a<b by omega) (by omega) hn3 hok3 (hq3.lft hlf)
           refine aq c4 ?_
           simp(disch:=omega)only[↓qXX]
           cases t with
           |true=>
            simp(disch:=omega)only[↓qXX]
            exact⟨l4,G2++G3,by trivial,by rw[qaA],(hq3.keep s1).sp,(hq3.keep s1).fin (s2 rfl)⟩
           |false=>
            simp(disch:=omega)only[↓qXX]
            exact hj2 _ _ ⟨rfl,l4,rfl,hq3.keep s1,hdk3.keep s1,okP hok3 s1,s1.len.trans hn3⟩
          ·rw[show(Int.ofNat ht==(1:Int))=false by rw[←qaJ,beq_iff_eq];exact λq=>h1 (qbO q),p_cond_f]
           exact hj2 _ _ ⟨rfl,l3,rfl,hq3,hdk3,hok3,hn3⟩
      ·intro j2 hj2
       by_cases h2:hint=2
       ·rw[decide_eq_true h2,p_cond_t]
        obtain⟨l3,s1,c4⟩:=rev_c (cv:=cv) (cx:=cx) (by omega) hc.good hlt3 (show a<b by omega) (by omega) hn2
        refine aq c4 ?_
        simp(disch:=omega)only[↓qXX]
        rw[cD (by omega) (by omega),n_sb (by omega) (by omega),n_sb (by omega) (by omega)]
        exact hj2 _ _ ⟨b - 1 - (r - a),1,l3,rfl,rfl,by omega,by omega,hq2.keep s1,hdk2.keep s1,okP hok2 s1,s1.len.trans hn2⟩
       ·rw[decide_eq_false h2,p_cond_f]
        exact hj2 _ _ ⟨r,hint,l2,rfl,rfl,r1,r2,hq2,hdk2,hok2,hn2⟩
     ·intro j2 hj2
      cases tb with
      |true=>
       rw[qaL,p_cond_f]
       exact hj2 _ _ ⟨lim,l1,G1,rfl,rfl,hlim1,hq,hdk1,hok1,hn1⟩
      |false=>
       rw[qbk,p_cond_t]
       obtain⟨l2,G2,s1,c1⟩:=break_c (cx:=cx) hc.good (by omega) hlt1 (show a+13<=b by omega) (by omega) (by omega) hn1
       refine aq c1 ?_
       simp(disch:=omega)only[↓qXX]
       rw[cD (by omega) (by omega)]
       exact hj2 _ _ ⟨lim - 1,l2,G1++G2,rfl,by rw[qaA],by omega,hq.keep s1,hdk1.keep s1,okP hok1 s1,s1.len.trans hn1⟩)
  exact⟨l',G,e1,e2,h1⟩
end
end Go.Am

/-
 corners.walk and corners.corner,told.
-/
set_option maxRecDepth 100000
set_option maxHeartbeats 4000000
namespace Go.Am
open Sx Go.Proofs
abbrev cloW(n:Nat):Value:=.func (.func 45) ⟨[]⟩ ⟨[.pointer (some ⟨n+1,0,none⟩),.pointer (some ⟨n,0,none⟩)]⟩
theorem walkF_c(H:HL)(w v x y:Int):aI cc ac 23 [.i w,.i v,.i x,.i y] (absH ae H) [.v (cloW H.length)] (absH ae (H++[.o (.cells [.int .i64 w,.int .i64 v] 2 true),.o (.cells [.int .i64 x,.int .i64 y] 2 true)])):=by
 obtain⟨rs,h',h1,e1,e2⟩:=u23 (ls:=[.i w,.i v,.i x,.i y]) (K:=λrs h'=>rs=[.v (cloW H.length)]/\h'=H++[.o (.cells [.int .i64 w,.int .i64 v] 2 true),.o (.cells [.int .i64 x,.int .i64 y] 2 true)]) (H:=H) rfl (by
  unfold f23;simp only[qxh]
  simp(disch:=omega)only[↓qXX]
  refine bc rfl ?_
  refine⟨?_,?_⟩
  ·simp
  ·simp)
 rw[e1,e2]at h1
 exact h1
theorem corner_i{w v x y:Int}(h:1<=w/\w<=4/\1<=v/\v<=4/\0<x/\x<2*w/\0<y/\y<2*v/\x%2=y%2):Cc 22 [.i w,.i v,.i x,.i y] [.i 0]:=by
 refine q22 rfl ?_;unfold f22;simp only[qxh]
 simp(disch:=omega)only[↓qXX]
 refine aT (jr (sz (by unfold smS;omega))) ?_
 simp(disch:=omega)only[↓qXX]
theorem corner_c{w v x y:Nat}(hsh:1<=w/\w<=4/\1<=v/\v<=4)(hcor:ey w v x y=true):Cc 22 [.i (.ofNat w),.i (.ofNat v),.i (.ofNat x),.i (.ofNat y)] [.i 0]:=by
 have hc2:=hcor
 unfold ey at hc2
 simp only[qaa,qaF]at hc2
 obtain⟨hx0,hy0,hx1,hy1,hxy⟩:=hc2
 have hxy:=qaf hxy
 exact corner_i (by simp only[qab];omega)
end Go.Am

/-
 SPOKES ARE UNITS: by the kernel.
-/
set_option maxRecDepth 100000
namespace Go.Am
open Sx Go.Proofs
def mB(w x y j:Nat):Nat:=min (idOf w (aX x y j)) (idOf w (aX x y (j+1)))
def uniT(w v x y j:Nat):Bool:=match nbr w v (mB w x y j) (dt x j)with
 |some n=>Nat.blt (mB w x y j) n&&(Nat.blt (mB w x y j) (4*w*v)&&Nat.ble n 1000)
 |none=>false
def uniAll(w v:Nat):Bool:=(List.range (2*w)).all λx=>(List.range (2*v)).all λy=>!(ey w v x y)||(List.range (many x)).all λj=>uniT w v x y j
theorem uni_all:∀w v:Nat,1<=w->w<=4->1<=v->v<=4->uniAll w v=true:=by
 have key:((List.range 4).all λw=>(List.range 4).all λv=>uniAll (w+1) (v+1))=true:=by kernel_rfl
 intro w v h1 h2 h3 h4
 have h5:=qac.1 key (w - 1) (qak.2 (by omega))
 have h6:=qac.1 h5 (v - 1) (qak.2 (by omega))
 have e1:w - 1+1=w:=by omega
 have e2:v - 1+1=v:=by omega
 rw[e1,e2]at h6
 exact h6
theorem uni_of{w v x y:Nat}(h1:1<=w/\w<=4/\1<=v/\v<=4)(h2:ey w v x y=true){j:Nat}(hj:j<many x):∃n,nbr w v (mB w x y j) (dt x j)=some n/\mB w x y j<n/\mB w x y j<4*w*v/\n<=1000:=by
 have h:=uni_all w v h1.1 h1.2.1 h1.2.2.1 h1.2.2.2
 have h3:=h2
 unfold ey at h3
 simp only[qaa,qaF]at h3
 have h4:=qac.1 (qac.1 h x (qak.2 (by omega))) y (qak.2 (by omega))
 rw[h2]at h4
 simp only[qaL,qca]at h4
 have h5:=qac.1 h4 j (qak.2 hj)
 unfold uniT at h5
 split at h5
 ·rename_i n e
  simp only[qaa,qaF,qa4]at h5
  exact⟨n,e,h5.1,h5.2.1,h5.2.2⟩
 ·cases h5
def cX(l:List Crs)(w x y:Nat):Nat->List Ray
 |0=>[]
 |j+1=>cX l w x y j++gS l (oq x j) (mB w x y j) (dt x j)
theorem qZ(l:List Crs)(d u e:Nat):(gS l d u e).length<=1:=by
 unfold gS
 split<;>simp
theorem gg(l:List Crs)(w x y:Nat):∀j,(cX l w x y j).length<=j
 |0=>qal _
 |j+1=>by
  unfold cX
  rw[qaB]
  have:=gg l w x y j
  have:=qZ l (oq x j) (mB w x y j) (dt x j)
  omega
end Go.Am

/-
 corners.Creases,told.
-/
set_option maxRecDepth 100000
set_option maxHeartbeats 4000000
namespace Go.Am
open Sx Go.Proofs
theorem walkR_c{w v x y:Nat}(hsh:1<=w/\w<=4/\1<=v/\v<=4)(hcor:ey w v x y=true){l:List Crs}(hp:Pat w v l){H:HL}{n0 a b L pa ps:Nat}{xv:Value}(hF:RF H n0 a b L w v xv l)
  (hpa:H[pa]? = some (.o (.cells [.int .i64 (.ofNat x),.int .i64 (.ofNat y)] 2 true))) (hps:H[ps]? = some (.o (.cells [.int .i64 (.ofNat w),.int .i64 (.ofNat v)] 2 true))) (d1:pa≠b/\pa≠L/\ps≠b/\ps≠L) (hS:RS H n0 a b L [] H) :
  ∃h',aI cc ac 45 [.v (.func (.yield L) #[] #[]),.v (.pointer (some ⟨pa,0,none⟩)),.v (.pointer (some ⟨ps,0,none⟩))] (absH ae H) [] (absH ae h')/\RS H n0 a b L (cX l w x y (many x)) h':=by
 refine walk_c hsh hcor (λj h=>RS H n0 a b L (cX l w x y j) h) (λj h hj=>⟨bD (hj.old pa _ d1.1 d1.2.1 hpa),bD (hj.old ps _ d1.2.2.1 d1.2.2.2 hps)⟩) (λj hj h hJ=>?_) hS
 obtain⟨n,u1,u2,u3,u4⟩:=uni_of hsh hcor hj
 have hm:many x<=8:=by unfold many;split<;>omega
 exact round_c hF hp (by have:=gg l w x y j;omega) hJ u3 (by have:=(ui hsh hcor hj).le;omega) u1 u2 u4
end Go.Am

/-
 corners.Creases,told: the list of rays.
-/
set_option maxRecDepth 100000
set_option maxHeartbeats 4000000
namespace Go.Am
open Sx Go.Proofs
theorem pre_of{H h:HL}(hk:∀(i:Nat) o,H[i]? = some o->h[i]? = some o):Pre H h:=by
 refine⟨h.drop H.length,?_⟩
 conv=>lhs;rw[←qbq H.length h]
 congr 1
 apply qaP
 intro i
 rw[qaY]
 by_cases hi:i<H.length
 ·rw[if_pos hi,hk i _ (qaC hi),qaC hi]
 ·rw[if_neg hi,qag (by omega)]
theorem putE_self{h:HL}{id:Nat}{R:List Ray}(hg:h[id]? = some (.o (.cells (R.flatMap encR) 2 true))):putE h id 2 encR R=h:=by
 unfold putE
 apply qaP
 intro i
 by_cases hi:id=i
 ·subst hi
  rw[qaD (bN hg),hg]
 ·rw[qaj hi]
theorem clip_c(H:HL){id n:Nat}:aI cc ac 27 [.v (.slice (some ⟨id,0,tag 2⟩) n 0)] (absH ae H) [.v (.slice (some ⟨id,0,tag 2⟩) n (n+1))] (absH ae H):=by
 obtain⟨rs,h',h1,e1,e2⟩:=x27 (ls:=[.v (.slice (some ⟨id,0,tag 2⟩) n 0)]) (K:=λrs h'=>rs=[.v (.slice (some ⟨id,0,tag 2⟩) n (n+1))]/\h'=H) (H:=H) (glsV rfl gls0) (by
  unfold f27;simp only[qxh]
  simp(disch:=omega)only[↓qXX]
  refine aE (x:=Int.ofNat n) rfl ?_
  refine aE (x:=Int.ofNat n) rfl ?_
  have e:slS 2 (.slice (some ⟨id,0,tag 2⟩) n 0) none (some (Int.ofNat n)) (some (Int.ofNat n))=some (.slice (some ⟨id,0,tag 2⟩) n (n+1)):=by
   unfold slS
   simp only
   rw[if_neg (by simp),if_pos (by simp[dZ])]
   simp[gq,cb]
  refine aE e ?_
  refine bc rfl ?_
  exact⟨by trivial,by trivial⟩)
 rw[e1,e2]at h1
 exact h1
theorem ru:∀(l P:List Ray),(iF l P).length=l.length+P.length
 | [],P=>by simp[iF]
 |e :: r,P=>by
  rw[show iF (e :: r) P=iF r (insR e P)from rfl,ru r,ky]
  simp only[qaX]
  omega
theorem mo(l:List Ray):(eY l).length=l.length:=by
 unfold eY
 rw[qcJ,ru]
 simp
theorem qF{l:List Crs}(hr:∀c∈l,rngC c)(a b:Int):0<=eg l a b/\eg l a b<=255:=by
 unfold eg
 split
 ·rename_i c hf
  have:=hr c (qce hf)
  unfold rngC at this
  omega
 ·omega
theorem nJ{l:List Crs}(hr:∀c∈l,rngC c)(w x y:Nat):∀j,∀r∈cX l w x y j,rngR r
 |0,r,h=>by cases h
 |j+1,r,h=>by
  unfold cX at h
  rcases qaQ.1 h with h|h
  ·exact nJ hr w x y j r h
  ·unfold gS at h
   split at h
   ·cases h
   ·have e:=qay.1 h
    subst e
    have hd:oq x j<8:=by unfold oq;split<;>omega
    have:=qF hr (Int.ofNat (mB w x y j)) (Int.ofNat (dt x j))
    unfold rngR
    simp only[qab]at this ⊢
    omega
theorem clip0_c(H:HL):aI cc ac 27 [.v (.slice none 0 0)] (absH ae H) [.v (.slice none 0 0)] (absH ae H):=by
 obtain⟨rs,h',h1,e1,e2⟩:=x27 (ls:=[.v (.slice none 0 0)]) (K:=λrs h'=>rs=[.v (.slice none 0 0)]/\h'=H) (H:=H) (glsV rfl gls0) (by
  unfold f27;simp only[qxh]
  simp(disch:=omega)only[↓qXX]
  refine aE (x:=(0:Int)) rfl ?_
  refine aE (x:=(0:Int)) rfl ?_
  refine aE (x:=.slice none 0 0) rfl ?_
  refine bc rfl ?_
  exact⟨by trivial,by trivial⟩)
 rw[e1,e2]at h1
 exact h1
theorem p_pend{kn kr:Prop}{ks:List (Nat×Prop)}(hk:kn):P1.pend none (@hid _ ⟨kn⟩) kr ks:=hk
theorem qf{w v x y:Nat}(hsh:1<=w/\w<=4/\1<=v/\v<=4)(hcor:ey w v x y=true){l:List Crs}(hp:Pat w v l){H:HL}{xv:Value}(hl:LsH H xv 3 encC l) :
  ∃G rx,aI cc ac 7 [.i (.ofNat w),.i (.ofNat v),.v xv,.i (.ofNat x),.i (.ofNat y)] (absH ae H) [.v rx,.i 0] (absH ae (H++G))/\LsH (H++G) rx 2 encR (eY (cX l w x y (many x)))/\capS rx=some (Int.ofNat (eY (cX l w x y (many x))).length):=by
 obtain⟨rs,h',h1,rx,e1,hpre,hrx,hcap⟩:=x7 (ls:=[.i (.ofNat w),.i (.ofNat v),.v xv,.i (.ofNat x),.i (.ofNat y)]) (K:=λrs h'=>∃rx,rs=[.v rx,.i 0]/\Pre H h'/\LsH h' rx 2 encR (eY (cX l w x y (many x)))/\capS rx=some (Int.ofNat (eY (cX l w x y (many x))).length)) (H:=H) (glsI (glsI (glsV hl.good (glsI (glsI gls0))))) (by
  unfold f7;simp only[qxh]
  simp(disch:=omega)only[↓qXX]
  have a1:(H++[HO.o (.cells [.int .i64 (.ofNat w),.int .i64 (.ofNat v),xv] 3 true)])[H.length]? = some (.o (.cells [.int .i64 (.ofNat w),.int .i64 (.ofNat v),xv] 3 true)):=by simp
  refine bi (bD a1) rfl ?_
  simp(disch:=omega)only[↓qXX]
  refine bc hl.good ?_
  simp(disch:=omega)only[↓qXX]
  refine aq (hp.check (hl.pre ⟨_,rfl⟩)) ?_
  simp(disch:=omega)only[↓qXX]
  refine fP (bD a1) (o:=0) (k:=2) (ds:=[.int .i64 (.ofNat w),.int .i64 (.ofNat v)]) (by simp) rfl ?_
  simp(disch:=omega)only[↓qXX]
  refine aT (corner_c hsh hcor) ?_
  simp(disch:=omega)only[↓qXX]
  obtain⟨hA,ehA⟩ : ∃hA,hA=H++[HO.o (.cells [.int .i64 (.ofNat w),.int .i64 (.ofNat v),xv] 3 true)]++[HO.o (.cells [.slice none 0 0] 1 true)]:=⟨_,rfl⟩
  have lA:hA.length=H.length+2:=by rw[ehA];simp
  have gA:hA[H.length]? = some (.o (.cells [.int .i64 (.ofNat w),.int .i64 (.ofNat v),xv] 3 true)):=by rw[ehA];simp
  have gB:hA[H.length+1]? = some (.o (.cells [.slice none 0 0] 1 true)):=by rw[ehA];simp
  have pA:Pre H hA:=⟨_,by rw[ehA,qaA]⟩
  have e2:(H++[HO.o (.cells [.int .i64 (.ofNat w),.int .i64 (.ofNat v),xv] 3 true)]).length=H.length+1:=by simp
  rw[e2,←ehA]
  refine fP (bD gA) (o:=0) (k:=2) (ds:=[.int .i64 (.ofNat w),.int .i64 (.ofNat v)]) (by simp) rfl ?_
  simp(disch:=omega)only[↓qXX]
  refine aq (walkF_c hA _ _ _ _) ?_
  simp(disch:=omega)only[↓qXX]
  obtain⟨hB,ehB⟩ : ∃hB,hB=hA++[HO.o (.cells [.int .i64 (.ofNat w),.int .i64 (.ofNat v)] 2 true),HO.o (.cells [.int .i64 (.ofNat x),.int .i64 (.ofNat y)] 2 true)]:=⟨_,rfl⟩
  rw[←ehB]
  have lB:hB.length=H.length+4:=by rw[ehB];simp;omega
  have pB:Pre hA hB:=⟨_,ehB⟩
  have gs:hB[hA.length]? = some (.o (.cells [.int .i64 (.ofNat w),.int .i64 (.ofNat v)] 2 true)):=by rw[ehB];simp
  have ga:hB[hA.length+1]? = some (.o (.cells [.int .i64 (.ofNat x),.int .i64 (.ofNat y)] 2 true)):=by rw[ehB];simp
  obtain⟨hC,ehC⟩ : ∃hC,hC=hB++[HO.lp 112 .ready none [.pointer (some ⟨H.length,0,none⟩),.pointer (some ⟨H.length+1,0,none⟩)]]:=⟨_,rfl⟩
  have pC:Pre hB hC:=⟨_,ehC⟩
  have lC:hC.length=H.length+5:=by rw[ehC];simp;omega
  have gl:hC[hB.length]? = some (.lp 112 .ready none [.pointer (some ⟨H.length,0,none⟩),.pointer (some ⟨H.length+1,0,none⟩)]):=by rw[ehC];simp
  have hxC:LsH hC xv 3 encC l:=((hl.pre pA).pre pB).pre pC
  have hxb:∀i,H.length<=i->blk xv≠some i:=λi hi hq=>by
   obtain⟨_,_,⟨rfl,_⟩|⟨id,off,cx,vs,rw',rfl,h2,_⟩⟩:=hl
   ·cases hq
   ·have e:id=i:=qao hq
    have:=bN h2
    omega
  have hF:RF hC (H.length+5) H.length (H.length+1) hB.length w v xv l:=⟨lC,pC.get (pB.get gA),hxC,hxb _ (by omega),hxb _ (by omega),by omega,by omega,by omega,by omega⟩
  have hS:RS hC (H.length+5) H.length (H.length+1) hB.length [] hC:=⟨λ_ _ _ _ h=>h,by omega,⟨_,pC.get (pB.get gB),MkL.nil _ _ _ _,rfl⟩,gl⟩
  obtain⟨h5,c5,s5⟩:=walkR_c hsh hcor hp hF (pC.get ga) (pC.get gs) (by omega) hS
  rw[ehC]at c5
  refine p_rfun (sg:=⟨[lv,lv,lv],[]⟩) (xs:=[.leaf (.v (.func (.yield hB.length) #[] #[])),.leaf (.v (.pointer (some ⟨hA.length+1,0,none⟩))),.leaf (.v (.pointer (some ⟨hA.length,0,none⟩)))]) c5 rfl rfl rfl rfl s5.lp (by simp) ?_
  refine p_pend ?_
  obtain⟨xo,gx,mk,ggx⟩:=s5.out
  have hbl:H.length+1≠hB.length:=by omega
  have gx2:(h5.set hB.length (.lp 112 .exhausted none [.pointer (some ⟨H.length,0,none⟩),.pointer (some ⟨H.length+1,0,none⟩)]))[H.length+1]? = some (.o (.cells [xo] 1 true)):=by rw[qaj (qbL hbl)];exact gx
  refine bi (bD gx2) rfl ?_
  simp(disch:=omega)only[↓qXX]
  refine bc ggx ?_
  simp(disch:=omega)only[↓qXX]
  obtain⟨h6,eh6⟩ : ∃h6,h6=h5.set hB.length (.lp 112 .exhausted none [.pointer (some ⟨H.length,0,none⟩),.pointer (some ⟨H.length+1,0,none⟩)]):=⟨_,rfl⟩
  rw[←eh6]at gx2 ⊢
  have o6:∀(i:Nat) o,i≠hB.length->h5[i]? = some o->h6[i]? = some o:=λi o hi ho=>by rw[eh6,qaj (qbL hi)];exact ho
  have oH:∀(i:Nat) o,H[i]? = some o->h6[i]? = some o:=λi o ho=>by
   have:=bN ho
   exact o6 i o (by omega) (s5.old i o (by omega) (by omega) (pC.get (pB.get (pA.get ho))))
  have hm8:many x<=8:=by unfold many;split<;>omega
  have hrl:=gg l w x y (many x)
  have hrr:=nJ hp.rng w x y (many x)
  obtain⟨m1,m2,⟨rfl,hn⟩|⟨id,hid0,rfl,hg⟩⟩:=mk
  ·have hnil:cX l w x y (many x)=[]:=qa7.1 hn
   refine aq (sort0_c h6) ?_
   simp(disch:=omega)only[↓qXX]
   refine bi (bD gx2) rfl ?_
   simp(disch:=omega)only[↓qXX]
   refine bc rfl ?_
   simp(disch:=omega)only[↓qXX]
   refine aq (clip0_c h6) ?_
   simp(disch:=omega)only[↓qXX]
   exact⟨_,by trivial,pre_of oH,by rw[hnil];exact LsH.nil _ _ _,by rw[hnil];rfl⟩
  ·have hg6:=o6 id _ (by omega) hg
   have hs:=sort_c (h:=h6) (cx:=0) (bN hg6) hrr (by omega)
   rw[putE_self hg6]at hs
   refine aq hs ?_
   simp(disch:=omega)only[↓qXX]
   have gx7:(putE h6 id 2 encR (eY (cX l w x y (many x))))[H.length+1]? = some (.o (.cells [.slice (some ⟨id,0,tag 2⟩) (cX l w x y (many x)).length 0] 1 true)):=by
    unfold putE
    rw[qaj (by omega)];exact gx2
   refine bi (bD gx7) rfl ?_
   simp(disch:=omega)only[↓qXX]
   refine bc ggx ?_
   simp(disch:=omega)only[↓qXX]
   refine aq (clip_c _) ?_
   simp(disch:=omega)only[↓qXX]
   refine⟨_,by trivial,pre_of λi o ho=>?_,?_,by rw[mo];rfl⟩
   ·unfold putE
    have:=bN ho
    rw[qaj (by omega)];exact oH i o ho
   ·rw[←mo]
    exact fQ eN (bN hg6))
 obtain⟨G,rfl⟩:=hpre
 rw[e1]at h1
 exact⟨G,rx,h1,hrx,hcap⟩
end Go.Am

/-
 DEGREE,ANGLES,STRAIGHT: told of the list of rays.
-/
set_option maxRecDepth 100000
set_option maxHeartbeats 4000000
namespace Go.Am
open Sx Go.Proofs
def rysC(l:List Crs)(w x y:Nat):List Ray:=eY (cX l w x y (many x))
def okR(R:List Ray):Prop:=∀r∈R,0<=r.1/\r.1<8/\0<=r.2/\r.2<=255
end Go.Am

/-
 WHAT RUNS OVER AN EMPTY HEAP TELL,II: plain answers,whatever is left behind.
-/
set_option maxRecDepth 100000
set_option maxHeartbeats 4000000
namespace Go.Am
open Sx Go.Proofs
theorem plainR{l:List Lf}{σ:Nat->Nat}(hl:l.all (λl=>match l with | .v _=>false|_=>true)=true):l.map (renL σ)=l:=by
 induction l with
 |nil=>rfl
 |cons a l ih=>
  simp only[qbv,qaa]at hl
  rw[qat,ih hl.2]
  cases a<;>first|rfl|(simp at hl)
def isYes(x:RT):Bool:=match x with
 |some []=>true
 |_=>false
theorem isYes_ok{x:RT}(h:isYes x=true):x=yes:=by
 unfold isYes at h
 split at h
 ·rfl
 ·cases h
end Go.Am

/-
 THE ENDS OF UNITS,and the spokes of corners: tables by the kernel.
-/
set_option maxRecDepth 100000
namespace Go.Am
open Sx Go.Proofs
def spkJ(x d:Nat):Option Nat:=if x%2=1 then(if d%2=1 then some ((d+5) / 2%4)else none)else some ((d+7)%8)
def eqP(a b:Nat×Nat):Bool:=Nat.beq a.1 b.1&&Nat.beq a.2 b.2
theorem eqP_iff{a b:Nat×Nat}:eqP a b=true↔a=b:=by
 unfold eqP
 rw[qaa,qcH,qcH,Prod.ext_iff]
end Go.Am

/-
 THE RAYS AT A CORNER,by their directions: both ways of looking for them tell the same (plain lists).
-/
set_option maxRecDepth 100000
set_option maxHeartbeats 4000000
namespace Go.Am
open Sx Go.Proofs
def dirR(l:List Crs)(w x y d:Nat):List Ray:=match spkJ x d with
 |some j=>gS l d (mB w x y j) (dt x j)
 |none=>[]
def refR(l:List Crs)(w x y:Nat):List Ray:=(List.range 8).flatMap (dirR l w x y)
theorem ot{l:List Crs}{w x y d:Nat}{r:Ray}(h:r∈dirR l w x y d):r.1=Int.ofNat d:=by
 unfold dirR at h
 split at h
 ·unfold gS at h
  split at h
  ·cases h
  ·rw[qay]at h;subst h;rfl
 ·cases h
theorem ov{l:List Crs}{w x y d:Nat}:(dirR l w x y d).length<=1:=by
 unfold dirR
 split
 ·exact qZ _ _ _ _
 ·simp
theorem pair1{l:List Ray}(h:l.length<=1):l.Pairwise λa b=>a.1<b.1:=by
 rcases l with _|⟨a,_|⟨b,l⟩⟩
 ·exact .nil
 ·exact qcX _ _
 ·simp at h
theorem qg{l:List Crs}{w x y:Nat}:∀ {ds:List Nat},(ds.Pairwise λa b=>a<b)->(ds.flatMap (dirR l w x y)).Pairwise λa b=>a.1<b.1
 | [],_=>.nil
 |d :: ds,h=>by
  obtain⟨h1,h2⟩:=qbl.1 h
  rw[qbt,qcG]
  refine⟨pair1 ov,qg h2,λa ha b hb=>?_⟩
  obtain⟨d',hd',hb⟩:=qbr.1 hb
  rw[ot ha,ot hb]
  have:=h1 d' hd'
  show(d:Int)<d'
  omega
theorem tq{e:Ray}:∀ {P:List Ray},(∀p∈P,e.1<p.1)->insR e P=P++[e]
 | [],_=>rfl
 |p :: P,h=>by
  unfold insR
  rw[if_pos (h p qaE),tq λq hq=>h q (qas _ hq)]
  rfl
theorem insR_head{e:Ray}{P:List Ray}(h:∀p∈P,p.1<e.1):insR e P=e :: P:=by
 cases P with
 |nil=>rfl
 |cons p P=>
  have:=h p qaE
  unfold insR
  rw[if_neg (by omega)]
theorem rt:∀ {A P:List Ray},(A.Pairwise λa b=>a.1<b.1)->(∀a∈A,∀p∈P,p.1<a.1)->iF A P=A.reverse++P
 | [],P,_,_=>rfl
 |a :: A,P,h,hp=>by
  obtain⟨h1,h2⟩:=qbl.1 h
  show iF A (insR a P)=_
  rw[insR_head (hp a qaE),rt h2 (λb hb p hq=>by
   rcases qap.1 hq with rfl|hq
   ·exact h1 b hb
   ·exact hp b (qas _ hb) p hq)]
  simp
theorem rq:∀(A B P:List Ray),iF (A++B) P=iF B (iF A P)
 | [],_,_=>rfl
 |a :: A,B,P=>by
  show iF (A++B) (insR a P)=_
  rw[rq A B];rfl
theorem ry{A B:List Ray}(h:(B++A).Pairwise λa b=>a.1<b.1)(hB:B.length<=1):eY (A++B)=B++A:=by
 obtain⟨h1,h2,h3⟩:=qcG.1 h
 unfold eY
 rw[rq,rt h2 (λa _ p hp=>by cases hp),qaI]
 rcases B with _|⟨b,_|⟨b',B⟩⟩
 ·show A.reverse.reverse=_
  simp
 ·show(insR b A.reverse).reverse=_
  rw[tq λp hp=>h3 b qaE p (List.mem_reverse.1 hp)]
  simp
 ·simp at hB
theorem rays_odd{l:List Crs}{w x y:Nat}(h:x%2=1):cX l w x y (many x)=dirR l w x y 3++dirR l w x y 5++dirR l w x y 7++dirR l w x y 1:=by
 have e:many x=4:=if_pos h
 rw[e]
 simp[cX,dirR,spkJ,h,oq]
theorem rays_even{l:List Crs}{w x y:Nat}(h:¬x%2=1):cX l w x y (many x)=dirR l w x y 1++dirR l w x y 2++dirR l w x y 3++dirR l w x y 4++dirR l w x y 5++dirR l w x y 6++dirR l w x y 7++dirR l w x y 0:=by
 have e:many x=8:=if_neg h
 rw[e]
 simp[cX,dirR,spkJ,h,oq]
theorem refR_pair(l:List Crs)(w x y:Nat):(refR l w x y).Pairwise λa b=>a.1<b.1:=qg qbU
theorem so(l:List Crs)(w x y:Nat):rysC l w x y=refR l w x y:=by
 have hp:=refR_pair l w x y
 have hr:refR l w x y=dirR l w x y 0++(dirR l w x y 1++(dirR l w x y 2++(dirR l w x y 3++(dirR l w x y 4++(dirR l w x y 5++(dirR l w x y 6++dirR l w x y 7)))))):=by
  unfold refR
  show List.flatMap _ [0,1,2,3,4,5,6,7]=_
  simp
 rw[hr]at hp ⊢
 unfold rysC
 by_cases h:x%2=1
 ·rw[rays_odd h]
  have z:∀d,d%2=0->dirR l w x y d=[]:=λd hd=>by simp[dirR,spkJ,h,hd]
  rw[z 0 rfl,z 2 rfl,z 4 rfl,z 6 rfl]at hp ⊢
  simp only[qbg]at hp ⊢
  have:=ry (A:=dirR l w x y 3++(dirR l w x y 5++dirR l w x y 7)) (B:=dirR l w x y 1) hp ov
  simpa[qaA]using this
 ·rw[rays_even h]
  have:=ry (A:=dirR l w x y 1++(dirR l w x y 2++(dirR l w x y 3++(dirR l w x y 4++(dirR l w x y 5++(dirR l w x y 6++dirR l w x y 7)))))) (B:=dirR l w x y 0) hp ov
  simpa[qaA]using this
theorem refR_len(l:List Crs)(w x y:Nat):(refR l w x y).length<=8:=by
 rw[←so]
 unfold rysC
 rw[mo]
 have:=gg l w x y (many x)
 have hm:many x<=8:=by unfold many;split<;>omega
 omega
theorem refR_ok{l:List Crs}(hr:∀c∈l,rngC c)(w x y:Nat):okR (refR l w x y):=by
 intro r hm
 obtain⟨d,hd,hm⟩:=qbr.1 hm
 rw[qak]at hd
 have e:=ot hm
 have h2:0<=r.2/\r.2<=255:=by
  unfold dirR at hm
  split at hm
  ·unfold gS at hm
   split at hm
   ·cases hm
   ·rw[qay]at hm
    subst hm
    exact qF hr _ _
  ·cases hm
 rw[e]
 simp only[qab]
 omega
end Go.Am

/-
 THE CORNERS OF A SHEET,as a list;the sum of the angles.
-/
set_option maxRecDepth 100000
set_option maxHeartbeats 4000000
namespace Go.Am
open Sx Go.Proofs
def encP(p:Nat×Nat):List Value:=[.int .i64 (.ofNat p.1),.int .i64 (.ofNat p.2)]
theorem encP_len(p:Nat×Nat):(encP p).length=2:=rfl
def corL(w v:Nat):List (Nat×Nat):=(List.range (2*v)).flatMap λy=>(List.range (2*w)).filterMap λx=>if ey w v x y then some (x,y)else none
theorem corL_mem{w v:Nat}{p:Nat×Nat}(h:p∈corL w v):ey w v p.1 p.2=true:=by
 unfold corL at h
 obtain⟨y,_,h⟩:=qbr.1 h
 obtain⟨x,_,h⟩:=qbm.1 h
 split at h
 ·cases h;assumption
 ·cases h
def uj(w v:Nat):Bool:=isYes (runF 60 (.f 6) [.i (.ofNat w),.i (.ofNat v)] .empty (λrs h=>match rs with
   | .v x :: r=>ans (eqLs r [.i 0]&&isSl h x 2 (corL w v).length ((corL w v).flatMap encP))
   |_=>none))&&(Nat.blt 0 (corL w v).length&&Nat.ble (corL w v).length 100)
theorem cor_all:∀w v:Nat,1<=w->w<=4->1<=v->v<=4->uj w v=true:=by
 have key:((List.range 4).all λw=>(List.range 4).all λv=>uj (w+1) (v+1))=true:=by kernel_rfl
 intro w v h1 h2 h3 h4
 have h5:=qac.1 key (w - 1) (qak.2 (by omega))
 have h6:=qac.1 h5 (v - 1) (qak.2 (by omega))
 have e1:w - 1+1=w:=by omega
 have e2:v - 1+1=v:=by omega
 rw[e1,e2]at h6
 exact h6
theorem cor_len{w v:Nat}(hsh:1<=w/\w<=4/\1<=v/\v<=4):0<(corL w v).length/\(corL w v).length<=100:=by
 have h:=cor_all w v hsh.1 hsh.2.1 hsh.2.2.1 hsh.2.2.2
 unfold uj at h
 rw[qaa,qaa,qaF,qa4]at h
 exact h.2
theorem all_c{w v:Nat}(hsh:1<=w/\w<=4/\1<=v/\v<=4)(H:HL):∃ax G,aI cc ac 6 [.i (.ofNat w),.i (.ofNat v)] (absH ae H) [.v ax,.i 0] (absH ae (H++G))/\LsH (H++G) ax 2 encP (corL w v):=by
 have h:=cor_all w v hsh.1 hsh.2.1 hsh.2.2.1 hsh.2.2.2
 unfold uj at h
 rw[qaa]at h
 obtain⟨s,G,c1,c2⟩:=made (g:=6) (rest:=[.i 0]) rfl (by kernel_rfl) rfl rfl (isYes_ok h.1) H
 exact⟨s,G,c1,λu _=>encP_len u,c2⟩
end Go.Am

/-
 LISTS THAT ARE FILLED,II: a part of an element is written;a list is copied.
-/
namespace Go.Am
namespace Sx
section
variable [Val] [Kno]
variable {C:Cfg} {Sg:FuncId->Option Sig} {T:Nat->Site} {α:Type}
theorem set_selfE{l:List α}{i:Nat}{a:α}(h:l[i]? = some a):l.set i a=l:=by
 apply qaP
 intro k
 by_cases hk:i=k
 ·subst hk
  rw[qaD (bN h),h]
 ·rw[qaj hk]
theorem r_setfN{h:HL}{e cx len:Nat}{enc:α->List Value}(henc:∀a,(enc a).length=e){l:List α}{i o:Nat}{a a':α}{n:Int}{new:List Value}{K:List Value->HL->Prop}(hn:n=Int.ofNat i)(hi:l[i]? = some a)(hlen:l.length=len)(ho:o+new.length<=e)
  (hnew:enc a'=(enc a).take o++new++(enc a).drop (o+new.length)) (hk:K [] (newE h e enc (l.set i a'))) :
  (PH C Sg T).opt (idS e (.slice (some ⟨h.length,0,tag e⟩) len cx) n) (@hid _ ⟨λx=>(PH C Sg T).opt (fdP o x) (@hid _ ⟨λy=>(PH C Sg T).chk y (@hid _ ⟨(PH C Sg T).heap (.st y new) (newE h e enc l) (@hid _ ⟨K⟩)⟩)⟩)⟩):=by
 subst hn hlen
 have hlt:=bN hi
 have hx:idS e (.slice (some ⟨h.length,0,tag e⟩) l.length cx) (Int.ofNat i)=some (.pointer (some ⟨h.length,i*e,none⟩)):=by
  rw[tn]
  have hh:0<=Int.ofNat i/\Int.ofNat i<(l.length:Int):=⟨qaR i,by show(i:Int)<l.length;omega⟩
  simp only[if_pos hh]
  have:¬(tag e=some 1):=by simp[tag]
  simp only[if_neg this,qaW]
  rfl
 refine aE hx ?_
 refine aE (x:=.pointer (some ⟨h.length,i*e+o,none⟩)) rfl ?_
 refine bc (by simp[bg,noLoc,bj,cw,bS,bd,aH]) ?_
 have hl:=dc (e:=e) (enc:=enc) (l:=l) λa _=>henc a
 have hle:i*e+e<=l.length*e:=by
  have:=qa6 e (show i+1<=l.length by omega)
  rw[qbf,qb2]at this;exact this
 have e1:=eP henc (l:=l) (i:=i) a hlt
 rw[set_selfE hi]at e1
 have e2:=eP henc (l:=l) (i:=i) a' hlt
 have hA:((l.flatMap enc).take (i*e)).length=i*e:=by rw[qaT];omega
 have hB:=henc a
 have key:(l.flatMap enc).take (i*e+o)++new++(l.flatMap enc).drop (i*e+o+new.length)=(l.set i a').flatMap enc:=by
  rw[←e2,hnew]
  have t1:(l.flatMap enc).take (i*e+o)=(l.flatMap enc).take (i*e)++(enc a).take o:=by
   conv=>lhs;rw[←e1,qaA]
   rw[qcD,qaU (by omega),hA,show i*e+o - i*e=o by omega,qcD,show o - (enc a).length=0 by omega,qcx,qaI]
  have t2:(l.flatMap enc).drop (i*e+o+new.length)=(enc a).drop (o+new.length)++(l.flatMap enc).drop (i*e+e):=by
   conv=>lhs;rw[←e1,qaA]
   rw[qb3,qbT (by omega),qbg,hA,show i*e+o+new.length - i*e=o+new.length by omega,qb3,show o+new.length - (enc a).length=0 by omega,qbC]
  rw[t1,t2]
  simp only[qaA]
 have hg:(newE h e enc l)[h.length]? = some (.o (.cells (l.flatMap enc) e true)):=by simp[newE]
 have hrun:(Hp.st (.pointer (some ⟨h.length,i*e+o,none⟩)) new).run (getH T (newE h e enc l)) (newE h e enc l).length=some ([.set h.length (.cells ((l.set i a').flatMap enc) e true)],[]):=by
  show stP (.pointer (some ⟨h.length,i*e+o,none⟩)) new (getH T (newE h e enc l)) (newE h e enc l).length=_
  unfold stP
  simp only
  rw[dx hg]
  simp only
  unfold splice
  rw[hl,if_pos (by omega),key]
  rfl
 refine cW hrun ?_
 have:bk (newE h e enc l) [.set h.length (.cells ((l.set i a').flatMap enc) e true)]=newE h e enc (l.set i a'):=by
  show(newE h e enc l).set h.length _=_
  unfold newE
  simp
 rw[this]
 exact hk
theorem r_copyN{h:HL}{e cx:Nat}{enc:α->List Value}(henc:∀a,(enc a).length=e){l l0:List α}{v:Value}{K:List Value->HL->Prop}(hl:LsH (newE h e enc l0) v e enc l)(hlen:l0.length=l.length)(hk:K [.int .i64 (Int.ofNat l.length)] (newE h e enc l)) :
  (PH C Sg T).heap (.fn (cpG C e (.slice (some ⟨h.length,0,tag e⟩) l.length cx) v)) (newE h e enc l0) (@hid _ ⟨K⟩):=by
 have h1:=dc (e:=e) (enc:=enc) (l:=l) λa _=>henc a
 have h0:=dc (e:=e) (enc:=enc) (l:=l0) λa _=>henc a
 have hg:(newE h e enc l0)[h.length]? = some (.o (.cells (l0.flatMap enc) e true)):=by simp[newE]
 have hrun:(Hp.fn (cpG C e (.slice (some ⟨h.length,0,tag e⟩) l.length cx) v)).run (getH T (newE h e enc l0)) (newE h e enc l0).length=some ([.set h.length (.cells (l.flatMap enc) e true)],[.int .i64 (Int.ofNat l.length)]):=by
  show cpG C e (.slice (some ⟨h.length,0,tag e⟩) l.length cx) v (getH T (newE h e enc l0)) (newE h e enc l0).length=_
  unfold cpG
  simp only
  rw[slG_sl hl.2,dx hg]
  simp only[ne_eq,not_true_eq_false,if_false]
  unfold splice
  rw[show Nat.min l.length l.length=l.length from Nat.min_self _,qaU (by rw[h1];exact qal _),if_pos (by rw[h0,h1,hlen];omega)]
  rw[qcx,qbg,qbT (by rw[h0,h1,hlen];omega),qaI]
  rfl
 refine cW hrun ?_
 have:bk (newE h e enc l0) [.set h.length (.cells (l.flatMap enc) e true)]=newE h e enc l:=by
  show(newE h e enc l0).set h.length _=_
  unfold newE
  simp
 rw[this]
 exact hk
end
end Sx
end Go.Am

/-
 PATTERNS FROM THE BACK: Opposite and Turned,told of lists.
-/
set_option maxRecDepth 100000
set_option maxHeartbeats 8000000
namespace Go.Am
open Sx Go.Proofs
def oth(k:Int):Int:=if k=1 then 2 else if k=2 then 1 else k
def oppC(c:Crs):Crs:=(c.1,c.2.1,oth c.2.2)
structure PatF(w v:Nat)(l:List Crs):Prop where
 pat:Pat w v l
 pair:l.Pairwise λa b=>ltC a b=true
 kd:∀c∈l,1<=c.2.2/\c.2.2<=3
 un:∀c∈l,∃u e:Nat,(u,e)∈bf w v/\c.1 = .ofNat u/\c.2.1 = .ofNat e
 len:l.length<=128
theorem units_len{w v:Nat}(hsh:1<=w/\w<=4/\1<=v/\v<=4):(bf w v).length<=128:=by
 have key:((List.range 4).all λw=>(List.range 4).all λv=>Nat.ble (bf (w+1) (v+1)).length 128)=true:=by kernel_rfl
 have h5:=qac.1 key (w - 1) (qak.2 (by omega))
 have h6:=qac.1 h5 (v - 1) (qak.2 (by omega))
 rw[show w - 1+1=w by omega,show v - 1+1=v by omega]at h6
 exact qcz h6
theorem patF_of{w v:Nat}(hsh:1<=w/\w<=4/\1<=v/\v<=4){ks:List Int}(hk:∀k∈ks,0<=k/\k<4):PatF w v (patL (bf w v) ks) where
 pat:=pat_of hsh.1 (by omega) hsh.2.2.1 (by omega) hk
 pair:=lW (kK (js (jM w v hsh.1 (by omega) hsh.2.2.1 (by omega))).2.2.2.1)
 kd:=λc hc=>by
  obtain⟨u,k,_,h1,h,rfl⟩:=kF hc
  have:=hk k h1
  simp only
  omega
 un:=λc hc=>by
  obtain⟨u,k,h,_,_,rfl⟩:=kF hc
  exact⟨u.1,u.2,h,rfl,rfl⟩
 len:=by
  refine qbP (qco _ _) ?_
  rw[qc0]
  have:=units_len hsh
  omega
theorem kin_ok(N:Nat)(ks:List Int):∀k∈kinL N ks,0<=k/\k<4:=λ_ h=>kinL_rng h
theorem pick_oth{k:Int}(h:1<=k/\k<=3):se gl0 0 [(k,1)] 1=some [.int .u8 (oth k)]:=by
 have:k=1∨k=2∨k=3:=by omega
 rcases this with rfl|rfl|rfl<;>rfl
theorem opp_c{w v:Nat}{l:List Crs}(hF:PatF w v l){H:HL}{xv:Value}(hl:LsH H xv 3 encC l) :
  aI cc ac 12 [.i (.ofNat w),.i (.ofNat v),.v xv] (absH ae H) [.i (.ofNat w),.i (.ofNat v),.v (slV H.length l.length (l.length+1)),.i 0] (absH ae (newE H 3 encC (l.map oppC))):=by
 have hlen:=hF.len
 obtain⟨rs,h',h1,rfl,rfl⟩:=x12 (ls:=[.i (.ofNat w),.i (.ofNat v),.v xv]) (K:=λrs h'=>rs=[.i (.ofNat w),.i (.ofNat v),.v (slV H.length l.length (l.length+1)),.i 0]/\h'=newE H 3 encC (l.map oppC)) (H:=H) (glsI (glsI (glsV hl.good gls0))) (by
  unfold f12;simp only[qxh]
  simp(disch:=omega)only[↓qXX]
  refine aq (hF.pat.check hl) ?_
  simp(disch:=omega)only[↓qXX]
  refine gu hl ?_
  refine aE (tE (by omega)) ?_
  simp(disch:=omega)only[↓qXX]
  show P1.heap _ (H++[HO.o (.cells (ba _ l.length) 3 true)]) _
  rw[qQ (v:=[.int .i64 0,.int .u8 0,.int .u8 0]) (enc:=encC) (z:=(0,0,0)) rfl]
  refine r_copyN aA (hl.pre (kA _ _ _ _)) (by rw[qcA]) ?_
  simp(disch:=omega)only[↓qXX]
  refine aE (x:=Int.ofNat l.length) rfl ?_
  have hdone:∀j,j<=l.length->((l.take j).map oppC++l.drop j).length=l.length:=λj hj=>by
   rw[qaB,qa0,qaT,qbE];omega
  refine fM l.length (λj (_:Unit)=>[.i (Int.ofNat j)]) (λj _=>newE H 3 encC ((l.take j).map oppC++l.drop j)) (λ_ _=>True) (j0:=0) (s0:=()) rfl (by simp) (qbo _) trivial ?_
  intro j _ hj _ self hself
  simp(disch:=omega)only[↓qXX]
  by_cases hlt:j<l.length
  ·rw[bp hlt]
   simp(disch:=omega)only[↓qXX]
   obtain⟨c,hc⟩:=aQ hlt
   have hget:((l.take j).map oppC++l.drop j)[j]? = some c:=by
    rw[qan (by rw[qa0,qaT];omega),qa0,qaT,qcs (by omega),qbn,qaO,qcn]
    exact hc
   have hkd:=hF.kd c (qad hc)
   refine uX (o:=2) (k:=1) (cs:=[.int .u8 c.2.2]) (rW (cx:=l.length+1) aA (hdone j (by omega)).symm) rfl hget rfl (by omega) ?_
   simp(disch:=omega)only[↓qXX]
   refine aE (pick_oth hkd) ?_
   simp(disch:=omega)only[↓qXX]
   refine r_setfN aA (a:=c) (a':=oppC c) (o:=2) rfl hget (hdone j (by omega)) (by simp) (by simp[encC,oppC]) ?_
   rw[ch (by omega)]
   have hset:((l.take j).map oppC++l.drop j).set j (oppC c)=(l.take (j+1)).map oppC++l.drop (j+1):=by
    have hl1:((l.take j).map oppC).length=j:=by rw[qa0,qaT];omega
    rw[qbA _ _ (by omega),hl1,qbn,qby hlt,qb5,qcw,hc,qbH]
    simp
   rw[hset]
   exact hself () hlt trivial
  ·obtain rfl:j=l.length:=by omega
   rw[bC (qal _)]
   simp(disch:=omega)only[↓qXX]
   refine aE (x:=()) rfl ?_
   exact⟨by trivial,by rw[qcZ,List.drop_length,qaI]⟩)
 exact h1
def mirQ(q:Nat):Nat:=[0,3,2,1].getD q 0
def mirE(e:Nat):Nat:=[0,2,1].getD e 0
def mirI(w u:Nat):Nat:=4*(u / 4 / w*w+(w - 1 - u / 4%w))+mirQ (u%4)
def mirU(w v:Nat)(u:Nat×Nat):Nat×Nat:=match nbr w v (mirI w u.1) (mirE u.2)with
 |some n=>(min (mirI w u.1) n,mirE u.2)
 |none=>(0,0)
def memU(w v:Nat)(u:Nat×Nat):Bool:=Nat.blt u.1 (4*w*v)&&(Nat.blt u.2 3&&(match nbr w v u.1 u.2 with
 |some n=>Nat.blt u.1 n
 |none=>false))
def mirT(w v:Nat)(u:Nat×Nat):Bool:=
 told 14 [.i (.ofNat w),.i (.ofNat v),.i (.ofNat w - 1 - .ofNat (u.1 / 4%w)),.i (.ofNat (u.1 / 4 / w)),.i (.ofNat (mirQ (u.1%4)))] [.i (.ofNat (mirI w u.1)),.i 0] &&
 (told 15 [.i (.ofNat w),.i (.ofNat v),.i (.ofNat (mirI w u.1)),.i (.ofNat (mirE u.2))] [.i (.ofNat (mirU w v u).1),.i (.ofNat (mirU w v u).2),.i 0] &&
 (memU w v (mirU w v u)&&eqP (mirU w v (mirU w v u)) u))
def mirAll(w v:Nat):Bool:=(bf w v).all (mirT w v)
theorem mir_all:∀w v:Nat,1<=w->w<=4->1<=v->v<=4->mirAll w v=true:=by
 have key:((List.range 4).all λw=>(List.range 4).all λv=>mirAll (w+1) (v+1))=true:=by kernel_rfl
 intro w v h1 h2 h3 h4
 have h5:=qac.1 key (w - 1) (qak.2 (by omega))
 have h6:=qac.1 h5 (v - 1) (qak.2 (by omega))
 rw[show w - 1+1=w by omega,show v - 1+1=v by omega]at h6
 exact h6
structure Mir(w v:Nat)(u:Nat×Nat):Prop where
 id:Cc 14 [.i (.ofNat w),.i (.ofNat v),.i (.ofNat w - 1 - .ofNat (u.1 / 4%w)),.i (.ofNat (u.1 / 4 / w)),.i (.ofNat (mirQ (u.1%4)))] [.i (.ofNat (mirI w u.1)),.i 0]
 nm:Cc 15 [.i (.ofNat w),.i (.ofNat v),.i (.ofNat (mirI w u.1)),.i (.ofNat (mirE u.2))] [.i (.ofNat (mirU w v u).1),.i (.ofNat (mirU w v u).2),.i 0]
 mem:mirU w v u∈bf w v
 inv:mirU w v (mirU w v u)=u
theorem ir{w v:Nat}(hsh:1<=w/\w<=4/\1<=v/\v<=4){u:Nat×Nat}(hu:u∈bf w v):Mir w v u:=by
 have h:=qac.1 (mir_all w v hsh.1 hsh.2.1 hsh.2.2.1 hsh.2.2.2) u hu
 unfold mirT at h
 simp only[qaa]at h
 obtain⟨h1,h2,h3,h4⟩:=h
 refine⟨fi h1 rfl (by kernel_rfl) (by rfl),fi h2 rfl (by kernel_rfl) rfl,?_,eqP_iff.1 h4⟩
 unfold memU at h3
 simp only[qaa,qaF]at h3
 obtain⟨g1,g2,g3⟩:=h3
 refine eG.2 ⟨g1,g2,?_⟩
 split at g3
 ·rename_i n hn
  exact⟨n,hn,by rw[qaF]at g3;exact g3⟩
 ·cases g3
def mirC(w v:Nat)(c:Crs):Crs:=(.ofNat (mirU w v (c.1.toNat,c.2.1.toNat)).1,.ofNat (mirU w v (c.1.toNat,c.2.1.toNat)).2,c.2.2)
theorem fO{w v:Nat}{c:Crs}{u e:Nat}(e1:c.1 = .ofNat u)(e2:c.2.1 = .ofNat e):mirC w v (oppC c)=(.ofNat (mirU w v (u,e)).1,.ofNat (mirU w v (u,e)).2,oth c.2.2):=by
 unfold mirC oppC
 rw[e1,e2];rfl
def keyC(c:Crs):Int:=c.1*256+c.2.1
abbrev cloT:Value:=.func (.func 17) ⟨[]⟩ ⟨[]⟩
theorem cmpT_c{a b:Crs}(ha:rngC a)(hb:rngC b):∃d:Int,Cc 17 [.i a.1,.i a.2.1,.i a.2.2,.i b.1,.i b.2.1,.i b.2.2] [.i d]/\(d<0↔keyC a<keyC b):=by
 unfold rngC at ha hb
 obtain⟨d,hd,h1,h2⟩:=order_u (c:=a) (a:=b.1) (b:=b.2.1) (by omega)
 refine⟨d,?_,by rw[h1,gN];unfold keyC;omega⟩
 refine q17 rfl ?_;unfold f17;simp only[qxh]
 simp(disch:=omega)only[↓qXX]
 refine aT (nT a) ?_
 simp(disch:=omega)only[↓qXX]
 refine aT (nT b) ?_
 simp(disch:=omega)only[↓qXX]
 refine aT hd ?_
 simp(disch:=omega)only[↓qXX]
theorem cmpT:CmpK cloT rngC keyC:=⟨rfl,λx y hx hy=>by
 obtain⟨d,hd,hk⟩:=cmpT_c hx hy
 exact⟨d,λH=>hQ (hd H) rfl [.agg [.i .i64 x.1,.i .u8 x.2.1,.i .u8 x.2.2],.agg [.i .i64 y.1,.i .u8 y.2.1,.i .u8 y.2.2]] rfl rfl,hk⟩⟩
def lenT2:Bool:=(List.range 129).all λn=>rR [.i (.ofNat (lenB n))] (runF 60 (.f 40) [.i (.ofNat n)] .empty tell)&&Nat.ble (lenB n) 8
theorem len2_all:lenT2=true:=by kernel_rfl
theorem len2_c{n:Nat}(h:n<=128):Cc 40 [.i (.ofNat n)] [.i (.ofNat (lenB n))]/\lenB n<=8:=by
 have h1:=qac.1 len2_all n (qak.2 (by omega))
 rw[qaa,qa4]at h1
 exact⟨dQ (n:=60) rfl (by kernel_rfl) rfl h1.1,h1.2⟩
theorem sortC_c{cv:Value}{ok:Crs->Prop}{key:Crs->Int}(hc:CmpK cv ok key){id cx len:Nat}(hL:len<=128){h:HL}(hlt:id<h.length){l:List Crs}(hn:l.length=len)(hok:∀x∈l,ok x)(hdk:DK key l) :
  ∃(l':List Crs) (G:HL),SP 0 len l l'/\SS key 0 len l'/\aI cc ac 16 [.v (slV id len cx),.v cv] (absH ae (putE h id 3 encC l)) [] (absH ae (putE (h++G) id 3 encC l')):=by
 obtain⟨b1,b2⟩:=len2_c hL
 obtain⟨l',G,s1,s2,c1⟩:=pdqC_c hc (cx:=cx) hL len hlt (a:=0) (b:=len) (lim:=lenB len) (by omega) (qbo _) (qal _) (by omega) hn hok (.inl rfl) hdk
 obtain⟨rs,h',h1,rfl,rfl⟩:=x16 (ls:=[.v (slV id len cx),.v cv]) (K:=λrs h'=>rs=[]/\h'=putE (h++G) id 3 encC l') (H:=putE h id 3 encC l) (glsV (cj _ _ _) (glsV hc.good gls0)) (by
  unfold f16;simp only[qxh]
  simp(disch:=omega)only[↓qXX]
  refine aE (x:=Int.ofNat len) rfl ?_
  refine lV (by show 0<=(len:Int);omega) (by show(len:Int)<=9223372036854775807;omega) ?_
  refine aT b1 ?_
  simp(disch:=omega)only[↓qXX]
  refine aq c1 ?_
  simp(disch:=omega)only[↓qXX]
  exact⟨by trivial,by trivial⟩)
 exact⟨l',G,s1,s2,h1⟩
theorem mirQ_pick{q:Nat}(h:q<4):eh [(.i 0),(.i 3),(.i 2),(.i 1)] 0 [(Int.ofNat q,1)] 1=some [.i (.ofNat (mirQ q))]:=by
 have:q=0∨q=1∨q=2∨q=3:=by omega
 rcases this with rfl|rfl|rfl|rfl<;>rfl
theorem mirE_pick{e:Nat}(h:e<3):eh [(.i 0),(.i 2),(.i 1)] 0 [(Int.ofNat e,1)] 1=some [.i (.ofNat (mirE e))]:=by
 have:e=0∨e=1∨e=2:=by omega
 rcases this with rfl|rfl|rfl<;>rfl
theorem lF{w v:Nat}(hsh:1<=w/\w<=4/\1<=v/\v<=4){u:Nat×Nat}(hu:u∈bf w v):u.1<64/\u.2<3:=by
 obtain⟨u1,u2⟩:=u
 have h:=eG.1 hu
 have hwv:4*w*v<=64:=by
  have:=qc8 (show 4*w<=16 by omega) hsh.2.2.2
  omega
 exact⟨by omega,h.2.1⟩
theorem turned_c{w v:Nat}(hsh:1<=w/\w<=4/\1<=v/\v<=4){l:List Crs}(hF:PatF w v l){H:HL}{xv:Value}(hl:LsH H xv 3 encC l) :
  ∃(l':List Crs) (G:HL) (tx:Value),SP 0 l.length (l.map λc=>mirC w v (oppC c)) l'/\SS keyC 0 l.length l'/\aI cc ac 5 [.i (.ofNat w),.i (.ofNat v),.v xv] (absH ae H) [.i (.ofNat w),.i (.ofNat v),.v tx,.i 0] (absH ae (H++G))/\LsH (H++G) tx 3 encC l':=by
 have hopp:=opp_c hF hl
 have hlen:=hF.len
 have hml:(l.map λc=>mirC w v (oppC c)).length=l.length:=qa0 _
 have hok:∀x∈(l.map λc=>mirC w v (oppC c)),rngC x:=λx hx=>by
  obtain⟨c,hc,rfl⟩:=qaK.1 hx
  obtain⟨u,e,hm,e1,e2⟩:=hF.un c hc
  have hk:=hF.kd c hc
  have hmr:=(ir hsh hm).mem
  have h1:=lF hsh hmr
  rw[fO e1 e2]
  unfold rngC
  have hoth:0<=oth c.2.2/\oth c.2.2<=255:=by unfold oth;split<;>(try split)<;>omega
  simp only[qab]
  omega
 have hdk:DK keyC (l.map λc=>mirC w v (oppC c)):=by
  unfold DK
  rw[qcl]
  refine qcU.2 ?_
  refine hF.pair.imp_of_mem λ{a b} ha hb hab=>?_
  obtain⟨u,e,hm,e1,e2⟩:=hF.un a ha
  obtain⟨u',e',hm',e1',e2'⟩:=hF.un b hb
  have h1:=ir hsh hm
  have h1':=ir hsh hm'
  have k1:=lF hsh h1.mem
  have k1':=lF hsh h1'.mem
  show keyC (mirC w v (oppC a))≠keyC (mirC w v (oppC b))
  rw[fO e1 e2,fO e1' e2']
  unfold keyC
  simp only[qab]
  intro heq
  have hmm:mirU w v (u,e)=mirU w v (u',e'):=qde (by omega) (by omega)
  have hue:(u,e)=(u',e'):=by rw[←h1.inv,←h1'.inv,hmm]
  cases hue
  simp only[ltC,e1,e2,e1',e2',qaG,qaa,decide_eq_true_eq]at hab
  omega
 have hltD:H.length<(H++[HO.o .dead]).length:=by simp
 obtain⟨l',G,s1,s2,c1⟩:=sortC_c cmpT (cx:=l.length+1) hlen hltD hml hok hdk
 rw[kB]at c1
 obtain⟨rs,h',h1,tx,e1,⟨G',rfl⟩,e2⟩:=x5 (ls:=[.i (.ofNat w),.i (.ofNat v),.v xv]) (K:=λrs h'=>∃tx,rs=[.i (.ofNat w),.i (.ofNat v),.v tx,.i 0]/\Pre H h'/\LsH h' tx 3 encC l') (H:=H) (glsI (glsI (glsV hl.good gls0))) (by
  unfold f5;simp only[qxh]
  simp(disch:=omega)only[↓qXX]
  refine aq hopp ?_
  simp(disch:=omega)only[↓qXX]
  refine aE (x:=Int.ofNat l.length) rfl ?_
  have hdone:∀j,j<=l.length->((l.take j).map (λc=>mirC w v (oppC c))++(l.drop j).map oppC).length=l.length:=λj hj=>by
   rw[qaB,qa0,qaT,qa0,qbE];omega
  refine fM l.length (λj (_:Unit)=>[.i (Int.ofNat j)]) (λj _=>newE H 3 encC ((l.take j).map (λc=>mirC w v (oppC c))++(l.drop j).map oppC)) (λ_ _=>True) (j0:=0) (s0:=()) rfl (by simp) (qbo _) trivial ?_
  intro j _ hj _ self hself
  simp(disch:=omega)only[↓qXX]
  by_cases hlt:j<l.length
  ·rw[bp hlt]
   simp(disch:=omega)only[↓qXX]
   obtain⟨c,hc⟩:=aQ hlt
   have hcm:=qad hc
   obtain⟨u,e,hm,e1,e2⟩:=hF.un c hcm
   have hkey:=lF hsh hm
   have hmr:=ir hsh hm
   have hl1:((l.take j).map λc=>mirC w v (oppC c)).length=j:=by rw[qa0,qaT];omega
   have hget:((l.take j).map (λc=>mirC w v (oppC c))++(l.drop j).map oppC)[j]? = some (oppC c):=by
    rw[qan (by omega),hl1,qbn,qax,qaO,qcn,hc];rfl
   refine aO (rW (cx:=l.length+1) aA (hdone j (by omega)).symm) rfl hget ?_
   rw[show encC (oppC c)=[.int .i64 c.1,.int .u8 c.2.1,.int .u8 (oth c.2.2)]from rfl]
   simp(disch:=omega)only[↓qXX]
   rw[e1,e2]
   refine aT (cellIn (jM w v hsh.1 (by omega) hsh.2.2.1 (by omega)) (eG.1 hm).1) ?_
   unfold cellN
   simp(disch:=omega)only[↓qXX]
   have hb1:u / 4%w<w:=qbW _ (by omega)
   rw[p_sub (by simp only[qab];omega) (by simp only[qab];omega),p_sub (by simp only[qab];omega) (by simp only[qab];omega)]
   have hq4:u%4<4:=qbW _ (by omega)
   rw[p_inB (show 0<=Int.ofNat (u%4)from qaR _) (by show((u%4:Nat):Int)<((4:Nat):Int);omega)]
   refine aE (mirQ_pick hq4) ?_
   simp(disch:=omega)only[↓qXX]
   refine aT hmr.id ?_
   simp(disch:=omega)only[↓qXX]
   rw[p_inB (show 0<=Int.ofNat e from qaR _) (by show(e:Int)<((3:Nat):Int);omega)]
   refine aE (mirE_pick hkey.2) ?_
   simp(disch:=omega)only[↓qXX]
   refine aT hmr.nm ?_
   simp(disch:=omega)only[↓qXX]
   refine r_setN aA (a:=mirC w v (oppC c)) rfl (by rw[hdone j (by omega)];exact hlt) (hdone j (by omega)) (by rw[fO e1 e2];rfl) ?_
   rw[ch (by omega)]
   have hset:((l.take j).map (λc=>mirC w v (oppC c))++(l.drop j).map oppC).set j (mirC w v (oppC c))=(l.take (j+1)).map (λc=>mirC w v (oppC c))++(l.drop (j+1)).map oppC:=by
    rw[qbA _ _ (by omega),hl1,qbn,qby hlt,qat,qb5,qcw,hc,qbH]
    simp
   rw[hset]
   exact hself () hlt trivial
  ·obtain rfl:j=l.length:=by omega
   rw[bC (qal _)]
   simp(disch:=omega)only[↓qXX]
   rw[qcZ,List.drop_length,qa8,qaI]
   refine aq c1 ?_
   simp(disch:=omega)only[↓qXX]
   refine aE (x:=()) rfl ?_
   have hltG:H.length<(H++[HO.o .dead]++G).length:=by simp
   refine⟨_,by trivial,?_,?_⟩
   ·refine⟨(putE (H++[HO.o .dead]++G) H.length 3 encC l').drop H.length,?_⟩
    conv=>lhs;rw[←qbq H.length (putE (H++[HO.o .dead]++G) H.length 3 encC l')]
    congr 1
    unfold putE
    rw[List.take_set_of_le (qal _)]
    simp
   ·have hl':l'.length=l.length:=by rw[s1.len,hml]
    rw[←hl']
    exact fQ aA hltG)
 rw[e1]at h1
 exact⟨l',G',tx,s1,s2,h1,e2⟩
end Go.Am

/-
 RAYS FROM THE BACK (plain lists).
-/
set_option maxRecDepth 100000
set_option maxHeartbeats 8000000
namespace Go.Am
open Sx Go.Proofs
theorem qE{l:List Crs}{c:Crs}(hc:c∈l)(hu:∀d∈l,d.1=c.1->d.2.1=c.2.1->d=c):eg l c.1 c.2.1=c.2.2:=by
 unfold eg
 cases hf:l.find? (eqU c.1 c.2.1)with
 |none=>
  have:=qcR.1 hf c hc
  simp[eqU]at this
 |some d=>
  have h1:=List.find?_some hf
  simp only[eqU,qaa,decide_eq_true_eq]at h1
  rw[hu d (qce hf) h1.1 h1.2]
theorem tw{l:List Crs}{a b:Int}(h:∀c∈l,¬(c.1=a/\c.2.1=b)):eg l a b=0:=by
 unfold eg
 rw[qcR.2 λc hc=>by simpa[eqU]using h c hc]
theorem DK.uniq{l:List Crs}(h:DK keyC l){c d:Crs}(hc:c∈l)(hd:d∈l)(h1:d.1=c.1)(h2:d.2.1=c.2.1):d=c:=by
 obtain⟨i,hi⟩:=qaZ hc
 obtain⟨j,hj⟩:=qaZ hd
 have hk:keyC d=keyC c:=by unfold keyC;rw[h1,h2]
 rcases Nat.lt_trichotomy i j with q|q|q
 ·exact absurd hk.symm (h.ne q hi hj)
 ·subst q
  rw[hi]at hj
  cases hj
  rfl
 ·exact absurd hk (h.ne q hj hi)
theorem pair_DK{l:List Crs}(h:l.Pairwise λa b=>ltC a b=true)(hr:∀c∈l,rngC c):DK keyC l:=by
 unfold DK
 refine qcU.2 (h.imp_of_mem λ{a b} ha hb hab=>?_)
 have:=hr a ha
 have:=hr b hb
 unfold rngC at *
 simp only[ltC,qaG,qaa,decide_eq_true_eq]at hab
 unfold keyC
 omega
structure TurF(w v:Nat)(l l':List Crs):Prop where
 perm:l'.Perm (l.map λc=>mirC w v (oppC c))
 srt:SS keyC 0 l.length l'
section
variable {w v:Nat} (hsh:1<=w/\w<=4/\1<=v/\v<=4) {l l':List Crs} (hF:PatF w v l) (hT:TurF w v l l')
include hsh hF hT
theorem sE{d:Crs}:d∈l'↔∃c∈l,∃u e:Nat,(u,e)∈bf w v/\c.1 = .ofNat u/\c.2.1 = .ofNat e/\d=(.ofNat (mirU w v (u,e)).1,.ofNat (mirU w v (u,e)).2,oth c.2.2):=by
 rw[hT.perm.mem_iff,qaK]
 constructor
 ·rintro⟨c,hc,rfl⟩
  obtain⟨u,e,hm,e1,e2⟩:=hF.un c hc
  exact⟨c,hc,u,e,hm,e1,e2,fO e1 e2⟩
 ·rintro⟨c,hc,u,e,hm,e1,e2,rfl⟩
  exact⟨c,hc,fO e1 e2⟩
theorem tur_DK:DK keyC l':=by
 refine(hT.perm.map keyC).nodup_iff.2 ?_
 rw[qcl]
 refine qcU.2 (hF.pair.imp_of_mem λ{a b} ha hb hab=>?_)
 obtain⟨u,e,hm,e1,e2⟩:=hF.un a ha
 obtain⟨u',e',hm',e1',e2'⟩:=hF.un b hb
 have h1:=ir hsh hm
 have h1':=ir hsh hm'
 have k1:=lF hsh h1.mem
 have k1':=lF hsh h1'.mem
 show keyC (mirC w v (oppC a))≠keyC (mirC w v (oppC b))
 rw[fO e1 e2,fO e1' e2']
 unfold keyC
 simp only[qab]
 intro heq
 have hmm:mirU w v (u,e)=mirU w v (u',e'):=qde (by omega) (by omega)
 have hue:(u,e)=(u',e'):=by rw[←h1.inv,←h1'.inv,hmm]
 cases hue
 simp only[ltC,e1,e2,e1',e2',qaG,qaa,decide_eq_true_eq]at hab
 omega
theorem mw{d:Crs}(hd:d∈l'):rngC d/\isK d=true/\unC (.ofNat w) (.ofNat v) d=true:=by
 obtain⟨c,hc,u,e,hm,e1,e2,rfl⟩:=(sE hsh hF hT).1 hd
 have hk:=hF.kd c hc
 have hmr:=(ir hsh hm).mem
 have h1:=lF hsh hmr
 have hoth:1<=oth c.2.2/\oth c.2.2<=3:=by unfold oth;split<;>(try split)<;>omega
 refine⟨?_,?_,unC_of hmr⟩
 ·unfold rngC
  simp only[qab]
  omega
 ·unfold isK
  simp only[qaa,decide_eq_true_eq]
  exact hoth
theorem tur_pat:Pat w v l':=by
 have hlen:l'.length=l.length:=by rw[hT.perm.length_eq,qa0]
 have hl:=hF.len
 refine⟨by omega,λc hc=>(mw hsh hF hT hc).1,by omega,?_⟩
 unfold chkC
 have a1:l'.all isK=true:=qac.2 λc hc=>(mw hsh hF hT hc).2.1
 have a2:l'.all (unC (.ofNat w) (.ofNat v))=true:=qac.2 λc hc=>(mw hsh hF hT hc).2.2
 have a3:ascC l'=true:=fX.2 λi a b ha hb=>by
  have h1:=hT.srt i (i+1) a b (qbo _) (by omega) (by have:=bN hb;omega) ha hb
  have h2:=(tur_DK hsh hF hT).ne (Nat.lt_succ_self i) ha hb
  have r1:=(mw hsh hF hT (qad ha)).1
  have r2:=(mw hsh hF hT (qad hb)).1
  unfold rngC at r1 r2
  unfold keyC at h1 h2
  simp only[ltC,qaG,qaa,decide_eq_true_eq]
  omega
 rw[a1,a2,a3];rfl
theorem tur_kind{u e:Nat}(hm:(u,e)∈bf w v):eg l' (.ofNat (mirU w v (u,e)).1) (.ofNat (mirU w v (u,e)).2)=oth (eg l (.ofNat u) (.ofNat e)):=by
 by_cases hex:∃c∈l,c.1 = .ofNat u/\c.2.1 = .ofNat e
 ·obtain⟨c,hc,e1,e2⟩:=hex
  have hd:((.ofNat (mirU w v (u,e)).1,.ofNat (mirU w v (u,e)).2,oth c.2.2):Crs)∈l':=(sE hsh hF hT).2 ⟨c,hc,u,e,hm,e1,e2,rfl⟩
  have h1:=qE hd λd hd' q1 q2=>(tur_DK hsh hF hT).uniq hd hd' q1 q2
  have h2:=qE hc λd hd' q1 q2=>(pair_DK hF.pair hF.pat.rng).uniq hc hd' q1 q2
  rw[e1,e2]at h2
  rw[h2]
  exact h1
 ·rw[tw λc hc q=>hex ⟨c,hc,q.1,q.2⟩]
  rw[tw λd hd q=>?_]
  ·rfl
  ·obtain⟨c,hc,u',e',hm',e1,e2,rfl⟩:=(sE hsh hF hT).1 hd
   have q1:=qbO q.1
   have q2:=qbO q.2
   have hmm:mirU w v (u',e')=mirU w v (u,e):=qde q1 q2
   have hue:(u',e')=(u,e):=by rw[←(ir hsh hm').inv,←(ir hsh hm).inv,hmm]
   cases hue
   exact hex ⟨c,hc,e1,e2⟩
end
def mirD(d:Nat):Nat:=(12 - d)%8
def spU(w x y d:Nat):Option (Nat×Nat):=match spkJ x d with
 |some j=>some (mB w x y j,dt x j)
 |none=>none
def spT(w v x y d:Nat):Bool:=match spU w x y d,spU w (2*w - x) y (mirD d)with
 |some s,some s'=>eqP s' (mirU w v s)&&memU w v s
 |none,none=>true
 |_,_=>false
def spAll(w v:Nat):Bool:=(List.range (2*w)).all λx=>(List.range (2*v)).all λy=>!(ey w v x y)||(ey w v (2*w - x) y&&(List.range 8).all λd=>spT w v x y d)
theorem sp_all:∀w v:Nat,1<=w->w<=4->1<=v->v<=4->spAll w v=true:=by
 have key:((List.range 4).all λw=>(List.range 4).all λv=>spAll (w+1) (v+1))=true:=by kernel_rfl
 intro w v h1 h2 h3 h4
 have h5:=qac.1 key (w - 1) (qak.2 (by omega))
 have h6:=qac.1 h5 (v - 1) (qak.2 (by omega))
 rw[show w - 1+1=w by omega,show v - 1+1=v by omega]at h6
 exact h6
theorem sp_of{w v x y:Nat}(hsh:1<=w/\w<=4/\1<=v/\v<=4)(hcor:ey w v x y=true):ey w v (2*w - x) y=true/\∀d,d<8->spT w v x y d=true:=by
 have h:=sp_all w v hsh.1 hsh.2.1 hsh.2.2.1 hsh.2.2.2
 have h3:=hcor
 unfold ey at h3
 simp only[qaa,qaF]at h3
 have h4:=qac.1 (qac.1 h x (qak.2 (by omega))) y (qak.2 (by omega))
 rw[hcor]at h4
 simp only[qaL,qca,qaa]at h4
 exact⟨h4.1,λd hd=>qac.1 h4.2 d (qak.2 hd)⟩
def mirR(r:Ray):Ray:=((12 - r.1)%8,oth r.2)
theorem dirR_sp(l:List Crs)(w x y d:Nat):dirR l w x y d=match spU w x y d with
 |some s=>gS l d s.1 s.2
 |none=>[]:=by
 unfold dirR spU
 cases spkJ x d<;>rfl
section
variable {w v x y:Nat} (hsh:1<=w/\w<=4/\1<=v/\v<=4) (hcor:ey w v x y=true) {l l':List Crs} (hF:PatF w v l) (hT:TurF w v l l')
include hsh hcor hF hT
theorem dir_tur{d:Nat}(hd:d<8):dirR l' w (2*w - x) y (mirD d)=(dirR l w x y d).map mirR:=by
 have h:=(sp_of hsh hcor).2 d hd
 rw[dirR_sp,dirR_sp]
 unfold spT at h
 split at h
 ·rename_i s s' h1 h2
  rw[h1,h2]
  rw[qaa]at h
  have e1:=eqP_iff.1 h.1
  have hm:s∈bf w v:=by
   have h3:=h.2
   unfold memU at h3
   simp only[qaa,qaF]at h3
   obtain⟨g1,g2,g3⟩:=h3
   refine eG.2 ⟨g1,g2,?_⟩
   split at g3
   ·rename_i n hn
    exact⟨n,hn,by rw[qaF]at g3;exact g3⟩
   ·cases g3
  obtain⟨u,e⟩:=s
  have hk:=tur_kind hsh hF hT hm
  rw[e1]
  show gS l' (mirD d) (mirU w v (u,e)).1 (mirU w v (u,e)).2=(gS l d u e).map mirR
  unfold gS
  rw[hk]
  have hz:oth (eg l (Int.ofNat u) (Int.ofNat e))=0↔eg l (Int.ofNat u) (Int.ofNat e)=0:=by
   unfold oth
   split
   ·omega
   ·split<;>omega
  by_cases h0:eg l (Int.ofNat u) (Int.ofNat e)=0
  ·rw[if_pos h0,if_pos (hz.2 h0)];rfl
  ·rw[if_neg h0,if_neg (mt hz.1 h0)]
   show [_]=[_]
   unfold mirR mirD
   congr 2
   show(((12 - d)%8:Nat):Int)=(12 - (d:Int))%8
   omega
 ·rename_i h1 h2
  rw[h1,h2];rfl
 ·cases h
theorem sj{r:Ray}(hr:r∈refR l w x y):mirR r∈refR l' w (2*w - x) y:=by
 obtain⟨d,hd,hm⟩:=qbr.1 hr
 rw[qak]at hd
 refine qbr.2 ⟨mirD d,qak.2 (qbW _ (by omega)),?_⟩
 rw[dir_tur hsh hcor hF hT hd]
 exact List.mem_map_of_mem hm
theorem si:(refR l' w (2*w - x) y).length=(refR l w x y).length:=by
 have e:∀(L:List Crs) (X:Nat),(refR L w X y).length=(dirR L w X y 0).length+(dirR L w X y 1).length+(dirR L w X y 2).length+(dirR L w X y 3).length+(dirR L w X y 4).length+(dirR L w X y 5).length+(dirR L w X y 6).length+(dirR L w X y 7).length:=λL X=>by
  unfold refR
  show(List.flatMap _ [0,1,2,3,4,5,6,7]).length=_
  simp only[qbt,List.flatMap_nil,qaB,qcr]
  omega
 have f:∀d,d<8->(dirR l' w (2*w - x) y (mirD d)).length=(dirR l w x y d).length:=λd hd=>by
  rw[dir_tur hsh hcor hF hT hd,qa0]
 rw[e,e]
 have f0:=f 0 (by omega)
 have f1:=f 1 (by omega)
 have f2:=f 2 (by omega)
 have f3:=f 3 (by omega)
 have f4:=f 4 (by omega)
 have f5:=f 5 (by omega)
 have f6:=f 6 (by omega)
 have f7:=f 7 (by omega)
 rw[show mirD 0=4 from rfl]at f0
 rw[show mirD 1=3 from rfl]at f1
 rw[show mirD 2=2 from rfl]at f2
 rw[show mirD 3=1 from rfl]at f3
 rw[show mirD 4=0 from rfl]at f4
 rw[show mirD 5=7 from rfl]at f5
 rw[show mirD 6=6 from rfl]at f6
 rw[show mirD 7=5 from rfl]at f7
 omega
end
end Go.Am

/-
 The examples of chapter 9.
-/
set_option maxRecDepth 100000
namespace Go.Am
open Sx Go.Proofs
theorem lives9:∀H,aI cc ac 10 [] H [.b true] H:=dQ (n:=60) rfl (by kernel_rfl) rfl (by kernel_rfl)
end Go.Am

/-
 ARGUMENTS WITHOUT ADDRESSES,as the row reads them.
-/
namespace Go.Am
namespace Sx
open Go.ChangeShapes Go.WideShapes Go.ChangeAt Go.WideMaps Go.WideElems Go.RowKit
def FitC:List LK->List Value->Prop
 | [],[]=>True
 | .i k :: ks,v :: vs=>(∃n,v = .int k n/\(Lit.int k n).wf=true)/\FitC ks vs
 | .b :: ks,v :: vs=>(∃t,v = .bool t)/\FitC ks vs
 |_,_=>False
def FitL:List LK->List Lf->Prop
 | [],[]=>True
 | .i k :: ks,.i n :: ls=>(Lit.int k n).wf=true/\FitL ks ls
 | .b :: ks,.b _ :: ls=>FitL ks ls
 |_,_=>False
theorem FitC.len:∀ {ks:List LK} {vs:List Value},FitC ks vs->vs.length=ks.length
 | [],[],_=>rfl
 | .i k :: ks,v :: vs,h=>by simp[FitC.len h.2]
 | .b :: ks,v :: vs,h=>by simp[FitC.len h.2]
 | .v :: _,_,h=>by cases h
 | [],_ :: _,h=>by cases h
 | .i _ :: _,[],h=>by cases h
 | .b :: _,[],h=>by cases h
theorem FitC.app:∀ {ks ks':List LK} {vs vs':List Value},FitC ks vs->FitC ks' vs'->FitC (ks++ks') (vs++vs')
 | [],_,[],_,_,h=>h
 | .i k :: ks,_,v :: vs,_,h,h'=>⟨h.1,FitC.app h.2 h'⟩
 | .b :: ks,_,v :: vs,_,h,h'=>⟨h.1,FitC.app h.2 h'⟩
 | .v :: _,_,_,_,h,_=>by cases h
 | [],_,_ :: _,_,h,_=>by cases h
 | .i _ :: _,_,[],_,h,_=>by cases h
 | .b :: _,_,[],_,h,_=>by cases h
theorem FitL.app:∀ {ks ks':List LK} {vs vs':List Lf},FitL ks vs->FitL ks' vs'->FitL (ks++ks') (vs++vs')
 | [],_,[],_,_,h=>h
 | .i k :: ks,_,.i v :: vs,_,h,h'=>⟨h.1,FitL.app h.2 h'⟩
 | .b :: ks,_,.b v :: vs,_,h,h'=>FitL.app (ks:=ks) h h'
 | .v :: _,_,_,_,h,_=>by cases h
 | [],_,_ :: _,_,h,_=>by cases h
 | .i _ :: _,_,[],_,h,_=>by cases h
 | .b :: _,_,[],_,h,_=>by cases h
 | .i _ :: _,_,.b _ :: _,_,h,_=>by cases h
 | .i _ :: _,_,.v _ :: _,_,h,_=>by cases h
 | .b :: _,_,.i _ :: _,_,h,_=>by cases h
 | .b :: _,_,.v _ :: _,_,h,_=>by cases h
theorem FitC.sl:∀ {ks:List LK} {vs:List Value},FitC ks vs->∃xs:List SL,xs.map SL.val=vs/\aJ xs ks=true/\(∀x∈xs,x.good)/\FitL ks (xs.map SL.lf)
 | [],[],_=>⟨[],rfl,rfl,λ_ h=>(by cases h),trivial⟩
 | .i k :: ks,v :: vs,h=>by
  obtain⟨⟨n,rfl,hw⟩,h2⟩:=h
  obtain⟨xs,a,b,c,d⟩:=FitC.sl h2
  exact⟨.i k n :: xs,by simp[a,SL.val],by simp[aJ,b,SL.is,dd],λx hx=>by
   rcases qap.1 hx with rfl|hx
   ·trivial
   ·exact c x hx,hw,d⟩
 | .b :: ks,v :: vs,h=>by
  obtain⟨⟨n,rfl⟩,h2⟩:=h
  obtain⟨xs,a,b,c,d⟩:=FitC.sl h2
  exact⟨.b n :: xs,by simp[a,SL.val],by simp[aJ,b,SL.is],λx hx=>by
   rcases qap.1 hx with rfl|hx
   ·trivial
   ·exact c x hx,d⟩
 | .v :: _,_,h=>by cases h
 | [],_ :: _,h=>by cases h
 | .i _ :: _,[],h=>by cases h
 | .b :: _,[],h=>by cases h
def flatF(F:TypeId->Option (List LK)):List Field->Nat->Option (List LK)
 | [],_=>some []
 |f :: fs,off=>match Nat.beq f.offset off,F f.type with
  |true,some ks=>(flatF F fs (off+ks.length)).map (ks ++ ·)
  |_,_=>none
def flatT(P:Program):Nat->TypeId->Option (List LK)
 |0,_=>none
 |d+1,t=>match P.underlying t with
  |some (.int k)=>some [.i k]
  |some .bool=>some [.b]
  |some (.struct fs)=>match flatF (flatT P d) fs.toList 0 with
   |some ks=>match Nat.beq ks.length (P.cellsOf t)with
    |true=>some ks
    |false=>none
   |none=>none
  |_=>none
section
variable {H:Type} {enc:TypeId×Value->H} {P:Program}
theorem iG{α:Type}(l:List α)(c:Nat):l.take (l.take c).length=l.take c:=by
 rw[qaT]
 rcases Nat.le_total c l.length with h|h
 ·rw[qcs h]
 ·rw[Nat.min_eq_right h,qaU h,qaU (qal _)]
theorem tc{F:TypeId->Option (List LK)}{w:World}{base:Nat}{sp:Nat->Bool}{held:Bool}{fuel:Nat}
  (hF:∀t ks,F t=some ks->∀cs (x:DataW H×List MemPlace),DataW.trod enc P w base sp held fuel t cs=some x->x.2=[]/\FitC ks cs/\∀w' b' s' h',DataW.trod enc P w' b' s' h' fuel t cs=some x) (cs:List Value) :
  ∀(fs:List Field) (off:Nat) (ks:List LK) (xs:List (DataW H×List MemPlace)),flatF F fs off=some ks->fs.mapM (λf=>DataW.trod enc P w base sp held fuel f.type ((cs.drop f.offset).take (P.cellsOf f.type)))=some xs->
   xs.flatMap (·.2)=[]/\FitC ks ((cs.drop off).take ks.length)/\∀w' b' s' h',fs.mapM (λf=>DataW.trod enc P w' b' s' h' fuel f.type ((cs.drop f.offset).take (P.cellsOf f.type)))=some xs
 | [],off,ks,xs,h1,h2=>by
  simp only[flatF,qau]at h1
  subst h1
  simp only[qc9,qc4,qau]at h2
  subst h2
  refine⟨rfl,by simp[FitC],λ_ _ _ _=>by simp⟩
 |f :: fs,off,ks,xs,h1,h2=>by
  simp only[flatF]at h1
  split at h1
  ·rename_i k1 e1 e2
   obtain⟨k2,e3,rfl⟩:=qae.1 h1
   have e1:=qaf e1
   rw[qbQ]at h2
   obtain⟨x,h3,h2⟩:=qam.1 h2
   obtain⟨ys,h4,h2⟩:=qam.1 h2
   cases h2
   obtain⟨a1,a2,a3⟩:=hF _ _ e2 _ _ h3
   obtain⟨b1,b2,b3⟩:=tc hF cs fs _ k2 ys e3 h4
   refine⟨by simp[a1,b1],?_,λw' b' s' h'=>?_⟩
   ·rw[qaB,qda]
    refine FitC.app ?_ (by rw[qbB];exact b2)
    have hl:=FitC.len a2
    rw[e1]at a2 hl
    rw[←hl,iG]
    exact a2
   ·rw[qbQ,a3 w' b' s' h',b3 w' b' s' h']
    rfl
  ·cases h1
theorem oK:∀(d:Nat) (t:TypeId) (ks:List LK),flatT P d t=some ks->∀(w:World) (base:Nat) (sp:Nat->Bool) (held:Bool) (fuel:Nat) (cs:List Value) (x:DataW H×List MemPlace),DataW.trod enc P w base sp held fuel t cs=some x->
  x.2=[]/\FitC ks cs/\∀w' b' s' h',DataW.trod enc P w' b' s' h' fuel t cs=some x
 |0,_,_,h=>by cases h
 |d+1,t,ks,h=>by
  intro w base sp held fuel cs x hx
  simp only[flatT]at h
  split at h
  ·rename_i k e
   cases h
   obtain⟨n,rfl,rfl,hw⟩:=DataW.trod_int e hx
   refine⟨rfl,⟨⟨n,rfl,hw⟩,trivial⟩,λw' b' s' h'=>?_⟩
   cases fuel with
   |zero=>simp[DataW.trod]at hx
   |succ m=>simp[DataW.trod,e,hw]
  ·rename_i e
   cases h
   obtain⟨n,rfl,rfl⟩:=DataW.trod_bool e hx
   refine⟨rfl,⟨⟨n,rfl⟩,trivial⟩,λw' b' s' h'=>?_⟩
   cases fuel with
   |zero=>simp[DataW.trod]at hx
   |succ m=>simp[DataW.trod,e]
  ·rename_i fs e
   split at h
   ·rename_i k2 e2
    split at h
    ·rename_i e3
     cases h
     have e3:=qaf e3
     cases fuel with
     |zero=>simp[DataW.trod]at hx
     |succ m=>
      simp only[DataW.trod,e]at hx
      split at hx
      ·rename_i hl
       obtain⟨xs,h5,rfl⟩:=qae.1 hx
       obtain⟨a1,a2,a3⟩:=tc (λt ks h cs x hx=>oK d t ks h w base sp held m cs x hx) cs fs.toList 0 ks xs e2 h5
       rw[qbC,qaU (by omega)]at a2
       refine⟨a1,a2,λw' b' s' h'=>?_⟩
       simp only[DataW.trod,e,hl,if_true]
       rw[a3 w' b' s' h']
       rfl
      ·cases hx
    ·cases h
   ·cases h
  ·cases h
end
section
variable [Val]
end
end Sx
end Go.Am
namespace Go.Am
namespace Sx
theorem FitL.i{k:IntKind}{ks:List LK}{ls:List Lf}(h:FitL (.i k :: ks) ls):∃n r,ls = .i n :: r/\(Lit.int k n).wf=true/\FitL ks r:=by
 match ls,h with
 | .i n :: r,h=>exact⟨n,r,rfl,h.1,h.2⟩
theorem FitL.b{ks:List LK}{ls:List Lf}(h:FitL (.b :: ks) ls):∃n r,ls = .b n :: r/\FitL ks r:=by
 match ls,h with
 | .b n :: r,h=>exact⟨n,r,rfl,h⟩
theorem FitL.nil{ls:List Lf}(h:FitL [] ls):ls=[]:=by
 match ls,h with
 | [],_=>rfl
theorem wf_u8{n:Int}(h:(Lit.int .u8 n).wf=true):0<=n/\n<=255:=by
 simp only[Lit.wf,qaa,decide_eq_true_eq]at h
 exact h
theorem mr{H:Type}{enc:TypeId×Value->H}{P:Program}{w:World}{base:Nat}{sp:Nat->Bool}{held:Bool}:∀ {ts:List TypeId} {vs:List Value} {ds:List (DataW H)} {ps:List MemPlace},DataW.TrodAll enc P w base sp held ts vs ds ps->ds.length=ts.length
 | [],[],[],_,_=>rfl
 |_ :: _,_ :: _,_ :: _,_,h=>by
  obtain⟨p,q,_,h2,_⟩:=h
  simp[mr h2]
 | [],_ :: _,_,_,h=>by cases h
 | [],[],_ :: _,_,h=>by cases h
 |_ :: _,[],_,_,h=>by cases h
 |_ :: _,_ :: _,[],_,h=>by cases h
end Sx
end Go.Am

/-
 ARGUMENTS WITH SLICES,as the row reads them: what is known of them at first.
-/
set_option maxRecDepth 100000
namespace Go.Am
namespace Sx
open Go.ChangeShapes Go.WideShapes Go.ChangeAt Go.WideMaps Go.WideElems Go.RowKit
inductive CK2 where
 |i (k:IntKind)
 |b
 |s (ks:List LK)
def CK2.lk:CK2->LK
 | .i k=>.i k
 | .b=>.b
 | .s _=>.v
def SlFit(w:World)(ks:List LK)(v:Value):Prop:=
 v = .slice none 0 0∨∃(a:Addr) (len cap:Nat) (c:Array Value) (t:TypeId) (fr:Nat×Nat) (cells:List Value),v = .slice (some a) len cap/\a.spot=none/\len<=cap/\cap<=maxLen/\
  w.heap[a.block]? = some (.cells c t fr)/\(cap=0∨a.off+cap*ks.length<=c.size)/\cells.length=len*ks.length/\(∀(i:Nat) v,cells[i]? = some v->c[a.off+i]? = some v)/\
  ∀i,i<len->FitC ks ((cells.drop (i*ks.length)).take ks.length)
def CellFit(w:World):CK2->Value->Prop
 | .i k,v=>∃n,v = .int k n/\(Lit.int k n).wf=true
 | .b,v=>∃t,v = .bool t
 | .s ks,v=>SlFit w ks v
def dj(w:World):List CK2->List Value->Prop
 | [],[]=>True
 |k :: ks,v :: vs=>CellFit w k v/\dj w ks vs
 |_,_=>False
def aZ(h:HL):List CK2->List Lf->Prop
 | [],[]=>True
 | .i k :: ks,.i n :: ls=>(Lit.int k n).wf=true/\aZ h ks ls
 | .b :: ks,.b _ :: ls=>aZ h ks ls
 | .s es :: ks,.v x :: ls=>(∃n cells,SlC h x es.length n cells/\n<=maxLen/\∀i,i<n->FitC es ((cells.drop (i*es.length)).take es.length))/\aZ h ks ls
 |_,_=>False
theorem dj.len{w:World}:∀ {ks:List CK2} {vs:List Value},dj w ks vs->vs.length=ks.length
 | [],[],_=>rfl
 |_ :: _,_ :: _,h=>by simp[dj.len h.2]
 | [],_ :: _,h=>by cases h
 |_ :: _,[],h=>by cases h
theorem dj.app{w:World}:∀ {ks ks':List CK2} {vs vs':List Value},dj w ks vs->dj w ks' vs'->dj w (ks++ks') (vs++vs')
 | [],_,[],_,_,h=>h
 |_ :: _,_,_ :: _,_,h,h'=>⟨h.1,dj.app h.2 h'⟩
 | [],_,_ :: _,_,h,_=>by cases h
 |_ :: _,_,[],_,h,_=>by cases h
theorem aZ.app{h:HL}:∀ {ks ks':List CK2} {vs vs':List Lf},aZ h ks vs->aZ h ks' vs'->aZ h (ks++ks') (vs++vs')
 | [],_,[],_,_,h=>h
 | .i _ :: ks,_,.i _ :: _,_,h,h'=>⟨h.1,aZ.app (ks:=ks) h.2 h'⟩
 | .b :: ks,_,.b _ :: _,_,h,h'=>aZ.app (ks:=ks) h h'
 | .s _ :: ks,_,.v _ :: _,_,h,h'=>⟨h.1,aZ.app (ks:=ks) h.2 h'⟩
 | [],_,_ :: _,_,h,_=>by cases h
 | .i _ :: _,_,[],_,h,_=>by cases h
 | .b :: _,_,[],_,h,_=>by cases h
 | .s _ :: _,_,[],_,h,_=>by cases h
 | .i _ :: _,_,.b _ :: _,_,h,_=>by cases h
 | .i _ :: _,_,.v _ :: _,_,h,_=>by cases h
 | .b :: _,_,.i _ :: _,_,h,_=>by cases h
 | .b :: _,_,.v _ :: _,_,h,_=>by cases h
 | .s _ :: _,_,.i _ :: _,_,h,_=>by cases h
 | .s _ :: _,_,.b _ :: _,_,h,_=>by cases h
def ckF(F:TypeId->Option (List CK2)):List Field->Nat->Option (List CK2)
 | [],_=>some []
 |f :: fs,off=>match Nat.beq f.offset off,F f.type with
  |true,some ks=>(ckF F fs (off+ks.length)).map (ks ++ ·)
  |_,_=>none
def ckT(P:Program):Nat->TypeId->Option (List CK2)
 |0,_=>none
 |d+1,t=>match P.underlying t with
  |some (.int k)=>some [.i k]
  |some .bool=>some [.b]
  |some (.slice e)=>match flatT P 20 e with
   |some ks=>match Nat.beq (P.cellsOf e) ks.length&&Nat.blt 0 ks.length with
    |true=>some [.s ks]
    |false=>none
   |none=>none
  |some (.struct fs)=>match ckF (ckT P d) fs.toList 0 with
   |some ks=>match Nat.beq ks.length (P.cellsOf t)with
    |true=>some ks
    |false=>none
   |none=>none
  |_=>none
section
variable {H:Type} {enc:TypeId×Value->H} {P:Program}
def Lies(w:World)(v:Value):Prop:=∀a len cap,v = .slice (some a) len cap->a.spot=none/\∃c t fr,w.heap[a.block]? = some (.cells c t fr)
theorem gO{α β:Type}{f g:α->Option β}:∀ {l:List α},(∀x∈l,f x=g x)->l.mapM f=l.mapM g
 | [],_=>rfl
 |a :: l,h=>by
  rw[qbQ,qbQ,h a qaE,gO λx hx=>h x (qas _ hx)]
theorem bm{a:Addr}(h:a.spot=none)(i:Nat):a.add i=⟨a.block,a.off+i,none⟩:=by
 obtain⟨b,o,s⟩:=a
 cases h
 unfold Addr.add
 simp
theorem slice_ok{w:World}{t e:TypeId}{ks:List LK}(ht:P.underlying t=some (.slice e))(he:flatT P 20 e=some ks)(hc:P.cellsOf e=ks.length)(h0:0<ks.length){base:Nat}(hbase:base=0){held:Bool}{fuel:Nat}{cs:List Value}{x:DataW H×List MemPlace}
  (hx:DataW.trod enc P w base (λ_=>true) held fuel t cs=some x) (hl:∀v∈cs,Lies w v) :
  ∃v,cs=[v]/\SlFit w ks v/\∀(w':World) (s':Nat->Bool),(∀b,b<w.heap.size->w'.heap[b]? = w.heap[b]?)->(∀b,b<w.heap.size->s' b=true)->DataW.trod enc P w' base s' held fuel t cs=some x:=by
 subst hbase
 have hx0:=hx
 rcases DataW.trod_slice ht hx with⟨rfl,rfl⟩|⟨a,len,cap,elems,rest,n,rfl,rfl,rfl,hb,hlc,hm,hlen,hel,hsp,_⟩
 ·refine⟨_,rfl,.inl rfl,λw' s' _ _=>?_⟩
  cases fuel with
  |zero=>simp[DataW.trod]at hx
  |succ m=>simp[DataW.trod,ht]
 ·obtain⟨hs,c,t',fr,hblk⟩:=hl _ qaE a len cap rfl
  obtain⟨hrl,hr⟩:=hsp rfl
  rw[hc]at hel hr
  have hlt:a.block<w.heap.size:=by
   rcases qaz a.block w.heap.size with h|h
   ·exact h
   ·rw[qba h]at hblk;cases hblk
  have each:∀i,i<cap->∃ci y,w.cells? 0 (a.add (i*ks.length)) ks.length=some ci/\DataW.trod enc P w 0 (λ_=>true) held n e ci=some y/\(elems++rest)[i]? = some y:=by
   intro i hi
   by_cases h1:i<len
   ·have h2:=hel i h1
    have h3:elems[i]? = some elems[i]:=qaC (by omega)
    rw[h3]at h2
    obtain⟨ci,h4,h5⟩:=qam.1 h2
    exact⟨ci,_,h4,h5,by rw[qah (by omega)];exact h3⟩
   ·have h2:=hr (i - len) (by omega)
    rw[show len+(i - len)=i by omega]at h2
    have h3:rest[i - len]? = some (rest[i - len]'(by omega)):=qaC (by omega)
    rw[h3]at h2
    obtain⟨ci,h4,h5⟩:=qam.1 h2
    exact⟨ci,_,h4,h5,by rw[qan (by omega),hlen];exact h3⟩
  have rd:∀i,i<cap->∀j,j<ks.length->∀ci,w.cells? 0 (a.add (i*ks.length)) ks.length=some ci->c[a.off+i*ks.length+j]? = ci[j]?:=by
   intro i hi j hj ci hci
   have h1:=(World.cells?_some hci).2.2 j hj
   rw[bm hs,bm rfl]at h1
   rw[←h1]
   unfold World.cell?
   simp[hblk]
  have hsz:cap=0∨a.off+cap*ks.length<=c.size:=by
   by_cases hcap:cap=0
   ·exact .inl hcap
   ·right
    obtain⟨ci,y,h1,_,_⟩:=each (cap - 1) (by omega)
    have h2:=rd (cap - 1) (by omega) (ks.length - 1) (by omega) ci h1
    have hcl:=(World.cells?_some h1).2.1
    rw[qaC (by omega)]at h2
    have h3:=(qaH.1 h2).1
    have h4:cap*ks.length=(cap - 1)*ks.length+ks.length:=by
     rw[←Nat.succ_mul];congr 1;omega
    omega
  have hsz2:a.off+len*ks.length<=c.size∨len=0:=by
   rcases hsz with h|h
   ·right;omega
   ·left
    have:=qa6 ks.length hlc
    omega
  refine⟨_,rfl,.inr ⟨a,len,cap,c,t',fr,(c.toList.drop a.off).take (len*ks.length),rfl,hs,hlc,hm,hblk,hsz,?_,?_,?_⟩,?_⟩
  ·rw[qaT,qbE]
   have hcz:c.toList.length=c.size:=qck
   rcases hsz2 with h|h
   ·omega
   ·subst h;omega
  ·intro i v hv
   rw[qaY]at hv
   split at hv
   ·rw[qaO]at hv
    simpa using hv
   ·cases hv
  ·intro i hi
   obtain⟨ci,y,h1,h2,_⟩:=each i (by omega)
   obtain⟨_,h3,_⟩:=oK 20 e ks he w 0 _ held n ci y h2
   have hcl:=(World.cells?_some h1).2.1
   have:(((c.toList.drop a.off).take (len*ks.length)).drop (i*ks.length)).take ks.length=ci:=by
    apply qaP
    intro j
    by_cases hj:j<ks.length
    ·have hle:i*ks.length+ks.length<=len*ks.length:=by
      have:=qa6 ks.length (show i+1<=len by omega)
      rw[qbf,qb2]at this;exact this
     rw[qaY,if_pos hj,qaO,qaY,if_pos (by omega),qaO,←rd i (by omega) j hj ci h1]
     rw[qcB,qbu]
    ·rw[qag (by rw[qaT];omega),qag (by omega)]
   rw[this];exact h3
  ·intro w' s' hw hs'
   have hcell:∀i,i<cap->w'.cells? 0 (a.add (i*ks.length)) ks.length=w.cells? 0 (a.add (i*ks.length)) ks.length:=by
    intro i hi
    unfold World.cells?
    have:∀j,w'.cell? ((a.add (i*ks.length)).add j)=w.cell? ((a.add (i*ks.length)).add j):=by
     intro j
     rw[bm hs,bm rfl]
     unfold World.cell?
     rw[hw _ hlt]
    simp only[this]
   have el:∀i,i<cap->(w'.cells? 0 (a.add (i*P.cellsOf e)) (P.cellsOf e)).bind (DataW.trod enc P w' 0 s' held n e)=(elems++rest)[i]?:=by
    intro i hi
    rw[hc,hcell i hi]
    obtain⟨ci,y,h1,h2,h3⟩:=each i hi
    rw[h1,h3,qai]
    exact(oK 20 e ks he w 0 _ held n ci y h2).2.2 w' 0 s' held
   have el0:∀i,i<cap->(w.cells? 0 (a.add (i*P.cellsOf e)) (P.cellsOf e)).bind (DataW.trod enc P w 0 (λ_=>true) held n e)=(elems++rest)[i]?:=by
    intro i hi
    rw[hc]
    obtain⟨ci,y,h1,h2,h3⟩:=each i hi
    rw[h1,h3,qai]
    exact h2
   unfold DataW.trod at hx0 ⊢
   simp only[ht]at hx0 ⊢
   rw[if_pos ⟨qbo _,hlc,hm⟩]at hx0 ⊢
   rw[gO (λi hi=>(el i (by have:=qak.1 hi;omega)).trans (el0 i (by have:=qak.1 hi;omega)).symm)]
   rw[gO (l:=List.range (cap - len)) (λj hj=>(el (len+j) (by have:=qak.1 hj;omega)).trans (el0 (len+j) (by have:=qak.1 hj;omega)).symm)]
   rw[hs' _ hlt]
   exact hx0
theorem ckF_ok{F:TypeId->Option (List CK2)}{w:World}{held:Bool}{fuel:Nat}(cs:List Value)(hl:∀v∈cs,Lies w v)
  (hF:∀t ks,F t=some ks->∀cs (x:DataW H×List MemPlace),(∀v∈cs,Lies w v)->DataW.trod enc P w 0 (λ_=>true) held fuel t cs=some x->dj w ks cs/\∀(w':World) (s':Nat->Bool),(∀b,b<w.heap.size->w'.heap[b]? = w.heap[b]?)->(∀b,b<w.heap.size->s' b=true)->DataW.trod enc P w' 0 s' held fuel t cs=some x) :
  ∀(fs:List Field) (off:Nat) (ks:List CK2) (xs:List (DataW H×List MemPlace)),ckF F fs off=some ks->fs.mapM (λf=>DataW.trod enc P w 0 (λ_=>true) held fuel f.type ((cs.drop f.offset).take (P.cellsOf f.type)))=some xs->
   dj w ks ((cs.drop off).take ks.length)/\∀(w':World) (s':Nat->Bool),(∀b,b<w.heap.size->w'.heap[b]? = w.heap[b]?)->(∀b,b<w.heap.size->s' b=true)->fs.mapM (λf=>DataW.trod enc P w' 0 s' held fuel f.type ((cs.drop f.offset).take (P.cellsOf f.type)))=some xs
 | [],off,ks,xs,h1,h2=>by
  simp only[ckF,qau]at h1
  subst h1
  simp only[qc9,qc4,qau]at h2
  subst h2
  refine⟨by simp[dj],λ_ _ _ _=>by simp⟩
 |f :: fs,off,ks,xs,h1,h2=>by
  simp only[ckF]at h1
  split at h1
  ·rename_i k1 e1 e2
   obtain⟨k2,e3,rfl⟩:=qae.1 h1
   have e1:=qaf e1
   rw[qbQ]at h2
   obtain⟨x,h3,h2⟩:=qam.1 h2
   obtain⟨ys,h4,h2⟩:=qam.1 h2
   cases h2
   obtain⟨a2,a3⟩:=hF _ _ e2 _ _ (λv hv=>hl v (qbD (qbw hv))) h3
   obtain⟨b2,b3⟩:=ckF_ok cs hl hF fs _ k2 ys e3 h4
   refine⟨?_,λw' s' hw hs'=>?_⟩
   ·rw[qaB,qda]
    refine dj.app ?_ (by rw[qbB];exact b2)
    have hl:=dj.len a2
    rw[e1]at a2 hl
    rw[←hl,iG]
    exact a2
   ·rw[qbQ,a3 w' s' hw hs',b3 w' s' hw hs']
    rfl
  ·cases h1
theorem ckT_ok:∀(d:Nat) (t:TypeId) (ks:List CK2),ckT P d t=some ks->∀(w:World) (held:Bool) (fuel:Nat) (cs:List Value) (x:DataW H×List MemPlace),(∀v∈cs,Lies w v)->DataW.trod enc P w 0 (λ_=>true) held fuel t cs=some x->
  dj w ks cs/\∀(w':World) (s':Nat->Bool),(∀b,b<w.heap.size->w'.heap[b]? = w.heap[b]?)->(∀b,b<w.heap.size->s' b=true)->DataW.trod enc P w' 0 s' held fuel t cs=some x
 |0,_,_,h=>by cases h
 |d+1,t,ks,h=>by
  intro w held fuel cs x hl hx
  simp only[ckT]at h
  split at h
  ·rename_i k e
   cases h
   obtain⟨n,rfl,rfl,hw⟩:=DataW.trod_int e hx
   refine⟨⟨⟨n,rfl,hw⟩,trivial⟩,λw' s' _ _=>?_⟩
   cases fuel with
   |zero=>simp[DataW.trod]at hx
   |succ m=>simp[DataW.trod,e,hw]
  ·rename_i e
   cases h
   obtain⟨n,rfl,rfl⟩:=DataW.trod_bool e hx
   refine⟨⟨⟨n,rfl⟩,trivial⟩,λw' s' _ _=>?_⟩
   cases fuel with
   |zero=>simp[DataW.trod]at hx
   |succ m=>simp[DataW.trod,e]
  ·rename_i e e0
   split at h
   ·rename_i k2 e2
    split at h
    ·rename_i e3
     cases h
     simp only[qaa,qaF]at e3
     obtain⟨v,rfl,a2,a3⟩:=slice_ok e0 e2 (qaf e3.1) e3.2 rfl hx hl
     exact⟨⟨a2,trivial⟩,a3⟩
    ·cases h
   ·cases h
  ·rename_i fs e
   split at h
   ·rename_i k2 e2
    split at h
    ·rename_i e3
     cases h
     have e3:=qaf e3
     cases fuel with
     |zero=>simp[DataW.trod]at hx
     |succ m=>
      simp only[DataW.trod,e]at hx
      split at hx
      ·rename_i hlen
       obtain⟨xs,h5,rfl⟩:=qae.1 hx
       obtain⟨a2,a3⟩:=ckF_ok cs hl (λt ks h cs x hl hx=>ckT_ok d t ks h w held m cs x hl hx) fs.toList 0 ks xs e2 h5
       rw[qbC,qaU (by omega)]at a2
       refine⟨a2,λw' s' hw hs'=>?_⟩
       simp only[DataW.trod,e,hlen,if_true]
       rw[a3 w' s' hw hs']
       rfl
      ·cases hx
    ·cases h
   ·cases h
  ·cases h
abbrev Blk2:=HObj×Option Pl
def pO(w:World)(b:Blk2):Prop:=b.1 = .dead∨∃vs e p c t fr,b.1 = .cells vs e false/\b.2=some p/\p.esz=e/\vs.all flat=true/\vs.all aP=true/\vs.length<=p.room/\w.heap[p.b]? = some (.cells c t fr)/\c.size=p.o+p.room/\∀(i:Nat) v,vs[i]? = some v->c[p.o+i]? = some v
theorem ll:∀ {ks:List LK} {vs:List Value},FitC ks vs->vs.all flat=true/\vs.all aP=true
 | [],[],_=>⟨rfl,rfl⟩
 | .i k :: ks,v :: vs,h=>by
  obtain⟨⟨n,rfl,_⟩,h2⟩:=h
  obtain⟨a,b⟩:=ll h2
  exact⟨by simp[a,flat,ed,scalar],by simp[b];rfl⟩
 | .b :: ks,v :: vs,h=>by
  obtain⟨⟨n,rfl⟩,h2⟩:=h
  obtain⟨a,b⟩:=ll h2
  exact⟨by simp[a,flat,ed,scalar],by simp[b];rfl⟩
 | .v :: _,_,h=>by cases h
 | [],_ :: _,h=>by cases h
 | .i _ :: _,[],h=>by cases h
 | .b :: _,[],h=>by cases h
theorem rI{ks:List LK}(hk:0<ks.length){cells:List Value}{n:Nat}(hl:cells.length=n*ks.length)(h:∀i,i<n->FitC ks ((cells.drop (i*ks.length)).take ks.length)):cells.all flat=true/\cells.all aP=true:=by
 have main:∀j,j<cells.length->∃v,cells[j]? = some v/\flat v=true/\aP v=true:=by
  intro j hj
  have h1:j / ks.length<n:=by
   rw[Nat.div_lt_iff_lt_mul hk];omega
  obtain⟨a,b⟩:=ll (h _ h1)
  have hm:=qbW j hk
  have hd:=Nat.div_add_mod j ks.length
  have hmem:((cells.drop (j / ks.length*ks.length)).take ks.length)[j%ks.length]? = some cells[j]:=by
   rw[qaY,if_pos hm,qaO]
   rw[show j / ks.length*ks.length+j%ks.length=j by rw[Nat.mul_comm];exact hd]
   exact qaC hj
  exact⟨_,qaC hj,qac.1 a _ (qad hmem),qac.1 b _ (qad hmem)⟩
 constructor<;>
 ·rw[qac]
  intro v hv
  obtain⟨j,hj⟩:=qaZ hv
  have hlt:j<cells.length:=by
   rcases qaz j cells.length with h|h
   ·exact h
   ·rw[qag h]at hj;cases hj
  obtain⟨v',h1,h2,h3⟩:=main j hlt
  rw[hj]at h1
  cases h1
  first|exact h2|exact h3
section
variable [Val] [Glo]
theorem cell_abs{w:World}{ck:CK2}{v:Value}(hp:∀ks,ck = .s ks->0<ks.length)(h:CellFit w ck v)(n0:Nat):∃(x:SL) (bl:List Blk2),(∀b∈bl,pO w b)/\x.is ck.lk=true/\x.good/\
  (∀mu:HMap,(∀(i:Nat) b,bl[i]? = some b->mu (n0+i)=b.2)->VR noL mu x.val v)/\∀hp:HL,(∀(i:Nat) b,bl[i]? = some b->hp[n0+i]? = some (.o b.1))->aZ hp [ck] [x.lf]:=by
 cases ck with
 |i k=>
  obtain⟨n,rfl,hw⟩:=h
  exact⟨.i k n,[],by simp,by simp[SL.is,CK2.lk,dd],trivial,λmu _=>.scalar rfl,λhp _=>⟨hw,trivial⟩⟩
 |b=>
  obtain⟨t,rfl⟩:=h
  exact⟨.b t,[],by simp,rfl,trivial,λmu _=>.scalar rfl,λhp _=>trivial⟩
 |s ks=>
  have hk:=hp ks rfl
  rcases h with rfl|⟨a,len,cap,c,t,fr,cells,rfl,hs,hlc,hm,hblk,hsz,hcl,hget,hfit⟩
  ·refine⟨.v (.slice none 0 0),[],by simp,rfl,rfl,λmu _=>.scalar rfl,λhp _=>⟨⟨0,[],⟨by simp,.inl ⟨rfl,rfl⟩⟩,qbo _,λi hi=>by omega⟩,trivial⟩⟩
  ·obtain⟨hf1,hf2⟩:=rI hk hcl hfit
   have gd:bg (.slice (some ⟨n0,0,tag ks.length⟩) len 0)=true:=by simp[bg,noLoc,bj,cw,bS,bd,aH,tag]
   have ha:a=⟨a.block,a.off,none⟩:=by cases a;cases hs;rfl
   have fit:∀hp:HL,hp[n0]? = some (.o (.cells cells ks.length false))->aZ hp [.s ks] [.v (.slice (some ⟨n0,0,tag ks.length⟩) len 0)]:=λhp h1=>
    ⟨⟨len,cells,⟨hcl,.inr ⟨n0,0,0,cells,false,rfl,h1,cut_all hcl⟩⟩,by omega,hfit⟩,trivial⟩
   by_cases hcap:cap=0
   ·subst hcap
    obtain rfl:len=0:=by omega
    have hce:cells=[]:=List.eq_nil_of_length_eq_zero (by omega)
    subst hce
    refine⟨.v (.slice (some ⟨n0,0,tag ks.length⟩) 0 0),[(.cells [] ks.length false,some ⟨a.block,c.size,0,ks.length⟩)],λb hb=>?_,rfl,gd,λmu _=>.hslice0 (qbo _),λhp h1=>fit hp (h1 0 _ rfl)⟩
    simp only[qay]at hb
    subst hb
    exact .inr ⟨[],ks.length,_,c,t,fr,rfl,rfl,rfl,rfl,rfl,qbo _,hblk,by simp,λi v hv=>by simp at hv⟩
   ·have hsz:a.off+cap*ks.length<=c.size:=hsz.resolve_left hcap
    have hle:=qa6 ks.length hlc
    refine⟨.v (.slice (some ⟨n0,0,tag ks.length⟩) len 0),[(.cells cells ks.length false,some ⟨a.block,a.off,c.size - a.off,ks.length⟩)],λb hb=>?_,rfl,gd,λmu h1=>?_,λhp h1=>fit hp (h1 0 _ rfl)⟩
    ·simp only[qay]at hb
     subst hb
     exact .inr ⟨cells,ks.length,_,c,t,fr,rfl,rfl,rfl,hf1,hf2,by show cells.length<=c.size - a.off;omega,hblk,by show c.size=a.off+(c.size - a.off);omega,hget⟩
    ·have h2:=h1 0 _ rfl
     rw[ha]
     have:=VR.hslice (la:=noL) (mu:=mu) (id:=n0) (off:=0) (len:=len) (cap:=cap) (cx:=0) h2 (by show 0+cap*ks.length<=c.size - a.off;omega) hlc (.inl rfl)
     exact this
theorem qa{w:World}:∀ {cks:List CK2} {vs:List Value},(∀ks,CK2.s ks∈cks->0<ks.length)->dj w cks vs->∀n0,∃(xs:List SL) (bl:List Blk2),(∀b∈bl,pO w b)/\aJ xs (cks.map CK2.lk)=true/\(∀x∈xs,x.good)/\xs.length=vs.length/\
  (∀mu:HMap,(∀(i:Nat) b,bl[i]? = some b->mu (n0+i)=b.2)->VRs noL mu (xs.map SL.val) vs)/\∀hp:HL,(∀(i:Nat) b,bl[i]? = some b->hp[n0+i]? = some (.o b.1))->aZ hp cks (xs.map SL.lf)
 | [],[],_,_,n0=>⟨[],[],by simp,rfl,by simp,rfl,λmu _=>⟨rfl,λi x y h=>by simp at h⟩,λhp _=>trivial⟩
 |ck :: cks,v :: vs,hp,h,n0=>by
  obtain⟨x,bl,a1,a2,a3,a4,a5⟩:=cell_abs (λks e=>hp ks (by rw[e];exact qaE)) h.1 n0
  obtain⟨xs,bl',b1,b2,b3,b4,b5,b6⟩:=qa (λks e=>hp ks (qas _ e)) h.2 (n0+bl.length)
  have g1:∀ {α:Type} {f:Nat->α} {g:Blk2->α},(∀(i:Nat) b,(bl++bl')[i]? = some b->f (n0+i)=g b)->(∀(i:Nat) b,bl[i]? = some b->f (n0+i)=g b)/\∀(i:Nat) b,bl'[i]? = some b->f (n0+bl.length+i)=g b:=by
   intro α f g h
   refine⟨λi b hb=>h i b ?_,λi b hb=>?_⟩
   ·rw[qah (by
     rcases qaz i bl.length with h|h
     ·exact h
     ·rw[qag h]at hb;cases hb)];exact hb
   ·rw[qbu]
    refine h _ b ?_
    rw[qan (by omega),qbM];exact hb
  refine⟨x :: xs,bl++bl',λb hb=>?_,by simp[aJ,a2,b2],λy hy=>?_,by simp[b4],λmu hmu=>?_,λhp hh=>?_⟩
  ·rcases qaQ.1 hb with h|h
   ·exact a1 b h
   ·exact b1 b h
  ·rcases qap.1 hy with rfl|hy
   ·exact a3
   ·exact b3 y hy
  ·obtain⟨h1,h2⟩:=g1 (f:=mu) (g:=λb=>b.2) hmu
   have c1:=a4 mu h1
   obtain⟨c2,c3⟩:=b5 mu h2
   refine⟨by simpa using c2,λi p q hi hj=>?_⟩
   cases i with
   |zero=>
    simp only[qat,qbd,qau]at hi hj
    subst hi hj;exact c1
   |succ i=>exact c3 i p q (by simpa using hi) (by simpa using hj)
  ·obtain⟨h1,h2⟩:=g1 (f:=λi=>hp[i]?) (g:=λb=>some (HO.o b.1)) hh
   exact aZ.app (a5 hp h1) (b6 hp h2)
 | [],_ :: _,_,h,_=>by cases h
 |_ :: _,[],_,h,_=>by cases h
end
end
end Sx
end Go.Am

/-
 ARGUMENTS WITH SLICES: from the row's arguments to the machine,and back.
-/
set_option maxRecDepth 100000
namespace Go.Am
namespace Sx
open Go.ChangeShapes Go.WideShapes Go.ChangeAt Go.WideMaps Go.WideElems Go.RowKit
section
variable {H:Type} {enc:TypeId×Value->H} {P:Program}
theorem lH{w:World}{r:Reach}{b0:Nat}{u:TypeId}{v:Value}(h:Cell.okWide P w r b0 u v):Lies w v:=by
 rintro a len cap rfl
 have h1:∃e,w.has P r b0 a e cap:=by
  unfold Cell.okWide at h
  split at h<;>first|(rename_i e1 e2;cases e2;done)|(rename_i e1;cases e1;done)|skip
  all_goals
   unfold Cell.ok at h
   split at h<;>first|(cases h;done)|(rename_i e1 e2;cases e2;done)|skip
   all_goals first|(rename_i heq;injection heq with q1 q2 q3;subst q2 q3;cases q1;exact⟨_,h.2.2⟩)|skip
 obtain⟨e,_,h2,row,cells,h3,_⟩:=h1
 refine⟨h2,?_⟩
 unfold World.shape? at h3
 split at h3
 ·rename_i c el fr e1
  exact⟨c,el,fr,e1⟩
 ·cases h3
theorem lies_val{w:World}{r:Reach}{b0:Nat}{t:TypeId}{v:Value}(h:Value.okWide P w r b0 t v):∀x∈v.cells.toList,Lies w x:=by
 intro x hx
 unfold Value.okWide at h
 split at h
 ·obtain⟨cs,rfl,_,ts,_,_,h2⟩:=h
  obtain⟨i,hi⟩:=qaZ hx
  obtain⟨u,_,h3⟩:=h2 i x (by simpa[Value.cells]using hi)
  exact lH h3
 ·obtain⟨cs,rfl,_,ts,_,_,h2⟩:=h
  obtain⟨i,hi⟩:=qaZ hx
  obtain⟨u,_,h3⟩:=h2 i x (by simpa[Value.cells]using hi)
  exact lH h3
 ·have:x=v∨∃cs,v = .agg cs:=by
   cases v<;>first|(right;exact⟨_,rfl⟩)|(left;simpa[Value.cells]using hx)
  rcases this with rfl|⟨cs,rfl⟩
  ·exact lH h
  ·exfalso
   unfold Cell.okWide at h
   split at h<;>first|(rename_i e1 e2;cases e2;done)|(rename_i e1;cases e1;done)|skip
   all_goals
    unfold Cell.ok at h
    split at h<;>first|(cases h;done)|(rename_i e1 e2;cases e2;done)|skip
def skC(P:Program)(t:TypeId)(cks:List CK2):Option SK:=
 match P.underlying t,cks with
 |some (.struct _),cks=>some (.agg (cks.map CK2.lk))
 |some (.int _),[k]=>some (.leaf k.lk)
 |some .bool,[k]=>some (.leaf k.lk)
 |some (.slice _),[k]=>some (.leaf k.lk)
 |_,_=>none
def posK(cks:List CK2):Bool:=cks.all λk=>match k with
 | .s ks=>Nat.blt 0 ks.length
 |_=>true
theorem posK_ok{cks:List CK2}(h:posK cks=true):∀ks,CK2.s ks∈cks->0<ks.length:=by
 intro ks hk
 have:=qac.1 h _ hk
 simpa[qaF]using this
section
variable [Val] [Glo]
structure Abs(W:World)(n0:Nat)(bl:List Blk2):Prop where
 ok:∀b∈bl,pO W b
abbrev MuAt(mu:HMap)(n0:Nat)(bl:List Blk2):Prop:=∀(i:Nat) b,bl[i]? = some b->mu (n0+i)=b.2
abbrev HpAt(hp:HL)(n0:Nat)(bl:List Blk2):Prop:=∀(i:Nat) b,bl[i]? = some b->hp[n0+i]? = some (.o b.1)
abbrev Stays(W W':World):Prop:=∀b,b<W.heap.size->W'.heap[b]? = W.heap[b]?
theorem open_arg2{W:World}{r:Reach}{b0:Nat}{held:Bool}{t:TypeId}{cks:List CK2}{sk:SK}{v:Value}{d:DataW H}{ps:List MemPlace}(h:ckT P 20 t=some cks)(hsk:skC P t cks=some sk)(hpos:posK cks=true)(hval:Value.okWide P W r b0 t v)(hd:DataW.Trod enc P W 0 (λ_=>true) held t v d ps)(n0:Nat) :
  ∃(x:S0) (bl:List Blk2),(∀b∈bl,pO W b)/\x.is sk=true/\x.good/\(∀mu:HMap,MuAt mu n0 bl->VR noL mu x.val v)/\(∀hp:HL,HpAt hp n0 bl->aZ hp cks (x.cells.map SL.lf))/\
   ∀(W':World) (s':Nat->Bool),Stays W W'->(∀b,b<W.heap.size->s' b=true)->DataW.Trod enc P W' 0 s' held t v d ps:=by
 obtain⟨fuel,hf⟩:=hd
 obtain⟨a1,a2⟩:=ckT_ok 20 t cks h W held fuel _ _ (lies_val hval) hf
 obtain⟨xs,bl,b1,b2,b3,b4,b5,b6⟩:=qa (posK_ok hpos) a1 n0
 have close:∀(W':World) (s':Nat->Bool),Stays W W'->(∀b,b<W.heap.size->s' b=true)->DataW.Trod enc P W' 0 s' held t v d ps:=λW' s' h1 h2=>⟨fuel,a2 W' s' h1 h2⟩
 have leaf:(∀fs,P.underlying t≠some (.struct fs))->(∀n e,P.underlying t≠some (.array n e))->∀k,cks=[k]->sk = .leaf k.lk->∃(x:S0) (bl:List Blk2),(∀b∈bl,pO W b)/\x.is sk=true/\x.good/\(∀mu:HMap,MuAt mu n0 bl->VR noL mu x.val v)/\(∀hp:HL,HpAt hp n0 bl->aZ hp cks (x.cells.map SL.lf))/\
   ∀(W':World) (s':Nat->Bool),Stays W W'->(∀b,b<W.heap.size->s' b=true)->DataW.Trod enc P W' 0 s' held t v d ps:=by
  rintro hs1 hs2 k rfl rfl
  have hv:v.cells.toList=[v]:=by
   have h1:=dj.len a1
   cases v with
   |agg cs=>
    exfalso
    unfold Value.okWide at hval
    split at hval
    ·rename_i e;exact hs1 _ e
    ·rename_i e;exact hs2 _ _ e
    ·unfold Cell.okWide at hval
     split at hval<;>first|(rename_i e1 e2;cases e2;done)|(rename_i e1;cases e1;done)|skip
     all_goals
      unfold Cell.ok at hval
      split at hval<;>first|(cases hval;done)|(rename_i e1 e2;cases e2;done)|skip
   |_=>simp[Value.cells]
  rw[hv]at a1 b4 b5
  obtain⟨x,rfl⟩ : ∃x,xs=[x]:=List.length_eq_one_iff.1 b4
  refine⟨.leaf x,bl,b1,?_,λl hl=>?_,λmu hmu=>?_,λhp hh=>b6 hp hh,close⟩
  ·show x.is k.lk=true
   simpa[aJ]using b2
  ·simp only[S0.cells,qay]at hl
   subst hl;exact b3 _ qaE
  ·exact(b5 mu hmu).2 0 _ _ rfl rfl
 unfold skC at hsk
 split at hsk
 ·rename_i fs e
  cases hsk
  obtain⟨cs,rfl,_⟩:=okWide_struct e hval
  refine⟨.agg xs,bl,b1,b2,b3,λmu hmu=>?_,λhp hh=>b6 hp hh,close⟩
  obtain⟨c1,c2⟩:=b5 mu hmu
  refine .agg (by simpa[Value.cells]using c1) λi x y hx hy=>c2 i x y (by simpa using hx) (by simpa[Value.cells]using hy)
 ·rename_i k e;cases hsk;exact leaf (λ_ h=>by rw[e]at h;cases h) (λ_ _ h=>by rw[e]at h;cases h) _ rfl rfl
 ·rename_i e;cases hsk;exact leaf (λ_ h=>by rw[e]at h;cases h) (λ_ _ h=>by rw[e]at h;cases h) _ rfl rfl
 ·rename_i e' e;cases hsk;exact leaf (λ_ h=>by rw[e]at h;cases h) (λ_ _ h=>by rw[e]at h;cases h) _ rfl rfl
 ·cases hsk
def argK(P:Program):List TypeId->Option (List (List CK2)×List SK)
 | []=>some ([],[])
 |t :: ts=>match ckT P 20 t,argK P ts with
  |some cks,some (l,sks)=>match skC P t cks,posK cks with
   |some sk,true=>some (cks :: l,sk :: sks)
   |_,_=>none
  |_,_=>none
theorem at_app{α:Type}{bl bl':List Blk2}{f:Nat->α}{g:Blk2->α}{n0:Nat}(h:∀(i:Nat) b,(bl++bl')[i]? = some b->f (n0+i)=g b):(∀(i:Nat) b,bl[i]? = some b->f (n0+i)=g b)/\∀(i:Nat) b,bl'[i]? = some b->f (n0+bl.length+i)=g b:=by
 refine⟨λi b hb=>h i b ?_,λi b hb=>?_⟩
 ·rw[qah (by
   rcases qaz i bl.length with h|h
   ·exact h
   ·rw[qag h]at hb;cases hb)];exact hb
 ·rw[qbu]
  refine h _ b ?_
  rw[qan (by omega),qbM];exact hb
theorem nB{W:World}{r:Reach}{b0:Nat}{held:Bool}:∀(ts:List TypeId) (l:List (List CK2)) (sks:List SK) (vs:List Value) (ds:List (DataW H)) (ps:List MemPlace) (n0:Nat),argK P ts=some (l,sks)->
  (∀(j:Nat) t v,ts[j]? = some t->vs[j]? = some v->Value.okWide P W r b0 t v)->DataW.TrodAll enc P W 0 (λ_=>true) held ts vs ds ps->
  ∃(xs:List S0) (bl:List Blk2),(∀b∈bl,pO W b)/\bz xs sks=true/\(∀x∈xs,x.good)/\(∀mu:HMap,MuAt mu n0 bl->VRs noL mu (ah xs) vs)/\(∀hp:HL,HpAt hp n0 bl->aZ hp l.flatten (bB xs))/\
   ∀(W':World) (s':Nat->Bool),Stays W W'->(∀b,b<W.heap.size->s' b=true)->DataW.TrodAll enc P W' 0 s' held ts vs ds ps
 | [],l,sks,[],[],ps,n0,h,_,ht=>by
  cases h
  exact⟨[],[],by simp,rfl,by simp,λmu _=>⟨rfl,λi x y h=>by simp[ah]at h⟩,λhp _=>trivial,λ_ _ _ _=>ht⟩
 |t :: ts,l,sks,v :: vs,d :: ds,ps,n0,h,hv,ht=>by
  simp only[argK]at h
  split at h
  ·rename_i cks l' sks' e1 e2
   split at h
   ·rename_i sk e3 e4
    cases h
    obtain⟨p,q,h1,h2,rfl⟩:=ht
    obtain⟨x,bl,a1,a2,a3,a4,a5,a6⟩:=open_arg2 e1 e3 e4 (hv 0 t v rfl rfl) h1 n0
    obtain⟨xs,bl',b1,b2,b3,b4,b5,b6⟩:=nB ts l' sks' vs ds q (n0+bl.length) e2 (λj t v h1 h2=>hv (j+1) t v h1 h2) h2
    refine⟨x :: xs,bl++bl',λb hb=>?_,by simp[bz,a2,b2],λy hy=>?_,λmu hmu=>?_,λhp hh=>?_,λW' s' h1 h2=>⟨p,q,a6 W' s' h1 h2,b6 W' s' h1 h2,rfl⟩⟩
    ·rcases qaQ.1 hb with h|h
     ·exact a1 b h
     ·exact b1 b h
    ·rcases qap.1 hy with rfl|hy
     ·exact a3
     ·exact b3 y hy
    ·obtain⟨h1,h2⟩:=at_app (f:=mu) (g:=λb=>b.2) hmu
     have c1:=a4 mu h1
     obtain⟨c2,c3⟩:=b4 mu h2
     refine⟨by simpa[ah]using c2,λi p q hi hj=>?_⟩
     cases i with
     |zero=>
      simp only[ah,qat,qbd,qau]at hi hj
      subst hi hj;exact c1
     |succ i=>exact c3 i p q (by simpa[ah]using hi) (by simpa using hj)
    ·obtain⟨h1,h2⟩:=at_app (f:=λi=>hp[i]?) (g:=λb=>some (HO.o b.1)) hh
     rw[qb0]
     exact aZ.app (a5 hp h1) (b5 hp h2)
   ·cases h
  ·cases h
 | [],_,_,_ :: _,_,_,_,_,_,ht=>by cases ht
 | [],_,_,[],_ :: _,_,_,_,_,ht=>by cases ht
 |_ :: _,_,_,[],_,_,_,_,_,ht=>by cases ht
 |_ :: _,_,_,_ :: _,[],_,_,_,_,ht=>by cases ht
theorem rG{C:Cfg}{f:FuncId}{args:List Value}{r:Value}{H':List HObj}{bl:List Blk2}{W:World}(hbl:∀b∈bl,pO W b)(h:dH C f args (bl.map (·.1)) r H'){args':Array Value}(hargs:∀mu:HMap,MuAt mu 0 bl->VRs noL mu args args'.toList)(hr:flat r=true)
  (hG:∀g vs,C.G g=some vs->gBlk g<W.heap.size/\vs.all aP=true/\∃c e fr,W.heap[gBlk g]? = some (.cells c e fr)/\bH (λ_=>none) vs c (gOff g)) (hf:∀g vs,C.G g=some vs->vs.all gfl=true) :
  Calls C.P f args' W λe W'=>e = .returned r/\W'.os=W.os/\W'.output=W.output/\W'.tape=W.tape/\∀b,b<W.heap.size->W'.heap[b]? = W.heap[b]?:=by
 let mu:HMap:=λid=>(bl[id]?).bind (·.2)
 have hmu:MuAt mu 0 bl:=λi b hb=>by simp only[mu,qaW,hb,qai]
 have hob:∀(id:Nat) o,(bl.map (·.1))[id]? = some o->∃b,bl[id]? = some b/\o=b.1/\pO W b:=by
  intro id o ho
  rw[qax]at ho
  obtain⟨b,h1,rfl⟩:=qae.1 ho
  exact⟨b,h1,rfl,hbl b (qad h1)⟩
 have hun:∀(id:Nat) o,(bl.map (·.1))[id]? = some o->o.owned=false:=by
  intro id o ho
  obtain⟨b,_,rfl,h3⟩:=hob id o ho
  rcases h3 with h3|⟨vs,e,p,c,t,fr,h3,_⟩<;>rw[h3]<;>rfl
 have hno:∀b,¬Own mu (bl.map (·.1)) b:=by
  rintro b ⟨id,o,p,h1,h2,_⟩
  rw[hun id o h1]at h2;cases h2
 have hW0:WR C W.heap.size mu (bl.map (·.1)) W:=by
  refine⟨λid o h1 h2=>?_,λi j oi oj pi pj h1 h2 h3=>?_,λi o p h1 h2=>?_,λi o p h1 h2 _ h4=>?_,λid h1=>?_,λg vs hg=>?_⟩
  ·obtain⟨b,q1,rfl,q3⟩:=hob id o h1
   rcases q3 with q3|⟨vs,e,p,c,t,fr,q3,q4,q5,q6,q7,q8,q9,q10,q11⟩
   ·rw[q3]at h2;cases h2
   ·refine⟨p,by simp only[mu,q1,qai,q4],?_⟩
    rw[q3]
    refine⟨q5,q8,q7,c,t,fr,q9,q10,λh=>by(cases h),λi v hv=>⟨v,q11 i v hv,.of_flat (qac.1 q6 v (qad hv))⟩⟩
  ·rw[hun i oi h1]at h3;cases h3
  ·rw[hun i o h1]at h2;cases h2
  ·obtain⟨b,q1,rfl,q3⟩:=hob i o h1
   rcases q3 with q3|⟨vs,e,p',c,t,fr,q3,q4,q5,q6,q7,q8,q9,q10,q11⟩
   ·rw[q3]at h2;cases h2
   ·simp only[mu,q1,qai,q4,qau]at h4
    subst h4
    rcases qaz p'.b W.heap.size with h|h
    ·exact h
    ·rw[qba h]at q9;cases q9
  ·simp only[mu]
   rw[qag (by simpa using h1)];rfl
  ·obtain⟨h1,h2,c,e,fr,h4,h5⟩:=hG g vs hg
   exact⟨h1,h2,c,e,fr,h4,ku (hf g vs hg) h5⟩
 intro cs
 obtain⟨v,mu',w',a1,a2,a3,_,a5⟩:=h _ W.heap.size mu W args' (qal _) (hargs mu hmu) hW0 cs
 rw[cJ hr a1]at a5
 obtain⟨fr,b1,b2,b3⟩:=a5
 exact⟨.returned r,w',fr,⟨rfl,a3.os,a3.output,a3.tape,λb hb=>a3.keep b hb (hno b)⟩,b1,b2,b3⟩
theorem post_sl{P:Program}{f:Func}{s:ChangeSpec}{apart fresh handsOn:Bool}{W W':World}{args:Array Value}{v:Value}{ds gs:List (DataW H)}{before pa:List MemPlace}
  (hW:DataW.Whole enc P f.params.toList s.vars apart W args.toList ds gs before)
  (hres:∀(b:Nat) (sp:Nat->Bool) (hd:Bool),DataW.TrodAll enc P W' b sp hd f.resultTypes.toList (v.resultList f.resultTypes.size) (s.fn H (ds++gs)).results [])
  (hargs:DataW.TrodAll enc P W' 0 (λb=>decide (b<W.heap.size)) true f.params.toList args.toList (s.fn H (ds++gs)).args pa)
  (hvars:∀sp:Nat->Bool,DataW.TrodVars enc P W' sp s.vars (s.fn H (ds++gs)).vars [])
  (h1:W'.os=W.os) (h2:W'.output=W.output) (h3:∀b,b<W.heap.size->W'.heap[b]? = W.heap[b]?) :
  s.post enc P f apart fresh handsOn false W args v W':=
 ⟨ds,gs,before,[],pa,[],hW,hres _ _ _,hargs,hvars _,kept_of h1 h2 h3 _,λh=>by cases h⟩
end
end
section
variable [Val]
theorem pX{C:Cfg}{N:FuncId->Option Nat}{Sg:FuncId->Option Sig}(hm:C.P.follows .mixedOrders=true){g:FuncId}{sg:Sig}(hs:Sg g=some sg){ls rs:List Lf}{H H':List HObj}(hc:let _:Kno:=KnoC C N;aI C Sg g ls H rs H'){xs ys:List S0}(h1:bz xs sg.ps=true)(h2:bB xs=ls)(h3:bz ys sg.rs=true)(h4:bB ys=rs) :
  dH C g (ah xs) H (dW (ah ys)) H':=by
 let _:Kno:=KnoC C N
 obtain⟨sg',xs',ys',c1,c2,c3,c4⟩:=hc
 rw[hs]at c1
 cases c1
 obtain⟨w1,_⟩:=cA c2.1 h1 (c2.2.1.trans h2.symm)
 obtain⟨w2,_⟩:=cA c3.1 h3 (c3.2.1.trans h4.symm)
 rw[w1,w2]at c4
 exact my hm c4
end
end Sx
end Go.Am

/-
 ARGUMENTS WITH SLICES: lists of what lies behind them.
-/
set_option maxRecDepth 100000
namespace Go.Am
namespace Sx
theorem qc{α:Type}{ks:List LK}{enc:α->List Value}{ok:α->Prop}(dec:∀cs,FitC ks cs->∃a,enc a=cs/\ok a):∀(n:Nat) (cells:List Value),cells.length=n*ks.length->(∀i,i<n->FitC ks ((cells.drop (i*ks.length)).take ks.length))->∃l:List α,l.length=n/\l.flatMap enc=cells/\∀a∈l,ok a
 |0,cells,hl,_=>⟨[],rfl,by
   simp only[qbX,qa7]at hl
   rw[hl];rfl,λ_ h=>by cases h⟩
 |n+1,cells,hl,hf=>by
  obtain⟨a,h1,h2⟩:=dec _ (by have:=hf 0 (by omega);rw[qbX,qbC]at this;exact this)
  obtain⟨l,h3,h4,h5⟩:=qc dec n (cells.drop ks.length) (by rw[qbE,hl,qbf];omega) (λi hi=>by
   have:=hf (i+1) (by omega)
   rw[qbB]
   rw[qbf,qb2,Nat.add_comm]at this
   exact this)
  refine⟨a :: l,by simp[h3],?_,λb hb=>?_⟩
  ·rw[qbt,h1,h4,qbq]
  ·rcases qap.1 hb with rfl|hb
   ·exact h2
   ·exact h5 b hb
theorem ls_of{α:Type}{ks:List LK}{enc:α->List Value}{ok:α->Prop}(hlen:∀a,(enc a).length=ks.length)(dec:∀cs,FitC ks cs->∃a,enc a=cs/\ok a){h:HL}{x:Value}{n:Nat}{cells:List Value}(hs:SlC h x ks.length n cells)(hf:∀i,i<n->FitC ks ((cells.drop (i*ks.length)).take ks.length)) :
  ∃l:List α,LsH h x ks.length enc l/\l.length=n/\∀a∈l,ok a:=by
 obtain⟨l,h1,h2,h3⟩:=qc dec n cells hs.1 hf
 refine⟨l,⟨λa _=>hlen a,?_⟩,h1,h3⟩
 rw[h1,h2];exact hs
theorem aZ.i{h:HL}{k:IntKind}{ks:List CK2}{ls:List Lf}(hf:aZ h (.i k :: ks) ls):∃n r,ls = .i n :: r/\(Lit.int k n).wf=true/\aZ h ks r:=by
 match ls,hf with
 | .i n :: r,hf=>exact⟨n,r,rfl,hf.1,hf.2⟩
theorem aZ.b{h:HL}{ks:List CK2}{ls:List Lf}(hf:aZ h (.b :: ks) ls):∃n r,ls = .b n :: r/\aZ h ks r:=by
 match ls,hf with
 | .b n :: r,hf=>exact⟨n,r,rfl,hf⟩
theorem aZ.s{h:HL}{es:List LK}{ks:List CK2}{ls:List Lf}(hf:aZ h (.s es :: ks) ls):∃x r n cells,ls = .v x :: r/\SlC h x es.length n cells/\n<=maxLen/\(∀i,i<n->FitC es ((cells.drop (i*es.length)).take es.length))/\aZ h ks r:=by
 match ls,hf with
 | .v x :: r,⟨⟨n,cells,h1,h2,h3⟩,h4⟩=>exact⟨x,r,n,cells,rfl,h1,h2,h3,h4⟩
theorem aZ.nil{h:HL}{ls:List Lf}(hf:aZ h [] ls):ls=[]:=by
 match ls,hf with
 | [],_=>rfl
theorem hp_at(bl:List Blk2):HpAt (bl.map λb=>HO.o b.1) 0 bl:=λi b hb=>by
 rw[qaW,qax,hb];rfl
theorem absH_bl(T:Nat->Site)(bl:List Blk2):absH T (bl.map λb=>HO.o b.1)=bl.map (·.1):=by
 induction bl with
 |nil=>rfl
 |cons b l ih=>show absO T (.o b.1) :: absH T (l.map λb=>HO.o b.1)=_;rw[ih];rfl
end Sx
end Go.Am

/-
 CornersTurned: the law,at every pattern and corner.
-/
set_option maxRecDepth 100000
set_option maxHeartbeats 8000000
namespace Go.Am
open Sx Go.Proofs
theorem eqs2{a b c d:Int}{t:Bool}{K:Bool->Prop}(h:t=(decide (a=c)&&decide (b=d))):P1.eqs [(.i a,.i c),(.i b,.i d)] (@hid _ ⟨K⟩)=K t:=by
 show K (cm _)=K t
 have e:cm [(.i a,.i c),(.i b,.i d)]=t:=by
  rw[h,qbx]
  simp[cm,gp]
 rw[e]
theorem pair_dec{a b c d:Int}:(decide (a=c)&&decide (b=d))=decide (((a,b):Ray)=(c,d)):=by
 rw[qbx]
 simp[Prod.ext_iff]
def rk(R:List Ray)(r:Ray)(j:Nat)(t:Bool):Prop:=t=true↔∃i,i<j/\R[i]? = some r
theorem seen_0(R:List Ray)(r:Ray):rk R r 0 false:=⟨λh=>(by cases h),λ⟨i,hi,_⟩=>absurd hi (qcq _)⟩
theorem seen_mem{R:List Ray}{r:Ray}{t:Bool}(h:rk R r R.length t)(hm:r∈R):t=true:=by
 obtain⟨i,hi⟩:=qaZ hm
 exact h.2 ⟨i,bN hi,hi⟩
theorem seen_step{R:List Ray}{r p:Ray}{j:Nat}(h:rk R r j false)(hp:R[j]? = some p):rk R r (j+1) (decide (p=r)):=by
 unfold rk at *
 rw[decide_eq_true_eq]
 constructor
 ·rintro rfl
  exact⟨j,by omega,hp⟩
 ·rintro⟨i,hi,hr⟩
  rcases qaz i j with q|q
  ·have:=h.2 ⟨i,q,hr⟩
   cases this
  ·obtain rfl:i=j:=by omega
   rw[hp]at hr
   exact qao hr
theorem seen_keep{R:List Ray}{r:Ray}{j:Nat}(h:rk R r j true):rk R r (j+1) true:=by
 obtain⟨i,hi,hr⟩:=h.1 rfl
 exact⟨λ_=>⟨i,by omega,hr⟩,λ_=>rfl⟩
theorem other_c(k:Int):Cc 9 [.i k] [.i (oth k)]:=by
 refine q9 rfl ?_;unfold f9;simp only[qxh]
 by_cases h1:k=1
 ·subst h1
  simp(disch:=omega)only[↓qXX]
  rfl
 ·by_cases h2:k=2
  ·subst h2
   simp(disch:=omega)only[↓qXX]
   rfl
  ·simp(disch:=omega)only[↓qXX]
   simp[oth,h1,h2]
theorem point_c(x y:Int):Cc 8 [.i x,.i y] [.i x,.i y]:=by
 refine q8 rfl ?_;unfold f8;simp only[qxh]
 simp(disch:=omega)only[↓qXX]
theorem iO{a b c:Int}(ha:0<=a/\a<=255)(hb:0<=b/\b<=255)(hc:0<=c/\c<=255){H:HL}{kx:Value}{ks:List Int}(hk:LsH H kx 1 enc8 ks)(hr:∀k∈ks,0<=k/\k<=255) :
  ∃G,aI cc ac 3 [.i a,.i b,.v kx,.i c] (absH ae H) [.b true] (absH ae (H++G)):=by
 obtain⟨w,hw⟩:=qaV (show 0<=1+a%4 by omega)
 obtain⟨v,hv⟩:=qaV (show 0<=1+b%4 by omega)
 have hsh:1<=w/\w<=4/\1<=v/\v<=4:=by omega
 have hF:=patF_of hsh (kin_ok (6*w*v) ks)
 obtain⟨G1,xv,c1,hx⟩:=of_c ha hb hw.symm hv.symm hk hr
 generalize patL (bf w v) (kinL (6*w*v) ks)=l at hF hx
 obtain⟨l',G2,tx,s1,s2,c2,htx⟩:=turned_c hsh hF hx
 have hT:TurF w v l l':=⟨s1.1,s2⟩
 have hP':=tur_pat hsh hF hT
 obtain⟨ax,G3,c3,hax⟩:=all_c hsh (H++G1++G2)
 have hcl:=cor_len hsh
 obtain⟨n,rfl⟩:=qaV hc.1
 obtain⟨⟨x,y⟩,hxy⟩:=aQ (l:=corL w v) (i:=n%(corL w v).length) (qbW _ hcl.1)
 have hcor:=corL_mem (qad hxy)
 simp only at hcor
 have hcor':=(sp_of hsh hcor).1
 have hx3:=(hx.pre (h':=H++G1++G2) ⟨_,rfl⟩).pre (h':=H++G1++G2++G3) ⟨_,rfl⟩
 obtain⟨G4,rx,c4,hrx,_⟩:=qf hsh hcor hF.pat hx3
 change LsH _ rx 2 encR (rysC l w x y)at hrx
 rw[so]at hrx
 have ht4:=(htx.pre (h':=H++G1++G2++G3) ⟨_,rfl⟩).pre (h':=H++G1++G2++G3++G4) ⟨_,rfl⟩
 obtain⟨G5,bx,c5,hbx,_⟩:=qf hsh hcor' hP' ht4
 change LsH _ bx 2 encR (rysC l' w (2*w - x) y)at hbx
 rw[so]at hbx
 have hlen:=si hsh hcor hF hT
 have hmem:=λr hr=>sj (r:=r) hsh hcor hF hT hr
 have hR0:=refR_ok hF.pat.rng w x y
 have hRl:=refR_len l w x y
 have hx2w:x<2*w:=by
  have h:=hcor
  unfold ey at h
  simp only[qaa,qaF]at h
  exact h.2.2.1
 generalize refR l w x y=R at *
 generalize refR l' w (2*w - x) y=R' at *
 have hrx5:LsH (H++G1++G2++G3++G4++G5) rx 2 encR R:=hrx.pre ⟨G5,rfl⟩
 have hpre:Pre H (H++G1++G2++G3++G4++G5):=⟨G1++G2++G3++G4++G5,by simp⟩
 obtain⟨rs,h',hcl',e1,G,rfl⟩:=x3 (ls:=[.i a,.i b,.v kx,.i (.ofNat n)]) (K:=λrs h'=>rs=[.b true]/\Pre H h') (H:=H) (glsI (glsI (glsV hk.good (glsI gls0)))) (by
  unfold f3;simp only[qxh]
  simp(disch:=omega)only[↓qXX]
  refine aq c1 ?_
  simp(disch:=omega)only[↓qXX]
  refine aq c2 ?_
  simp(disch:=omega)only[↓qXX]
  refine aq c3 ?_
  simp(disch:=omega)only[↓qXX]
  refine gu hax ?_
  rw[p_eql_f (by show((corL w v).length:Int)≠0;omega)]
  simp(disch:=omega)only[↓qXX]
  rw[p_conv (by show(-9223372036854775808:Int)<=(n:Int);omega) (by show(n:Int)<=9223372036854775807;have:=hc.2;omega)]
  refine gu hax ?_
  rw[p_rem_nn (by show(0:Int)<=(n:Int);omega) (by show(0:Int)<((corL w v).length:Int);omega)]
  have em:Int.ofNat n%Int.ofNat (corL w v).length=Int.ofNat (n%(corL w v).length):=rfl
  rw[em]
  refine aO hax rfl hxy ?_
  unfold encP
  simp(disch:=omega)only[↓qXX]
  refine aq c4 ?_
  simp(disch:=omega)only[↓qXX]
  rw[p_mul (by simp only[qab];omega) (by simp only[qab];omega),p_sub (by simp only[qab];omega) (by simp only[qab];omega),show 2*Int.ofNat w - Int.ofNat x=Int.ofNat (2*w - x)by simp only[qab];omega]
  refine aT (point_c _ _) ?_
  simp(disch:=omega)only[↓qXX]
  refine aq c5 ?_
  simp(disch:=omega)only[↓qXX]
  refine gu hrx5 ?_
  refine gu hbx ?_
  rw[hlen,p_neq_f rfl]
  simp(disch:=omega)only[↓qXX]
  refine oV R.length (λ_=>True) (j0:=0) rfl (qbo _) trivial ?_
  intro j hj _ self hself
  simp(disch:=omega)only[↓qXX]
  refine gu hrx5 ?_
  by_cases hlt:j<R.length
  ·rw[bp hlt]
   simp(disch:=omega)only[↓qXX]
   obtain⟨r,hr⟩:=aQ hlt
   have rr:=hR0 r (qad hr)
   refine uX (o:=0) (k:=1) (cs:=[.int .i64 r.1]) hrx5 rfl hr rfl (by omega) ?_
   simp(disch:=omega)only[↓qXX]
   refine uX (o:=1) (k:=1) (cs:=[.int .u8 r.2]) hrx5 rfl hr rfl (by omega) ?_
   simp(disch:=omega)only[↓qXX]
   refine aT (other_c r.2) ?_
   simp(disch:=omega)only[↓qXX]
   refine fM R'.length (λi (t:Bool)=>[.b t,.i (Int.ofNat i)]) (λ_ _=>_) (λi t=>rk R' (mirR r) i t) (j0:=0) (s0:=false) rfl rfl (qbo _) (seen_0 _ _) ?_
   intro i t hi hseen self3 hself3
   simp(disch:=omega)only[↓qXX]
   refine gu hbx ?_
   by_cases hli:i<R'.length
   ·rw[bp hli]
    simp(disch:=omega)only[↓qXX]
    obtain⟨p,hp⟩:=aQ hli
    cases t with
    |true=>
     simp(disch:=omega)only[↓qXX]
     rw[ch (by omega)]
     exact hself3 true hli (seen_keep hseen)
    |false=>
     simp(disch:=omega)only[↓qXX]
     refine aO hbx rfl hp ?_
     unfold encR
     simp(disch:=omega)only[↓qXX]
     rw[eqs2 pair_dec.symm]
     simp(disch:=omega)only[↓qXX]
     rw[ch (by omega)]
     exact hself3 _ hli (seen_step hseen hp)
   ·obtain rfl:i=R'.length:=by omega
    rw[bC (qal _),seen_mem hseen (hmem r (qad hr))]
    simp(disch:=omega)only[↓qXX,qaL]
    rw[ch (by omega)]
    exact hself hlt trivial
  ·obtain rfl:j=R.length:=by omega
   rw[bC (qal _)]
   simp(disch:=omega)only[↓qXX]
   refine aT lives9 ?_
   simp(disch:=omega)only[↓qXX]
   exact⟨by trivial,hpre⟩)
 rw[e1]at hcl'
 exact⟨G,hcl'⟩
theorem dec8(cs:List Value)(h:FitC [.i .u8] cs):∃a:Int,enc8 a=cs/\(0<=a/\a<=255):=by
 obtain⟨v1,rfl⟩ : ∃v1,cs=[v1]:=by
  have hl:=FitC.len h
  match cs,hl with
  | [v1],_=>exact⟨v1,rfl⟩
 obtain⟨⟨a,rfl,ha⟩,_⟩:=h
 exact⟨a,rfl,wf_u8 ha⟩
theorem gn(ls:List Lf)(h:HL)(hf:aZ h [.i .u8,.i .u8,.s [.i .u8],.i .u8] ls):∃h',aI cc ac 3 ls (absH ae h) [.b true] (absH ae h'):=by
 obtain⟨w,ls,rfl,hw,hf⟩:=hf.i
 obtain⟨v,ls,rfl,hv,hf⟩:=hf.i
 obtain⟨s,ls,n,cells,rfl,h1,_,h3,hf⟩:=hf.s
 obtain⟨x,ls,rfl,hx,hf⟩:=hf.i
 obtain rfl:=hf.nil
 obtain⟨l,hl,_,hk⟩:=ls_of (enc:=enc8) (ok:=λa=>0<=a/\a<=255) (λ_=>rfl) dec8 h1 h3
 obtain⟨G,hc⟩:=iO (wf_u8 hw) (wf_u8 hv) (wf_u8 hx) hl hk
 exact⟨_,hc⟩
end Go.Am

/-
 WHAT THE ROW SAYS OF THE LISTED VARIABLES.
-/
set_option maxRecDepth 100000
namespace Go.Proofs.YtkmefaealkffkaaGreatDoor
open Go Go.Am Go.Am.Sx
open Go.ChangeShapes Go.WideShapes Go.ChangeAt Go.WideMaps Go.WideElems Go.RowKit
abbrev laidC:List (String×DataW Unit):= [("crimp/cells.quarters",Rows.laid_crimp_cells_quarters), ("crimp/patterns.others",Rows.laid_crimp_patterns_others), ("crimp/corners.ways",Rows.laid_crimp_corners_ways)]
theorem name2 : Tryz.prog.globalNamed "crimp/cells.quarters" = some 2:=by kernel_rfl
theorem name0 : Tryz.prog.globalNamed "crimp/patterns.others" = some 0:=by kernel_rfl
theorem name1 : Tryz.prog.globalNamed "crimp/corners.ways" = some 1:=by kernel_rfl
theorem of_laid{W:World}(h:laidMetH Tryz.prog laidC W):∃_:Unit,∀(g:Nat) (vs:List Value),cc.G g=some vs->
  gBlk g<W.heap.size/\vs.all aP=true/\∃c e fr,W.heap[gBlk g]? = some (.cells c e fr)/\bH (λ_=>none) vs c (gOff g):=by
 rw[MakeChecks.laidMetH_plain _ _ _ (by kernel_rfl)]at h
 obtain⟨ps,h,_,_⟩:=h
 refine⟨(),λg vs hg=>?_⟩
 have hcell:=gl_cell g vs hg
 unfold cc at hg
 simp only at hg
 split at hg
 ·cases hg
  exact lx (by kernel_rfl) hcell (by kernel_rfl) (iZ h "crimp/cells.quarters" Rows.laid_crimp_cells_quarters qaE 2 153 8 gl2 name2 (by kernel_rfl) (by kernel_rfl))
 ·cases hg
  exact lx (by kernel_rfl) hcell (by kernel_rfl) (iZ h "crimp/patterns.others" Rows.laid_crimp_patterns_others (qas _ qaE) 0 98 8 gl0 name0 (by kernel_rfl) (by kernel_rfl))
 ·cases hg
  exact lx (by kernel_rfl) hcell (by kernel_rfl) (iZ h "crimp/corners.ways" Rows.laid_crimp_corners_ways (qas _ (qas _ qaE)) 1 149 8 gl1 name1 (by kernel_rfl) (by kernel_rfl))
 ·cases hg
theorem own:ownKnob Tryz.prog.godebug=none:=by kernel_rfl
theorem door_met(os:Os)(args:Array Value):laidMetH Tryz.prog laidC ((World.doorLaid Tryz.prog 400 os).forCall (λ_ _=>0) ⟨#[],args,[]⟩).memory:=
 laidMetH_of_parts3 (fuel:=8) (laidMet_of_run' 8 (by kernel_rfl) (by kernel_rfl)) (by kernel_rfl) (by kernel_rfl)
end Go.Proofs.YtkmefaealkffkaaGreatDoor

end

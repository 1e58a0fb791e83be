/-
  PART 7 OF THE PROOF (no conditions).
-/
import Derived.Test.YteapjkmnfbpidaaGreatDoorST6
import Derived.SevenTiedAt
import Derived.Test.YteapjkmnfbpidaaGreatDoorCards
import Derived.Test.YteapjkmnfbpidaaGreatDoorTie
set_option linter.unusedSectionVars false
set_option linter.unusedSimpArgs false
set_option linter.unusedVariables false
set_option linter.constructorNameAsVariable false
set_option linter.defProp false
noncomputable section
set_option maxRecDepth 100000
set_option maxHeartbeats 16000000
namespace Go.Am
open Sx Go.Proofs
def th{k:Int}{a b r:Mv}(ha:a.1<8)(hb:b.1<8)(hr:okM k r)(h:bf a r=bf b r):a=b:=by
 have hi:(invM r).1<8:=(okM_inv hr).1
 have this:bf (bf a r) (invM r)=bf (bf b r) (invM r):=by rw[h]
 rw[hJ ha hr.1 hi,hJ hb hr.1 hi,inv_id hr.1,gt ha,gt hb]at this
 exact this
structure PS(w v:Nat)(l:TA)(r:Mv)(O A:TH)(B:Tw)(q:Tz)(D:Nat->Nat->Prop):Prop where
 js:JS w v l A B q D
 la:A.length=4*w*v
 lb:B.length=4*w*v
 lo:O.length=4*w*v
 rel:∀(c:Nat) a,B[c]?=some true->A[c]?=some a->O[c]?=some (bf a r)
def Fl(more:Bool)(q:Tz)(B:Tw)(j cnt0:Nat):Prop:=(more=false->(∀c∈q,j<=c)/\cntT B=cnt0)/\(more=true->cnt0<cntT B)
abbrev o3(H:HL)(O:TH)(B:Tw)(T:List Int):HL:=H++[.o (.cells (O.flatMap encM) 3 true),.o (.cells (B.flatMap encT) 1 true),tblk T]
def o3_0{H:HL}{O:TH}{B:Tw}{T:List Int}:(o3 H O B T)[H.length]?=some (.o (.cells (O.flatMap encM) 3 true)):=by simp
def o3_1{H:HL}{O:TH}{B:Tw}{T:List Int}:(o3 H O B T)[H.length+1]?=some (.o (.cells (B.flatMap encT) 1 true)):=by simp
def o3_2{H:HL}{O:TH}{B:Tw}{T:List Int}:(o3 H O B T)[H.length+2]?=some (tblk T):=by simp
def o3_s0{H:HL}{O O':TH}{B:Tw}{T:List Int}:putE (o3 H O B T) H.length 3 encM O'=o3 H O' B T:=by simp[putE]
def o3_s1{H:HL}{O:TH}{B B':Tw}{T:List Int}:putE (o3 H O B T) (H.length+1) 1 encT B'=o3 H O B' T:=by
 simp[putE,qdh]
def PlR(w v:Nat)(l:TA)(r:Mv)(H:HL)(rs:TB)(h':HL):Prop:=
 (rs=[.v mQ,.i 0]/\¬ ∃G,kT w v l G/\G 0=idM)∨∃G T,ConsO w v l G/\rs=[.v (.slice (some ⟨H.length,0,tag 3⟩) (4*w*v) (4*w*v+1)),.i 1]/\∃B,h'=o3 H (plL w v G r) B T
def PS.restart{w v:Nat}{l:TA}{r:Mv}{O A:TH}{B:Tw}{q:Tz}{D:Nat->Nat->Prop}(h:PS w v l r O A B q D):∃q',PS w v l r O A B q' (λ_ _=>True):=by
 refine⟨(List.range (4*w*v)).filter λc=>B.getD c false,⟨h.js.a0,h.js.b0,λc hc=>?_,λc e n _ hc _ _ hb hq=>absurd ?_ hq,h.js.bd,h.js.un⟩,h.la,h.lb,h.lo,h.rel⟩
 ·obtain⟨h1,h2⟩:=qaR.1 hc
  rw[qah]at h1
  have:c<B.length:=by rw[h.lb];exact h1
  rw[List.getD_eq_getElem?_getD,qas this]at h2
  rw[qas this]
  exact congrArg some h2
 ·rw[qaR,qah,List.getD_eq_getElem?_getD,hb]
  exact⟨hc,rfl⟩
def nV{w v:Nat}(h3:S3 w v){l:TA}{H:HL}{x:Value}(hl:LsH H x 3 encC l)(hv:∀c∈l,VC w v c)(hk0:∀c∈l,c.2.2≠0)(hn:l.length<=1000){r:Mv}(hr:okM 20000 r) :
  ∃rs h',aW cc aa 9 ([.i (.ofNat w),.i (.ofNat v),.v x]++mvl r) (absH ab H) rs (absH ab h')/\PlR w v l r H rs h'/\Pre H h':=by
 have hs:=h3.sh
 obtain⟨b1,b2,b3,b4⟩:=h3.n
 have hN:=sh_N hs
 have key:=x9 (ls:=[.i (.ofNat w),.i (.ofNat v),.v x,.i (Int.ofNat r.1),.i r.2.1,.i r.2.2]) (K:=λrs h'=>PlR w v l r H rs h'/\Pre H h') (H:=H) (glsI (glsI (glsV hl.good (glsI (glsI (glsI gls0)))))) (by
  unfold f9;simp only[qxh]
  refine p_x ?_
  rw[mul_4 (by omega)]
  try simp(disch:=omega)only[↓qXX]
  rw[lV (by omega)]
  try simp(disch:=omega)only[↓qXX]
  refine aE (ey (by omega)) ?_
  refine p_x ?_
  rw[show(Int.ofNat (4*w*v)).toNat=4*w*v from rfl]
  have z0:HO.o (.cells (aD [.int .u8 0,.int .i64 0,.int .i64 0] (4*w*v)) 3 true)=HO.o (.cells ((List.replicate (4*w*v) idM).flatMap encM) 3 true):=by
   rw[←cQ (enc:=encM) (z:=idM) (n:=4*w*v)]
   rfl
  have z1:HO.o (.cells (aD [.bool false] (4*w*v)) 1 true)=HO.o (.cells ((List.replicate (4*w*v) false).flatMap encT) 1 true):=by
   rw[←cQ (enc:=encT) (z:=false) (n:=4*w*v)]
   rfl
  rw[z0]
  refine aE (ey (by omega)) ?_
  refine p_x ?_
  rw[z1,p_lss_f (show(1:Int)<=Int.ofNat (4*w*v)by show(1:Int)<=((4*w*v:Nat):Int);omega)]
  refine p_x ?_
  have hA0:((List.replicate (4*w*v) idM)).length=4*w*v:=by simp
  have hB0:((List.replicate (4*w*v) false)).length=4*w*v:=by simp
  have e2:((H++[HO.o (.cells ((List.replicate (4*w*v) idM).flatMap encM) 3 true)])++[HO.o (.cells ((List.replicate (4*w*v) false).flatMap encT) 1 true)])=H++[HO.o (.cells ((List.replicate (4*w*v) idM).flatMap encM) 3 true),HO.o (.cells ((List.replicate (4*w*v) false).flatMap encT) 1 true)]:=by simp
  have m1:(H++[HO.o (.cells ((List.replicate (4*w*v) idM).flatMap encM) 3 true)]).length=H.length+1:=by simp
  rw[e2,m1]
  generalize hA:List.replicate (4*w*v) idM=A0 at *
  generalize hB:List.replicate (4*w*v) false=B0 at *
  refine dv (enc:=encM) (l:=A0) (i:=0) (a:=r) cE (by simp) rfl (by omega) hA0 rfl ?_
  have p0:putE (H++[HO.o (.cells (A0.flatMap encM) 3 true),HO.o (.cells (B0.flatMap encT) 1 true)]) H.length 3 encM (A0.set 0 r)=H++[HO.o (.cells ((A0.set 0 r).flatMap encM) 3 true),HO.o (.cells (B0.flatMap encT) 1 true)]:=by simp[putE]
  rw[p0]
  try simp(disch:=omega)only[↓qXX]
  refine dv (enc:=encT) (l:=B0) (i:=0) (a:=true) dD (by simp) rfl (by omega) hB0 rfl ?_
  have p1:putE (H++[HO.o (.cells ((A0.set 0 r).flatMap encM) 3 true),HO.o (.cells (B0.flatMap encT) 1 true)]) (H.length+1) 1 encT (B0.set 0 true)=H++[HO.o (.cells ((A0.set 0 r).flatMap encM) 3 true),HO.o (.cells ((B0.set 0 true).flatMap encT) 1 true)]:=by simp[putE,qdh]
  rw[p1]
  try simp(disch:=omega)only[↓qXX]
  have hT:=rL h3 (hl.pre (h':=H++[HO.o (.cells ((A0.set 0 r).flatMap encM) 3 true),HO.o (.cells ((B0.set 0 true).flatMap encT) 1 true)]) ⟨_,rfl⟩) hv hn
  have e3:(H++[HO.o (.cells ((A0.set 0 r).flatMap encM) 3 true),HO.o (.cells ((B0.set 0 true).flatMap encT) 1 true)])++[tblk (tabL w v l)]=o3 H (A0.set 0 r) (B0.set 0 true) (tabL w v l):=by simp
  have m2:(H++[HO.o (.cells ((A0.set 0 r).flatMap encM) 3 true),HO.o (.cells ((B0.set 0 true).flatMap encT) 1 true)]).length=H.length+2:=by simp
  rw[e3,m2]at hT
  refine bc hT ?_
  refine p_x ?_
  have hP0:PS w v l r (A0.set 0 r) A0 (B0.set 0 true) [0] λ_ _=>True:=by
   have js:=JS.start (l:=l) hs
   rw[hA,hB]at js
   refine⟨js,hA0,by rw[qbl,hB0],by rw[qbl,hA0],λc a hb ha=>?_⟩
   have hc:c=0:=by
    by_cases h0:c=0
    ·exact h0
    ·rw[qav (qb9 h0),←hB,qaM]at hb
     split at hb<;>cases hb
   subst hc
   rw[qaE (by omega)]
   rw[js.a0]at ha
   cases ha
   rw[id_thenM hr.1]
  generalize A0.set 0 r=O0 at *
  generalize B0.set 0 true=B1 at *
  clear p0 p1 e2 e3 m1 m2 hT z0 z1 hA hB hA0 hB0
  refine gf (m:=4*w*v - cntT B1+1) (λm ls h=>∃more O A B q,ls=[.b more]/\h=o3 H O B (tabL w v l)/\PS w v l r O A B q (λ_ _=>True)/\((more=true/\m=4*w*v - cntT B+1)∨(more=false/\q=[]))) ⟨true,O0,A0,B1,[0],rfl,rfl,hP0,.inl ⟨rfl,rfl⟩⟩ ?_
  rintro m ls h ⟨more,O,A,B,q,rfl,rfl,hP,hm⟩ self hself
  refine hidL ?_
  refine p_x ?_
  rcases hm with⟨rfl,rfl⟩|⟨rfl,rfl⟩
  case inr=>
   refine p_x ?_
   have hA:=hP.js.good hs hP.la hP.lb
   have hall:∀n,n<4*w*v->B[n]?=some true:=sB hs hP.js.b0 λc e n hc he hn hb=>(hP.js.dn c e n trivial hc he hn hb (by simp)).1
   have hO:O=plL w v (λc=>A.getD c idM) r:=by
    refine qaT λi=>?_
    by_cases hi:i<4*w*v
    ·rw[pF hi]
     obtain⟨a,ha⟩:=cM (l:=A) (i:=i) (by rw[hP.la];exact hi)
     rw[hP.rel i a (hall i hi) ha,List.getD_eq_getElem?_getD,ha]
     rfl
    ·rw[qae (by rw[hP.lo];omega),qae (by simp[plL];omega)]
   refine⟨.inr ⟨_,tabL w v l,hA.consO hs,rfl,B,by rw[hO]⟩,⟨_,rfl⟩⟩
  refine p_x ?_
  generalize hcnt:cntT B=cnt0 at *
  have hF0:∃A q,PS w v l r O A B q (λ_ _=>True)/\Fl false q B 0 cnt0:=⟨A,q,hP,⟨λ_=>⟨λ_ _=>qaI _,hcnt⟩,λh=>by cases h⟩⟩
  refine bm (σ:=List Mv×List Bool×Bool) (4*w*v) (λj s=>[.b s.2.2,.i (Int.ofNat j)]) (λj s=>o3 H s.1 s.2.1 (tabL w v l)) (λj s=>∃A q,PS w v l r s.1 A s.2.1 q (λ_ _=>True)/\Fl s.2.2 q s.2.1 j cnt0) (j0:=0) (s0:=(O,B,false)) rfl rfl (qaI _) hF0 ?_
  clear hF0 hP hcnt
  rintro j ⟨O,B,more⟩ hj ⟨A,q,hP,hF⟩ self2 hself2
  simp only at hP hF ⊢
  refine p_x ?_
  by_cases hlt:j<4*w*v
  case neg=>
   obtain rfl:j=4*w*v:=by omega
   rw[ba (qam _)]
   refine p_x ?_
   cases more with
   |false=>
    have hq:q=[]:=by
     rw[qcB]
     intro c hc
     have h1:=(hF.1 rfl).1 c hc
     have h2:=cf (hP.js.q1 c hc)
     rw[hP.lb]at h2
     omega
    subst hq
    exact hself 0 _ _ (by omega) ⟨false,O,A,B,[],rfl,rfl,hP,.inr ⟨rfl,rfl⟩⟩
   |true=>
    obtain⟨q',hP'⟩:=hP.restart
    have h1:=hF.2 rfl
    have h2:=fF B
    rw[hP.lb]at h2
    exact hself _ _ _ (by omega) ⟨true,O,A,B,q',rfl,rfl,hP',.inl ⟨rfl,rfl⟩⟩
  rw[bb hlt]
  refine p_x ?_
  obtain⟨t,ht⟩:=cM (l:=B) (i:=j) (by rw[hP.lb];exact hlt)
  have lsB:∀(O:TH) (B:Tw),B.length=4*w*v->LsH (o3 H O B (tabL w v l)) (.slice (some ⟨H.length+1,0,tag 1⟩) (4*w*v) (4*w*v+1)) 1 encT B:=λO B hb=>cU dD o3_1 hb.symm
  have lsO:∀(O:TH) (B:Tw),O.length=4*w*v->LsH (o3 H O B (tabL w v l)) (.slice (some ⟨H.length,0,tag 3⟩) (4*w*v) (4*w*v+1)) 3 encM O:=λO B hb=>cU cE o3_0 hb.symm
  have lsT:∀(O:TH) (B:Tw),LsH (o3 H O B (tabL w v l)) (.slice (some ⟨H.length+2,0,tag 1⟩) (12*w*v) (12*w*v+1)) 1 enc8 (tabL w v l):=λO B=>cU kE o3_2 iO.symm
  cases t with
  |false=>
   refine rq 2 ?_
   refine p_x ?_
   refine bB (lsB O B hP.lb) rfl ht ?_
   unfold encT
   refine p_x ?_
   rw[bA (by omega)]
   refine hself2 (O,B,more) hlt ⟨A,q,hP,⟨λh=>⟨λc hc=>?_,(hF.1 h).2⟩,hF.2⟩⟩
   have h1:=(hF.1 h).1 c hc
   have h2:=hP.js.q1 c hc
   have:c≠j:=λe=>by rw[e,ht]at h2;cases h2
   omega
  |true=>
  have hI0:∃A q,PS w v l r O A B q (λc e=>c=j->∃k',k'<0/\eK (j%4) k'=e)/\Fl more q B (j+1) cnt0/\B[j]?=some true:=by
   refine⟨A,q.filter λc=>!Nat.beq c j,⟨(hP.js.begin (c0:=j)).monoP λe h=>?_,hP.la,hP.lb,hP.lo,hP.rel⟩,⟨λh=>⟨λc hc=>?_,(hF.1 h).2⟩,hF.2⟩,ht⟩
   ·obtain⟨k',h,_⟩:=h;omega
   ·obtain⟨h1,h2⟩:=qaR.1 hc
    have h3:=(hF.1 h).1 c h1
    have:c≠j:=λe=>by subst e;simp at h2
    omega
  refine bm (σ:=List Mv×List Bool×Bool) 3 (λk s=>[.b s.2.2,.i (Int.ofNat k)]) (λk s=>o3 H s.1 s.2.1 (tabL w v l)) (λk s=>∃A q,PS w v l r s.1 A s.2.1 q (λc e=>c=j->∃k',k'<k/\eK (j%4) k'=e)/\Fl s.2.2 q s.2.1 (j+1) cnt0/\s.2.1[j]?=some true) (j0:=0) (s0:=(O,B,more)) rfl rfl (qaI _) hI0 ?_
  clear hI0 ht hP hF
  rintro k ⟨O,B,more⟩ hk ⟨A,q,hP,hF,ht⟩ self3 hself3
  simp only at hP hF ht ⊢
  refine p_x ?_
  by_cases hk3:k<3
  case neg=>
   obtain rfl:k=3:=by omega
   rw[p_lss_f (show(3:Int)<=Int.ofNat 3 from qb4 _)]
   refine p_x ?_
   rw[bA (by omega)]
   exact hself2 (O,B,more) hlt ⟨A,q,⟨hP.js.doneP λe he=>by obtain⟨k,h1,h2⟩:=eK_all (q:=j%4) e he;exact⟨k,h1,h2⟩,hP.la,hP.lb,hP.lo,hP.rel⟩,hF⟩
  rw[p_lss_t (show Int.ofNat k<3 by show(k:Int)<3;omega)]
  refine p_x ?_
  refine bB (lsB O B hP.lb) rfl ht ?_
  unfold encT
  refine p_x ?_
  refine ah (ri h3 hlt hk3) ?_
  have hkk:=mO (j%4) k
  have hmono:∀(P:Nat->Prop),(∀e,P e↔(∃k',k'<k/\eK (j%4) k'=e)∨e=eK (j%4) k)->∀e,(∃k',k'<k+1/\eK (j%4) k'=e)->P e:=by
   rintro P hP e ⟨k',h1,h2⟩
   refine(hP e).2 ?_
   by_cases hkk:k'=k
   ·subst hkk;exact .inr h2.symm
   ·exact .inl ⟨k',by omega,h2⟩
  cases hx:nbr w v j (eK (j%4) k)with
  |none=>
   rw[show nbI w v j k = -1 by unfold nbI;rw[hx]]
   refine p_x ?_
   rw[bA (by omega)]
   exact hself3 (O,B,more) hk3 ⟨A,q,⟨(hP.js.skipP hx).monoP (hmono _ λ_=>Iff.rfl),hP.la,hP.lb,hP.lo,hP.rel⟩,hF,ht⟩
  |some n=>
  rw[show nbI w v j k=Int.ofNat n by unfold nbI;rw[hx]]
  obtain⟨g1,g2,g3,g4,g5⟩:=gU hs hlt hkk hx
  refine p_x ?_
  rw[p_lss_f (show(0:Int)<=Int.ofNat n from qaL n)]
  refine p_x ?_
  obtain⟨a,ha⟩:=cM (l:=A) (i:=j) (by rw[hP.la];exact hlt)
  have hOa:=hP.rel j a ht ha
  have okA:okM 2000 a:=cg (hP.js.bd j a ht ha) (by have:=fF B;rw[hP.lb]at this;omega)
  refine bB (lsO O B hP.lo) rfl hOa ?_
  unfold encM
  refine p_x ?_
  rw[mul_3 (by omega)]
  try simp(disch:=omega)only[↓qXX]
  rw[tt (by omega)]
  try simp(disch:=omega)only[↓qXX]
  refine bB (lsT O B) rfl (pW hlt hk3) ?_
  unfold enc8
  refine p_x ?_
  have ekA:kAt w v l j k=kOf l (min j n) (eK (j%4) k):=by unfold kAt;rw[hx]
  have okAr:okM 30000 (bf a r):=cg (gg okA hr) (by omega)
  have okAc:okM 3000 (acM w l a j n (eK (j%4) k)):=cg (acM_ok hs hlt hkk hx okA (by omega)) (by omega)
  obtain⟨W,hW⟩ : ∃W,W=bf (acM w l a j n (eK (j%4) k)) r:=⟨_,rfl⟩
  obtain⟨tn,hbn⟩:=cM (l:=B) (i:=n) (by rw[hP.lb];exact g1)
  obtain⟨b,hAn⟩:=cM (l:=A) (i:=n) (by rw[hP.la];exact g1)
  by_cases hkd:kAt w v l j k=0
  case' pos=>
   have hcr:isCr l (min j n) (eK (j%4) k)=false:=by
    rw[←qaS,←kOf_cr hk0,←ekA]
    exact λh=>h hkd
   have e1:bf a r=W:=by rw[hW];unfold acM;rw[qdr (by rw[hcr];simp)]
   rw[p_neq_f hkd,e1]
   simp(disch:=omega)only[↓qXX]
  case' neg=>
   have hcr:isCr l (min j n) (eK (j%4) k)=true:=by
    rw[←kOf_cr hk0,←ekA]
    exact hkd
   have e1:bf (ofM (lnC3 (clN w j) (eK (j%4) k))) (bf a r)=W:=by
    rw[hW];unfold acM
    rw[qdq hcr,(sA hs hlt hkk hx).2,hJ (ofM_lt _) okA.1 hr.1]
   have hl10:=ln_ok hs hlt hkk
   have c1:=ik h3 hlt
   have c2:=ik h3 g1
   have c3:=mir25_c h3 hlt hk3 hx
   have c4:=then25_c (cg (ofM_ok (n:=10) ⟨hl10.2.2.1,hl10.2.2.2⟩) (by omega)) okAr
   rw[e1]at c4
   simp only[mvl,cll,qax,qaw]at c1 c2 c3 c4
   rw[p_neq_t hkd]
   refine p_x ?_
   refine ah c1 ?_
   refine p_x ?_
   refine ah c2 ?_
   refine p_x ?_
   refine ah c3 ?_
   refine p_x ?_
   refine bB (lsO O B hP.lo) rfl hOa ?_
   unfold encM
   refine p_x ?_
   refine ah c4 ?_
   simp(disch:=omega)only[↓qXX]
  all_goals
   refine bB (lsB O B hP.lb) rfl hbn ?_
   unfold encT
   cases tn with
   |true=>
    simp(disch:=omega)only[↓qXX,qaK,qa1]
    refine bB (lsO O B hP.lo) rfl (hP.rel n b hbn hAn) ?_
    unfold encM
    simp(disch:=omega)only[↓qXX,qaK,qa1]
    rw[eqsM]
    have okB:okM 2000 b:=cg (hP.js.bd n b hbn hAn) (by have:=fF B;rw[hP.lb]at this;omega)
    by_cases heq:bf b r=W
    ·have hb:b=acM w l a j n (eK (j%4) k):=th okB.1 okAc.1 hr (heq.trans hW)
     rw[qdp heq]
     simp(disch:=omega)only[↓qXX,qaK,qa1]
     refine bB (lsB O B hP.lb) rfl hbn ?_
     unfold encT
     simp(disch:=omega)only[↓qXX,qaK,qa1]
     rw[bA (by omega)]
     exact hself3 (O,B,more) hk3 ⟨A,q,⟨(hP.js.seenP hx hbn ha (by rw[←hb];exact hAn)).monoP (hmono _ λ_=>Iff.rfl),hP.la,hP.lb,hP.lo,hP.rel⟩,hF,ht⟩
    ·rw[qdo heq]
     simp(disch:=omega)only[↓qXX,qaK,qa1]
     refine⟨.inl ⟨by trivial,?_⟩,⟨_,rfl⟩⟩
     exact hP.js.tear hs hlt hkk hx ht hbn ha hAn λh=>heq (by rw[h,hW])
   |false=>
    simp(disch:=omega)only[↓qXX,qaK,qa1]
    refine bB (lsB O B hP.lb) rfl hbn ?_
    unfold encT
    simp(disch:=omega)only[↓qXX,qaK,qa1]
    refine dv (enc:=encM) (l:=O) (i:=n) (a:=W) cE o3_0 rfl (by rw[hP.lo];exact g1) hP.lo rfl ?_
    rw[o3_s0]
    try simp(disch:=omega)only[↓qXX,qaK,qa1]
    refine dv (enc:=encT) (l:=B) (i:=n) (a:=true) dD o3_1 rfl (by rw[hP.lb];exact g1) hP.lb rfl ?_
    rw[o3_s1]
    try simp(disch:=omega)only[↓qXX,qaK,qa1]
    rw[bA (by omega)]
    have hcn:=eS hbn
    refine hself3 (O.set n W,B.set n true,true) hk3 ⟨A.set n (acM w l a j n (eK (j%4) k)),q++[n],⟨(hP.js.freshP hs hP.la hP.lb hlt hkk hx ht hbn ha).monoP (hmono _ λ_=>Iff.rfl),by rw[qbl,hP.la],by rw[qbl,hP.lb],by rw[qbl,hP.lo],λc a' hbc hac=>?_⟩,⟨λh=>(by cases h),λ_=>?_⟩,?_⟩
    ·by_cases hcn':n=c
     ·subst hcn'
      rw[qaE (by rw[hP.la];exact g1)]at hac
      rw[qaE (by rw[hP.lo];exact g1)]
      cases hac
      rw[hW]
     ·rw[qav hcn']at hbc hac ⊢
      exact hP.rel c a' hbc hac
    ·show cnt0<cntT (B.set n true)
     rw[hcn]
     cases more with
     |false=>have:=(hF.1 rfl).2;omega
     |true=>have:=hF.2 rfl;omega
    ·show(B.set n true)[j]?=some true
     rw[qav g5]
     exact ht)
 obtain⟨rs,h',h2,h3,h4⟩:=key
 exact⟨rs,h',h2,h3,h4⟩
abbrev Stk:=Cl×Value
def enc4(s:Stk):Tl:=gw s.1++[s.2]
def StL(h:HL)(x:Value)(L:List (Cl×List Nat)):Prop:=∃M:List Stk,LsH h x 4 enc4 M/\M.length=L.length/\∀(i:Nat) m,M[i]?=some m->∃l,L[i]?=some (m.1,l)/\LsH h m.2 1 encN l
def StL.pre{h h':HL}{x:Value}{L:List (Cl×List Nat)}(hs:StL h x L)(hp:Pre h h'):StL h' x L:=by
 obtain⟨M,h1,h2,h3⟩:=hs
 refine⟨M,h1.pre hp,h2,λi m hm=>?_⟩
 obtain⟨l,h4,h5⟩:=h3 i m hm
 exact⟨l,h4,h5.pre hp⟩
def ir(w v:Nat):List (Cl×List Nat):=(List.range (4*w*v)).map λi=>(clN w i,[i])
def qJ{w v i:Nat}(h:i<4*w*v):(ir w v)[i]?=some (clN w i,[i]):=by
 unfold ir
 rw[qaA,qba h];rfl
def flat_c{w v:Nat}(h3:S3 w v){H:HL} :
  ∃x h',aW cc aa 5 [.i (.ofNat w),.i (.ofNat v)] (absH ab H) [.i (.ofNat w),.i (.ofNat v),.v mQ,.i 0,.i 0,.i 0,.v x] (absH ab h')/\Pre H h'/\StL h' x (ir w v):=by
 have hs:=h3.sh
 obtain⟨b1,b2,b3,b4⟩:=h3.n
 have hN:=sh_N hs
 have key:=u5 (ls:=[.i (.ofNat w),.i (.ofNat v)]) (K:=λrs h'=>∃x,rs=[.i (.ofNat w),.i (.ofNat v),.v mQ,.i 0,.i 0,.i 0,.v x]/\Pre H h'/\StL h' x (ir w v)) (H:=H) rfl (by
  unfold f5;simp only[qxh]
  refine p_x ?_
  refine bm (σ:=HL×Value) (4*w*v) (λj s=>[.i (Int.ofNat j),.i (.ofNat w),.i (.ofNat v),.v mQ,.i 0,.i 0,.i 0,.v s.2]) (λ_ s=>s.1)
   (λj s=>Pre H s.1/\∃M:List Stk,MkL H.length s.1 s.2 4 enc4 M/\M.length=j/\∀(i:Nat) m,M[i]?=some m->m.1=clN w i/\∃b,m.2 = .slice (some ⟨b,0,tag 1⟩) 1 2/\blk s.2≠some b/\s.1[b]?=some (.o (.cells (encN i) 1 true)))
   (j0:=0) (s0:=(H,.slice none 0 0)) rfl rfl (qaI _) ⟨.refl _,[],.nil _ _ _ _,rfl,λi m h=>by simp at h⟩ ?_
  rintro j ⟨h,x⟩ hj ⟨hp,M,hM,hl,hb⟩ self hself
  simp only at hp hM hb ⊢
  refine p_x ?_
  rw[mul_4 (by omega)]
  try simp(disch:=omega)only[↓qXX]
  rw[lV (by omega)]
  try simp(disch:=omega)only[↓qXX]
  by_cases hlt:j<4*w*v
  case neg=>
   obtain rfl:j=4*w*v:=by omega
   rw[ba (qam _)]
   refine p_x ?_
   refine⟨x,rfl,hp,M,hM.ls,by rw[hl];simp[ir],λi m hm=>?_⟩
   obtain⟨g1,b,g2,_,g3⟩:=hb i m hm
   have:=cf hm
   refine⟨[i],by rw[qJ (by omega),g1],?_⟩
   rw[g2]
   exact cU io (L:=[i]) (by simpa using g3) rfl
  rw[bb hlt]
  refine p_x ?_
  refine ah (ik h3 hlt) ?_
  unfold cll
  refine p_x ?_
  refine p_app1 (h0:=H) (l:=M) (a:=((clN w j,.slice (some ⟨h.length,0,tag 1⟩) 1 2):Stk)) (hp.app _) (hM.pre ⟨_,rfl⟩) rfl rfl rfl rfl (by
   unfold ch
   rw[qa5 (by omega),qa5 (by omega)];rfl) ?_
  intro v' h' hp' hM' hg hk hbl
  refine p_x ?_
  refine aL hg ?_
  refine p_x ?_
  rw[bA (by omega)]
  refine hself (h',v') hlt ⟨hp',_,hM',by rw[qaG,hl];rfl,λi m hm=>?_⟩
  have hxb:blk x≠some h.length:=by
   obtain⟨_,⟨rfl,_⟩|⟨id,_,rfl,h5⟩⟩:=hM.2
   ·simp[blk]
   ·have:=cf h5
    intro e
    have:id=h.length:=by simpa[blk]using e
    omega
  have hne:∀b,b<=h.length->blk x≠some b->blk v'≠some b:=by
   intro b hb1 hb2 e
   rcases hbl with hbl|⟨z,h5,h6⟩
   ·exact hb2 (hbl.symm.trans e)
   ·rw[e]at h5
    cases h5
    rw[qaG]at h6
    simp only[qaP,qbR]at h6
    omega
  by_cases hi:i<M.length
  ·rw[qaf hi]at hm
   obtain⟨g1,b,g2,g3,g4⟩:=hb i m hm
   have hlb:=cf g4
   exact⟨g1,b,g2,hne b (by omega) g3,hk b _ (by rw[qaf hlb];exact g4) g3⟩
  ·have hi2:i=j:=by
    have:=cf hm
    rw[qaG]at this
    simp only[qaP,qbR]at this
    omega
   subst hi2
   rw[qak (by omega),hl,qbv]at hm
   cases hm
   exact⟨rfl,h.length,rfl,hne _ (qam _) hxb,hk _ _ (by rw[qak (qam _),qbv];rfl) hxb⟩)
 obtain⟨rs,h',h2,x,rfl,h3,h4⟩:=key
 exact⟨x,h',h2,h3,h4⟩
def tabEk(w v c k:Nat):Bool:=match nbr w v c (eK (c%4) k)with
 |some n=>gC 7 [.i (.ofNat w),.i (.ofNat v),.i (.ofNat c),.i (.ofNat n)] [.i (.ofNat (eK (c%4) k))]
 |none=>true
def allE:∀w v:Nat,1<=w->w<=3->1<=v->v<=3->((List.range (4*w*v)).all λc=>(List.range 3).all λk=>tabEk w v c k)=true:=by
 have key:((List.range 3).all λw=>(List.range 3).all λv=>(List.range (4*(w+1)*(v+1))).all λc=>(List.range 3).all λk=>tabEk (w+1) (v+1) c k)=true:=by kernel_rfl
 intro w v h1 h2 h3 h4
 have h5:=qab.1 key (w - 1) (qah.2 (by omega))
 have h6:=qab.1 h5 (v - 1) (qah.2 (by omega))
 rw[show w - 1+1=w by omega,show v - 1+1=v by omega]at h6
 exact h6
def edge28_c{w v c k n:Nat}(h:S3 w v)(hc:c<4*w*v)(hk:k<3)(hn:nbr w v c (eK (c%4) k)=some n):Cc 7 [.i (.ofNat w),.i (.ofNat v),.i (.ofNat c),.i (.ofNat n)] [.i (.ofNat (eK (c%4) k))]:=by
 have:=qab.1 (qab.1 (allE w v h.1 h.2.1 h.2.2.1 h.2.2.2) c (qah.2 hc)) k (qah.2 hk)
 unfold tabEk at this
 rw[hn]at this
 exact cY this rfl (by kernel_rfl) rfl
def gtC(a b:Crs):Bool:=decide (b.1<a.1)||(decide (a.1=b.1)&&decide (b.2.1<a.2.1))
def SorC(l:TA):Prop:=l.Pairwise λa b=>gtC a b=false
def so{a b:Crs}:gtC a b=false↔a.1<b.1∨(a.1=b.1/\a.2.1<=b.2.1):=by
 unfold gtC
 rw[qbI,Bool.and_eq_false_iff]
 simp only[decide_eq_false_iff_not]
 omega
def gtC_t{a b:Crs}:gtC a b=true↔b.1<a.1∨(a.1=b.1/\b.2.1<a.2.1):=by
 unfold gtC
 rw[qaX,qaa]
 simp only[qdn]
def sor_ins{A B:TA}{x:Crs}(h:SorC (A++B))(h1:∀a∈A,gtC a x=false)(h2:∀b∈B,gtC b x=true):SorC (A++x :: B):=by
 unfold SorC at *
 rw[qcK]at h ⊢
 refine⟨h.1,qce.2 ⟨λb hb=>?_,h.2.1⟩,λa ha b hb=>?_⟩
 ·have:=gtC_t.1 (h2 b hb)
  exact so.2 (by omega)
 ·rcases qap.1 hb with rfl|hb
  ·exact h1 a ha
  ·exact h.2.2 a ha b hb
def mh{α:Type}{h:HL}{id e:Nat}{enc:α->Tl}{l l':List α}:putE (putE h id e enc l) id e enc l'=putE h id e enc l':=by
 unfold putE
 rw[List.set_set]
def ordered_c{H:HL}{id cx:Nat}{l:TA}(hid:H[id]?=some (.o (.cells (l.flatMap encC) 3 true)))(hn:l.length<=1000) :
  ∃l',aW cc aa 8 [.v (.slice (some ⟨id,0,tag 3⟩) l.length cx)] (absH ab H) [.v (.slice (some ⟨id,0,tag 3⟩) l.length cx)] (absH ab (putE H id 3 encC l'))/\l'.Perm l/\SorC l':=by
 have hlt0:=cf hid
 have henc:∀c:Crs,(encC c).length=3:=λ_=>rfl
 have lsC:∀L:List Crs,L.length=l.length->LsH (putE H id 3 encC L) (.slice (some ⟨id,0,tag 3⟩) l.length cx) 3 encC L:=λL h=>cU henc (dH hlt0) h.symm
 have key:=x8 (ls:=[.v (.slice (some ⟨id,0,tag 3⟩) l.length cx)]) (K:=λrs h'=>rs=[.v (.slice (some ⟨id,0,tag 3⟩) l.length cx)]/\∃l',h'=putE H id 3 encC l'/\l'.Perm l/\SorC l') (H:=H) (glsV (cU henc hid rfl).good gls0) (by
  unfold f8;simp only[qxh]
  refine p_x ?_
  have hp0:putE H id 3 encC l=H:=rG hid
  refine bm (σ:=List Crs) (max 1 l.length) (λj _=>[.i (Int.ofNat j)]) (λ_ L=>putE H id 3 encC L) (λj L=>L.Perm l/\1<=j/\SorC (L.take j)) (j0:=1) (s0:=l) rfl hp0.symm (by omega) ⟨List.Perm.refl _,qam _,?_⟩ ?_
  ·cases l with
   |nil=>exact .nil
   |cons a l=>exact qce.2 ⟨λ_ h=>(by cases h),.nil⟩
  intro i L hi ⟨hpm,hi1,hso⟩ self hself
  have hL:L.length=l.length:=hpm.length_eq
  refine p_x ?_
  refine cC (lsC L hL) ?_
  rw[hL]
  by_cases hlt:i<l.length
  case neg=>
   rw[ba (by omega)]
   refine p_x ?_
   rw[qaJ (by omega)]at hso
   exact⟨by trivial,L,rfl,hpm,hso⟩
  rw[bb hlt]
  refine p_x ?_
  obtain⟨x0,hx0⟩:=cM (l:=L) (i:=i) (by omega)
  have hsplit:L=L.take i++x0 :: []++L.drop (i+1):=by
   conv=>lhs;rw[←qbX i L]
   rw[qbn (by omega)]
   have:L[i]'(by omega)=x0:=by rw[qas (by omega)]at hx0;exact qan hx0
   rw[this]
   simp
  refine gf (m:=i) (λm ls h=>∃(A:TA) (x:Crs) (B R:TA),ls=[.i (Int.ofNat A.length)]/\m=A.length/\h=putE H id 3 encC (A++x :: B++R)/\(A++x :: B++R).Perm l/\SorC (A++B)/\(∀b∈B,gtC b x=true)/\A.length+B.length=i)
   ⟨L.take i,x0,[],L.drop (i+1),by rw[qa0,qbK (by omega)],by rw[qa0,qbK (by omega)],by rw[←hsplit],by rw[←hsplit];exact hpm,by simpa using hso,λb hb=>(by cases hb),by rw[qa0,qbK (by omega)];rfl⟩ ?_
  clear hsplit hx0 hso hpm hL
  rintro m ls h ⟨A,x,B,R,rfl,rfl,rfl,hpm,hso,hB,hAB⟩ self2 hself2
  refine hidL ?_
  refine p_x ?_
  have hL:(A++x :: B++R).length=l.length:=hpm.length_eq
  have hdone:(∀a∈A,gtC a x=false)->self [.i (Int.ofNat i+1)] (putE H id 3 encC (A++x :: B++R)):=λh=>hself _ (by omega) ⟨hpm,by omega,by
   rw[qcG (by simp;omega),qaJ (by simp;omega)]
   exact sor_ins hso h hB⟩
  rcases List.eq_nil_or_concat A with rfl|⟨A',y,rfl⟩
  ·rw[p_gtr_f (show Int.ofNat ([]:TA).length<=0 from qb4 _)]
   refine p_x ?_
   rw[bA (by omega)]
   exact hdone λa ha=>(by cases ha)
  rw[List.concat_eq_append]at *
  have hk:(A'++[y]).length=A'.length+1:=by simp
  rw[hk]at hAB hself2 ⊢
  have hlast:gtC y x=false->∀a∈A'++[y],gtC a x=false:=by
   intro h a ha
   rcases qaH.1 ha with ha|ha
   ·have h1:gtC a y=false:=by
     unfold SorC at hso
     rw[qaB,qcK]at hso
     exact hso.2.2 a ha y (by simp)
    have h1:=so.1 h1
    have h:=so.1 h
    exact so.2 (by omega)
   ·rw[qay.1 ha];exact h
  have gy:(A'++[y]++x :: B++R)[A'.length]?=some y:=by simp
  have gx:(A'++[y]++x :: B++R)[A'.length+1]?=some x:=by
   rw[qaB,qak (by simp)]
   simp
  have hls:=lsC _ hL
  have hg:=dH (l:=A'++[y]++x :: B++R) (e:=3) (enc:=encC) hlt0
  rw[p_gtr_t (show(0:Int)<Int.ofNat (A'.length+1)by show(0:Int)<((A'.length+1:Nat):Int);omega)]
  have hlen:A'.length+1<=4294967296:=by omega
  refine p_x ?_
  rw[iD (by omega) hlen]
  try simp(disch:=omega)only[↓qXX]
  refine cr (cs:=[.int .i64 y.1]) hls rfl gy rfl (by omega) ?_
  refine p_x ?_
  refine cr (cs:=[.int .i64 x.1]) hls rfl gx rfl (by omega) ?_
  refine p_x ?_
  have hswap:gtC y x=true->self2 [.i (Int.ofNat A'.length)] (putE H id 3 encC (A'++x :: (y :: B)++R)):=λh=>hself2 A'.length _ _ (by omega) ⟨A',x,y :: B,R,rfl,rfl,rfl,by
   refine List.Perm.trans ?_ hpm
   simp only[qaB,qax,qaw]
   exact List.Perm.append_left _ (List.Perm.swap _ _ _),by rw[qaB]at hso;exact hso,λb hb=>by
   rcases qap.1 hb with rfl|hb
   ·exact h
   ·exact hB b hb,by simp;omega⟩
  have hs1:((A'++[y]++x :: B++R).set A'.length x).set (A'.length+1) y=A'++x :: (y :: B)++R:=by
   simp only[qaB,qax,qaw]
   rw[qbW _ _ (qam _),qbW _ _ (by omega),qbv,show A'.length+1 - A'.length=1 by omega]
   rfl
  have hl1:((A'++[y]++x :: B++R).set A'.length x).length=l.length:=by rw[qbl,hL]
  have hx1:=cf gx
  have hg1:(putE (putE H id 3 encC (A'++[y]++x :: B++R)) id 3 encC ((A'++[y]++x :: B++R).set A'.length x))[id]?=some (.o (.cells (((A'++[y]++x :: B++R).set A'.length x).flatMap encC) 3 true)):=by
   rw[mh]
   exact dH hlt0
  by_cases hgt:gtC y x=true
  case neg=>
   have hgt:=qcv.2 hgt
   rcases so.1 hgt with h1|⟨h1,h2⟩
   ·rw[p_gtr_f (by omega)]
    refine p_x ?_
    rw[iD (by omega) hlen]
    try simp(disch:=omega)only[↓qXX]
    refine cr (cs:=[.int .i64 y.1]) hls rfl gy rfl (by omega) ?_
    refine p_x ?_
    refine cr (cs:=[.int .i64 x.1]) hls rfl gx rfl (by omega) ?_
    simp(disch:=omega)only[↓qXX]
    try rw[p_eql_f (by omega)]
    try simp(disch:=omega)only[↓qXX]
    rw[bA (by omega)]
    exact hdone (hlast hgt)
   ·rw[p_gtr_f (by omega)]
    refine p_x ?_
    rw[iD (by omega) hlen]
    try simp(disch:=omega)only[↓qXX]
    refine cr (cs:=[.int .i64 y.1]) hls rfl gy rfl (by omega) ?_
    refine p_x ?_
    refine cr (cs:=[.int .i64 x.1]) hls rfl gx rfl (by omega) ?_
    simp(disch:=omega)only[↓qXX]
    try rw[p_eql_t (by omega)]
    try simp(disch:=omega)only[↓qXX]
    rw[iD (by omega) hlen]
    try simp(disch:=omega)only[↓qXX]
    refine cr (cs:=[.int .u8 y.2.1]) hls rfl gy rfl (by omega) ?_
    refine p_x ?_
    refine cr (cs:=[.int .u8 x.2.1]) hls rfl gx rfl (by omega) ?_
    simp(disch:=omega)only[↓qXX]
    try rw[p_gtr_f (by omega)]
    try simp(disch:=omega)only[↓qXX]
    rw[bA (by omega)]
    exact hdone (hlast hgt)
  rcases gtC_t.1 hgt with h1|⟨h1,h2⟩
  case' inl=>
   rw[p_gtr_t (by omega)]
   simp(disch:=omega)only[↓qXX]
  case' inr=>
   rw[p_gtr_f (by omega)]
   refine p_x ?_
   rw[iD (by omega) hlen]
   try simp(disch:=omega)only[↓qXX]
   refine cr (cs:=[.int .i64 y.1]) hls rfl gy rfl (by omega) ?_
   refine p_x ?_
   refine cr (cs:=[.int .i64 x.1]) hls rfl gx rfl (by omega) ?_
   simp(disch:=omega)only[↓qXX]
   try rw[p_eql_t (by omega)]
   try simp(disch:=omega)only[↓qXX]
   rw[iD (by omega) hlen]
   try simp(disch:=omega)only[↓qXX]
   refine cr (cs:=[.int .u8 y.2.1]) hls rfl gy rfl (by omega) ?_
   refine p_x ?_
   refine cr (cs:=[.int .u8 x.2.1]) hls rfl gx rfl (by omega) ?_
   simp(disch:=omega)only[↓qXX]
   try rw[p_gtr_t (by omega)]
   try simp(disch:=omega)only[↓qXX]
  all_goals
   rw[iD (by omega) hlen]
   try simp(disch:=omega)only[↓qXX]
   refine bB hls rfl gx ?_
   rw[show encC x=[.int .i64 x.1,.int .u8 x.2.1,.int .u8 x.2.2]from rfl]
   refine p_x ?_
   rw[iD (by omega) hlen]
   try simp(disch:=omega)only[↓qXX]
   refine bB hls rfl gy ?_
   rw[show encC y=[.int .i64 y.1,.int .u8 y.2.1,.int .u8 y.2.2]from rfl]
   refine p_x ?_
   refine dv (enc:=encC) (i:=A'.length) (a:=x) henc hg rfl (by omega) hL rfl ?_
   try simp(disch:=omega)only[↓qXX]
   refine dv (enc:=encC) (i:=A'.length+1) (a:=y) henc hg1 rfl (by omega) hl1 rfl ?_
   rw[mh,mh,hs1]
   try simp(disch:=omega)only[↓qXX]
   rw[iD (by omega) hlen]
   rw[qct]
   exact hswap hgt)
 obtain⟨rs,h',h2,rfl,l',rfl,h3,h4⟩:=key
 exact⟨l',h2,h3,h4⟩
def tabBf(w v c:Nat):Bool:=match c with
 |0=>true
 |c+1=>gC 47 (cll (clN w c)++cll (clN w (c+1))) [.i 1]
def allBf:∀w v:Nat,1<=w->w<=3->1<=v->v<=3->((List.range (4*w*v)).all λc=>tabBf w v c)=true:=by
 have key:((List.range 3).all λw=>(List.range 3).all λv=>(List.range (4*(w+1)*(v+1))).all λc=>tabBf (w+1) (v+1) c)=true:=by kernel_rfl
 intro w v h1 h2 h3 h4
 have h5:=qab.1 key (w - 1) (qah.2 (by omega))
 have h6:=qab.1 h5 (v - 1) (qah.2 (by omega))
 rw[show w - 1+1=w by omega,show v - 1+1=v by omega]at h6
 exact h6
def bf_c{w v c:Nat}(h:S3 w v)(hc:c<4*w*v)(h0:0<c):Cc 47 (cll (clN w (c - 1))++cll (clN w c)) [.i 1]:=by
 have:=qab.1 (allBf w v h.1 h.2.1 h.2.2.1 h.2.2.2) c (qah.2 hc)
 obtain⟨d,rfl⟩ : ∃d,c=d+1:=⟨c - 1,by omega⟩
 exact cY this rfl (by kernel_rfl) rfl
def StL.at{h:HL}{x:Value}{w v:Nat}(hs:StL h x (ir w v)):∃M:List Stk,LsH h x 4 enc4 M/\M.length=4*w*v/\∀i,i<4*w*v->∃y,M[i]?=some (clN w i,y)/\LsH h y 1 encN [i]:=by
 obtain⟨M,h1,h2,h3⟩:=hs
 rw[show(ir w v).length=4*w*v by simp[ir]]at h2
 refine⟨M,h1,h2,λi hi=>?_⟩
 obtain⟨⟨c,y⟩,hm⟩:=cM (l:=M) (i:=i) (by omega)
 obtain⟨l,g1,g2⟩:=h3 i _ hm
 rw[qJ hi]at g1
 cases g1
 exact⟨y,hm,g2⟩
def oneN(n i:Nat):Tz:=(List.range n).map λc=>if c<i then 1 else 0
def kO{n i c:Nat}(h:c<n):(oneN n i)[c]?=some (if c<i then 1 else 0):=by
 unfold oneN
 rw[qaA,qba h];rfl
def ez{n i:Nat}:(oneN n i).length=n:=by simp[oneN]
def oneN_set{n i:Nat}:(oneN n i).set i 1=oneN n (i+1):=by
 refine qaT λc=>?_
 by_cases hc:c<n
 ·rw[qaD,ez,kO hc,kO hc]
  by_cases h:i=c
  ·subst h;rw[qdq rfl,qdq hc,qdq (by omega)]
  ·rw[qdr h]
   by_cases h2:c<i
   ·rw[qdq h2,qdq (by omega)]
   ·rw[qdr h2,qdr (by omega)]
 ·rw[qae (by rw[qbl,ez];omega),qae (by rw[ez];omega)]
def ofnn(n:Nat):(0:Int)<=Int.ofNat n:=qaL n
def ofn_lt{a b:Nat}(h:a<b):Int.ofNat a<Int.ofNat b:=Int.ofNat_lt.2 h
def listed_c{w v:Nat}(h3:S3 w v){H:HL}{x:Value}(hx:StL H x (ir w v)) :
  ∃h',aW cc aa 20 [.v x,.i (.ofNat (4*w*v))] (absH ab H) [.i 0] (absH ab h')/\Pre H h':=by
 have hs:=h3.sh
 obtain⟨b1,b2,b3,b4⟩:=h3.n
 have hN:=sh_N hs
 obtain⟨M,hM,hml,hm⟩:=hx.at
 have key:=x20 (ls:=[.v x,.i (.ofNat (4*w*v))]) (K:=λrs h'=>rs=[.i 0]/\Pre H h') (H:=H) (glsV hM.good (glsI gls0)) (by
  unfold f20;simp only[qxh]
  refine p_x ?_
  refine aE (ey (by omega)) ?_
  refine p_x ?_
  rw[show(Int.ofNat (4*w*v)).toNat=4*w*v from rfl]
  have z0:HO.o (.cells (aD [.int .i64 0] (4*w*v)) 1 true)=HO.o (.cells ((oneN (4*w*v) 0).flatMap encN) 1 true):=by
   have:oneN (4*w*v) 0=List.replicate (4*w*v) 0:=by
    rw[qcC]
    refine⟨ez,λx hx=>?_⟩
    obtain⟨i,_,rfl⟩:=qaN.1 hx
    rw[qdr (by omega)]
   rw[this,←cQ (enc:=encN) (z:=0) (n:=4*w*v)]
   rfl
  rw[z0]
  have hMs:∀S:List Nat,LsH (H++[HO.o (.cells (S.flatMap encN) 1 true)]) x 4 enc4 M:=λS=>hM.pre ⟨_,rfl⟩
  have hys:∀(S:Tz) (y:Value) (i:Nat),LsH H y 1 encN [i]->LsH (H++[HO.o (.cells (S.flatMap encN) 1 true)]) y 1 encN [i]:=λS y i h=>h.pre ⟨_,rfl⟩
  refine dA (4*w*v) (λ_=>True) (j0:=0) rfl (qaI _) trivial ?_
  intro i hi _ self hself
  refine p_x ?_
  have hM0:=hMs (oneN (4*w*v) 0)
  have hy0:=hys (oneN (4*w*v) 0)
  refine cC hM0 ?_
  rw[hml]
  by_cases hlt:i<4*w*v
  case neg=>
   obtain rfl:i=4*w*v:=by omega
   rw[ba (qam _)]
   refine p_x ?_
   clear hself hlt
   refine bm (σ:=Unit) (4*w*v) (λj _=>[.i (Int.ofNat j),.i (Int.ofNat j)]) (λj _=>H++[HO.o (.cells ((oneN (4*w*v) j).flatMap encN) 1 true)]) (λ_ _=>True) (j0:=0) (s0:=()) rfl rfl (qaI _) trivial ?_
   intro i _ hi _ self hself
   refine p_x ?_
   refine cC (hMs (oneN (4*w*v) i)) ?_
   rw[hml]
   by_cases hlt:i<4*w*v
   case neg=>
    obtain rfl:i=4*w*v:=by omega
    rw[ba (qam _)]
    refine p_x ?_
    exact⟨by trivial,⟨_,rfl⟩⟩
   rw[bb hlt]
   refine p_x ?_
   obtain⟨y,hy,hyl⟩:=hm i hlt
   have hyg:=hyl.good
   refine bm (σ:=Unit) 1 (λk _=>[.i (Int.ofNat (i+k)),.i (Int.ofNat k)]) (λk _=>H++[HO.o (.cells ((oneN (4*w*v) (i+k)).flatMap encN) 1 true)]) (λ_ _=>True) (j0:=0) (s0:=()) rfl rfl (qaI _) trivial ?_
   intro k _ hk _ self2 hself2
   refine p_x ?_
   refine cr (cs:=[y]) (hMs _) rfl hy rfl (by omega) ?_
   refine p_x ?_
   refine aL hyg ?_
   refine p_x ?_
   refine cC (hys (oneN (4*w*v) (i+k)) _ _ hyl) ?_
   by_cases hk1:k<1
   case neg=>
    obtain rfl:k=1:=by omega
    rw[ba (show [_].length<=1 from qam _)]
    refine p_x ?_
    rw[bA (by omega)]
    exact hself () hlt trivial
   obtain rfl:k=0:=by omega
   rw[bb (show 0 < [_].length from qbU 0)]
   refine p_x ?_
   refine cr (cs:=[y]) (hMs _) rfl hy rfl (by omega) ?_
   refine p_x ?_
   refine aL hyg ?_
   refine p_x ?_
   refine bB (i:=0) (hys (oneN (4*w*v) i) _ _ hyl) rfl rfl ?_
   rw[show encN i=[.int .i64 (Int.ofNat i)]from rfl]
   refine p_x ?_
   have hlst:∀S:List Nat,S.length=4*w*v->LsH (H++[HO.o (.cells (S.flatMap encN) 1 true)]) (.slice (some ⟨H.length,0,tag 1⟩) (4*w*v) (4*w*v+1)) 1 encN S:=λS h=>cU io aU h.symm
   have g0:=kO (n:=4*w*v) (i:=i) hlt
   rw[qdr (Nat.lt_irrefl _)]at g0
   have g1:=kO (n:=4*w*v) (i:=i+1) hlt
   rw[qdq (qbU _)]at g1
   refine bB (hlst _ ez) rfl g0 ?_
   rw[show encN 0=[.int .i64 0]from rfl]
   refine p_x ?_
   refine dv (enc:=encN) (l:=oneN (4*w*v) i) (i:=i) (a:=1) io aU rfl (by rw[ez];exact hlt) ez rfl ?_
   rw[oneN_set]
   unfold putE
   rw[dj]
   try simp(disch:=omega)only[↓qXX]
   refine cr (cs:=[y]) (hMs _) rfl hy rfl (by omega) ?_
   refine p_x ?_
   refine aL hyg ?_
   refine p_x ?_
   refine bB (i:=0) (hys (oneN (4*w*v) (i+1)) _ _ hyl) rfl rfl ?_
   rw[show encN i=[.int .i64 (Int.ofNat i)]from rfl]
   refine p_x ?_
   refine bB (hlst _ ez) rfl g1 ?_
   rw[show encN 1=[.int .i64 1]from rfl]
   refine p_x ?_
   rw[show i+0=i from rfl,bA (by omega)]
   try simp(disch:=omega)only[↓qXX]
   exact hself2 () (by omega) trivial
  rw[bb hlt]
  refine p_x ?_
  obtain⟨y,hy,hyl⟩:=hm i hlt
  have hr:=fY hs hlt
  have hq:(0:Int)<=Int.ofNat (clN w i).2.2/\Int.ofNat (clN w i).2.2<=3:=⟨qaL _,by have:=hr.2.2.2.2;show((clN w i).2.2:Int)<=3;omega⟩
  refine cr (cs:=[.int .i64 (clN w i).1,.int .i64 (clN w i).2.1,.int .u8 (Int.ofNat (clN w i).2.2)]) hM0 rfl hy rfl (by omega) ?_
  refine p_x ?_
  have hyg:=hyl.good
  by_cases h0:0<i
  case' pos=>
   rw[p_gtr_t (show(0:Int)<Int.ofNat i by show(0:Int)<(i:Int);omega)]
   refine p_x ?_
   rw[iD (by omega) (by omega)]
   try simp(disch:=omega)only[↓qXX]
   obtain⟨y',hy',_⟩:=hm (i - 1) (by omega)
   refine cr (cs:=[.int .i64 (clN w (i - 1)).1,.int .i64 (clN w (i - 1)).2.1,.int .u8 (Int.ofNat (clN w (i - 1)).2.2)]) hM0 rfl hy' rfl (by omega) ?_
   refine p_x ?_
   have c1:=bf_c h3 hlt h0
   simp only[cll,qax,qaw]at c1
   refine ah c1 ?_
   simp(disch:=omega)only[↓qXX]
  case' neg=>
   obtain rfl:i=0:=by omega
   rw[p_gtr_f (show Int.ofNat 0<=0 from qb4 _)]
   simp(disch:=omega)only[↓qXX]
  all_goals
   refine cr (cs:=[y]) hM0 rfl hy rfl (by omega) ?_
   refine p_x ?_
   refine aL hyg ?_
   refine p_x ?_
   refine cC (hy0 _ _ hyl) ?_
   rw[p_eql_f (by simp)]
   refine p_x ?_
   refine dA 1 (λ_=>True) (j0:=0) rfl (qaI _) trivial ?_
   intro k hk _ self2 hself2
   refine p_x ?_
   refine cr (cs:=[y]) hM0 rfl hy rfl (by omega) ?_
   refine p_x ?_
   refine aL hyg ?_
   refine p_x ?_
   refine cC (hy0 _ _ hyl) ?_
   by_cases hk1:k<1
   ·obtain rfl:k=0:=by omega
    rw[bb (show 0 < [_].length from qbU 0)]
    refine p_x ?_
    refine cr (cs:=[y]) hM0 rfl hy rfl (by omega) ?_
    refine p_x ?_
    refine aL hyg ?_
    refine p_x ?_
    refine bB (i:=0) (hy0 _ _ hyl) rfl rfl ?_
    unfold encN
    refine p_x ?_
    rw[p_lss_f (ofnn _)]
    refine p_x ?_
    rw[p_geq_f (ofn_lt hlt)]
    refine p_x ?_
    rw[bA (by omega)]
    exact hself2 (by omega) trivial
   ·obtain rfl:k=1:=by omega
    rw[ba (show [_].length<=1 from qam _)]
    refine p_x ?_
    rw[bA (by omega)]
    exact hself hlt trivial)
 obtain⟨rs,h',h2,rfl,h3⟩:=key
 exact⟨h',h2,h3⟩
def eqsC{a b:Cl}{K:To}:P1.eqs [(.i a.1,.i b.1),(.i a.2.1,.i b.2.1),(.i (Int.ofNat a.2.2),.i (Int.ofNat b.2.2))] (@hid _ ⟨K⟩)=K (decide (a=b)):=by
 show K (bP _)=_
 have e:bP [(.i a.1,.i b.1),(.i a.2.1,.i b.2.1),(.i (Int.ofNat a.2.2),.i (Int.ofNat b.2.2))]=decide (a=b):=by
  rw[qby]
  simp[bP,fK,qcW]
  intro _ _
  omega
 rw[e]
def layers_c{w v:Nat}(h3:S3 w v){H:HL}{x:Value}(hx:StL H x (ir w v))(c:Cl) :
  ∃y,aW cc aa 50 ([.v x]++cll c) (absH ab H) [.v y] (absH ab H)/\aY y=true/\((∃n,n<4*w*v/\clN w n=c/\LsH H y 1 encN [n])∨(LsH H y 1 encN []/\∀n,n<4*w*v->clN w n≠c)):=by
 obtain⟨b1,b2,b3,b4⟩:=h3.n
 obtain⟨M,hM,hml,hm⟩:=hx.at
 have key:=x50 (ls:=[.v x,.i c.1,.i c.2.1,.i (Int.ofNat c.2.2)]) (K:=λrs h'=>∃y,rs=[.v y]/\h'=H/\aY y=true/\((∃n,n<4*w*v/\clN w n=c/\LsH H y 1 encN [n])∨(LsH H y 1 encN []/\∀n,n<4*w*v->clN w n≠c))) (H:=H) (glsV hM.good (glsI (glsI (glsI gls0)))) (by
  unfold f50;simp only[qxh]
  refine p_x ?_
  refine dA (4*w*v) (λj=>∀n,n<j->clN w n≠c) (j0:=0) rfl (qaI _) (λn h=>by omega) ?_
  intro i hi hno self hself
  refine p_x ?_
  refine cC hM ?_
  rw[hml]
  by_cases hlt:i<4*w*v
  case neg=>
   obtain rfl:i=4*w*v:=by omega
   rw[ba (qam _)]
   refine p_x ?_
   exact⟨_,by first|rfl|trivial,by first|rfl|trivial,rfl,.inr ⟨.nil _ _ _,hno⟩⟩
  rw[bb hlt]
  refine p_x ?_
  obtain⟨y,hy,hyl⟩:=hm i hlt
  refine cr (cs:=[.int .i64 (clN w i).1,.int .i64 (clN w i).2.1,.int .u8 (Int.ofNat (clN w i).2.2)]) hM rfl hy rfl (by omega) ?_
  refine p_x ?_
  rw[eqsC]
  by_cases he:clN w i=c
  ·rw[qdp he]
   refine p_x ?_
   refine cr (cs:=[y]) hM rfl hy rfl (by omega) ?_
   refine p_x ?_
   refine aL hyl.good ?_
   refine p_x ?_
   exact⟨y,by first|rfl|trivial,by first|rfl|trivial,hyl.good,.inl ⟨i,hlt,he,hyl⟩⟩
  ·rw[qdo he]
   refine p_x ?_
   rw[bA (by omega)]
   exact hself hlt λn hn=>by
    by_cases e:n=i
    ·subst e;exact he
    ·exact hno n (by omega))
 obtain⟨rs,h',h2,y,rfl,rfl,h4,h5⟩:=key
 exact⟨y,h2,h4,h5⟩
abbrev Wh:=Nat×Int
def encW(x:Wh):Tl:=[.int .i64 (Int.ofNat x.1),.int .i64 x.2,.int .u8 0]
def ve{H:HL}{x y:Value}{A B:List Wh}(hx:LsH H x 3 encW A)(hy:LsH H y 3 encW B)(hA:A.length<=1)(hB:B.length<=1):aW cc aa 23 [.v x,.v y] (absH ab H) [.i 0] (absH ab H):=by
 exact xK x23 (glsV hx.good (glsV hy.good gls0)) (by
  unfold f23;simp only[qxh]
  refine p_x ?_
  have side:∀(z:Value) (Z:List Wh),LsH H z 3 encW Z->Z.length<=1->Z=[]∨∃a,Z=[a]:=λz Z _ h=>by
   match Z,h with
   | [],_=>exact .inl rfl
   | [a],_=>exact .inr ⟨a,rfl⟩
  have hgx:=hx.good
  have hgy:=hy.good
  rcases side x A hx hA with rfl|⟨a,rfl⟩<;>rcases side y B hy hB with rfl|⟨b,rfl⟩
  all_goals
   repeat (first|simp(disch:=omega)only[↓qXX]|refine rq 4 ?_|refine aE (x:=[.v x]) rfl ?_|refine aE (x:=[.v y]) rfl ?_|(refine cC hx ?_;simp only[qaP,qbR,qaF,of0,of1])|(refine cC hy ?_;simp only[qaP,qbR,qaF,of0,of1])|refine cr (cs:=[.int .u8 0]) (i:=0) hx rfl rfl rfl (by omega) ?_|refine cr (cs:=[.int .u8 0]) (i:=0) hy rfl rfl rfl (by omega) ?_)
   trivial)
def move_idC{c:Cl}(hq:c.2.2<4):bQ idM c=c:=by
 obtain⟨x,y,q⟩:=c
 simp only at hq
 rcases quad hq with rfl|rfl|rfl|rfl<;>simp[bQ,idM,mA,mB,mC,mD,qT]
def nbC_q{c:Cl}{e:Nat}(hq:c.2.2<4)(he:e<3):(nbC c e).2.2<4/\c.1 - 1<=(nbC c e).1/\(nbC c e).1<=c.1+1/\c.2.1 - 1<=(nbC c e).2.1/\(nbC c e).2.1<=c.2.1+1:=by
 obtain⟨x,y,q⟩:=c
 simp only at hq
 have h1:e=0∨e=1∨e=2:=by omega
 rcases quad hq with rfl|rfl|rfl|rfl<;>rcases h1 with rfl|rfl|rfl<;>simp[nbC]<;>omega
def tX{w v:Nat}(h3:S3 w v){H:HL}{x xl xk xp:Value}(hx:StL H x (ir w v))(hgl:aY xl=true)(hk:LsH H xk 1 enc8 (List.replicate (12*w*v) 0)){P:TH}(hp:LsH H xp 3 encM P)(hP:∀n,n<4*w*v->P[n]?=some idM)(c d:Cl) :
  ∃z h' W,aW cc aa 22 ([.i (.ofNat w),.i (.ofNat v),.v xl,.v xk,.v xp,.v x]++cll c++cll d) (absH ab H) [.v z] (absH ab h')/\Pre H h'/\aY z=true/\LsH h' z 3 encW W/\W.length<=1:=by
 have hs:=h3.sh
 obtain⟨b1,b2,b3,b4⟩:=h3.n
 have hN:=sh_N hs
 obtain⟨M,hM,hml,hm⟩:=hx.at
 obtain⟨y,hy,hyg,hyl⟩:=layers_c h3 hx c
 have h12:12*w*v=3*(4*w*v):=by rw[show 12*w*v=3*4*w*v by rfl,qbH 3 4 w,qbH 3 (4*w) v]
 have key:=x22 (ls:=[.i (.ofNat w),.i (.ofNat v),.v xl,.v xk,.v xp,.v x,.i c.1,.i c.2.1,.i (Int.ofNat c.2.2),.i d.1,.i d.2.1,.i (Int.ofNat d.2.2)]) (K:=λrs h'=>∃z W,rs=[.v z]/\Pre H h'/\aY z=true/\LsH h' z 3 encW W/\W.length<=1) (H:=H) (glsI (glsI (glsV hgl (glsV hk.good (glsV hp.good (glsV hM.good (glsI (glsI (glsI (glsI (glsI (glsI gls0)))))))))))) (by
  unfold f22;simp only[qxh]
  refine p_x ?_
  simp only[cll,qax,qaw]at hy
  refine bc hy ?_
  refine p_x ?_
  obtain⟨Y,hY,hY1⟩ : ∃Y:List Nat,LsH H y 1 encN Y/\(Y=[]∨∃n,n<4*w*v/\Y=[n]):=by
   rcases hyl with⟨n,h1,_,h2⟩|⟨h1,_⟩
   ·exact⟨[n],h2,.inr ⟨n,h1,rfl⟩⟩
   ·exact⟨[],h1,.inl rfl⟩
  refine bm (σ:=HL×Value) Y.length (λj s=>[.v s.2,.i (Int.ofNat j)]) (λ_ s=>s.1) (λj s=>Pre H s.1/\∃W,MkL H.length s.1 s.2 3 encW W/\aY s.2=true/\W.length<=j) (j0:=0) (s0:=(H,.slice none 0 0)) rfl rfl (qaI _) ⟨.refl _,[],.nil _ _ _ _,rfl,qam _⟩ ?_
  rintro j ⟨h,z⟩ hj ⟨hpre,W,hW,hzg,hwl⟩ self hself
  simp only at hpre hW hzg ⊢
  refine p_x ?_
  refine cC (hY.pre hpre) ?_
  by_cases hlt:j<Y.length
  case neg=>
   rw[ba (by omega)]
   refine p_x ?_
   exact⟨z,W,rfl,hpre,hzg,hW.ls,by rcases hY1 with rfl|⟨n,_,rfl⟩<;>simp at hj<;>omega⟩
  rw[bb hlt]
  refine p_x ?_
  obtain⟨n,hn,rfl⟩ : ∃n,n<4*w*v/\Y=[n]:=by
   rcases hY1 with rfl|h
   ·simp at hlt
   ·exact h
  obtain rfl:j=0:=by simp at hlt;exact hlt
  obtain rfl:W=[]:=qa9.1 (by omega)
  refine bB (i:=0) (hY.pre hpre) rfl rfl ?_
  rw[show encN n=[.int .i64 (Int.ofNat n)]from rfl]
  refine p_x ?_
  have hr:=fY hs hn
  refine bm (σ:=HL×Value) 3 (λk s=>[.v s.2,.i (Int.ofNat k)]) (λ_ s=>s.1) (λk s=>Pre H s.1/\∃W,MkL H.length s.1 s.2 3 encW W/\aY s.2=true/\(W=[]∨(W.length=1/\∃k',k'<k/\nbC (clN w n) (eK (n%4) k')=d))) (j0:=0) (s0:=(h,z)) rfl rfl (qaI _) ⟨hpre,[],hW,hzg,.inl rfl⟩ ?_
  clear hpre hW hzg
  rintro k ⟨h,z⟩ hk3 ⟨hpre,W,hW,hzg,hwk⟩ self2 hself2
  simp only at hpre hW hzg ⊢
  refine p_x ?_
  by_cases hk1:k<3
  case neg=>
   obtain rfl:k=3:=by omega
   rw[p_lss_f (show(3:Int)<=Int.ofNat 3 from qb4 _)]
   refine p_x ?_
   rw[bA (by omega)]
   exact hself (h,z) hlt ⟨hpre,W,hW,hzg,by rcases hwk with rfl|⟨h1,_⟩<;>simp<;>omega⟩
  rw[p_lss_t (show Int.ofNat k<3 by show(k:Int)<3;omega)]
  refine p_x ?_
  have hkk:=mO (n%4) k
  have hq:=nbC_q (c:=clN w n) hr.2.2.2.2 hkk
  have c1:=ik h3 hn
  have c2:=nb h3 hn hk1
  have c3:=qO (m:=idM) (c:=nbC (clN w n) (eK (n%4) k)) (by decide) (by decide) hq.1 (by omega)
  rw[move_idC hq.1]at c3
  have c4:=ri h3 hn hk1
  generalize hbe:nbC (clN w n) (eK (n%4) k)=be at *
  simp only[cll,mvl,qax,qaw]at c1 c2 c3
  refine bB (hp.pre hpre) rfl (hP n hn) ?_
  rw[show encM idM=[.int .u8 (Int.ofNat idM.1),.int .i64 idM.2.1,.int .i64 idM.2.2]from rfl]
  refine p_x ?_
  refine ah c1 ?_
  refine p_x ?_
  refine ah c2 ?_
  refine p_x ?_
  refine ah c3 ?_
  refine p_x ?_
  rw[eqsC]
  by_cases he:be=d
  case neg=>
   rw[qdo he]
   simp(disch:=omega)only[↓qXX,qa1]
   rw[bA (by omega)]
   exact hself2 (h,z) hk1 ⟨hpre,W,hW,hzg,hwk.imp id λ⟨g1,k',g2,g3⟩=>⟨g1,k',by omega,g3⟩⟩
  rw[qdp he]
  simp(disch:=omega)only[↓qXX,qaK]
  refine ah c4 ?_
  refine p_x ?_
  rw[mul_3 (by omega)]
  try simp(disch:=omega)only[↓qXX]
  rw[tt (by omega)]
  try simp(disch:=omega)only[↓qXX]
  refine bB (a:=0) (hk.pre hpre) rfl (by rw[qaM,qdq (by omega)]) ?_
  rw[show enc8 0=[.int .u8 0]from rfl]
  refine p_x ?_
  have hW0:W=[]:=by
   rcases hwk with h|⟨_,k',g1,g2⟩
   ·exact h
   ·have:=nbC_inj (c:=clN w n) hr.2.2.2.2 (mO _ _) hkk (g2.trans (he.symm.trans hbe.symm))
    have:k'=k:=by rw[←oN (q:=n%4) (show k'<3 by omega),this,oN hk1]
    omega
  subst hW0
  refine p_app1 (h0:=H) (l:=([]:List Wh)) (a:=((n,nbI w v n k):Wh)) hpre hW rfl rfl rfl rfl (by
   unfold ch
   rw[qa5 (by simp),qa5 (by simp)];rfl) ?_
  intro z' h' hp' hM' hg _ _
  refine p_x ?_
  refine aL hg ?_
  refine p_x ?_
  rw[bA (by omega)]
  exact hself2 (h',z') hk1 ⟨hp',_,hM',hg,.inr ⟨rfl,k,by omega,hbe.trans he⟩⟩)
 obtain⟨rs,h',h2,z,W,rfl,h4,h5,h6,h7⟩:=key
 exact⟨z,h',W,h2,h4,h5,h6,h7⟩
def vB{w v:Nat}(hs:Sh w v){l:TA}(hv:∀c∈l,VC w v c){G:Nat->Mv}(hG:ConsO w v l G)(hid:∀c,c<4*w*v->bQ (G c) (clN w c)=clN w c):l=[]/\∀c,c<4*w*v->G c=idM:=by
 have hGid:∀c,c<4*w*v->G c=idM:=λc hc=>by
  have ok:=hG.ok c hc
  exact fix_id ok.1 ok.2.2.2.2.2 (qbV _ (by omega)) (hid c hc)
 refine⟨qcB.2 λc hc=>?_,hGid⟩
 obtain⟨u,e,n,q1,q2,hu,he,hn,hlt,_⟩:=hv c hc
 have h1:=hG.g u e n hu he hn
 rw[hGid u hu,hGid n (gU hs hu he hn).1]at h1
 have hcr:isCr l (min u n) e=true:=by
  unfold isCr
  rw[qdn,qaN]
  refine⟨c,hc,?_⟩
  unfold cB
  rw[q1,q2,qbK (by omega)]
 unfold acM at h1
 rw[qdq hcr,gt (ofM_lt _)]at h1
 generalize lnC3 (clN w (min u n)) e=L at h1
 have h2:(ofM L).1=0:=by rw[←h1];rfl
 unfold ofM at h2
 split at h2<;>cases h2
def error25_c{w v:Nat}(h3:S3 w v){l:TA}{H:HL}{xl x:Value}(hl:LsH H xl 3 encC l)(hv:∀c∈l,VC w v c)(hk0:∀c∈l,c.2.2≠0)(hn:l.length<=1000)(hx:StL H x (ir w v)) :
  ∃e h',aW cc aa 10 [.i (.ofNat w),.i (.ofNat v),.v xl,.i 0,.i 0,.i 0,.v x] (absH ab H) [.i e] (absH ab h')/\Pre H h'/\
   ((e=11/\¬ ∃G,kT w v l G/\G 0=idM)∨∃G,ConsO w v l G/\((e=6/\∃c,c<4*w*v/\bQ (G c) (clN w c)≠clN w c)∨(e=0/\∀c,c<4*w*v->bQ (G c) (clN w c)=clN w c))):=by
 have hs:=h3.sh
 obtain⟨b1,b2,b3,b4⟩:=h3.n
 have hN:=sh_N hs
 obtain⟨M,hM,hml,hm⟩:=hx.at
 obtain⟨rs1,h1,c1,hpl,hp1⟩:=nV h3 hl hv hk0 hn (r:=idM) (uf (by omega))
 have key:=x10 (ls:=[.i (.ofNat w),.i (.ofNat v),.v xl,.i 0,.i 0,.i 0,.v x]) (K:=λrs h'=>∃e:Int,rs=[.i e]/\Pre H h'/\
   ((e=11/\¬ ∃G,kT w v l G/\G 0=idM)∨∃G,ConsO w v l G/\((e=6/\∃c,c<4*w*v/\bQ (G c) (clN w c)≠clN w c)∨(e=0/\∀c,c<4*w*v->bQ (G c) (clN w c)=clN w c)))) (H:=H) (glsI (glsI (glsV hl.good (glsI (glsI (glsI (glsV hM.good gls0))))))) (by
  unfold f10;simp only[qxh]
  refine p_x ?_
  refine bc c1 ?_
  rcases hpl with⟨rfl,hno⟩|⟨G,T,hG,rfl,B,rfl⟩
  ·simp(disch:=omega)only[↓qXX]
   exact⟨11,rfl,hp1,.inl ⟨rfl,hno⟩⟩
  refine p_x ?_
  have hlP:LsH (o3 H (plL w v G idM) B T) (.slice (some ⟨H.length,0,tag 3⟩) (4*w*v) (4*w*v+1)) 3 encM (plL w v G idM):=cU cE o3_0 (by simp[plL])
  refine cC hlP ?_
  rw[show(plL w v G idM).length=4*w*v by simp[plL]]
  obtain⟨h2,c2,hp2⟩:=listed_c h3 (hx.pre hp1)
  refine bc c2 ?_
  refine p_x ?_
  have hp2':=hp1.trans hp2
  have hM2:=hM.pre hp2'
  have hl2:=hl.pre hp2'
  have hlP2:=hlP.pre hp2
  refine dA (4*w*v) (λj=>∀c,c<j->bQ (G c) (clN w c)=clN w c) (j0:=0) rfl (qaI _) (λc h=>by omega) ?_
  intro i hi hok self hself
  refine p_x ?_
  refine cC hM2 ?_
  rw[hml]
  by_cases hlt:i<4*w*v
  case pos=>
   rw[bb hlt]
   refine p_x ?_
   obtain⟨y,hy,hyl⟩:=hm i hlt
   have hyg:=hyl.good
   have hy2:=hyl.pre hp2'
   have hr:=fY hs hlt
   refine dA 1 (λk=>k=1->bQ (G i) (clN w i)=clN w i) (j0:=0) rfl (qaI _) (λh=>by omega) ?_
   intro k hk hok2 self2 hself2
   refine p_x ?_
   refine cr (cs:=[y]) hM2 rfl hy rfl (by omega) ?_
   refine p_x ?_
   refine aL hyg ?_
   refine p_x ?_
   refine cC hy2 ?_
   by_cases hk1:k<1
   case neg=>
    obtain rfl:k=1:=by omega
    rw[ba (show [_].length<=1 from qam _)]
    refine p_x ?_
    rw[bA (by omega)]
    exact hself hlt λc hc=>by
     by_cases e:c=i
     ·subst e;exact hok2 rfl
     ·exact hok c (by omega)
   obtain rfl:k=0:=by omega
   rw[bb (show 0 < [_].length from qbU 0)]
   refine p_x ?_
   refine cr (cs:=[y]) hM2 rfl hy rfl (by omega) ?_
   refine p_x ?_
   refine aL hyg ?_
   refine p_x ?_
   refine bB (i:=0) hy2 rfl rfl ?_
   rw[show encN i=[.int .i64 (Int.ofNat i)]from rfl]
   refine p_x ?_
   have okG:=hG.ok i hlt
   have hpi:=pF (G:=G) (r:=idM) hlt
   rw[gt okG.1]at hpi
   have k1:=ik h3 hlt
   have k2:=qO (m:=G i) (c:=clN w i) okG.1 (by obtain⟨_,g1,g2,g3,g4,_⟩:=okG;omega) hr.2.2.2.2 (by omega)
   simp only[cll,mvl,qax,qaw]at k1 k2
   refine bB hlP2 rfl hpi ?_
   rw[show encM (G i)=[.int .u8 (Int.ofNat (G i).1),.int .i64 (G i).2.1,.int .i64 (G i).2.2]from rfl]
   refine p_x ?_
   refine ah k1 ?_
   refine p_x ?_
   refine ah k2 ?_
   refine p_x ?_
   refine cr (cs:=[.int .i64 (clN w i).1,.int .i64 (clN w i).2.1,.int .u8 (Int.ofNat (clN w i).2.2)]) hM2 rfl hy rfl (by omega) ?_
   refine p_x ?_
   rw[eqsC]
   by_cases he:bQ (G i) (clN w i)=clN w i
   ·rw[qdp he]
    simp(disch:=omega)only[↓qXX,qaK]
    rw[bA (by omega)]
    exact hself2 (by omega) λ_=>he
   ·rw[qdo he]
    simp(disch:=omega)only[↓qXX,qa1]
    exact⟨6,rfl,hp2',.inr ⟨G,hG,.inl ⟨rfl,i,hlt,he⟩⟩⟩
  obtain rfl:i=4*w*v:=by omega
  rw[ba (qam _)]
  refine p_x ?_
  clear hself
  obtain⟨rfl,hGid⟩:=vB hs hv hG hok
  have c3:=rL h3 hl2 hv hn
  rw[uM]at c3
  refine bc c3 ?_
  refine p_x ?_
  have hkT:LsH (h2++[tblk (List.replicate (12*w*v) 0)]) (.slice (some ⟨h2.length,0,tag 1⟩) (12*w*v) (12*w*v+1)) 1 enc8 (List.replicate (12*w*v) 0):=cU kE aU (by simp)
  have hp3:Pre h2 (h2++[tblk (List.replicate (12*w*v) 0)]):=⟨_,rfl⟩
  generalize h2++[tblk (List.replicate (12*w*v) 0)]=h4 at *
  have hP:∀n,n<4*w*v->(plL w v G idM)[n]?=some idM:=λn hn=>by rw[pF hn,hGid n hn];rfl
  have hp4:=hp2'.trans hp3
  refine bm (σ:=HL) (4*w*v) (λj _=>[.i 0,.i (Int.ofNat j)]) (λ_ s=>s) (λ_ s=>Pre h4 s) (j0:=0) (s0:=h4) rfl rfl (qaI _) (.refl _) ?_
  intro i h hi hpr self hself
  refine p_x ?_
  refine cC (hM2.pre (hp3.trans hpr)) ?_
  rw[hml]
  by_cases hlt:i<4*w*v
  case neg=>
   obtain rfl:i=4*w*v:=by omega
   rw[ba (qam _)]
   refine p_x ?_
   exact⟨0,rfl,hp4.trans hpr,.inr ⟨G,hG,.inr ⟨rfl,hok⟩⟩⟩
  rw[bb hlt]
  refine p_x ?_
  obtain⟨y,hy,hyl⟩:=hm i hlt
  refine cr (cs:=[.int .i64 (clN w i).1,.int .i64 (clN w i).2.1,.int .u8 (Int.ofNat (clN w i).2.2)]) (hM2.pre (hp3.trans hpr)) rfl hy rfl (by omega) ?_
  refine p_x ?_
  refine bm (σ:=HL) 3 (λk _=>[.i 0,.i (Int.ofNat k)]) (λ_ s=>s) (λ_ s=>Pre h4 s) (j0:=0) (s0:=h) rfl rfl (qaI _) hpr ?_
  clear hpr
  intro k h hk hpr self2 hself2
  refine p_x ?_
  by_cases hk1:k<3
  case neg=>
   obtain rfl:k=3:=by omega
   rw[p_lss_f (show(3:Int)<=Int.ofNat 3 from qb4 _)]
   refine p_x ?_
   rw[bA (by omega)]
   exact hself h hlt hpr
  rw[p_lss_t (show Int.ofNat k<3 by show(k:Int)<3;omega)]
  refine p_x ?_
  have c4:=nb h3 hlt hk1
  generalize nbC (clN w i) (eK (i%4) k)=d at *
  simp only[cll,qax,qaw]at c4
  refine ah c4 ?_
  refine p_x ?_
  have hpa:=hp4.trans hpr
  obtain⟨z1,h5,W1,m1,hq1,g1,w1,l1⟩:=tX h3 (hx.pre hpa) hl.good (hkT.pre hpr) (hlP2.pre (hp3.trans hpr)) hP (clN w i) d
  have hpb:=hpr.trans hq1
  obtain⟨z2,h6,W2,m2,hq2,g2,w2,l2⟩:=tX h3 (hx.pre (hp4.trans hpb)) hl.good (hkT.pre hpb) (hlP2.pre (hp3.trans hpb)) hP d (clN w i)
  have hw1:=w1.pre hq2
  have c5:=ve hw1 w2 l1 l2
  simp only[cll,qax,qaw]at m1 m2
  refine bc m1 ?_
  refine p_x ?_
  refine bc m2 ?_
  refine p_x ?_
  refine bc c5 ?_
  refine p_x ?_
  refine bm (σ:=Unit) W1.length (λj _=>[.i 0,.i (Int.ofNat j)]) (λ_ _=>h6) (λ_ _=>True) (j0:=0) (s0:=()) rfl rfl (qaI _) trivial ?_
  intro j _ hj _ self3 hself3
  refine p_x ?_
  refine cC hw1 ?_
  by_cases hj1:j<W1.length
  ·rw[bb hj1]
   refine p_x ?_
   obtain⟨a,ha⟩:=cM hj1
   refine cr (cs:=[.int .u8 0]) hw1 rfl ha rfl (by omega) ?_
   refine p_x ?_
   rw[bA (by omega)]
   exact hself3 () hj1 trivial
  ·rw[ba (by omega)]
   refine p_x ?_
   rw[bA (by omega)]
   exact hself2 h6 hk1 (hpb.trans hq2))
 obtain⟨rs,h',h2,e,rfl,h4,h5⟩:=key
 exact⟨e,h',h2,h4,h5⟩
def lq{h:HL}{y f:Value}{i:Nat}{t:Bool}(hy:LsH h y 1 encN [i])(hg:aY f=true)(hf:qe cc f [.int .i64 (Int.ofNat i)] [.leaf .b] (absH ab h) [.b t] (absH ab h)):aW cc aa 28 [.v y,.v f] (absH ab h) [.b t] (absH ab h):=by
 have k1:aW cc aa 57 [.v y,.v f] (absH ab h) [.i (if t=true then 0 else -1)] (absH ab h):=by
  exact xK x57 (glsV hy.good (glsV hg gls0)) (by
   unfold f57;simp only[qxh]
   refine p_x ?_
   refine cC hy ?_
   refine dA 1 (λj=>j=1->t=false) (j0:=0) rfl (qaI _) (λh=>by omega) ?_
   intro j hj hi self hself
   refine p_x ?_
   by_cases hlt:j<1
   ·obtain rfl:j=0:=by omega
    rw[bb (show 0 < [_].length from qbU 0)]
    refine p_x ?_
    refine bB (i:=0) hy rfl rfl ?_
    rw[show encN i=[.int .i64 (Int.ofNat i)]from rfl]
    refine p_x ?_
    refine sI hf ?_
    refine p_x ?_
    cases t with
    |true=>simp(disch:=omega)only[↓qXX];trivial
    |false=>
     refine p_x ?_
     rw[bA (by omega)]
     exact hself (by omega) λ_=>rfl
   ·obtain rfl:j=1:=by omega
    rw[ba (show [_].length<=1 from qam _)]
    refine p_x ?_
    rw[hi rfl]
    trivial)
 exact xK x28 (glsV hy.good (glsV hg gls0)) (by
  unfold f28;simp only[qxh]
  refine p_x ?_
  refine bc k1 ?_
  cases t with
  |true=>simp(disch:=omega)only[↓qXX,if_true];trivial
  |false=>simp(disch:=omega)only[↓qXX,if_false,qaj];trivial)
def tabCm(w v c:Nat):Bool:=match c with
 |0=>true
 |c+1=>gC 33 (cll (clN w c)++cll (clN w (c+1))) [.i (-1)]
def tabNg(w v c:Nat):Bool:=(List.range 3).all λe=>gC 30 (cll (clN w c)++[.i (Int.ofNat e)]) (cll (nbC (clN w c) e)++[.i 0])
def allCm:∀w v:Nat,1<=w->w<=3->1<=v->v<=3->((List.range (4*w*v)).all λc=>tabCm w v c&&tabNg w v c)=true:=by
 have key:((List.range 3).all λw=>(List.range 3).all λv=>(List.range (4*(w+1)*(v+1))).all λc=>tabCm (w+1) (v+1) c&&tabNg (w+1) (v+1) c)=true:=by kernel_rfl
 intro w v h1 h2 h3 h4
 have h5:=qab.1 key (w - 1) (qah.2 (by omega))
 have h6:=qab.1 h5 (v - 1) (qah.2 (by omega))
 rw[show w - 1+1=w by omega,show v - 1+1=v by omega]at h6
 exact h6
def cm_c{w v c:Nat}(h:S3 w v)(hc:c<4*w*v)(h0:0<c):Cc 33 (cll (clN w (c - 1))++cll (clN w c)) [.i (-1)]:=by
 have:=qab.1 (allCm w v h.1 h.2.1 h.2.2.1 h.2.2.2) c (qah.2 hc)
 rw[qaa]at this
 have this:=this.1
 obtain⟨d,rfl⟩ : ∃d,c=d+1:=⟨c - 1,by omega⟩
 exact cY this rfl (by kernel_rfl) rfl
def ng_c{w v c e:Nat}(h:S3 w v)(hc:c<4*w*v)(he:e<3):Cc 30 (cll (clN w c)++[.i (Int.ofNat e)]) (cll (nbC (clN w c) e)++[.i 0]):=by
 have:=qab.1 (allCm w v h.1 h.2.1 h.2.2.1 h.2.2.2) c (qah.2 hc)
 rw[qaa]at this
 have:=qab.1 this.2 e (qah.2 he)
 exact cY this rfl (by kernel_rfl) rfl
def ck1_c{h:HL}{b n i:Nat}(hb:h[b]?=some (.o (.cells [.int .i64 (Int.ofNat n)] 1 true)))(hi:i<n):aW cc aa 55 [.i (Int.ofNat i),.v (ptrB b)] (absH ab h) [.b false] (absH ab h):=by
 have hp:=du hb
 exact xK x55 (glsI (glsV hp.good gls0)) (by
  unfold f55;simp only[qxh]
  refine p_x ?_
  rw[p_lss_f (ofnn _)]
  refine p_x ?_
  refine jp hp rfl ?_
  refine p_x ?_
  rw[p_geq_f (ofn_lt hi)]
  simp(disch:=omega)only[↓qXX]
  trivial)
def pre1(n i:Nat):Tw:=(List.range n).map λc=>decide (c<i)
def pH{n i c:Nat}(h:c<n):(pre1 n i)[c]?=some (decide (c<i)):=by
 unfold pre1
 rw[qaA,qba h];rfl
def fc{n i:Nat}:(pre1 n i).length=n:=by simp[pre1]
def pre1_set{n i:Nat}:(pre1 n i).set i true=pre1 n (i+1):=by
 refine qaT λc=>?_
 by_cases hc:c<n
 ·rw[qaD,fc,pH hc,pH hc]
  by_cases h:i=c
  ·subst h;rw[qdq rfl,qdq hc,qdp (by omega)]
  ·rw[qdr h]
   congr 1
   rw[decide_eq_decide]
   omega
 ·rw[qae (by rw[qbl,fc];omega),qae (by rw[fc];omega)]
def stCheck_c{w v:Nat}(h3:S3 w v){H:HL}{x:Value}(hx:StL H x (ir w v)) :
  ∃h',aW cc aa 27 [.v x,.i (.ofNat w),.i (.ofNat v)] (absH ab H) [.i 0] (absH ab h')/\Pre H h':=by
 have hs:=h3.sh
 obtain⟨b1,b2,b3,b4⟩:=h3.n
 have hN:=sh_N hs
 obtain⟨M,hM,hml,hm⟩:=hx.at
 have hvs:valS (Int.ofNat w) (Int.ofNat v):=by
  obtain⟨a1,a2,a3,a4⟩:=h3
  refine sX ⟨?_,?_,?_,?_⟩
  ·show(1:Int)<=(w:Int);omega
  ·show(w:Int)<=5;omega
  ·show(1:Int)<=(v:Int);omega
  ·show(v:Int)<=5;omega
 have key:=x27 (ls:=[.v x,.i (.ofNat w),.i (.ofNat v)]) (K:=λrs h'=>rs=[.i 0]/\Pre H h') (H:=H) (glsV hM.good (glsI (glsI gls0))) (by
  unfold f27;simp only[qxh]
  refine p_x ?_
  refine ah (jC hvs) ?_
  refine p_x ?_
  refine ah (cnt_c hs) ?_
  refine p_x ?_
  refine vF (b:=H.length) aU rfl ?_
  rw[dj]
  try simp(disch:=omega)only[↓qXX]
  have hb1:(H++[HO.o (.cells [.int .i64 (Int.ofNat (4*w*v))] 1 true)])[H.length]?=some (HO.o (.cells [.int .i64 (Int.ofNat (4*w*v))] 1 true)):=aU
  have hp1:Pre H (H++[HO.o (.cells [.int .i64 (Int.ofNat (4*w*v))] 1 true)]):=⟨_,rfl⟩
  generalize hh1:H++[HO.o (.cells [.int .i64 (Int.ofNat (4*w*v))] 1 true)]=h1 at *
  have hM1:=hM.pre hp1
  refine cC hM1 ?_
  rw[hml]
  try simp(disch:=omega)only[↓qXX]
  refine dA (4*w*v) (λ_=>True) (j0:=0) rfl (qaI _) trivial ?_
  intro i hi _ self hself
  refine p_x ?_
  by_cases hlt:i<4*w*v
  case pos=>
   rw[bb hlt]
   refine p_x ?_
   obtain⟨y,hy,hyl⟩:=hm i hlt
   have hyg:=hyl.good
   have hy1:=hyl.pre hp1
   have hr:=fY hs hlt
   have hq:(0:Int)<=Int.ofNat (clN w i).2.2/\Int.ofNat (clN w i).2.2<=3:=⟨qaL _,by have:=hr.2.2.2.2;show((clN w i).2.2:Int)<=3;omega⟩
   refine bB hM1 rfl hy ?_
   rw[show enc4 (clN w i,y)=[.int .i64 (clN w i).1,.int .i64 (clN w i).2.1,.int .u8 (Int.ofNat (clN w i).2.2),y]from rfl]
   refine p_x ?_
   refine aL hyg ?_
   try simp(disch:=omega)only[↓qXX]
   refine aL (show aY (.func (.func 55) ⟨[]⟩ ⟨[ptrB H.length]⟩)=true from rfl) ?_
   try simp(disch:=omega)only[↓qXX]
   have k1:=lq (f:=.func (.func 55) ⟨[]⟩ ⟨[ptrB H.length]⟩) hy1 rfl (kY (ck1_c hb1 hlt) rfl [.leaf (.i .i64 (Int.ofNat i)),.leaf (.v (ptrB H.length))] rfl rfl rfl)
   refine bc k1 ?_
   refine p_x ?_
   refine ah (jJ ⟨by omega,by omega,by omega,by omega,by omega⟩) ?_
   refine p_x ?_
   by_cases h0:0<i
   case' pos=>
    rw[p_gtr_t (show(0:Int)<Int.ofNat i by show(0:Int)<(i:Int);omega)]
    refine p_x ?_
    rw[iD (by omega) (by omega)]
    try simp(disch:=omega)only[↓qXX]
    obtain⟨y',hy',_⟩:=hm (i - 1) (by omega)
    refine cr (cs:=[.int .i64 (clN w (i - 1)).1,.int .i64 (clN w (i - 1)).2.1,.int .u8 (Int.ofNat (clN w (i - 1)).2.2)]) hM1 rfl hy' rfl (by omega) ?_
    refine p_x ?_
    have c1:=cm_c h3 hlt h0
    simp only[cll,qax,qaw]at c1
    refine ah c1 ?_
    simp(disch:=omega)only[↓qXX]
   case' neg=>
    obtain rfl:i=0:=by omega
    rw[p_gtr_f (show Int.ofNat 0<=0 from qb4 _)]
    simp(disch:=omega)only[↓qXX]
   all_goals
    refine cC hy1 ?_
    rw[p_eql_f (by simp)]
    refine p_x ?_
    rw[bA (by omega)]
    exact hself hlt trivial
  obtain rfl:i=4*w*v:=by omega
  rw[ba (qam _)]
  refine p_x ?_
  clear hself
  refine jp (du hb1) rfl ?_
  refine p_x ?_
  refine aE (ey (by omega)) ?_
  refine p_x ?_
  rw[show(Int.ofNat (4*w*v)).toNat=4*w*v from rfl]
  have z1:HO.o (.cells (aD [.bool false] (4*w*v)) 1 true)=HO.o (.cells ((pre1 (4*w*v) 0).flatMap encT) 1 true):=by
   have:pre1 (4*w*v) 0=List.replicate (4*w*v) false:=by
    rw[qcC]
    refine⟨fc,λx hx=>?_⟩
    obtain⟨i,_,rfl⟩:=qaN.1 hx
    exact qdo (by omega)
   rw[this,←cQ (enc:=encT) (z:=false) (n:=4*w*v)]
   rfl
  rw[z1]
  have hM2:∀S:List Bool,LsH (h1++[HO.o (.cells (S.flatMap encT) 1 true)]) x 4 enc4 M:=λS=>hM1.pre ⟨_,rfl⟩
  have hy2:∀(S:Tw) (y:Value) (i:Nat),LsH H y 1 encN [i]->LsH (h1++[HO.o (.cells (S.flatMap encT) 1 true)]) y 1 encN [i]:=λS y i h=>(h.pre hp1).pre ⟨_,rfl⟩
  have hlst:∀S:List Bool,S.length=4*w*v->LsH (h1++[HO.o (.cells (S.flatMap encT) 1 true)]) (.slice (some ⟨h1.length,0,tag 1⟩) (4*w*v) (4*w*v+1)) 1 encT S:=λS h=>cU dD aU h.symm
  have hb2:∀S:List Bool,(h1++[HO.o (.cells (S.flatMap encT) 1 true)])[H.length]?=some (HO.o (.cells [.int .i64 (Int.ofNat (4*w*v))] 1 true)):=λS=>Pre.get ⟨_,rfl⟩ hb1
  refine cC (hM2 (pre1 (4*w*v) 0)) ?_
  rw[hml]
  try simp(disch:=omega)only[↓qXX]
  refine bm (σ:=Unit) (4*w*v) (λj _=>[.i (Int.ofNat j),.i (Int.ofNat j)]) (λj _=>h1++[HO.o (.cells ((pre1 (4*w*v) j).flatMap encT) 1 true)]) (λ_ _=>True) (j0:=0) (s0:=()) rfl rfl (qaI _) trivial ?_
  intro i _ hi _ self hself
  refine p_x ?_
  by_cases hlt:i<4*w*v
  case neg=>
   obtain rfl:i=4*w*v:=by omega
   rw[ba (qam _)]
   refine p_x ?_
   refine jp (du (hb2 _)) rfl ?_
   refine p_x ?_
   exact⟨by trivial,hp1.app _⟩
  rw[bb hlt]
  refine p_x ?_
  obtain⟨y,hy,hyl⟩:=hm i hlt
  have hyg:=hyl.good
  refine bB (hM2 _) rfl hy ?_
  rw[show enc4 (clN w i,y)=[.int .i64 (clN w i).1,.int .i64 (clN w i).2.1,.int .u8 (Int.ofNat (clN w i).2.2),y]from rfl]
  refine p_x ?_
  refine aL hyg ?_
  try simp(disch:=omega)only[↓qXX]
  refine cC (hy2 (pre1 (4*w*v) i) _ _ hyl) ?_
  try simp(disch:=omega)only[↓qXX]
  refine bm (σ:=Unit) 1 (λk _=>[.i (Int.ofNat (i+k)),.i (Int.ofNat k)]) (λk _=>h1++[HO.o (.cells ((pre1 (4*w*v) (i+k)).flatMap encT) 1 true)]) (λ_ _=>True) (j0:=0) (s0:=()) rfl rfl (qaI _) trivial ?_
  intro k _ hk _ self2 hself2
  refine p_x ?_
  by_cases hk1:k<1
  case neg=>
   obtain rfl:k=1:=by omega
   rw[ba (show [_].length<=1 from qam _)]
   refine p_x ?_
   rw[bA (by omega)]
   exact hself () hlt trivial
  obtain rfl:k=0:=by omega
  rw[bb (show 0 < [_].length from qbU 0)]
  refine p_x ?_
  refine bB (i:=0) (hy2 (pre1 (4*w*v) i) _ _ hyl) rfl rfl ?_
  rw[show encN i=[.int .i64 (Int.ofNat i)]from rfl]
  refine p_x ?_
  have g0:=pH (n:=4*w*v) (i:=i) hlt
  rw[qdo (Nat.lt_irrefl _)]at g0
  refine bB (hlst _ fc) rfl g0 ?_
  rw[show encT false=[.bool false]from rfl]
  refine p_x ?_
  refine dv (enc:=encT) (l:=pre1 (4*w*v) i) (i:=i) (a:=true) dD aU rfl (by rw[fc];exact hlt) fc rfl ?_
  rw[pre1_set]
  unfold putE
  rw[dj]
  try simp(disch:=omega)only[↓qXX]
  rw[show i+0=i from rfl,bA (by omega)]
  try simp(disch:=omega)only[↓qXX]
  exact hself2 () (by omega) trivial)
 obtain⟨rs,h',h2,rfl,h3⟩:=key
 exact⟨h',h2,h3⟩
structure BothC(ls:TB)(H:HL)(lx ix:Value)(e:Int)(h1:HL):Prop where
 c:aW cc aa 52 ls (absH ab H) [.v lx,.v ix,.i e] (absH ab h1)
 p:Pre H h1
 g1:aY lx=true
 g2:aY ix=true
section
variable {w v t a b e:Int} {x lx ix:Value} {H h1:HL} (hx:aY x=true) (hb:BothC [.i w,.i v,.v x,.i t,.i a,.i b] H lx ix e h1)
include hx hb
theorem tO:aW cc aa 26 [.i w,.i v,.v x,.i t,.i a,.i b] (absH ab H) [.v ix,.i e] (absH ab h1):=by
 exact xK x26 (glsI (glsI (glsV hx (glsI (glsI (glsI gls0)))))) (by
  unfold f26;simp only[qxh]
  repeat (first|simp(disch:=omega)only[↓qXX]|refine bc hb.c ?_)
  trivial)
end
def st1_c{h:HL}{bI bX i:Nat}{ix y:Value}{I:List Cl}{c ci:Cl}(hI:h[bI]?=some (.o (.cells [ix] 1 true)))(hX:h[bX]?=some (.o (.cells [.int .i64 c.1,.int .i64 c.2.1,.int .u8 (Int.ofNat c.2.2),y] 4 true)))(hl:LsH h ix 3 gw I)(hi:I[i]?=some ci) :
  aW cc aa 29 [.i (Int.ofNat i),.v (ptrB bI),.v (ptrB bX)] (absH ab h) [.b (!decide (ci=c))] (absH ab h):=by
 have hp:=du hI
 have hq:=du hX
 exact xK x29 (glsI (glsV hp.good (glsV hq.good gls0))) (by
  unfold f29;simp only[qxh]
  refine p_x ?_
  refine jp hp rfl ?_
  refine p_x ?_
  refine aL hl.good ?_
  try simp(disch:=omega)only[↓qXX]
  refine bB hl rfl hi ?_
  rw[show gw ci=[.int .i64 ci.1,.int .i64 ci.2.1,.int .u8 (Int.ofNat ci.2.2)]from rfl]
  refine p_x ?_
  refine nP (ds:=[.int .i64 c.1,.int .i64 c.2.1,.int .u8 (Int.ofNat c.2.2)]) hq (by simp) rfl ?_
  refine p_x ?_
  rw[eqsC]
  try simp(disch:=omega)only[↓qXX]
  trivial)
def iK{w v:Nat}(h3:S3 w v){l:TA}{H:HL}{xl x:Value}(hnd:(l.map cB).Nodup)(hl:LsH H xl 3 encC l)(hck:aW cc aa 74 [.i (.ofNat w),.i (.ofNat v),.v xl] (absH ab H) [.i 0] (absH ab H))(hn:l.length<=1000)(hx:StL H x (ir w v)) :
  ∃e h',aW cc aa 11 [.i (.ofNat w),.i (.ofNat v),.v xl,.i 0,.i 0,.i 0,.v x] (absH ab H) [.i e] (absH ab h')/\Pre H h'/\
   ((e=11/\¬ ∃G,kT w v l G/\G 0=idM)∨∃G,ConsO w v l G/\((e=6/\∃c,c<4*w*v/\bQ (G c) (clN w c)≠clN w c)∨(e=0/\∀c,c<4*w*v->bQ (G c) (clN w c)=clN w c))):=by
 have hs:=h3.sh
 obtain⟨b1,b2,b3,b4⟩:=h3.n
 have hN:=sh_N hs
 obtain⟨M,hM,hml,hm⟩:=hx.at
 obtain⟨rs1,h1,c1,hp1,hB⟩:=both_c hs hnd hn hl hck (r:=idM) (uf (by omega))
 have key:=x11 (ls:=[.i (.ofNat w),.i (.ofNat v),.v xl,.i 0,.i 0,.i 0,.v x]) (K:=λrs h'=>∃e:Int,rs=[.i e]/\Pre H h'/\
   ((e=11/\¬ ∃G,kT w v l G/\G 0=idM)∨∃G,ConsO w v l G/\((e=6/\∃c,c<4*w*v/\bQ (G c) (clN w c)≠clN w c)∨(e=0/\∀c,c<4*w*v->bQ (G c) (clN w c)=clN w c)))) (H:=H) (glsI (glsI (glsV hl.good (glsI (glsI (glsI (glsV hM.good gls0))))))) (by
  unfold f11;simp only[qxh]
  refine p_x ?_
  have hno3:∀G,ConsO w v l G->allV w G idM (4*w*v):=λG hG c hc=>by
   have ok:=hG.ok c hc
   rw[gt ok.1]
   have hr:=fY hs hc
   have hmr:=rh ok (c:=clN w c) (k:=1000) ⟨hr.1,hr.2.1,hr.2.2.1,hr.2.2.2.1⟩
   obtain⟨_,g1,g2,g3,g4,_⟩:=ok
   constructor
   ·unfold vMv;exact qdp (by omega)
   ·unfold vCl;exact qdp (by omega)
  rcases hB with⟨rfl,hno⟩|⟨G,hG,⟨rfl,hno⟩|⟨lx,ix,rfl,hall,hlx,hix⟩⟩
  ·have hb:BothC [.i (.ofNat w),.i (.ofNat v),.v xl,.i 0,.i 0,.i 0] H mQ mQ 11 h1:=⟨c1,hp1,rfl,rfl⟩
   refine bc (tO hl.good hb) ?_
   refine p_x ?_
   refine vF (b:=h1.length) aU rfl ?_
   rw[dj]
   try simp(disch:=omega)only[↓qXX]
   exact⟨11,rfl,hp1.app _,.inl ⟨rfl,hno⟩⟩
  ·exact absurd (hno3 G hG) hno
  have lix:=hix.ls lA
  have hb:BothC [.i (.ofNat w),.i (.ofNat v),.v xl,.i 0,.i 0,.i 0] H lx ix 0 h1:=⟨c1,hp1,(hlx.ls cE).good,lix.good⟩
  refine bc (tO hl.good hb) ?_
  refine p_x ?_
  refine vF (b:=h1.length) aU rfl ?_
  rw[dj]
  try simp(disch:=omega)only[↓qXX]
  have hbI:(h1++[HO.o (.cells [ix] 1 true)])[h1.length]?=some (HO.o (.cells [ix] 1 true)):=aU
  have hp2:Pre h1 (h1++[HO.o (.cells [ix] 1 true)]):=⟨_,rfl⟩
  generalize h1++[HO.o (.cells [ix] 1 true)]=h2 at *
  obtain⟨h4,c4,hp4⟩:=stCheck_c h3 (hx.pre (hp1.trans hp2))
  refine bc c4 ?_
  refine p_x ?_
  have hpH:=(hp1.trans hp2).trans hp4
  have hM4:=hM.pre hpH
  have hbI4:=hp4.get hbI
  have lix4:=(lix.pre hp2).pre hp4
  refine cC hM4 ?_
  rw[hml]
  try simp(disch:=omega)only[↓qXX]
  have hp0:H.length<=h1.length:=hp1.len
  refine bm (σ:=HL) (4*w*v) (λj _=>[.i (Int.ofNat j)]) (λ_ s=>s) (λj s=>Pre h4 s/\∀c,c<j->bQ (G c) (clN w c)=clN w c) (j0:=0) (s0:=h4) rfl rfl (qaI _) ⟨.refl _,λc h=>by omega⟩ ?_
  rintro i h hi ⟨hpr,hok⟩ self hself
  refine p_x ?_
  by_cases hlt:i<4*w*v
  case pos=>
   rw[bb hlt]
   refine p_x ?_
   obtain⟨y,hy,hyl⟩:=hm i hlt
   have hyg:=hyl.good
   have okG:=hG.ok i hlt
   refine bB (hM4.pre hpr) rfl hy ?_
   rw[show enc4 (clN w i,y)=[.int .i64 (clN w i).1,.int .i64 (clN w i).2.1,.int .u8 (Int.ofNat (clN w i).2.2),y]from rfl]
   refine p_x ?_
   refine aL hyg ?_
   try simp(disch:=omega)only[↓qXX]
   refine vF (b:=h.length) aU rfl ?_
   rw[dj]
   try simp(disch:=omega)only[↓qXX]
   have hbX:(h++[HO.o (.cells [.int .i64 (clN w i).1,.int .i64 (clN w i).2.1,.int .u8 (Int.ofNat (clN w i).2.2),y] 4 true)])[h.length]?=some (HO.o (.cells [.int .i64 (clN w i).1,.int .i64 (clN w i).2.1,.int .u8 (Int.ofNat (clN w i).2.2),y] 4 true)):=aU
   have hp5:Pre h (h++[HO.o (.cells [.int .i64 (clN w i).1,.int .i64 (clN w i).2.1,.int .u8 (Int.ofNat (clN w i).2.2),y] 4 true)]):=⟨_,rfl⟩
   generalize h++[HO.o (.cells [.int .i64 (clN w i).1,.int .i64 (clN w i).2.1,.int .u8 (Int.ofNat (clN w i).2.2),y] 4 true)]=h5 at *
   have hpr5:=hpr.trans hp5
   refine nP (ds:=[y]) (du hbX) (by simp) rfl ?_
   refine p_x ?_
   refine aL hyg ?_
   try simp(disch:=omega)only[↓qXX]
   refine aL (show aY (.func (.func 29) ⟨[]⟩ ⟨[ptrB h1.length,ptrB h.length]⟩)=true from rfl) ?_
   try simp(disch:=omega)only[↓qXX]
   have hIi:=imL_get (G:=G) (r:=idM) hlt
   rw[gt okG.1]at hIi
   have k0:=st1_c (hpr5.get hbI4) hbX (lix4.pre hpr5) hIi
   have k1:=lq (f:=.func (.func 29) ⟨[]⟩ ⟨[ptrB h1.length,ptrB h.length]⟩) (hyl.pre (hpH.trans hpr5)) rfl (kY k0 rfl [.leaf (.i .i64 (Int.ofNat i)),.leaf (.v (ptrB h1.length)),.leaf (.v (ptrB h.length))] rfl rfl rfl)
   refine bc k1 ?_
   refine p_x ?_
   by_cases he:bQ (G i) (clN w i)=clN w i
   ·rw[qdp he]
    simp(disch:=omega)only[↓qXX,qaK]
    rw[bA (by omega)]
    exact hself h5 hlt ⟨hpr5,λc hc=>by
     by_cases e:c=i
     ·subst e;exact he
     ·exact hok c (by omega)⟩
   ·rw[qdo he]
    simp(disch:=omega)only[↓qXX,qa1]
    exact⟨6,rfl,hpH.trans hpr5,.inr ⟨G,hG,.inl ⟨rfl,i,hlt,he⟩⟩⟩
  obtain rfl:i=4*w*v:=by omega
  rw[ba (qam _)]
  refine p_x ?_
  clear hself
  have hM5:=hM4.pre hpr
  refine cC hM5 ?_
  rw[hml]
  try simp(disch:=omega)only[↓qXX]
  refine dA (4*w*v) (λ_=>True) (j0:=0) rfl (qaI _) trivial ?_
  intro i hi _ self hself
  refine p_x ?_
  by_cases hlt:i<4*w*v
  case neg=>
   obtain rfl:i=4*w*v:=by omega
   rw[ba (qam _)]
   refine p_x ?_
   exact⟨0,rfl,hpH.trans hpr,.inr ⟨G,hG,.inr ⟨rfl,hok⟩⟩⟩
  rw[bb hlt]
  refine p_x ?_
  obtain⟨y,hy,hyl⟩:=hm i hlt
  refine bB hM5 rfl hy ?_
  rw[show enc4 (clN w i,y)=[.int .i64 (clN w i).1,.int .i64 (clN w i).2.1,.int .u8 (Int.ofNat (clN w i).2.2),y]from rfl]
  refine p_x ?_
  refine aL hyl.good ?_
  try simp(disch:=omega)only[↓qXX]
  refine dA 3 (λ_=>True) (j0:=0) rfl (qaI _) trivial ?_
  intro k hk _ self2 hself2
  refine p_x ?_
  by_cases hk1:k<3
  case neg=>
   obtain rfl:k=3:=by omega
   rw[p_lss_f (show(3:Int)<=Int.ofNat 3 from qb4 _)]
   refine p_x ?_
   rw[bA (by omega)]
   exact hself hlt trivial
  rw[p_lss_t (show Int.ofNat k<3 by show(k:Int)<3;omega)]
  refine p_x ?_
  have c5:=ng_c h3 hlt hk1
  simp only[cll,qax,qaw]at c5
  refine ah c5 ?_
  refine p_x ?_
  rw[p_add8 (by show(0:Int)<=(k:Int)+1;omega) (by show(k:Int)+1<=255;omega)]
  exact hself2 hk1 trivial)
 obtain⟨rs,h',h2,e,rfl,h4,h5⟩:=key
 exact⟨e,h',h2,h4,h5⟩
def pv:∀H,aW cc aa 4 [] H [.b true] H:=iA (n:=60) rfl (by kernel_rfl) rfl (by kernel_rfl)
abbrev Tr8:=Int×Int×Int
def vg(p:Tr8):Tl:=[.int .u8 p.1,.int .u8 p.2.1,.int .u8 p.2.2]
def qy(p:Tr8):(vg p).length=3:=rfl
def okT8(p:Tr8):Prop:=0<=p.1/\p.1<=255/\0<=p.2.1/\p.2.1<=255/\0<=p.2.2/\p.2.2<=255
def r_idx3{h:HL}{v:Value}{l:List Tr8}{i o:Nat}{a:Tr8}{n:Int}{cs:Tl}{K:Te}(hs:LsH h v 3 vg l)(hn:n=Int.ofNat i)(hi:l[i]?=some a)(ho:o<3)(hcs:cs=((vg a).drop o).take 1)(hk:K cs) :
  P1.opt (idS 3 v n) (@hid _ ⟨λx=>P1.opt (idP 3 1 x (Int.ofNat o)) (@hid _ ⟨λy=>P1.chk y (@hid _ ⟨P1.peek (.lg cc 1 y) h (@hid _ ⟨K⟩)⟩)⟩)⟩):=by
 subst hn hcs
 obtain⟨p,h1,h2⟩:=hs.at hi
 obtain⟨q,h3,h4⟩:=h2.fd o 1 (by rw[qy];omega)
 refine aE h1 (aE (x:=q) ?_ (aL h4.good (gi (h4.lg ?_) hk)))
 ·obtain⟨id,o',vs,e,rw',rfl,_,_⟩:=h2
  have ho':o=0∨o=1∨o=2:=by omega
  rcases ho' with rfl|rfl|rfl<;>· rw[←h3];rfl
 ·rw[qa0,qbT,qy];omega
def VK(w v:Nat)(c:Crs):Prop:=VC w v c/\1<=c.2.2/\c.2.2<=3
def same_G{w v:Nat}(hs:Sh w v){l:TA}{G G':Nat->Mv}(hG:ConsO w v l G)(hG':ConsO w v l G'){c:Nat}(hc:c<4*w*v):G c=G' c:=by
 have hN:=sh_N hs
 have hA:GoodA w v l ((List.range (4*w*v)).map G):=by
  have hg:∀c,c<4*w*v->((List.range (4*w*v)).map G)[c]?=some (G c):=λc hc=>by rw[qaA,qba hc];rfl
  refine⟨by simp,by rw[hg 0 (by omega),hG.z],λa ha=>?_,λc e n a hc he hn ha=>?_⟩
  ·obtain⟨i,hi,rfl⟩:=qaN.1 ha
   exact hG.ok i (qah.1 hi)
  ·rw[hg c hc]at ha
   cases ha
   rw[hg n (gU hs hc he hn).1,hG.g c e n hc he hn]
 have:=hA.eq hs hG'.g hG'.z c hc
 rw[qaA,qba hc]at this
 exact qan this
def lt_of_adj{l:TA}(h:SorC l)(hadj:∀i,i+1<l.length->∀a b,l[i]?=some a->l[i+1]?=some b->¬(a.1=b.1/\a.2.1=b.2.1)):l.Pairwise λa b=>ltC a b=true:=by
 rw[qcj]
 intro i j hi hj hij
 unfold SorC at h
 rw[qcj]at h
 have h1:=so.1 (h i (i+1) hi (by omega) (by omega))
 have h2:=hadj i (by omega) _ _ (qas hi) (qas (show i+1<l.length by omega))
 have h3:i+1=j∨gtC l[i+1] l[j]=false:=by
  by_cases e:i+1=j
  ·exact .inl e
  ·exact .inr (h (i+1) j (by omega) hj (by omega))
 unfold ltC
 rw[qaX,qaa]
 simp only[qdn]
 rcases h3 with e|h3
 ·subst e;omega
 ·have:=so.1 h3;omega
def chkC_ok{w v:Nat}{l:TA}(hv:∀c∈l,VK w v c)(hlt:l.Pairwise λa b=>ltC a b=true):chkC (Int.ofNat w) (Int.ofNat v) l=0:=by
 have k1:l.all isK=true:=qab.2 λc hc=>by
  have:=(hv c hc).2
  unfold isK
  rw[qaa]
  exact⟨qdp this.1,qdp this.2⟩
 have k2:l.all (unC (Int.ofNat w) (Int.ofNat v))=true:=qab.2 λc hc=>by
  obtain⟨u,e,n,q1,q2,hu,he,hn,hlt,_⟩:=(hv c hc).1
  unfold unC isUn
  rw[q1,q2]
  have a1:(0:Int)<=Int.ofNat u:=qaL u
  have a2:Int.ofNat u<4*Int.ofNat w*Int.ofNat v:=show(u:Int)<((4*w*v:Nat):Int)by omega
  have a3:Int.ofNat e<=2:=by show(e:Int)<=2;omega
  rw[qdp a1,qdp a2,qdp a3]
  show(match nbr w v u e with
   |some n=>Nat.blt u n
   |none=>false)=true
  rw[hn]
  simpa[qaU]using hlt
 have k3:ascC l=true:=kw.2 λi a b ha hb=>by
  rw[qcj]at hlt
  have h1:=cf ha
  have h2:=cf hb
  rw[qas h1]at ha
  rw[qas h2]at hb
  cases ha;cases hb
  exact hlt i (i+1) h1 h2 (by omega)
 unfold chkC
 rw[k1,k2,k3]
 rfl
def sG{H:HL}{n0:Nat}{x:Value}{l:TA}(hl:MkL n0 H x 3 encC l)(hn:l.length<=1000) :
  ∃l' h',aW cc aa 8 [.v x] (absH ab H) [.v x] (absH ab h')/\l'.Perm l/\SorC l'/\LsH h' x 3 encC l'/\∀h0:HL,h0.length<=n0->Pre h0 H->Pre h0 h':=by
 obtain⟨henc,hlen,⟨rfl,hz⟩|⟨id,h1,rfl,h2⟩⟩:=hl
 ·obtain rfl:l=[]:=qa9.1 hz
  refine⟨[],H,?_,.refl _,.nil,.nil _ _ _,λh0 _ hp=>hp⟩
  exact xK x8 (glsV rfl gls0) (by
   unfold f8;simp only[qxh]
   repeat (first|simp(disch:=omega)only[↓qXX]|refine aE (x:=(0:Int)) rfl ?_|refine rq 2 ?_)
   trivial)
 ·obtain⟨l',c1,c2,c3⟩:=ordered_c (cx:=0) h2 hn
  refine⟨l',_,c1,c2,c3,cU (enc:=encC) (e:=3) (λ_=>rfl) (dH (cf h2)) c2.length_eq.symm,λh0 hh hp=>gW hp (by omega)⟩
def smS_val3{w v:Nat}(h:S3 w v):smS (Int.ofNat w) (Int.ofNat v):=by
 obtain⟨a1,a2,a3,a4⟩:=h
 refine⟨?_,?_,?_,?_⟩
 ·show(1:Int)<=(w:Int);omega
 ·show(w:Int)<=5;omega
 ·show(1:Int)<=(v:Int);omega
 ·show(v:Int)<=5;omega
def okC_of{w v:Nat}{c:Crs}(h:VK w v c)(hN:4*w*v<=100):okC c:=by
 obtain⟨⟨u,e,n,q1,q2,hu,he,_,_,q3,q4⟩,_⟩:=h
 unfold okC
 rw[q1,q2]
 refine⟨?_,?_,?_,?_,q3,q4⟩
 ·show(-9223372036854775808:Int)<=(u:Int);omega
 ·show(u:Int)<=9223372036854775807;omega
 ·show(0:Int)<=(e:Int);omega
 ·show(e:Int)<=255;omega
def check_p{w v:Nat}{h h':HL}{z:Value}{l:TA}(hl:LsH h z 3 encC l)(hp:Pre h h')(h3:S3 w v)(hv:∀c∈l,VK w v c)(hlt:l.Pairwise λa b=>ltC a b=true)(hn:l.length<=1000):aW cc aa 74 [.i (Int.ofNat w),.i (Int.ofNat v),.v z] (absH ab h') [.i 0] (absH ab h'):=by
 have hN:=sh_N h3.sh
 have:=check_c (h:=h') (x:=z) (smS_val3 h3) (hl.pre hp) (λc hc=>okC_of (hv c hc) (by omega)) (by omega)
 rw[chkC_ok hv hlt]at this
 exact this
def pP{w8 v8:Int}(hw8:0<=w8/\w8<=255)(hv8:0<=v8/\v8<=255){H:HL}{x:Value}{L:List Tr8}(hL:LsH H x 3 vg L)(hLk:∀a∈L,okT8 a) :
  ∃h',aW cc aa 3 [.i w8,.i v8,.v x] (absH ab H) [.b true] (absH ab h'):=by
 have key:=x3 (ls:=[.i w8,.i v8,.v x]) (K:=λrs _=>rs=[.b true]) (H:=H) (glsI (glsI (glsV hL.good gls0))) (by
  unfold f3;simp only[qxh]
  refine p_x ?_
  refine cC hL ?_
  by_cases hlen:12<L.length
  ·rw[p_gtr_t (show(12:Int)<Int.ofNat L.length by show(12:Int)<(L.length:Int);omega)]
   refine p_x ?_
   refine ah pv ?_
   simp(disch:=omega)only[↓qXX]
  rw[p_gtr_f (show Int.ofNat L.length<=12 by show(L.length:Int)<=12;omega)]
  refine p_x ?_
  obtain⟨W,hW⟩ : ∃W:Nat,1+w8%3=Int.ofNat W:=⟨(1+w8%3).toNat,by show _=(((1+w8%3).toNat:Nat):Int);omega⟩
  obtain⟨V,hV⟩ : ∃V:Nat,1+v8%3=Int.ofNat V:=⟨(1+v8%3).toNat,by show _=(((1+v8%3).toNat:Nat):Int);omega⟩
  have h3:S3 W V:=by
   have a:1+w8%3=(W:Int):=hW
   have b:1+v8%3=(V:Int):=hV
   refine⟨by omega,by omega,by omega,by omega⟩
  have hs:=h3.sh
  obtain⟨b1,b2,b3,b4⟩:=h3.n
  have hN:=sh_N hs
  rw[hW,hV]
  obtain⟨sx,h1,c1,hp1,hst⟩:=flat_c h3 (H:=H)
  refine bc c1 ?_
  refine p_x ?_
  rw[hW,hV]
  rw[show(4:Int)*Int.ofNat W=Int.ofNat (4*W)from rfl,lV (by omega)]
  try simp(disch:=omega)only[↓qXX]
  have hL1:=hL.pre hp1
  refine bm (σ:=HL×Value) L.length (λj s=>[.i (Int.ofNat j),.i (.ofNat W),.i (.ofNat V),.v s.2]) (λ_ s=>s.1) (λj s=>Pre h1 s.1/\aY s.2=true/\∃C:List Crs,MkL h1.length s.1 s.2 3 encC C/\C.length<=j/\∀c∈C,VK W V c) (j0:=0) (s0:=(h1,.slice none 0 0)) rfl rfl (qaI _) ⟨.refl _,rfl,[],.nil _ _ _ _,qam _,λc hc=>by cases hc⟩ ?_
  rintro i ⟨h,z⟩ hi ⟨hpr,hzg,C,hC,hCl,hCv⟩ self hself
  simp only at hpr hzg hC ⊢
  refine p_x ?_
  refine cC (hL1.pre hpr) ?_
  by_cases hlt:i<L.length
  case pos=>
   rw[bb hlt]
   refine p_x ?_
   obtain⟨a,ha⟩:=cM hlt
   have oka:=hLk a (qaq ha)
   obtain⟨o1,o2,o3,o4,o5,o6⟩:=oka
   refine r_idx3 (o:=0) (cs:=[.int .u8 a.1]) (hL1.pre hpr) rfl ha (by omega) rfl ?_
   refine p_x ?_
   obtain⟨u,hu⟩ : ∃u:Nat,a.1=Int.ofNat u:=⟨a.1.toNat,by show _=((a.1.toNat:Nat):Int);omega⟩
   have hrem:Int.ofNat u%Int.ofNat (4*W*V)=Int.ofNat (u%(4*W*V)):=rfl
   rw[hu]
   try rw[p_rem_nn (ofnn _) (show(0:Int)<Int.ofNat (4*W*V)by show(0:Int)<((4*W*V:Nat):Int);omega)]
   try simp(disch:=omega)only[↓qXX]
   rw[hrem]
   have hul:u%(4*W*V)<4*W*V:=qbV _ hN.1
   generalize u%(4*W*V)=c at *
   refine r_idx3 (o:=1) (cs:=[.int .u8 a.2.1]) (hL1.pre hpr) rfl ha (by omega) rfl ?_
   refine p_x ?_
   obtain⟨k,hk⟩ : ∃k:Nat,a.2.1%3=Int.ofNat k:=⟨(a.2.1%3).toNat,by show _=(((a.2.1%3).toNat:Nat):Int);omega⟩
   have hk3:k<3:=by
    have a:a.2.1%3=(k:Int):=hk
    omega
   rw[hk]
   refine ah (ri h3 hul hk3) ?_
   refine p_x ?_
   have hskip:self [.i (Int.ofNat i+1),.i (.ofNat W),.i (.ofNat V),.v z] h:=hself (h,z) hlt ⟨hpr,hzg,C,hC,by omega,hCv⟩
   cases hx:nbr W V c (eK (c%4) k)with
   |none=>
    rw[show nbI W V c k = -1 by unfold nbI;rw[hx]]
    rw[p_gtr_f (show(-1:Int)<=Int.ofNat c by have:=ofnn c;omega)]
    refine p_x ?_
    rw[bA (by omega)]
    exact hskip
   |some n=>
   rw[show nbI W V c k=Int.ofNat n by unfold nbI;rw[hx]]
   by_cases hcn:c<n
   case neg=>
    rw[p_gtr_f (show Int.ofNat n<=Int.ofNat c by show(n:Int)<=(c:Int);omega)]
    refine p_x ?_
    rw[bA (by omega)]
    exact hskip
   rw[p_gtr_t (ofn_lt hcn)]
   refine p_x ?_
   refine ah (edge28_c h3 hul hk3 hx) ?_
   refine p_x ?_
   refine r_idx3 (o:=2) (cs:=[.int .u8 a.2.2]) (hL1.pre hpr) rfl ha (by omega) rfl ?_
   refine p_x ?_
   refine p_app1 (h0:=h1) (l:=C) (a:=((Int.ofNat c,Int.ofNat (eK (c%4) k),1+a.2.2%3):Crs)) hpr hC rfl rfl rfl rfl (by
    unfold ch
    rw[qa5 (by omega),qa5 (by omega)];rfl) ?_
   intro z' h' hp' hM' hg _ _
   refine p_x ?_
   refine aL hg ?_
   try simp(disch:=omega)only[↓qXX]
   rw[bA (by omega)]
   refine hself (h',z') hlt ⟨hp',hg,_,hM',by rw[qaG];simp;omega,λd hd=>?_⟩
   rcases qaH.1 hd with hd|hd
   ·exact hCv d hd
   ·rw[qay]at hd
    subst hd
    exact⟨⟨c,eK (c%4) k,n,rfl,rfl,hul,mO _ _,hx,hcn,by show 0<=1+a.2.2%3;omega,by show 1+a.2.2%3<=255;omega⟩,by show 1<=1+a.2.2%3;omega,by show 1+a.2.2%3<=3;omega⟩
  obtain rfl:i=L.length:=by omega
  rw[ba (qam _)]
  refine p_x ?_
  clear hself
  obtain⟨C',h2,c2,hperm,hsor,hlC,hkeep⟩:=sG hC (by omega)
  refine bc c2 ?_
  refine p_x ?_
  have hpr2:=hkeep h1 (qam _) hpr
  have hCv':∀c∈C',VK W V c:=λc hc=>hCv c (hperm.mem_iff.1 hc)
  have hCl':C'.length<=12:=by rw[hperm.length_eq];omega
  refine bm (σ:=Unit) (max 1 C'.length) (λj _=>[.i (Int.ofNat j)]) (λ_ _=>h2) (λj _=>1<=j/\∀i,i+1<j->∀a b,C'[i]?=some a->C'[i+1]?=some b->¬(a.1=b.1/\a.2.1=b.2.1)) (j0:=1) (s0:=()) rfl rfl (by omega) ⟨qam _,λi h=>by omega⟩ ?_
  rintro j _ hj ⟨hj1,hadj⟩ self hself
  refine p_x ?_
  refine cC hlC ?_
  by_cases hlt:j<C'.length
  case pos=>
   rw[bb hlt]
   refine p_x ?_
   obtain⟨b,hb⟩:=cM hlt
   obtain⟨a,ha⟩:=cM (l:=C') (i:=j - 1) (by omega)
   have hnext:¬(a.1=b.1/\a.2.1=b.2.1)->self [.i (Int.ofNat j+1)] h2:=λhne=>hself () (by omega) ⟨by omega,λi hi a' b' ha' hb'=>by
    by_cases e:i+1=j
    ·subst e
     rw[qct,ha']at ha
     rw[hb']at hb
     cases ha;cases hb
     exact hne
    ·exact hadj i (by omega) a' b' ha' hb'⟩
   refine cr (cs:=[.int .i64 b.1]) hlC rfl hb rfl (by omega) ?_
   refine p_x ?_
   rw[iD hj1 (by omega)]
   try simp(disch:=omega)only[↓qXX]
   refine cr (cs:=[.int .i64 a.1]) hlC rfl ha rfl (by omega) ?_
   refine p_x ?_
   by_cases e1:b.1=a.1
   case neg=>
    rw[p_eql_f e1]
    refine p_x ?_
    rw[bA (by omega)]
    exact hnext λh=>e1 h.1.symm
   rw[p_eql_t e1]
   refine p_x ?_
   refine cr (cs:=[.int .u8 b.2.1]) hlC rfl hb rfl (by omega) ?_
   refine p_x ?_
   rw[iD hj1 (by omega)]
   try simp(disch:=omega)only[↓qXX]
   refine cr (cs:=[.int .u8 a.2.1]) hlC rfl ha rfl (by omega) ?_
   refine p_x ?_
   by_cases e2:b.2.1=a.2.1
   ·rw[p_eql_t e2]
    refine p_x ?_
    refine ah pv ?_
    simp(disch:=omega)only[↓qXX]
   ·rw[p_eql_f e2]
    refine p_x ?_
    rw[bA (by omega)]
    exact hnext λh=>e2 h.2.symm
  rw[ba (by omega)]
  refine p_x ?_
  have hlt:C'.Pairwise λa b=>ltC a b=true:=lt_of_adj hsor λi hi=>hadj i (by omega)
  have hnd:=vq hlt
  have hvC:∀c∈C',VC W V c:=λc hc=>(hCv' c hc).1
  have hk0:∀c∈C',c.2.2≠0:=λc hc=>by have:=(hCv' c hc).2;omega
  have hst2:=hst.pre hpr2
  obtain⟨rs1,h4,c4,hpl,hp4⟩:=nV h3 hlC hvC hk0 (by omega) (r:=idM) (uf (by omega))
  refine bc c4 ?_
  rcases hpl with⟨rfl,hno⟩|⟨G,T,hG,rfl,B,rfl⟩
  ·simp(disch:=omega)only[↓qXX]
   obtain⟨e,h5,c5,_,he⟩:=iK h3 hnd (hlC.pre hp4) (check_p hlC hp4 h3 hCv' hlt (by omega)) (by omega) (hst2.pre hp4)
   refine bc c5 ?_
   rcases he with⟨rfl,_⟩|⟨G,hG,_⟩
   ·simp(disch:=omega)only[↓qXX]
    refine ah pv ?_
    simp(disch:=omega)only[↓qXX]
   ·exact absurd ⟨G,hG.g,hG.z⟩ hno
  refine p_x ?_
  obtain⟨e,h5,c5,hp5,he⟩:=error25_c h3 (hlC.pre hp4) hvC hk0 (by omega) (hst2.pre hp4)
  refine bc c5 ?_
  have hp45:=hp4.trans hp5
  obtain⟨e',h6,c6,_,he'⟩:=iK h3 hnd (hlC.pre hp45) (check_p hlC hp45 h3 hCv' hlt (by omega)) (by omega) (hst2.pre hp45)
  have hee:e'=e/\e≠12/\e≠13:=by
   rcases he with⟨_,hno⟩|⟨G1,hG1,he⟩
   ·exact absurd ⟨G,hG.g,hG.z⟩ hno
   rcases he' with⟨_,hno⟩|⟨G2,hG2,he'⟩
   ·exact absurd ⟨G,hG.g,hG.z⟩ hno
   rcases he with⟨rfl,c,hc,hne⟩|⟨rfl,hall⟩<;>rcases he' with⟨rfl,c',hc',hne'⟩|⟨rfl,hall'⟩
   ·exact⟨rfl,by decide,by decide⟩
   ·rw[same_G hs hG1 hG2 hc]at hne
    exact absurd (hall' c hc) hne
   ·rw[same_G hs hG2 hG1 hc']at hne'
    exact absurd (hall c' hc') hne'
   ·exact⟨rfl,by decide,by decide⟩
  obtain⟨rfl,h12,h13⟩:=hee
  simp(disch:=omega)only[↓qXX]
  try rw[p_eql_f h12]
  try simp(disch:=omega)only[↓qXX]
  try rw[p_eql_f h13]
  try simp(disch:=omega)only[↓qXX]
  refine bc c6 ?_
  refine p_x ?_
  refine ah pv ?_
  simp(disch:=omega)only[↓qXX])
 obtain⟨rs,h',h2,rfl⟩:=key
 exact⟨h',h2⟩
end Go.Am
namespace Go.Am
namespace Sx
open Go.ChangeShapes Go.WideShapes Go.ChangeAt Go.WideMaps Go.WideElems Go.RowKit
def FitC:TE->Tl->Prop
 | [],[]=>True
 | .i k :: ks,v :: vs=>(∃n,v = .int k n/\(Lit.int k n).wf=true)/\FitC ks vs
 | .b :: ks,v :: vs=>(∃t,v = .bool t)/\FitC ks vs
 |_,_=>False
def FitL:TE->TB->Prop
 | [],[]=>True
 | .i k :: ks,.i n :: ls=>(Lit.int k n).wf=true/\FitL ks ls
 | .b :: ks,.b _ :: ls=>FitL ks ls
 |_,_=>False
def FitC.len:∀ {ks:TE} {vs:Tl},FitC ks vs->vs.length=ks.length
 | [],[],_=>rfl
 | .i k :: ks,v :: vs,h=>by simp[FitC.len h.2]
 | .b :: ks,v :: vs,h=>by simp[FitC.len h.2]
 | .v :: _,_,h=>by cases h
 | [],_ :: _,h=>by cases h
 | .i _ :: _,[],h=>by cases h
 | .b :: _,[],h=>by cases h
def FitC.app:∀ {ks ks':TE} {vs vs':Tl},FitC ks vs->FitC ks' vs'->FitC (ks++ks') (vs++vs')
 | [],_,[],_,_,h=>h
 | .i k :: ks,_,v :: vs,_,h,h'=>⟨h.1,FitC.app h.2 h'⟩
 | .b :: ks,_,v :: vs,_,h,h'=>⟨h.1,FitC.app h.2 h'⟩
 | .v :: _,_,_,_,h,_=>by cases h
 | [],_,_ :: _,_,h,_=>by cases h
 | .i _ :: _,_,[],_,h,_=>by cases h
 | .b :: _,_,[],_,h,_=>by cases h
def FitL.app:∀ {ks ks':TE} {vs vs':TB},FitL ks vs->FitL ks' vs'->FitL (ks++ks') (vs++vs')
 | [],_,[],_,_,h=>h
 | .i k :: ks,_,.i v :: vs,_,h,h'=>⟨h.1,FitL.app h.2 h'⟩
 | .b :: ks,_,.b v :: vs,_,h,h'=>FitL.app (ks:=ks) h h'
 | .v :: _,_,_,_,h,_=>by cases h
 | [],_,_ :: _,_,h,_=>by cases h
 | .i _ :: _,_,[],_,h,_=>by cases h
 | .b :: _,_,[],_,h,_=>by cases h
 | .i _ :: _,_,.b _ :: _,_,h,_=>by cases h
 | .i _ :: _,_,.v _ :: _,_,h,_=>by cases h
 | .b :: _,_,.i _ :: _,_,h,_=>by cases h
 | .b :: _,_,.v _ :: _,_,h,_=>by cases h
def FitC.sl:∀ {ks:TE} {vs:Tl},FitC ks vs->∃xs:List SL,xs.map SL.val=vs/\aG xs ks=true/\(∀x∈xs,x.good)/\FitL ks (xs.map SL.lf)
 | [],[],_=>⟨[],rfl,rfl,λ_ h=>(by cases h),trivial⟩
 | .i k :: ks,v :: vs,h=>by
  obtain⟨⟨n,rfl,hw⟩,h2⟩:=h
  obtain⟨xs,a,b,c,d⟩:=FitC.sl h2
  exact⟨.i k n :: xs,by simp[a,SL.val],by simp[aG,b,SL.is,dd],λx hx=>by
   rcases qap.1 hx with rfl|hx
   ·trivial
   ·exact c x hx,hw,d⟩
 | .b :: ks,v :: vs,h=>by
  obtain⟨⟨n,rfl⟩,h2⟩:=h
  obtain⟨xs,a,b,c,d⟩:=FitC.sl h2
  exact⟨.b n :: xs,by simp[a,SL.val],by simp[aG,b,SL.is],λx hx=>by
   rcases qap.1 hx with rfl|hx
   ·trivial
   ·exact c x hx,d⟩
 | .v :: _,_,h=>by cases h
 | [],_ :: _,h=>by cases h
 | .i _ :: _,[],h=>by cases h
 | .b :: _,[],h=>by cases h
def flatF(F:TI->Option (TE)):List Field->Nat->Option (TE)
 | [],_=>some []
 |f :: fs,off=>match Nat.beq f.offset off,F f.type with
  |true,some ks=>(flatF F fs (off+ks.length)).map (ks ++ ·)
  |_,_=>none
def vm(P:TC):Nat->TI->Option (TE)
 |0,_=>none
 |d+1,t=>match P.underlying t with
  |some (.int k)=>some [.i k]
  |some .bool=>some [.b]
  |some (.struct fs)=>match flatF (vm P d) fs.toList 0 with
   |some ks=>match Nat.beq ks.length (P.cellsOf t)with
    |true=>some ks
    |false=>none
   |none=>none
  |some (.array n e)=>match vm P d e with
   |some ks=>match Nat.beq (P.cellsOf e) ks.length&&Nat.beq (P.cellsOf t) (n*ks.length)with
    |true=>some (List.replicate n ks).flatten
    |false=>none
   |none=>none
  |_=>none
section
variable {H:Type} {enc:TypeId×Value->H} {P:TC}
def iP{α:Type}(l:List α)(c:Nat):l.take (l.take c).length=l.take c:=by
 rw[qa0]
 rcases Nat.le_total c l.length with h|h
 ·rw[qbK h]
 ·rw[qc9 h,qaJ h,qaJ (qam _)]
def tI{F:TI->Option (TE)}{w:World}{base:Nat}{sp:Tx}{held:Bool}{fuel:Nat}
  (hF:∀t ks,F t=some ks->∀cs (x:DataW H×List MemPlace),DataW.trod enc P w base sp held fuel t cs=some x->x.2=[]/\FitC ks cs/\∀w' b' s' h',DataW.trod enc P w' b' s' h' fuel t cs=some x) (cs:Tl) :
  ∀(fs:List Field) (off:Nat) (ks:TE) (xs:List (DataW H×List MemPlace)),flatF F fs off=some ks->fs.mapM (λf=>DataW.trod enc P w base sp held fuel f.type ((cs.drop f.offset).take (P.cellsOf f.type)))=some xs->
   xs.flatMap (·.2)=[]/\FitC ks ((cs.drop off).take ks.length)/\∀w' b' s' h',fs.mapM (λf=>DataW.trod enc P w' b' s' h' fuel f.type ((cs.drop f.offset).take (P.cellsOf f.type)))=some xs
 | [],off,ks,xs,h1,h2=>by
  simp only[flatF,qar]at h1
  subst h1
  simp only[qc2,qcQ,qar]at h2
  subst h2
  refine⟨rfl,by simp[FitC],λ_ _ _ _=>by simp⟩
 |f :: fs,off,ks,xs,h1,h2=>by
  simp only[flatF]at h1
  split at h1
  next k1 e1 e2=>
   obtain⟨k2,e3,rfl⟩:=qad.1 h1
   have e1:=qac e1
   rw[qbE]at h2
   obtain⟨x,h3,h2⟩:=qai.1 h2
   obtain⟨ys,h4,h2⟩:=qai.1 h2
   cases h2
   obtain⟨a1,a2,a3⟩:=hF _ _ e2 _ _ h3
   obtain⟨b1,b2,b3⟩:=tI hF cs fs _ k2 ys e3 h4
   refine⟨by simp[a1,b1],?_,λw' b' s' h'=>?_⟩
   ·rw[qaG,qc3]
    refine FitC.app ?_ (by rw[qbD];exact b2)
    have hl:=FitC.len a2
    rw[e1]at a2 hl
    rw[←hl,iP]
    exact a2
   ·rw[qbE,a3 w' b' s' h',b3 w' b' s' h']
    rfl
  ·cases h1
def arr_ok{w:World}{base:Nat}{sp:Tx}{held:Bool}{fuel c:Nat}{e:TI}{ks:TE}(hc:c=ks.length)
  (hF:∀cs (x:DataW H×List MemPlace),DataW.trod enc P w base sp held fuel e cs=some x->x.2=[]/\FitC ks cs/\∀w' b' s' h',DataW.trod enc P w' b' s' h' fuel e cs=some x) (cs:Tl) :
  ∀(n:Nat) (xs:List (DataW H×List MemPlace)),(List.range n).mapM (λi=>DataW.trod enc P w base sp held fuel e ((cs.drop (i*c)).take c))=some xs->
   xs.flatMap (·.2)=[]/\FitC (List.replicate n ks).flatten (cs.take (n*c))/\∀w' b' s' h',(List.range n).mapM (λi=>DataW.trod enc P w' b' s' h' fuel e ((cs.drop (i*c)).take c))=some xs
 |0,xs,h=>by
  simp only[List.range_zero,qc2,qcQ,qar]at h
  subst h
  exact⟨rfl,by simp[FitC],λ_ _ _ _=>by simp⟩
 |n+1,xs,h=>by
  rw[List.range_succ,List.mapM_append]at h
  obtain⟨ys,h1,h⟩:=qai.1 h
  obtain⟨zs,h2,h⟩:=qai.1 h
  cases h
  rw[qbE]at h2
  obtain⟨z,h3,h2⟩:=qai.1 h2
  cases h2
  obtain⟨a1,a2,a3⟩:=arr_ok hc hF cs n ys h1
  obtain⟨b1,b2,b3⟩:=hF _ _ h3
  refine⟨by simp[a1,b1],?_,λw' b' s' h'=>?_⟩
  ·rw[List.replicate_succ',List.flatten_append,qbk,qb8,qc3]
   refine FitC.app a2 ?_
   simpa using b2
  ·rw[List.range_succ,List.mapM_append,a3 w' b' s' h',qbE,b3 w' b' s' h']
   rfl
def kJ:∀(d:Nat) (t:TI) (ks:TE),vm P d t=some ks->∀(w:World) (base:Nat) (sp:Tx) (held:Bool) (fuel:Nat) (cs:Tl) (x:DataW H×List MemPlace),DataW.trod enc P w base sp held fuel t cs=some x->
  x.2=[]/\FitC ks cs/\∀w' b' s' h',DataW.trod enc P w' b' s' h' fuel t cs=some x
 |0,_,_,h=>by cases h
 |d+1,t,ks,h=>by
  intro w base sp held fuel cs x hx
  simp only[vm]at h
  split at h
  next k e=>
   cases h
   obtain⟨n,rfl,rfl,hw⟩:=DataW.trod_int e hx
   refine⟨rfl,⟨⟨n,rfl,hw⟩,trivial⟩,λw' b' s' h'=>?_⟩
   cases fuel with
   |zero=>simp[DataW.trod]at hx
   |succ m=>simp[DataW.trod,e,hw]
  next e=>
   cases h
   obtain⟨n,rfl,rfl⟩:=DataW.trod_bool e hx
   refine⟨rfl,⟨⟨n,rfl⟩,trivial⟩,λw' b' s' h'=>?_⟩
   cases fuel with
   |zero=>simp[DataW.trod]at hx
   |succ m=>simp[DataW.trod,e]
  next fs e=>
   split at h
   next k2 e2=>
    split at h
    next e3=>
     cases h
     have e3:=qac e3
     cases fuel with
     |zero=>simp[DataW.trod]at hx
     |succ m=>
      simp only[DataW.trod,e]at hx
      split at hx
      next hl=>
       obtain⟨xs,h5,rfl⟩:=qad.1 hx
       obtain⟨a1,a2,a3⟩:=tI (λt ks h cs x hx=>kJ d t ks h w base sp held m cs x hx) cs fs.toList 0 ks xs e2 h5
       rw[qbq,qaJ (by omega)]at a2
       refine⟨a1,a2,λw' b' s' h'=>?_⟩
       simp only[DataW.trod,e,hl,if_true]
       rw[a3 w' b' s' h']
       rfl
      ·cases hx
    ·cases h
   ·cases h
  next n e e1=>
   split at h
   next k2 e2=>
    split at h
    next e3=>
     cases h
     rw[qaa]at e3
     have e4:=qac e3.1
     have e5:=qac e3.2
     cases fuel with
     |zero=>simp[DataW.trod]at hx
     |succ m=>
      simp only[DataW.trod,e1]at hx
      split at hx
      next hl=>
       obtain⟨xs,h5,rfl⟩:=qad.1 hx
       obtain⟨a1,a2,a3⟩:=arr_ok e4 (λcs x hx=>kJ d e k2 e2 w base sp held m cs x hx) cs n xs h5
       rw[qaJ (by rw[hl,e5,e4];exact qam _)]at a2
       refine⟨a1,a2,λw' b' s' h'=>?_⟩
       simp only[DataW.trod,e1,hl,if_true]
       rw[a3 w' b' s' h']
       rfl
      ·cases hx
    ·cases h
   ·cases h
  ·cases h
end
section
variable [Val]
end
end Sx
end Go.Am
namespace Go.Am
namespace Sx
def FitL.i{k:TF}{ks:TE}{ls:TB}(h:FitL (.i k :: ks) ls):∃n r,ls = .i n :: r/\(Lit.int k n).wf=true/\FitL ks r:=by
 match ls,h with
 | .i n :: r,h=>exact⟨n,r,rfl,h.1,h.2⟩
def FitL.b{ks:TE}{ls:TB}(h:FitL (.b :: ks) ls):∃n r,ls = .b n :: r/\FitL ks r:=by
 match ls,h with
 | .b n :: r,h=>exact⟨n,r,rfl,h⟩
def FitL.nil{ls:TB}(h:FitL [] ls):ls=[]:=by
 match ls,h with
 | [],_=>rfl
def wf_u8{n:Int}(h:(Lit.int .u8 n).wf=true):0<=n/\n<=255:=by
 simp only[Lit.wf,qaa,qdn]at h
 exact h
def mE{H:Type}{enc:TypeId×Value->H}{P:TC}{w:World}{base:Nat}{sp:Tx}{held:Bool}:∀ {ts:List TypeId} {vs:Tl} {ds:List (DataW H)} {ps:List MemPlace},DataW.TrodAll enc P w base sp held ts vs ds ps->ds.length=ts.length
 | [],[],[],_,_=>rfl
 |_ :: _,_ :: _,_ :: _,_,h=>by
  obtain⟨p,q,_,h2,_⟩:=h
  simp[mE h2]
 | [],_ :: _,_,_,h=>by cases h
 | [],[],_ :: _,_,h=>by cases h
 |_ :: _,[],_,_,h=>by cases h
 |_ :: _,_ :: _,[],_,h=>by cases h
end Sx
namespace Sx
open Go.ChangeShapes Go.WideShapes Go.ChangeAt Go.WideMaps Go.WideElems Go.RowKit
inductive CK2 where
 |i (k:TF)
 |b
 |s (ks:TE)
def CK2.lk:CK2->LK
 | .i k=>.i k
 | .b=>.b
 | .s _=>.v
def SlFit(w:World)(ks:TE)(v:Value):Prop:=
 v = .slice none 0 0∨∃(a:Addr) (len cap:Nat) (c:Tj) (t:TI) (fr:Nat×Nat) (cells:Tl),v = .slice (some a) len cap/\a.spot=none/\len<=cap/\cap<=maxLen/\
  w.heap[a.block]?=some (.cells c t fr)/\(cap=0∨a.off+cap*ks.length<=c.size)/\cells.length=len*ks.length/\(∀(i:Nat) v,cells[i]?=some v->c[a.off+i]?=some v)/\
  ∀i,i<len->FitC ks ((cells.drop (i*ks.length)).take ks.length)
def CellFit(w:World):CK2->Value->Prop
 | .i k,v=>∃n,v = .int k n/\(Lit.int k n).wf=true
 | .b,v=>∃t,v = .bool t
 | .s ks,v=>SlFit w ks v
def dl(w:World):List CK2->Tl->Prop
 | [],[]=>True
 |k :: ks,v :: vs=>CellFit w k v/\dl w ks vs
 |_,_=>False
def aV(h:HL):List CK2->TB->Prop
 | [],[]=>True
 | .i k :: ks,.i n :: ls=>(Lit.int k n).wf=true/\aV h ks ls
 | .b :: ks,.b _ :: ls=>aV h ks ls
 | .s es :: ks,.v x :: ls=>(∃n cells,SlC h x es.length n cells/\n<=maxLen/\∀i,i<n->FitC es ((cells.drop (i*es.length)).take es.length))/\aV h ks ls
 |_,_=>False
def dl.len{w:World}:∀ {ks:List CK2} {vs:Tl},dl w ks vs->vs.length=ks.length
 | [],[],_=>rfl
 |_ :: _,_ :: _,h=>by simp[dl.len h.2]
 | [],_ :: _,h=>by cases h
 |_ :: _,[],h=>by cases h
def dl.app{w:World}:∀ {ks ks':List CK2} {vs vs':Tl},dl w ks vs->dl w ks' vs'->dl w (ks++ks') (vs++vs')
 | [],_,[],_,_,h=>h
 |_ :: _,_,_ :: _,_,h,h'=>⟨h.1,dl.app h.2 h'⟩
 | [],_,_ :: _,_,h,_=>by cases h
 |_ :: _,_,[],_,h,_=>by cases h
def aV.app{h:HL}:∀ {ks ks':List CK2} {vs vs':TB},aV h ks vs->aV h ks' vs'->aV h (ks++ks') (vs++vs')
 | [],_,[],_,_,h=>h
 | .i _ :: ks,_,.i _ :: _,_,h,h'=>⟨h.1,aV.app (ks:=ks) h.2 h'⟩
 | .b :: ks,_,.b _ :: _,_,h,h'=>aV.app (ks:=ks) h h'
 | .s _ :: ks,_,.v _ :: _,_,h,h'=>⟨h.1,aV.app (ks:=ks) h.2 h'⟩
 | [],_,_ :: _,_,h,_=>by cases h
 | .i _ :: _,_,[],_,h,_=>by cases h
 | .b :: _,_,[],_,h,_=>by cases h
 | .s _ :: _,_,[],_,h,_=>by cases h
 | .i _ :: _,_,.b _ :: _,_,h,_=>by cases h
 | .i _ :: _,_,.v _ :: _,_,h,_=>by cases h
 | .b :: _,_,.i _ :: _,_,h,_=>by cases h
 | .b :: _,_,.v _ :: _,_,h,_=>by cases h
 | .s _ :: _,_,.i _ :: _,_,h,_=>by cases h
 | .s _ :: _,_,.b _ :: _,_,h,_=>by cases h
def ckF(F:TI->Option (List CK2)):List Field->Nat->Option (List CK2)
 | [],_=>some []
 |f :: fs,off=>match Nat.beq f.offset off,F f.type with
  |true,some ks=>(ckF F fs (off+ks.length)).map (ks ++ ·)
  |_,_=>none
def kby:LK->Nat
 | .i .i64=>8
 |_=>0
def kbs:TE->Nat
 | []=>0
 |k :: ks=>kby k+kbs ks
def ckT(P:TC):Nat->TI->Option (List CK2)
 |0,_=>none
 |d+1,t=>match P.underlying t with
  |some (.int k)=>some [.i k]
  |some .bool=>some [.b]
  |some (.slice e)=>match vm P 20 e with
   |some ks=>match Nat.beq (P.cellsOf e) ks.length&&Nat.blt 0 ks.length&&Nat.ble (kbs ks) (P.bytesOf e)with
    |true=>some [.s ks]
    |false=>none
   |none=>none
  |some (.struct fs)=>match ckF (ckT P d) fs.toList 0 with
   |some ks=>match Nat.beq ks.length (P.cellsOf t)with
    |true=>some ks
    |false=>none
   |none=>none
  |_=>none
section
variable {H:Type} {enc:TypeId×Value->H} {P:TC}
def Lies(w:World)(v:Value):Prop:=∀a len cap,v = .slice (some a) len cap->a.spot=none/\∃c t fr,w.heap[a.block]?=some (.cells c t fr)
def gT{α β:Type}{f g:α->Option β}:∀ {l:List α},(∀x∈l,f x=g x)->l.mapM f=l.mapM g
 | [],_=>rfl
 |a :: l,h=>by
  rw[qbE,qbE,h a qaQ,gT λx hx=>h x (qao _ hx)]
def bk{a:Addr}(h:a.spot=none)(i:Nat):a.add i=⟨a.block,a.off+i,none⟩:=by
 obtain⟨b,o,s⟩:=a
 cases h
 unfold Addr.add
 simp
def slice_ok{w:World}{t e:TI}{ks:TE}(ht:P.underlying t=some (.slice e))(he:vm P 20 e=some ks)(hc:P.cellsOf e=ks.length)(h0:0<ks.length){base:Nat}(hbase:base=0){held:Bool}{fuel:Nat}{cs:Tl}{x:DataW H×List MemPlace}
  (hx:DataW.trod enc P w base (λ_=>true) held fuel t cs=some x) (hl:∀v∈cs,Lies w v) :
  ∃v,cs=[v]/\SlFit w ks v/\∀(w':World) (s':Tx),(∀b,b<w.heap.size->w'.heap[b]?=w.heap[b]?)->(∀b,b<w.heap.size->s' b=true)->DataW.trod enc P w' base s' held fuel t cs=some x:=by
 subst hbase
 have hx0:=hx
 rcases DataW.trod_slice ht hx with⟨rfl,rfl⟩|⟨a,len,cap,elems,rest,n,rfl,rfl,rfl,hb,hlc,hm,hlen,hel,hsp,_⟩
 ·refine⟨_,rfl,.inl rfl,λw' s' _ _=>?_⟩
  cases fuel with
  |zero=>simp[DataW.trod]at hx
  |succ m=>simp[DataW.trod,ht]
 ·obtain⟨hs,c,t',fr,hblk⟩:=hl _ qaQ a len cap rfl
  obtain⟨hrl,hr⟩:=hsp rfl
  rw[hc]at hel hr
  have hlt:a.block<w.heap.size:=by
   rcases qaC a.block w.heap.size with h|h
   ·exact h
   ·rw[qbw h]at hblk;cases hblk
  have each:∀i,i<cap->∃ci y,w.cells? 0 (a.add (i*ks.length)) ks.length=some ci/\DataW.trod enc P w 0 (λ_=>true) held n e ci=some y/\(elems++rest)[i]?=some y:=by
   intro i hi
   by_cases h1:i<len
   ·have h2:=hel i h1
    have h3:elems[i]?=some elems[i]:=qas (by omega)
    rw[h3]at h2
    obtain⟨ci,h4,h5⟩:=qai.1 h2
    exact⟨ci,_,h4,h5,by rw[qaf (by omega)];exact h3⟩
   ·have h2:=hr (i - len) (by omega)
    rw[show len+(i - len)=i by omega]at h2
    have h3:rest[i - len]?=some (rest[i - len]'(by omega)):=qas (by omega)
    rw[h3]at h2
    obtain⟨ci,h4,h5⟩:=qai.1 h2
    exact⟨ci,_,h4,h5,by rw[qak (by omega),hlen];exact h3⟩
  have rd:∀i,i<cap->∀j,j<ks.length->∀ci,w.cells? 0 (a.add (i*ks.length)) ks.length=some ci->c[a.off+i*ks.length+j]?=ci[j]?:=by
   intro i hi j hj ci hci
   have h1:=(World.cells?_some hci).2.2 j hj
   rw[bk hs,bk rfl]at h1
   rw[←h1]
   unfold World.cell?
   simp[hblk]
  have hsz:cap=0∨a.off+cap*ks.length<=c.size:=by
   by_cases hcap:cap=0
   ·exact .inl hcap
   ·right
    obtain⟨ci,y,h1,_,_⟩:=each (cap - 1) (by omega)
    have h2:=rd (cap - 1) (by omega) (ks.length - 1) (by omega) ci h1
    have hcl:=(World.cells?_some h1).2.1
    rw[qas (by omega)]at h2
    have h3:=(qaz.1 h2).1
    have h4:cap*ks.length=(cap - 1)*ks.length+ks.length:=by
     rw[←Nat.succ_mul];congr 1;omega
    omega
  have hsz2:a.off+len*ks.length<=c.size∨len=0:=by
   rcases hsz with h|h
   ·right;omega
   ·left
    have:=qbe ks.length hlc
    omega
  refine⟨_,rfl,.inr ⟨a,len,cap,c,t',fr,(c.toList.drop a.off).take (len*ks.length),rfl,hs,hlc,hm,hblk,hsz,?_,?_,?_⟩,?_⟩
  ·rw[qa0,qbT]
   have hcz:c.toList.length=c.size:=qcn
   rcases hsz2 with h|h
   ·omega
   ·subst h;omega
  ·intro i v hv
   rw[qbi]at hv
   split at hv
   ·rw[qa8]at hv
    simpa using hv
   ·cases hv
  ·intro i hi
   obtain⟨ci,y,h1,h2,_⟩:=each i (by omega)
   obtain⟨_,h3,_⟩:=kJ 20 e ks he w 0 _ held n ci y h2
   have hcl:=(World.cells?_some h1).2.1
   have:(((c.toList.drop a.off).take (len*ks.length)).drop (i*ks.length)).take ks.length=ci:=by
    apply qaT
    intro j
    by_cases hj:j<ks.length
    ·have hle:i*ks.length+ks.length<=len*ks.length:=by
      have:=qbe ks.length (show i+1<=len by omega)
      rw[qbk,qb8]at this;exact this
     rw[qbi,qdq hj,qa8,qbi,qdq (by omega),qa8,←rd i (by omega) j hj ci h1]
     rw[qcA,qbr]
    ·rw[qae (by rw[qa0];omega),qae (by omega)]
   rw[this];exact h3
  ·intro w' s' hw hs'
   have hcell:∀i,i<cap->w'.cells? 0 (a.add (i*ks.length)) ks.length=w.cells? 0 (a.add (i*ks.length)) ks.length:=by
    intro i hi
    unfold World.cells?
    have:∀j,w'.cell? ((a.add (i*ks.length)).add j)=w.cell? ((a.add (i*ks.length)).add j):=by
     intro j
     rw[bk hs,bk rfl]
     unfold World.cell?
     rw[hw _ hlt]
    simp only[this]
   have el:∀i,i<cap->(w'.cells? 0 (a.add (i*P.cellsOf e)) (P.cellsOf e)).bind (DataW.trod enc P w' 0 s' held n e)=(elems++rest)[i]?:=by
    intro i hi
    rw[hc,hcell i hi]
    obtain⟨ci,y,h1,h2,h3⟩:=each i hi
    rw[h1,h3,qag]
    exact(kJ 20 e ks he w 0 _ held n ci y h2).2.2 w' 0 s' held
   have el0:∀i,i<cap->(w.cells? 0 (a.add (i*P.cellsOf e)) (P.cellsOf e)).bind (DataW.trod enc P w 0 (λ_=>true) held n e)=(elems++rest)[i]?:=by
    intro i hi
    rw[hc]
    obtain⟨ci,y,h1,h2,h3⟩:=each i hi
    rw[h1,h3,qag]
    exact h2
   unfold DataW.trod at hx0 ⊢
   simp only[ht]at hx0 ⊢
   rw[qdq ⟨qaI _,hlc,hm⟩]at hx0 ⊢
   rw[gT (λi hi=>(el i (by have:=qah.1 hi;omega)).trans (el0 i (by have:=qah.1 hi;omega)).symm)]
   rw[gT (l:=List.range (cap - len)) (λj hj=>(el (len+j) (by have:=qah.1 hj;omega)).trans (el0 (len+j) (by have:=qah.1 hj;omega)).symm)]
   rw[hs' _ hlt]
   exact hx0
def ckF_ok{F:TI->Option (List CK2)}{w:World}{held:Bool}{fuel:Nat}(cs:Tl)(hl:∀v∈cs,Lies w v)
  (hF:∀t ks,F t=some ks->∀cs (x:DataW H×List MemPlace),(∀v∈cs,Lies w v)->DataW.trod enc P w 0 (λ_=>true) held fuel t cs=some x->dl w ks cs/\∀(w':World) (s':Tx),(∀b,b<w.heap.size->w'.heap[b]?=w.heap[b]?)->(∀b,b<w.heap.size->s' b=true)->DataW.trod enc P w' 0 s' held fuel t cs=some x) :
  ∀(fs:List Field) (off:Nat) (ks:List CK2) (xs:List (DataW H×List MemPlace)),ckF F fs off=some ks->fs.mapM (λf=>DataW.trod enc P w 0 (λ_=>true) held fuel f.type ((cs.drop f.offset).take (P.cellsOf f.type)))=some xs->
   dl w ks ((cs.drop off).take ks.length)/\∀(w':World) (s':Tx),(∀b,b<w.heap.size->w'.heap[b]?=w.heap[b]?)->(∀b,b<w.heap.size->s' b=true)->fs.mapM (λf=>DataW.trod enc P w' 0 s' held fuel f.type ((cs.drop f.offset).take (P.cellsOf f.type)))=some xs
 | [],off,ks,xs,h1,h2=>by
  simp only[ckF,qar]at h1
  subst h1
  simp only[qc2,qcQ,qar]at h2
  subst h2
  refine⟨by simp[dl],λ_ _ _ _=>by simp⟩
 |f :: fs,off,ks,xs,h1,h2=>by
  simp only[ckF]at h1
  split at h1
  next k1 e1 e2=>
   obtain⟨k2,e3,rfl⟩:=qad.1 h1
   have e1:=qac e1
   rw[qbE]at h2
   obtain⟨x,h3,h2⟩:=qai.1 h2
   obtain⟨ys,h4,h2⟩:=qai.1 h2
   cases h2
   obtain⟨a2,a3⟩:=hF _ _ e2 _ _ (λv hv=>hl v (qbt (qbo hv))) h3
   obtain⟨b2,b3⟩:=ckF_ok cs hl hF fs _ k2 ys e3 h4
   refine⟨?_,λw' s' hw hs'=>?_⟩
   ·rw[qaG,qc3]
    refine dl.app ?_ (by rw[qbD];exact b2)
    have hl:=dl.len a2
    rw[e1]at a2 hl
    rw[←hl,iP]
    exact a2
   ·rw[qbE,a3 w' s' hw hs',b3 w' s' hw hs']
    rfl
  ·cases h1
def ckT_ok:∀(d:Nat) (t:TI) (ks:List CK2),ckT P d t=some ks->∀(w:World) (held:Bool) (fuel:Nat) (cs:Tl) (x:DataW H×List MemPlace),(∀v∈cs,Lies w v)->DataW.trod enc P w 0 (λ_=>true) held fuel t cs=some x->
  dl w ks cs/\∀(w':World) (s':Tx),(∀b,b<w.heap.size->w'.heap[b]?=w.heap[b]?)->(∀b,b<w.heap.size->s' b=true)->DataW.trod enc P w' 0 s' held fuel t cs=some x
 |0,_,_,h=>by cases h
 |d+1,t,ks,h=>by
  intro w held fuel cs x hl hx
  simp only[ckT]at h
  split at h
  next k e=>
   cases h
   obtain⟨n,rfl,rfl,hw⟩:=DataW.trod_int e hx
   refine⟨⟨⟨n,rfl,hw⟩,trivial⟩,λw' s' _ _=>?_⟩
   cases fuel with
   |zero=>simp[DataW.trod]at hx
   |succ m=>simp[DataW.trod,e,hw]
  next e=>
   cases h
   obtain⟨n,rfl,rfl⟩:=DataW.trod_bool e hx
   refine⟨⟨⟨n,rfl⟩,trivial⟩,λw' s' _ _=>?_⟩
   cases fuel with
   |zero=>simp[DataW.trod]at hx
   |succ m=>simp[DataW.trod,e]
  next e e0=>
   split at h
   next k2 e2=>
    split at h
    next e3=>
     cases h
     simp only[qaa,qaU]at e3
     obtain⟨v,rfl,a2,a3⟩:=slice_ok e0 e2 (qac e3.1.1) e3.1.2 rfl hx hl
     exact⟨⟨a2,trivial⟩,a3⟩
    ·cases h
   ·cases h
  next fs e=>
   split at h
   next k2 e2=>
    split at h
    next e3=>
     cases h
     have e3:=qac e3
     cases fuel with
     |zero=>simp[DataW.trod]at hx
     |succ m=>
      simp only[DataW.trod,e]at hx
      split at hx
      next hlen=>
       obtain⟨xs,h5,rfl⟩:=qad.1 hx
       obtain⟨a2,a3⟩:=ckF_ok cs hl (λt ks h cs x hl hx=>ckT_ok d t ks h w held m cs x hl hx) fs.toList 0 ks xs e2 h5
       rw[qbq,qaJ (by omega)]at a2
       refine⟨a2,λw' s' hw hs'=>?_⟩
       simp only[DataW.trod,e,hlen,if_true]
       rw[a3 w' s' hw hs']
       rfl
      ·cases hx
    ·cases h
   ·cases h
  ·cases h
abbrev Blk2:=HObj×Option Pl
def qd(w:World)(b:Blk2):Prop:=b.1 = .dead∨∃vs e p c t fr,b.1 = .cells vs e false/\b.2=some p/\p.esz=e/\vs.all flat=true/\vs.all aI=true/\vs.length<=p.room/\w.heap[p.b]?=some (.cells c t fr)/\c.size=p.o+p.room/\∀(i:Nat) v,vs[i]?=some v->c[p.o+i]?=some v
def lG:∀ {ks:TE} {vs:Tl},FitC ks vs->vs.all flat=true/\vs.all aI=true
 | [],[],_=>⟨rfl,rfl⟩
 | .i k :: ks,v :: vs,h=>by
  obtain⟨⟨n,rfl,_⟩,h2⟩:=h
  obtain⟨a,b⟩:=lG h2
  exact⟨by simp[a,flat,en,scalar],by simp[b];rfl⟩
 | .b :: ks,v :: vs,h=>by
  obtain⟨⟨n,rfl⟩,h2⟩:=h
  obtain⟨a,b⟩:=lG h2
  exact⟨by simp[a,flat,en,scalar],by simp[b];rfl⟩
 | .v :: _,_,h=>by cases h
 | [],_ :: _,h=>by cases h
 | .i _ :: _,[],h=>by cases h
 | .b :: _,[],h=>by cases h
def rW{ks:TE}(hk:0<ks.length){cells:Tl}{n:Nat}(hl:cells.length=n*ks.length)(h:∀i,i<n->FitC ks ((cells.drop (i*ks.length)).take ks.length)):cells.all flat=true/\cells.all aI=true:=by
 have main:∀j,j<cells.length->∃v,cells[j]?=some v/\flat v=true/\aI v=true:=by
  intro j hj
  have h1:j / ks.length<n:=by
   rw[Nat.div_lt_iff_lt_mul hk];omega
  obtain⟨a,b⟩:=lG (h _ h1)
  have hm:=qbV j hk
  have hd:=Nat.div_add_mod j ks.length
  have hmem:((cells.drop (j / ks.length*ks.length)).take ks.length)[j%ks.length]?=some cells[j]:=by
   rw[qbi,qdq hm,qa8]
   rw[show j / ks.length*ks.length+j%ks.length=j by rw[Nat.mul_comm];exact hd]
   exact qas hj
  exact⟨_,qas hj,qab.1 a _ (qaq hmem),qab.1 b _ (qaq hmem)⟩
 constructor<;>
 ·rw[qab]
  intro v hv
  obtain⟨j,hj⟩:=qbs hv
  have hlt:j<cells.length:=by
   rcases qaC j cells.length with h|h
   ·exact h
   ·rw[qae h]at hj;cases hj
  obtain⟨v',h1,h2,h3⟩:=main j hlt
  rw[hj]at h1
  cases h1
  first|exact h2|exact h3
section
variable [Val] [Glo]
def cell_abs{w:World}{ck:CK2}{v:Value}(hp:∀ks,ck = .s ks->0<ks.length)(h:CellFit w ck v)(n0:Nat):∃(x:SL) (bl:List Blk2),(∀b∈bl,qd w b)/\x.is ck.lk=true/\x.good/\
  (∀mu:HMap,(∀(i:Nat) b,bl[i]?=some b->mu (n0+i)=b.2)->VR noL mu x.val v)/\∀hp:HL,(∀(i:Nat) b,bl[i]?=some b->hp[n0+i]?=some (.o b.1))->aV hp [ck] [x.lf]:=by
 cases ck with
 |i k=>
  obtain⟨n,rfl,hw⟩:=h
  exact⟨.i k n,[],by simp,by simp[SL.is,CK2.lk,dd],trivial,λmu _=>.scalar rfl,λhp _=>⟨hw,trivial⟩⟩
 |b=>
  obtain⟨t,rfl⟩:=h
  exact⟨.b t,[],by simp,rfl,trivial,λmu _=>.scalar rfl,λhp _=>trivial⟩
 |s ks=>
  have hk:=hp ks rfl
  rcases h with rfl|⟨a,len,cap,c,t,fr,cells,rfl,hs,hlc,hm,hblk,hsz,hcl,hget,hfit⟩
  ·refine⟨.v (.slice none 0 0),[],by simp,rfl,rfl,λmu _=>.scalar rfl,λhp _=>⟨⟨0,[],⟨by simp,.inl ⟨rfl,rfl⟩⟩,qaI _,λi hi=>by omega⟩,trivial⟩⟩
  ·obtain⟨hf1,hf2⟩:=rW hk hcl hfit
   have gd:aY (.slice (some ⟨n0,0,tag ks.length⟩) len 0)=true:=by simp[aY,noLoc,bg,co,bF,aZ,aB,tag]
   have ha:a=⟨a.block,a.off,none⟩:=by cases a;cases hs;rfl
   have fit:∀hp:HL,hp[n0]?=some (.o (.cells cells ks.length false))->aV hp [.s ks] [.v (.slice (some ⟨n0,0,tag ks.length⟩) len 0)]:=λhp h1=>
    ⟨⟨len,cells,⟨hcl,.inr ⟨n0,0,0,cells,false,rfl,h1,cut_all hcl⟩⟩,by omega,hfit⟩,trivial⟩
   by_cases hcap:cap=0
   ·subst hcap
    obtain rfl:len=0:=by omega
    have hce:cells=[]:=List.eq_nil_of_length_eq_zero (by omega)
    subst hce
    refine⟨.v (.slice (some ⟨n0,0,tag ks.length⟩) 0 0),[(.cells [] ks.length false,some ⟨a.block,c.size,0,ks.length⟩)],λb hb=>?_,rfl,gd,λmu _=>.hslice0 (qaI _),λhp h1=>fit hp (h1 0 _ rfl)⟩
    simp only[qay]at hb
    subst hb
    exact .inr ⟨[],ks.length,_,c,t,fr,rfl,rfl,rfl,rfl,rfl,qaI _,hblk,by simp,λi v hv=>by simp at hv⟩
   ·have hsz:a.off+cap*ks.length<=c.size:=hsz.resolve_left hcap
    have hle:=qbe ks.length hlc
    refine⟨.v (.slice (some ⟨n0,0,tag ks.length⟩) len 0),[(.cells cells ks.length false,some ⟨a.block,a.off,c.size - a.off,ks.length⟩)],λb hb=>?_,rfl,gd,λmu h1=>?_,λhp h1=>fit hp (h1 0 _ rfl)⟩
    ·simp only[qay]at hb
     subst hb
     exact .inr ⟨cells,ks.length,_,c,t,fr,rfl,rfl,rfl,hf1,hf2,by show cells.length<=c.size - a.off;omega,hblk,by show c.size=a.off+(c.size - a.off);omega,hget⟩
    ·have h2:=h1 0 _ rfl
     rw[ha]
     have:=VR.hslice (la:=noL) (mu:=mu) (id:=n0) (off:=0) (len:=len) (cap:=cap) (cx:=0) h2 (by show 0+cap*ks.length<=c.size - a.off;omega) hlc (.inl rfl)
     exact this
def qo{w:World}:∀ {cks:List CK2} {vs:Tl},(∀ks,CK2.s ks∈cks->0<ks.length)->dl w cks vs->∀n0,∃(xs:List SL) (bl:List Blk2),(∀b∈bl,qd w b)/\aG xs (cks.map CK2.lk)=true/\(∀x∈xs,x.good)/\xs.length=vs.length/\
  (∀mu:HMap,(∀(i:Nat) b,bl[i]?=some b->mu (n0+i)=b.2)->VRs noL mu (xs.map SL.val) vs)/\∀hp:HL,(∀(i:Nat) b,bl[i]?=some b->hp[n0+i]?=some (.o b.1))->aV hp cks (xs.map SL.lf)
 | [],[],_,_,n0=>⟨[],[],by simp,rfl,by simp,rfl,λmu _=>⟨rfl,λi x y h=>by simp at h⟩,λhp _=>trivial⟩
 |ck :: cks,v :: vs,hp,h,n0=>by
  obtain⟨x,bl,a1,a2,a3,a4,a5⟩:=cell_abs (λks e=>hp ks (by rw[e];exact qaQ)) h.1 n0
  obtain⟨xs,bl',b1,b2,b3,b4,b5,b6⟩:=qo (λks e=>hp ks (qao _ e)) h.2 (n0+bl.length)
  have g1:∀ {α:Type} {f:Nat->α} {g:Blk2->α},(∀(i:Nat) b,(bl++bl')[i]?=some b->f (n0+i)=g b)->(∀(i:Nat) b,bl[i]?=some b->f (n0+i)=g b)/\∀(i:Nat) b,bl'[i]?=some b->f (n0+bl.length+i)=g b:=by
   intro α f g h
   refine⟨λi b hb=>h i b ?_,λi b hb=>?_⟩
   ·rw[qaf (by
     rcases qaC i bl.length with h|h
     ·exact h
     ·rw[qae h]at hb;cases hb)];exact hb
   ·rw[qbr]
    refine h _ b ?_
    rw[qak (by omega),qcu];exact hb
  refine⟨x :: xs,bl++bl',λb hb=>?_,by simp[aG,a2,b2],λy hy=>?_,by simp[b4],λmu hmu=>?_,λhp hh=>?_⟩
  ·rcases qaH.1 hb with h|h
   ·exact a1 b h
   ·exact b1 b h
  ·rcases qap.1 hy with rfl|hy
   ·exact a3
   ·exact b3 y hy
  ·obtain⟨h1,h2⟩:=g1 (f:=mu) (g:=λb=>b.2) hmu
   have c1:=a4 mu h1
   obtain⟨c2,c3⟩:=b5 mu h2
   refine⟨by simpa using c2,λi p q hi hj=>?_⟩
   cases i with
   |zero=>
    simp only[qat,qa7,qar]at hi hj
    subst hi hj;exact c1
   |succ i=>exact c3 i p q (by simpa using hi) (by simpa using hj)
  ·obtain⟨h1,h2⟩:=g1 (f:=λi=>hp[i]?) (g:=λb=>some (HO.o b.1)) hh
   exact aV.app (a5 hp h1) (b6 hp h2)
 | [],_ :: _,_,h,_=>by cases h
 |_ :: _,[],_,h,_=>by cases h
end
end
end Sx
namespace Sx
open Go.ChangeShapes Go.WideShapes Go.ChangeAt Go.WideMaps Go.WideElems Go.RowKit
section
variable {H:Type} {enc:TypeId×Value->H} {P:TC}
def lQ{w:World}{r:Reach}{b0:Nat}{u:TI}{v:Value}(h:Cell.okWide P w r b0 u v):Lies w v:=by
 rintro a len cap rfl
 have h1:∃e,w.has P r b0 a e cap:=by
  unfold Cell.okWide at h
  split at h<;>first|(rename_i e1 e2;cases e2;done)|(rename_i e1;cases e1;done)|skip
  all_goals
   unfold Cell.ok at h
   split at h<;>first|(cases h;done)|(rename_i e1 e2;cases e2;done)|skip
   all_goals first|(rename_i heq;injection heq with q1 q2 q3;subst q2 q3;cases q1;exact⟨_,h.2.2⟩)|skip
 obtain⟨e,_,h2,row,cells,h3,_⟩:=h1
 refine⟨h2,?_⟩
 unfold World.shape? at h3
 split at h3
 next c el fr e1=>
  exact⟨c,el,fr,e1⟩
 ·cases h3
def lies_val{w:World}{r:Reach}{b0:Nat}{t:TI}{v:Value}(h:Value.okWide P w r b0 t v):∀x∈v.cells.toList,Lies w x:=by
 intro x hx
 unfold Value.okWide at h
 split at h
 ·obtain⟨cs,rfl,_,ts,_,_,h2⟩:=h
  obtain⟨i,hi⟩:=qbs hx
  obtain⟨u,_,h3⟩:=h2 i x (by simpa[Value.cells]using hi)
  exact lQ h3
 ·obtain⟨cs,rfl,_,ts,_,_,h2⟩:=h
  obtain⟨i,hi⟩:=qbs hx
  obtain⟨u,_,h3⟩:=h2 i x (by simpa[Value.cells]using hi)
  exact lQ h3
 ·have:x=v∨∃cs,v = .agg cs:=by
   cases v<;>first|(right;exact⟨_,rfl⟩)|(left;simpa[Value.cells]using hx)
  rcases this with rfl|⟨cs,rfl⟩
  ·exact lQ h
  ·exfalso
   unfold Cell.okWide at h
   split at h<;>first|(rename_i e1 e2;cases e2;done)|(rename_i e1;cases e1;done)|skip
   all_goals
    unfold Cell.ok at h
    split at h<;>first|(cases h;done)|(rename_i e1 e2;cases e2;done)|skip
def skC(P:TC)(t:TI)(cks:List CK2):Option SK:=
 match P.underlying t,cks with
 |some (.struct _),cks=>some (.agg (cks.map CK2.lk))
 |some (.int _),[k]=>some (.leaf k.lk)
 |some .bool,[k]=>some (.leaf k.lk)
 |some (.slice _),[k]=>some (.leaf k.lk)
 |_,_=>none
def posK(cks:List CK2):Bool:=cks.all λk=>match k with
 | .s ks=>Nat.blt 0 ks.length
 |_=>true
def posK_ok{cks:List CK2}(h:posK cks=true):∀ks,CK2.s ks∈cks->0<ks.length:=by
 intro ks hk
 have:=qab.1 h _ hk
 simpa[qaU]using this
section
variable [Val] [Glo]
structure Abs(W:World)(n0:Nat)(bl:List Blk2):Prop where
 ok:∀b∈bl,qd W b
abbrev MuAt(mu:HMap)(n0:Nat)(bl:List Blk2):Prop:=∀(i:Nat) b,bl[i]?=some b->mu (n0+i)=b.2
abbrev HpAt(hp:HL)(n0:Nat)(bl:List Blk2):Prop:=∀(i:Nat) b,bl[i]?=some b->hp[n0+i]?=some (.o b.1)
abbrev Stays(W W':World):Prop:=∀b,b<W.heap.size->W'.heap[b]?=W.heap[b]?
def open_arg2{W:World}{r:Reach}{b0:Nat}{held:Bool}{t:TI}{cks:List CK2}{sk:SK}{v:Value}{d:DataW H}{ps:List MemPlace}(h:ckT P 20 t=some cks)(hsk:skC P t cks=some sk)(hpos:posK cks=true)(hval:Value.okWide P W r b0 t v)(hd:DataW.Trod enc P W 0 (λ_=>true) held t v d ps)(n0:Nat) :
  ∃(x:S0) (bl:List Blk2),(∀b∈bl,qd W b)/\x.is sk=true/\x.good/\(∀mu:HMap,MuAt mu n0 bl->VR noL mu x.val v)/\(∀hp:HL,HpAt hp n0 bl->aV hp cks (x.cells.map SL.lf))/\
   ∀(W':World) (s':Tx),Stays W W'->(∀b,b<W.heap.size->s' b=true)->DataW.Trod enc P W' 0 s' held t v d ps:=by
 obtain⟨fuel,hf⟩:=hd
 obtain⟨a1,a2⟩:=ckT_ok 20 t cks h W held fuel _ _ (lies_val hval) hf
 obtain⟨xs,bl,b1,b2,b3,b4,b5,b6⟩:=qo (posK_ok hpos) a1 n0
 have close:∀(W':World) (s':Tx),Stays W W'->(∀b,b<W.heap.size->s' b=true)->DataW.Trod enc P W' 0 s' held t v d ps:=λW' s' h1 h2=>⟨fuel,a2 W' s' h1 h2⟩
 have leaf:(∀fs,P.underlying t≠some (.struct fs))->(∀n e,P.underlying t≠some (.array n e))->∀k,cks=[k]->sk = .leaf k.lk->∃(x:S0) (bl:List Blk2),(∀b∈bl,qd W b)/\x.is sk=true/\x.good/\(∀mu:HMap,MuAt mu n0 bl->VR noL mu x.val v)/\(∀hp:HL,HpAt hp n0 bl->aV hp cks (x.cells.map SL.lf))/\
   ∀(W':World) (s':Tx),Stays W W'->(∀b,b<W.heap.size->s' b=true)->DataW.Trod enc P W' 0 s' held t v d ps:=by
  rintro hs1 hs2 k rfl rfl
  have hv:v.cells.toList=[v]:=by
   have h1:=dl.len a1
   cases v with
   |agg cs=>
    exfalso
    unfold Value.okWide at hval
    split at hval
    next e=>exact hs1 _ e
    next e=>exact hs2 _ _ e
    ·unfold Cell.okWide at hval
     split at hval<;>first|(rename_i e1 e2;cases e2;done)|(rename_i e1;cases e1;done)|skip
     all_goals
      unfold Cell.ok at hval
      split at hval<;>first|(cases hval;done)|(rename_i e1 e2;cases e2;done)|skip
   |_=>simp[Value.cells]
  rw[hv]at a1 b4 b5
  obtain⟨x,rfl⟩ : ∃x,xs=[x]:=List.length_eq_one_iff.1 b4
  refine⟨.leaf x,bl,b1,?_,λl hl=>?_,λmu hmu=>?_,λhp hh=>b6 hp hh,close⟩
  ·show x.is k.lk=true
   simpa[aG]using b2
  ·simp only[S0.cells,qay]at hl
   subst hl;exact b3 _ qaQ
  ·exact(b5 mu hmu).2 0 _ _ rfl rfl
 unfold skC at hsk
 split at hsk
 next fs e=>
  cases hsk
  obtain⟨cs,rfl,_⟩:=okWide_struct e hval
  refine⟨.agg xs,bl,b1,b2,b3,λmu hmu=>?_,λhp hh=>b6 hp hh,close⟩
  obtain⟨c1,c2⟩:=b5 mu hmu
  refine .agg (by simpa[Value.cells]using c1) λi x y hx hy=>c2 i x y (by simpa using hx) (by simpa[Value.cells]using hy)
 next k e=>cases hsk;exact leaf (λ_ h=>by rw[e]at h;cases h) (λ_ _ h=>by rw[e]at h;cases h) _ rfl rfl
 next e=>cases hsk;exact leaf (λ_ h=>by rw[e]at h;cases h) (λ_ _ h=>by rw[e]at h;cases h) _ rfl rfl
 next e' e=>cases hsk;exact leaf (λ_ h=>by rw[e]at h;cases h) (λ_ _ h=>by rw[e]at h;cases h) _ rfl rfl
 ·cases hsk
def argK(P:TC):List TypeId->Option (List (List CK2)×List SK)
 | []=>some ([],[])
 |t :: ts=>match ckT P 20 t,argK P ts with
  |some cks,some (l,sks)=>match skC P t cks,posK cks with
   |some sk,true=>some (cks :: l,sk :: sks)
   |_,_=>none
  |_,_=>none
def at_app{α:Type}{bl bl':List Blk2}{f:Nat->α}{g:Blk2->α}{n0:Nat}(h:∀(i:Nat) b,(bl++bl')[i]?=some b->f (n0+i)=g b):(∀(i:Nat) b,bl[i]?=some b->f (n0+i)=g b)/\∀(i:Nat) b,bl'[i]?=some b->f (n0+bl.length+i)=g b:=by
 refine⟨λi b hb=>h i b ?_,λi b hb=>?_⟩
 ·rw[qaf (by
   rcases qaC i bl.length with h|h
   ·exact h
   ·rw[qae h]at hb;cases hb)];exact hb
 ·rw[qbr]
  refine h _ b ?_
  rw[qak (by omega),qcu];exact hb
def nN{W:World}{r:Reach}{b0:Nat}{held:Bool}:∀(ts:List TypeId) (l:List (List CK2)) (sks:TG) (vs:Tl) (ds:List (DataW H)) (ps:List MemPlace) (n0:Nat),argK P ts=some (l,sks)->
  (∀(j:Nat) t v,ts[j]?=some t->vs[j]?=some v->Value.okWide P W r b0 t v)->DataW.TrodAll enc P W 0 (λ_=>true) held ts vs ds ps->
  ∃(xs:List S0) (bl:List Blk2),(∀b∈bl,qd W b)/\bO xs sks=true/\(∀x∈xs,x.good)/\(∀mu:HMap,MuAt mu n0 bl->VRs noL mu (ai xs) vs)/\(∀hp:HL,HpAt hp n0 bl->aV hp l.flatten (ca xs))/\
   ∀(W':World) (s':Tx),Stays W W'->(∀b,b<W.heap.size->s' b=true)->DataW.TrodAll enc P W' 0 s' held ts vs ds ps
 | [],l,sks,[],[],ps,n0,h,_,ht=>by
  cases h
  exact⟨[],[],by simp,rfl,by simp,λmu _=>⟨rfl,λi x y h=>by simp[ai]at h⟩,λhp _=>trivial,λ_ _ _ _=>ht⟩
 |t :: ts,l,sks,v :: vs,d :: ds,ps,n0,h,hv,ht=>by
  simp only[argK]at h
  split at h
  next cks l' sks' e1 e2=>
   split at h
   next sk e3 e4=>
    cases h
    obtain⟨p,q,h1,h2,rfl⟩:=ht
    obtain⟨x,bl,a1,a2,a3,a4,a5,a6⟩:=open_arg2 e1 e3 e4 (hv 0 t v rfl rfl) h1 n0
    obtain⟨xs,bl',b1,b2,b3,b4,b5,b6⟩:=nN ts l' sks' vs ds q (n0+bl.length) e2 (λj t v h1 h2=>hv (j+1) t v h1 h2) h2
    refine⟨x :: xs,bl++bl',λb hb=>?_,by simp[bO,a2,b2],λy hy=>?_,λmu hmu=>?_,λhp hh=>?_,λW' s' h1 h2=>⟨p,q,a6 W' s' h1 h2,b6 W' s' h1 h2,rfl⟩⟩
    ·rcases qaH.1 hb with h|h
     ·exact a1 b h
     ·exact b1 b h
    ·rcases qap.1 hy with rfl|hy
     ·exact a3
     ·exact b3 y hy
    ·obtain⟨h1,h2⟩:=at_app (f:=mu) (g:=λb=>b.2) hmu
     have c1:=a4 mu h1
     obtain⟨c2,c3⟩:=b4 mu h2
     refine⟨by simpa[ai]using c2,λi p q hi hj=>?_⟩
     cases i with
     |zero=>
      simp only[ai,qat,qa7,qar]at hi hj
      subst hi hj;exact c1
     |succ i=>exact c3 i p q (by simpa[ai]using hi) (by simpa using hj)
    ·obtain⟨h1,h2⟩:=at_app (f:=λi=>hp[i]?) (g:=λb=>some (HO.o b.1)) hh
     rw[qb0]
     exact aV.app (a5 hp h1) (b5 hp h2)
   ·cases h
  ·cases h
 | [],_,_,_ :: _,_,_,_,_,_,ht=>by cases ht
 | [],_,_,[],_ :: _,_,_,_,_,ht=>by cases ht
 |_ :: _,_,_,[],_,_,_,_,_,ht=>by cases ht
 |_ :: _,_,_,_ :: _,[],_,_,_,_,ht=>by cases ht
def rU{C:Cfg}{f:TJ}{args:Tl}{r:Value}{H':Ts}{bl:List Blk2}{W:World}(hbl:∀b∈bl,qd W b)(h:eG C f args (bl.map (·.1)) r H'){args':Tj}(hargs:∀mu:HMap,MuAt mu 0 bl->VRs noL mu args args'.toList)(hr:flat r=true)
  (hG:∀g vs,C.G g=some vs->gBlk g<W.heap.size/\vs.all aI=true/\∃c e fr,W.heap[gBlk g]?=some (.cells c e fr)/\bE (λ_=>none) vs c (gOff g)) (hf:∀g vs,C.G g=some vs->vs.all gfl=true) :
  Calls C.P f args' W λe W'=>e = .returned r/\W'.os=W.os/\W'.output=W.output/\W'.tape=W.tape/\∀b,b<W.heap.size->W'.heap[b]?=W.heap[b]?:=by
 let mu:HMap:=λid=>(bl[id]?).bind (·.2)
 have hmu:MuAt mu 0 bl:=λi b hb=>by simp only[mu,qaF,hb,qag]
 have hob:∀(id:Nat) o,(bl.map (·.1))[id]?=some o->∃b,bl[id]?=some b/\o=b.1/\qd W b:=by
  intro id o ho
  rw[qaA]at ho
  obtain⟨b,h1,rfl⟩:=qad.1 ho
  exact⟨b,h1,rfl,hbl b (qaq h1)⟩
 have hun:∀(id:Nat) o,(bl.map (·.1))[id]?=some o->o.owned=false:=by
  intro id o ho
  obtain⟨b,_,rfl,h3⟩:=hob id o ho
  rcases h3 with h3|⟨vs,e,p,c,t,fr,h3,_⟩<;>rw[h3]<;>rfl
 have hno:∀b,¬Own mu (bl.map (·.1)) b:=by
  rintro b ⟨id,o,p,h1,h2,_⟩
  rw[hun id o h1]at h2;cases h2
 have hW0:WR C W.heap.size mu (bl.map (·.1)) W:=by
  refine⟨λid o h1 h2=>?_,λi j oi oj pi pj h1 h2 h3=>?_,λi o p h1 h2=>?_,λi o p h1 h2 _ h4=>?_,λid h1=>?_,λg vs hg=>?_⟩
  ·obtain⟨b,q1,rfl,q3⟩:=hob id o h1
   rcases q3 with q3|⟨vs,e,p,c,t,fr,q3,q4,q5,q6,q7,q8,q9,q10,q11⟩
   ·rw[q3]at h2;cases h2
   ·refine⟨p,by simp only[mu,q1,qag,q4],?_⟩
    rw[q3]
    refine⟨q5,q8,q7,c,t,fr,q9,q10,λh=>by(cases h),λi v hv=>⟨v,q11 i v hv,.of_flat (qab.1 q6 v (qaq hv))⟩⟩
  ·rw[hun i oi h1]at h3;cases h3
  ·rw[hun i o h1]at h2;cases h2
  ·obtain⟨b,q1,rfl,q3⟩:=hob i o h1
   rcases q3 with q3|⟨vs,e,p',c,t,fr,q3,q4,q5,q6,q7,q8,q9,q10,q11⟩
   ·rw[q3]at h2;cases h2
   ·simp only[mu,q1,qag,q4,qar]at h4
    subst h4
    rcases qaC p'.b W.heap.size with h|h
    ·exact h
    ·rw[qbw h]at q9;cases q9
  ·simp only[mu]
   rw[qae (by simpa using h1)];rfl
  ·obtain⟨h1,h2,c,e,fr,h4,h5⟩:=hG g vs hg
   exact⟨h1,h2,c,e,fr,h4,tJ (hf g vs hg) h5⟩
 intro cs
 obtain⟨v,mu',w',a1,a2,a3,_,a5⟩:=h _ W.heap.size mu W args' (qam _) (hargs mu hmu) hW0 cs
 rw[oY hr a1]at a5
 obtain⟨fr,b1,b2,b3⟩:=a5
 exact⟨.returned r,w',fr,⟨rfl,a3.os,a3.output,a3.tape,λb hb=>a3.keep b hb (hno b)⟩,b1,b2,b3⟩
def post_sl{P:TC}{f:Func}{s:ChangeSpec}{apart fresh handsOn:Bool}{W W':World}{args:Tj}{v:Value}{ds gs:List (DataW H)}{before pa:List MemPlace}
  (hW:DataW.Whole enc P f.params.toList s.vars apart W args.toList ds gs before)
  (hres:∀(b:Nat) (sp:Tx) (hd:Bool),DataW.TrodAll enc P W' b sp hd f.resultTypes.toList (v.resultList f.resultTypes.size) (s.fn H (ds++gs)).results [])
  (hargs:DataW.TrodAll enc P W' 0 (λb=>decide (b<W.heap.size)) true f.params.toList args.toList (s.fn H (ds++gs)).args pa)
  (hvars:∀sp:Nat->Bool,DataW.TrodVars enc P W' sp s.vars (s.fn H (ds++gs)).vars [])
  (h1:W'.os=W.os) (h2:W'.output=W.output) (h3:∀b,b<W.heap.size->W'.heap[b]?=W.heap[b]?) :
  s.post enc P f apart fresh handsOn false W args v W':=
 ⟨ds,gs,before,[],pa,[],hW,hres _ _ _,hargs,hvars _,kept_of h1 h2 h3 _,λh=>by cases h⟩
end
end
section
variable [Val]
def qm{C:Cfg}{N:Tb}{Sg:Tc}(hm:C.P.follows .mixedOrders=true){g:TJ}{sg:Sig}(hs:Sg g=some sg){ls rs:TB}{H H':Ts}(hc:let _:Kno:=KnoC C N;aW C Sg g ls H rs H'){xs ys:List S0}(h1:bO xs sg.ps=true)(h2:ca xs=ls)(h3:bO ys sg.rs=true)(h4:ca ys=rs) :
  eG C g (ai xs) H (eM (ai ys)) H':=by
 let _:Kno:=KnoC C N
 obtain⟨sg',xs',ys',c1,c2,c3,c4⟩:=hc
 rw[hs]at c1
 cases c1
 obtain⟨w1,_⟩:=cz c2.1 h1 (c2.2.1.trans h2.symm)
 obtain⟨w2,_⟩:=cz c3.1 h3 (c3.2.1.trans h4.symm)
 rw[w1,w2]at c4
 exact rM hm c4
end
end Sx
namespace Sx
def qp{α:Type}{ks:TE}{enc:α->Tl}{ok:α->Prop}(dec:∀cs,FitC ks cs->∃a,enc a=cs/\ok a):∀(n:Nat) (cells:Tl),cells.length=n*ks.length->(∀i,i<n->FitC ks ((cells.drop (i*ks.length)).take ks.length))->∃l:List α,l.length=n/\l.flatMap enc=cells/\∀a∈l,ok a
 |0,cells,hl,_=>⟨[],rfl,by
   simp only[qbP,qa9]at hl
   rw[hl];rfl,λ_ h=>by cases h⟩
 |n+1,cells,hl,hf=>by
  obtain⟨a,h1,h2⟩:=dec _ (by have:=hf 0 (by omega);rw[qbP,qbq]at this;exact this)
  obtain⟨l,h3,h4,h5⟩:=qp dec n (cells.drop ks.length) (by rw[qbT,hl,qbk];omega) (λi hi=>by
   have:=hf (i+1) (by omega)
   rw[qbD]
   rw[qbk,qb8,Nat.add_comm]at this
   exact this)
  refine⟨a :: l,by simp[h3],?_,λb hb=>?_⟩
  ·rw[qbC,h1,h4,qbX]
  ·rcases qap.1 hb with rfl|hb
   ·exact h2
   ·exact h5 b hb
def ls_of{α:Type}{ks:TE}{enc:α->Tl}{ok:α->Prop}(hlen:∀a,(enc a).length=ks.length)(dec:∀cs,FitC ks cs->∃a,enc a=cs/\ok a){h:HL}{x:Value}{n:Nat}{cells:Tl}(hs:SlC h x ks.length n cells)(hf:∀i,i<n->FitC ks ((cells.drop (i*ks.length)).take ks.length)) :
  ∃l:List α,LsH h x ks.length enc l/\l.length=n/\∀a∈l,ok a:=by
 obtain⟨l,h1,h2,h3⟩:=qp dec n cells hs.1 hf
 refine⟨l,⟨λa _=>hlen a,?_⟩,h1,h3⟩
 rw[h1,h2];exact hs
def aV.i{h:HL}{k:TF}{ks:List CK2}{ls:TB}(hf:aV h (.i k :: ks) ls):∃n r,ls = .i n :: r/\(Lit.int k n).wf=true/\aV h ks r:=by
 match ls,hf with
 | .i n :: r,hf=>exact⟨n,r,rfl,hf.1,hf.2⟩
def aV.b{h:HL}{ks:List CK2}{ls:TB}(hf:aV h (.b :: ks) ls):∃n r,ls = .b n :: r/\aV h ks r:=by
 match ls,hf with
 | .b n :: r,hf=>exact⟨n,r,rfl,hf⟩
def aV.s{h:HL}{es:TE}{ks:List CK2}{ls:TB}(hf:aV h (.s es :: ks) ls):∃x r n cells,ls = .v x :: r/\SlC h x es.length n cells/\n<=maxLen/\(∀i,i<n->FitC es ((cells.drop (i*es.length)).take es.length))/\aV h ks r:=by
 match ls,hf with
 | .v x :: r,⟨⟨n,cells,h1,h2,h3⟩,h4⟩=>exact⟨x,r,n,cells,rfl,h1,h2,h3,h4⟩
def aV.nil{h:HL}{ls:TB}(hf:aV h [] ls):ls=[]:=by
 match ls,hf with
 | [],_=>rfl
def hp_at(bl:List Blk2):HpAt (bl.map λb=>HO.o b.1) 0 bl:=λi b hb=>by
 rw[qaF,qaA,hb];rfl
def absH_bl(T:Tt)(bl:List Blk2):absH T (bl.map λb=>HO.o b.1)=bl.map (·.1):=by
 induction bl with
 |nil=>rfl
 |cons b l ih=>show absO T (.o b.1) :: absH T (l.map λb=>HO.o b.1)=_;rw[ih];rfl
end Sx
end Go.Am
namespace Go.Am
open Sx Go.Proofs
def dec8(cs:Tl)(h:FitC [.i .u8,.i .u8,.i .u8] cs):∃a:Tr8,vg a=cs/\okT8 a:=by
 obtain⟨v1,v2,v3,rfl⟩ : ∃v1 v2 v3,cs=[v1,v2,v3]:=by
  have hl:=FitC.len h
  match cs,hl with
  | [v1,v2,v3],_=>exact⟨v1,v2,v3,rfl⟩
 obtain⟨⟨a,rfl,ha⟩,⟨b,rfl,hb⟩,⟨c,rfl,hc⟩,_⟩:=h
 have h1:=wf_u8 ha
 have h2:=wf_u8 hb
 have h3:=wf_u8 hc
 exact⟨(a,b,c),rfl,h1.1,h1.2,h2.1,h2.2,h3.1,h3.2⟩
def ko(ls:TB)(h:HL)(hf:aV h [.i .u8,.i .u8,.s [.i .u8,.i .u8,.i .u8]] ls):∃h',aW cc aa 3 ls (absH ab h) [.b true] (absH ab h'):=by
 obtain⟨w,ls,rfl,hw,hf⟩:=hf.i
 obtain⟨v,ls,rfl,hv,hf⟩:=hf.i
 obtain⟨s,ls,n,cells,rfl,h1,_,h3,hf⟩:=hf.s
 obtain rfl:=hf.nil
 obtain⟨l,hl,_,hk⟩:=ls_of (enc:=vg) (ok:=okT8) (λ_=>rfl) dec8 h1 h3
 exact pP (wf_u8 hw) (wf_u8 hv) hl hk
end Go.Am
namespace Go.Proofs.YteapjkmnfbpidaaGreatDoor
open Go Go.Am Go.Am.Sx
open Go.ChangeShapes Go.WideShapes Go.ChangeAt Go.WideMaps Go.WideElems Go.RowKit
abbrev laidC:List (String×DataW Unit):= [("crimp/moves.turns",Rows.laid_crimp_moves_turns), ("crimp/cells.quarters",Rows.laid_crimp_cells_quarters)]
def name1 : Tryz.prog.globalNamed "crimp/moves.turns" = some 1:=by kernel_rfl
def name0 : Tryz.prog.globalNamed "crimp/cells.quarters" = some 0:=by kernel_rfl
def of_laid{W:World}(h:laidMetH Tryz.prog laidC W):∃_:Unit,∀(g:Nat) (vs:Tl),cc.G g=some vs->
  gBlk g<W.heap.size/\vs.all aI=true/\∃c e fr,W.heap[gBlk g]?=some (.cells c e fr)/\bE (λ_=>none) vs c (gOff g):=by
 rw[MakeChecks.laidMetH_plain _ _ _ (by kernel_rfl)]at h
 obtain⟨ps,h,_,_⟩:=h
 refine⟨(),λg vs hg=>?_⟩
 have hcell:=gl_cell g vs hg
 unfold cc at hg
 simp only at hg
 split at hg
 ·cases hg
  exact qK (by kernel_rfl) hcell (by kernel_rfl) (nA h "crimp/moves.turns" Rows.laid_crimp_moves_turns qaQ 1 198 8 gl1 name1 (by kernel_rfl) (by kernel_rfl))
 ·cases hg
  exact qK (by kernel_rfl) hcell (by kernel_rfl) (nA h "crimp/cells.quarters" Rows.laid_crimp_cells_quarters (qao _ qaQ) 0 133 8 gl0 name0 (by kernel_rfl) (by kernel_rfl))
 ·cases hg
def own:ownKnob Tryz.prog.godebug=none:=by kernel_rfl
def door_met(os:Os)(args:Tj):laidMetH Tryz.prog laidC ((World.doorLaid Tryz.prog 400 os).forCall (λ_ _=>0) ⟨#[],args,[]⟩).memory:=
 laidMetH_of_parts3 (fuel:=8) (laidMet_of_run' 8 (by kernel_rfl) (by kernel_rfl)) (by kernel_rfl) (by kernel_rfl)
end Go.Proofs.YteapjkmnfbpidaaGreatDoor
end

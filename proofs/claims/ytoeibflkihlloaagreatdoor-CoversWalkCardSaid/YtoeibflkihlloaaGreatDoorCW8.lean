/-
  PART 8 OF THE PROOF (no conditions).
-/
import Derived.Test.YtoeibflkihlloaaGreatDoorCW7
set_option linter.unusedSectionVars false
set_option linter.unusedSimpArgs false
set_option linter.unusedVariables false
set_option linter.constructorNameAsVariable false
set_option linter.defProp false
noncomputable section
set_option maxRecDepth 100000
set_option maxHeartbeats 16000000
namespace Go.Am
open Sx Go.Proofs
namespace St
def SetOf(I D:TJ):Prop:=D.Pairwise ltL/\∀c,c∈D↔c∈I
def SetOf.eq{I:TJ}:∀ {D E:TJ},(D.Pairwise ltL)->(E.Pairwise ltL)->(∀c,c∈D↔c∈E)->D=E
 | [],[],_,_,_=>rfl
 | [],b :: E,_,_,h=>by have:=(h b).2 qaB;cases this
 |a :: D,[],_,_,h=>by have:=(h a).1 qaB;cases this
 |a :: D,b :: E,h1,h2,h=>by
  rw[qcG]at h1 h2
  have hab:a=b:=by
   rcases qal.1 ((h a).1 qaB)with e|e
   ·exact e
   ·rcases qal.1 ((h b).2 qaB)with e'|e'
    ·exact e'.symm
    ·exact absurd (ltL_tr (h1.1 b e') (h2.1 a e)) mY
  subst hab
  congr 1
  refine SetOf.eq (I:=I) h1.2 h2.2 λc=>?_
  constructor
  ·intro hc
   rcases qal.1 ((h c).1 (qan _ hc))with e|e
   ·subst e;exact absurd (h1.1 _ hc) mY
   ·exact e
  ·intro hc
   rcases qal.1 ((h c).2 (qan _ hc))with e|e
   ·subst e;exact absurd (h2.1 _ hc) mY
   ·exact e
def cmN_set{S:TJ}(hS:S.Pairwise λx y=>¬ltL y x):∀n,n<=S.length->(cmN S n).Pairwise ltL/\∀c,c∈cmN S n↔c∈S.take n
 |0,_=>⟨List.Pairwise.nil,λc=>by simp[cmN]⟩
 |n+1,hn=>by
  obtain⟨i1,i2⟩:=cmN_set hS n (by omega)
  obtain⟨c,hc⟩:=aY (l:=S) (i:=n) (by omega)
  have hlt:∀(i j:Nat) x y,i<j->S[i]?=some x->S[j]?=some y->¬ltL y x:=λi j x y hij hx hy=>by
   obtain⟨h1,rfl⟩:=qaN.1 hx
   obtain⟨h2,rfl⟩:=qaN.1 hy
   exact qb0.1 hS i j h1 h2 hij
  have ht:S.take (n+1)=S.take n++[c]:=by rw[qby,hc];rfl
  rw[lL hc,ht]
  split
  next h=>
   refine⟨i1,λx=>?_⟩
   rw[i2,qao,qap]
   refine⟨.inl,λq=>q.elim id λe=>?_⟩
   subst e
   have hm:(S.take n)[n - 1]?=some x:=by rw[qaT,qdy (by omega)];exact h.2
   exact qab hm
  next h=>
   refine⟨?_,λx=>by rw[qao,qao,i2]⟩
   rw[List.pairwise_append]
   refine⟨i1,List.pairwise_singleton _ _,λx hx y hy=>?_⟩
   rw[qap]at hy
   subst hy
   rw[i2]at hx
   obtain⟨i,hi⟩:=qaW hx
   rw[qaT]at hi
   split at hi
   case isFalse=>cases hi
   rename_i hin
   have h3:=hlt i n x y hin hi hc
   rcases ltL_tri (a:=x) (b:=y)with q|q|q
   ·exact q
   ·exfalso
    subst q
    obtain⟨d,hd⟩:=aY (l:=S) (i:=n - 1) (by omega)
    have h4:=hlt (n - 1) n d x (by omega) hd hc
    by_cases hi2:i=n - 1
    ·subst hi2
     exact h ⟨by omega,hi⟩
    ·have h5:=hlt i (n - 1) x d (by omega) hi hd
     rcases ltL_tri (a:=x) (b:=d)with q|q|q
     ·exact h4 q
     ·exact h ⟨by omega,by rw[hd,q]⟩
     ·exact h5 q
   ·exact absurd q h3
def ex_c4:∀ {I:TJ},(∀c∈I,c.2.2<4)->∃J:List C4,J.map clF=I
 | [],_=>⟨[],rfl⟩
 |c :: I,h=>by
  obtain⟨J,hJ⟩:=ex_c4 (I:=I) λd hd=>h d (qan _ hd)
  exact⟨(c.1,c.2.1,⟨c.2.2,h c qaB⟩) :: J,by rw[qau,hJ];rfl⟩
def clip_c(H:HL){id n cx:Nat}:aK cc ab 54 [.v (sl3 id n cx)] (absH aa H) [.v (sl3 id n (n+1))] (absH aa H):=by
 obtain⟨rs,h',h1,e1,e2⟩:=x54 (ls:=[.v (sl3 id n cx)]) (K:=λrs h'=>rs=[.v (sl3 id n (n+1))]/\h'=H) (H:=H) (glsV xg gls0) (by
  unfold f54;simp only[qxh]
  refine p_x ?_
  refine af (x:=Int.ofNat n) rfl ?_
  refine af (x:=Int.ofNat n) rfl ?_
  have e:slS 3 (sl3 id n cx) none (some (Int.ofNat n)) (some (Int.ofNat n))=some (sl3 id n (n+1)):=by
   unfold slS sl3
   simp only
   rw[qdz (by simp),qdy (by simp[bP])]
   simp[dq,bD]
  refine af e ?_
  refine aq xg ?_
  trivial)
 rw[e1,e2]at h1
 exact h1
def OwnP(n0:Nat)(h:HL)(v:Value)(D:TJ):Prop:=∃(id:Nat) (L:TJ),v=sl3 id D.length (D.length+1)/\n0<=id/\h[id]?=some (HO.o (.cells (L.flatMap aF) 3 true))/\D.length<=L.length/\L.take D.length=D
def OwnP.ls{n0:Nat}{h:HL}{v:Value}{D:TJ}(ho:OwnP n0 h v D):LsH h v 3 aF D:=by
 obtain⟨id,L,rfl,h1,h2,h3,h4⟩:=ho
 have:=ls_pre bN (cx:=D.length+1) h2 h3
 rw[h4]at this
 exact this
def OwnP.le{n0 n1:Nat}{h:HL}{v:Value}{D:TJ}(ho:OwnP n0 h v D)(hn:n1<=n0):OwnP n1 h v D:=by
 obtain⟨id,L,h0,h1,h2⟩:=ho
 exact⟨id,L,h0,qbj hn h1,h2⟩
def sof_c{h:HL}{x:Value}{I:TJ}(hl:LsH h x 3 aF I)(hok:∀c∈I,okCl c)(h0:0<I.length)(hn:I.length<=1000) :
  ∃dx G D,aK cc ab 37 [.v x] (absH aa h) [.v dx,.i 0] (absH aa (h++G))/\OwnP h.length (h++G) dx D/\SetOf I D/\D.length<=I.length:=by
 have hw:=uV hl hok (by omega)
 have hcl:=clone_c hl h0 (by omega)
 obtain⟨J,rfl⟩:=ex_c4 (I:=I) λc hc=>(hok c hc).2
 rw[qaF]at hcl h0 hn
 have hid:(h++[HO.o (.cells [] 3 true),HO.o (.cells ((J.map clF).flatMap aF) 3 true)])[h.length+1]?=some (HO.o (.cells ((J.map clF).flatMap aF) 3 true)):=by
  rw[qaq (by omega),show h.length+1 - h.length=1 by omega];rfl
 obtain⟨D,d1,d2,d3⟩:=sort_c (cx:=0) hid h0 (by omega)
 have hid2:(putE (h++[HO.o (.cells [] 3 true),HO.o (.cells ((J.map clF).flatMap aF) 3 true)]) (h.length+1) 3 aF (D.map clF))[h.length+1]?=some (HO.o (.cells ((D.map clF).flatMap aF) 3 true)):=dK (aM hid)
 have hDl:(D.map clF).length=J.length:=by rw[qaF,d1.length_eq]
 obtain⟨cx,L',k1,k2,k3⟩:=compact_c hid2 (by rw[hDl];omega)
 rw[hDl]at k1 k2 k3
 have hS:(D.map clF).Pairwise λx y=>¬ltL y x:=qcy.2 d2
 obtain⟨s1,s2⟩:=cmN_set hS J.length (by rw[hDl];exact qaf _)
 have hcl2:=cmN_len (L:=D.map clF) J.length
 have hfin:∀G,putE (putE (h++[HO.o (.cells [] 3 true),HO.o (.cells ((J.map clF).flatMap aF) 3 true)]) (h.length+1) 3 aF (D.map clF)) (h.length+1) 3 aF L'=h++G↔G=[HO.o (.cells [] 3 true),HO.o (.cells (L'.flatMap aF) 3 true)]:=λG=>by
  unfold putE
  rw[List.set_set,qb1 _ _ (by omega),show h.length+1 - h.length=1 by omega,List.append_right_inj]
  exact eq_comm
 have hfin2:=(hfin _).2 rfl
 generalize hkd:cmN (D.map clF) J.length=C at *
 have hgf:(h++[HO.o (.cells [] 3 true),HO.o (.cells (L'.flatMap aF) 3 true)])[h.length+1]?=some (HO.o (.cells (L'.flatMap aF) 3 true)):=by
  rw[qaq (by omega),show h.length+1 - h.length=1 by omega];rfl
 obtain⟨rs,h',hc,rfl,rfl⟩:=x37 (K:=λrs h'=>rs=[.v (sl3 (h.length+1) C.length (C.length+1)),.i 0]/\h'=h++[HO.o (.cells [] 3 true),HO.o (.cells (L'.flatMap aF) 3 true)]) (H:=h) (glsV hl.good gls0) (by
  unfold f37;simp only[qxh]
  repeat (first|simp(disch:=omega)only[↓qXX]|refine am hw ?_|refine am hcl ?_|refine am d3 ?_|refine am k1 ?_)
  refine af (x:=Int.ofNat C.length) rfl ?_
  rw[p_gtr_f (show Int.ofNat C.length<=1024 by show(C.length:Int)<=1024;omega)]
  repeat (first|simp(disch:=omega)only[↓qXX]|refine am (clip_c _) ?_)
  exact⟨by trivial,hfin2⟩)
 refine⟨_,_,C,hc,?_,⟨s1,λc=>?_⟩,by rw[qaF];exact hcl2⟩
 ·exact⟨h.length+1,L',rfl,by omega,hgf,by omega,k3⟩
 ·rw[s2,qaQ (by rw[hDl];exact qaf _)]
  exact(d1.map clF).mem_iff
end St
end Go.Am
namespace Go.Am
open Sx Go.Proofs Tw
namespace St
def im_ok{ws:TA}(hok:∀z∈ws,1<=z/\z<=4)(hn2:nmv ws<=59){c:Cl}(hc:c∈imW ws):okCl c:=by
 have hw:=fU ws 0 0 0 0 hok
 unfold imW at hc
 obtain⟨i,hi,rfl⟩:=qaM.1 hc
 have hi:=qaD.1 hi
 have hr:=(rib_of ws).rng (i / 4) (by omega)
 have hq:∀t q:Nat,qT t q<4:=λt q=>qT_lt
 unfold okCl imC
 have:=hq (if half (dAt (ribL ws 0 0 0 0) (i / 4)).1 (i%4)then ex (dAt (ribL ws 0 0 0 0) (i / 4)).1 (dAt (ribL ws 0 0 0 0) (i / 4)).2.2.1 else(dAt (ribL ws 0 0 0 0) (i / 4)).2.2.1) (i%4)
 refine⟨?_,this⟩
 unfold vCl
 rw[qdv]
 simp only at hr ⊢
 omega
def cover_c{H:HL}{x:Value}{ws:TA}(hl:LsH H x 1 encS ws)(hok:∀z∈ws,1<=z/\z<=4)(h3:Ok3 ws)(hn:ws.length<=250)(hn2:nmv ws<=59) :
  ∃h' v D,aK cc ab 24 [.v x] (absH aa H) [.v v,.i 0] (absH aa h')/\OwnP H.length h' v D/\SetOf (imW ws) D/\Low H.length H h'/\H.length<=h'.length:=by
 obtain⟨h1,v1,hcall,hl1,hlow1,hle1⟩:=imagesW_c hl hok h3 hn hn2
 obtain⟨rs,h',e1,v,D,rfl,e2⟩:=x24 (ls:=[.v x]) (H:=H) (K:=λrs h'=>∃v D,rs=[.v v,.i 0]/\OwnP H.length h' v D/\SetOf (imW ws) D/\Low H.length H h'/\H.length<=h'.length) (glsV hl.good gls0) (by
  unfold f24;simp only[qxh]
  refine p_x ?_
  refine am hcall ?_
  refine p_x ?_
  refine bc (hl1.pre (h':=h1++[HO.o (.map [] 0)]) ⟨_,rfl⟩) ?_
  refine cF (σ:=Value×HL×List Cl) (imW ws).length (λj s=>[.v s.1,.i (Int.ofNat j)]) (λ_ s=>s.2.1) (λj s=>OwnL (h1.length+1) s.2.1 s.1 3 aF s.2.2/\Set3 s.2.1 h1.length s.2.2/\Low h1.length h1 s.2.1/\h1.length+1<=s.2.1.length/\(∀c,c∈s.2.2↔c∈(imW ws).take j)/\s.2.2.length<=j) (j0:=0) (s0:=(.slice none 0 0,h1++[HO.o (.map [] 0)],[])) rfl rfl (qaX _) ⟨OwnL.nil _ _ _ _,⟨[],0,aH,rfl,λe he=>(by cases he)⟩,(Low.refl _).app _,by simp,by simp,by simp⟩ ?_
  rintro j ⟨y,h,acc⟩ hj ⟨ho,hs,hlow,hle,hm,hlen⟩ self hself
  simp only at ho hs hlow hle hm hlen hself
  have hl2:=hl1.low hlow
  have him:(imW ws).length<=240:=by
   have:=fU ws 0 0 0 0 hok
   unfold imW
   rw[qaF,qde]
   omega
  refine p_x ?_
  by_cases hlt:j<(imW ws).length
  case pos=>
   rw[aR hlt]
   refine p_x ?_
   obtain⟨a,ha⟩:=aY hlt
   refine aV hl2 rfl ha ?_
   unfold aF
   refine p_x ?_
   refine r_lu3 (kt:=30) eP dO hs a ?_
   refine p_x ?_
   have htk:(imW ws).take (j+1)=(imW ws).take j++[a]:=by
    rw[qby,ha];rfl
   by_cases hin:a∈acc
   ·have hd:∀i:Decidable (a∈acc),@decide _ i=true:=λi=>qdx hin
    rw[hd]
    simp(disch:=omega)only[↓qXX,qaE]
    rw[aU (by omega)]
    refine hself (y,h,acc) hlt ⟨ho,hs,hlow,hle,λc=>?_,by show acc.length<=j+1;omega⟩
    rw[hm,htk,qao,qap]
    exact⟨.inl,λh=>h.elim id λe=>by rw[e];exact(hm a).1 hin⟩
   ·have hd:∀i:Decidable (a∈acc),@decide _ i=false:=λi=>qdw hin
    rw[hd]
    simp(disch:=omega)only[↓qXX,qba]
    refine r_mu3 (kt:=30) eP dO hs a λo' hs'=>?_
    rw[qdz hin]at hs'
    have ho2:OwnL (h1.length+1) (h.set h1.length o') y 3 aF acc:=ho.keep λi o hi hb=>bA hi λe=>by
     have:=(ho.blk hb).1
     omega
    have hlow2:Low h1.length h1 (h.set h1.length o'):=hlow.set (qaf _) o'
    refine p_x ?_
    refine ho2.ap1 (a:=a) bN (by rw[qbx];exact hle) rfl rfl rfl (by unfold bO;rw[qa5 (by omega),qa5 (by omega)];rfl) λy' h' b1 b2 b3 b4 b5=>?_
    refine p_x ?_
    refine aq b2 ?_
    refine p_x ?_
    rw[aU (by omega)]
    rw[qbx]at b4
    refine hself (y',h',acc++[a]) hlt ⟨b1,?_,λi o hi hoo=>b3 i o (hlow2 i o hi hoo) λe=>?_,by show h1.length+1<=h'.length;omega,λc=>?_,by show(acc++[a]).length<=j+1;simp;omega⟩
    ·obtain⟨es,c,g1,g2⟩:=hs'
     exact⟨es,c,b3 _ _ g1 λe=>by have:=(ho2.blk e).1;omega,g2⟩
    ·have:=(ho2.blk e).1
     omega
    ·rw[htk,qao,qao,hm]
  obtain rfl:j=(imW ws).length:=by omega
  rw[bi (qaf _)]
  refine p_x ?_
  rw[qbh]at hm
  have hpos:0<acc.length:=by
   have h0:0<(imW ws).length:=by
    have:=fU ws 0 0 0 0 hok
    unfold imW
    rw[qaF,qde]
    omega
   obtain⟨a,ha⟩:=aY h0
   exact List.length_pos_of_mem ((hm a).2 (qab ha))
  obtain⟨dx,G,D,g1,g2,g3,g4⟩:=sof_c (ho.ls bN) (λc hc=>im_ok hok hn2 ((hm c).1 hc)) hpos (by omega)
  refine am g1 ?_
  refine p_x ?_
  have hlowH:Low H.length H h:=λi o hi hoo=>hlow i o (aM (hlow1 i o hi hoo)) (hlow1 i o hi hoo)
  have hHh:H.length<=h.length:=by omega
  refine⟨_,_,rfl,g2.le hHh,⟨g3.1,λc=>(g3.2 c).trans (hm c)⟩,hlowH.app _,?_⟩
  rw[qaC]
  omega)
 exact⟨h',v,D,e1,e2⟩
end St
namespace St
def im_iff{ws:TA}{c:Cl}:c∈imW ws↔∃d,d∈ribL ws 0 0 0 0/\c∈imgs d:=by
 unfold imW
 rw[qaM]
 constructor
 ·rintro⟨i,hi,rfl⟩
  have hi:=qaD.1 hi
  refine⟨_,qab (iE (s:=i / 4) (by omega)),?_⟩
  unfold imgs
  exact qaM.2 ⟨i%4,qaD.2 (qbz _ (by omega)),rfl⟩
 ·rintro⟨d,hd,hc⟩
  obtain⟨i,hi⟩:=qaW hd
  unfold imgs at hc
  obtain⟨q,hq,rfl⟩:=qaM.1 hc
  have hq:=qaD.1 hq
  have hlt:=aM hi
  refine⟨4*i+q,qaD.2 (by omega),?_⟩
  have e:dAt (ribL ws 0 0 0 0) i=d:=by
   rw[iE hlt]at hi
   exact qae hi
  unfold imC
  rw[show(4*i+q) / 4=i by omega,show(4*i+q)%4=q by omega]
  simp only[e]
def im_cells{ws:TA}(hok:∀z∈ws,1<=z/\z<=4)(h3:Ok3 ws)(c:Cl):c∈imW ws↔c∈aD ws true (0,0) 0:=by
 rw[im_iff]
 exact(cov_iff ws hok h3 0 0 0 (by omega) c).1
end St
namespace St
def equal_c{h:HL}{x y:Value}{A B:TJ}(hx:LsH h x 3 aF A)(hy:LsH h y 3 aF B)(hn:A.length<=100000) :
  aK cc ab 39 [.v x,.v y] (absH aa h) [.b (decide (A=B))] (absH aa h):=by
 refine xK x39 (glsV hx.good (glsV hy.good gls0)) ?_
 unfold f39;simp only[qxh]
 refine p_x ?_
 refine bc hx ?_
 refine bc hy ?_
 by_cases hlen:A.length=B.length
 case neg=>
  rw[p_neq_t (λe=>hlen (qca e))]
  refine p_x ?_
  exact⟨by rw[qdw (λe=>hlen (by rw[e]))],by trivial⟩
 rw[p_neq_f (by rw[hlen])]
 refine p_x ?_
 refine bc hx ?_
 refine dU A.length (λj=>∀i,i<j->A[i]?=B[i]?) (j0:=0) rfl (qaX _) (λi hi=>by omega) ?_
 intro j hj he self hself
 refine p_x ?_
 by_cases hlt:j<A.length
 ·rw[aR hlt]
  refine p_x ?_
  obtain⟨a,ha⟩:=aY hlt
  obtain⟨b,hb⟩:=aY (l:=B) (i:=j) (by omega)
  refine aV hx rfl ha ?_
  unfold aF
  refine p_x ?_
  refine aV hy rfl hb ?_
  unfold aF
  refine p_x ?_
  rw[eqsC]
  by_cases hab:a=b
  ·subst hab
   rw[qdx rfl]
   simp(disch:=omega)only[↓qXX,qaE]
   rw[aU (by omega)]
   refine hself hlt λi hi=>?_
   by_cases hij:i=j
   ·subst hij
    rw[ha,hb]
   ·exact he i (by omega)
  ·rw[qdw hab]
   simp(disch:=omega)only[↓qXX,qba]
   refine⟨?_,by trivial⟩
   rw[qdw]
   intro e
   subst e
   rw[ha]at hb
   exact hab (qae hb)
 ·rw[bi (by omega)]
  refine p_x ?_
  refine⟨?_,by trivial⟩
  rw[qdx]
  apply qaZ
  intro i
  by_cases hi:i<A.length
  ·exact he i (by omega)
  ·rw[qaj (by omega),qaj (by omega)]
def same_c{h:HL}{x y:Value}{A B:TJ}(hx:LsH h x 3 aF A)(hy:LsH h y 3 aF B)(hn:A.length<=100000) :
  aK cc ab 26 [.v x,.v y] (absH aa h) [.b (decide (A=B))] (absH aa h):=by
 refine xK x26 (glsV hx.good (glsV hy.good gls0)) ?_
 unfold f26;simp only[qxh]
 repeat (first|simp(disch:=omega)only[↓qXX]|refine am (equal_c hx hy hn) ?_)
 trivial
def OwnP.blk{n0:Nat}{h:HL}{v:Value}{D:TJ}(ho:OwnP n0 h v D){j:Nat}(hb:Sx.blk v=some j):n0<=j:=by
 obtain⟨id,L,rfl,h1,_⟩:=ho
 cases hb
 exact h1
def r_setP{n0:Nat}{h:HL}{v:Value}{D:TJ}{i o:Nat}{a a':Cl}{n:Int}{new:Tl}{K:Ta}(ho:OwnP n0 h v D)(hn:n=Int.ofNat i)(hi:D[i]?=some a)(hoo:o+new.length<=3)
  (hnew:aF a'=(aF a).take o++new++(aF a).drop (o+new.length)) (hk:∀h',OwnP n0 h' v (D.set i a')->(∀(j:Nat) o,h[j]?=some o->Sx.blk v≠some j->h'[j]?=some o)->h'.length=h.length->K [] h') :
  P1.opt (idS 3 v n) (@hid _ ⟨λx=>P1.opt (fdP o x) (@hid _ ⟨λy=>P1.chk y (@hid _ ⟨P1.heap (.st y new) h (@hid _ ⟨K⟩)⟩)⟩)⟩):=by
 obtain⟨id,L,rfl,h1,h2,h3,h4⟩:=ho
 subst hn
 have hlt:=aM hi
 have hLi:L[i]?=some a:=by
  rw[←h4,qaT,qdy hlt]at hi
  exact hi
 have hx:idS 3 (sl3 id D.length (D.length+1)) (Int.ofNat i)=some (.pointer (some ⟨id,0+i*3,none⟩)):=by
  rw[sL]
  have hh:0<=Int.ofNat i/\Int.ofNat i<(D.length:Int):=⟨qav i,by show(i:Int)<D.length;omega⟩
  simp only[sl3,qdy hh]
  have:¬(tag 3=some 1):=by simp[tag]
  simp only[qdz this]
  rfl
 rw[qaL]at hx
 refine af hx ?_
 refine af (x:=.pointer (some ⟨id,i*3+o,none⟩)) rfl ?_
 refine aq (by simp[aW,noLoc,bj,bB,bu,aS,aJ]) ?_
 have hl:=aG (e:=3) (enc:=aF) (l:=L) λa _=>bN a
 have hLlt:=aM hLi
 have hle:i*3+3<=L.length*3:=by omega
 have e1:=fK bN (l:=L) (i:=i) a hLlt
 rw[fw hLi]at e1
 have e2:=fK bN (l:=L) (i:=i) a' hLlt
 have hA:((L.flatMap aF).take (i*3)).length=i*3:=by rw[qaI];omega
 have hB:=bN a
 have key:(L.flatMap aF).take (i*3+o)++new++(L.flatMap aF).drop (i*3+o+new.length)=(L.set i a').flatMap aF:=by
  rw[←e2,hnew]
  have t1:(L.flatMap aF).take (i*3+o)=(L.flatMap aF).take (i*3)++(aF a).take o:=by
   conv=>lhs;rw[←e1,qaP]
   rw[qcU,qaQ (by omega),hA,show i*3+o - i*3=o by omega,qcU,show o - (aF a).length=0 by omega,qbB,qa4]
  have t2:(L.flatMap aF).drop (i*3+o+new.length)=(aF a).drop (o+new.length)++(L.flatMap aF).drop (i*3+3):=by
   conv=>lhs;rw[←e1,qaP]
   rw[qcn,qbu (by omega),qaS,hA,show i*3+o+new.length - i*3=o+new.length by omega,qcn,show o+new.length - (aF a).length=0 by omega,qa1]
  rw[t1,t2]
  simp only[qaP]
 have hrun:(Hp.st (.pointer (some ⟨id,i*3+o,none⟩)) new).run (getH aa h) h.length=some ([.set id (.cells ((L.set i a').flatMap aF) 3 true)],[]):=by
  show stP (.pointer (some ⟨id,i*3+o,none⟩)) new (getH aa h) h.length=_
  unfold stP
  simp only
  rw[bR h2]
  simp only
  unfold splice
  rw[hl,qdy (by omega),key]
  rfl
 refine bS hrun ?_
 refine hk (h.set id (.o (.cells ((L.set i a').flatMap aF) 3 true))) ⟨id,L.set i a',by rw[qbx],h1,qaJ (aM h2),by rw[qbx,qbx];exact h3,?_⟩ (λj o hj hb=>?_) (by rw[qbx])
 ·rw[qbx,List.take_set,h4]
 ·rw[qaA (λe=>hb (by subst e;rfl))]
  exact hj
def shC(p:Sq)(a:Cl):Cl:=(a.1+p.1,a.2.1+p.2,a.2.2)
def shN(p:Sq)(D:TJ)(i:Nat):TJ:=(D.take i).map (shC p)++D.drop i
def shN_len{p:Sq}{D:TJ}{i:Nat}:(shN p D i).length=D.length:=by
 unfold shN
 rw[qaC,qaF,qaI,qbN];omega
def shN_get{p:Sq}{D:TJ}{i:Nat}{a:Cl}(h:D[i]?=some a):(shN p D i)[i]?=some a:=by
 have:=aM h
 unfold shN
 rw[qaq (by rw[qaF,qaI];omega),qaF,qaI,qa8 (by omega),qbC,qaU]
 exact h
def shN_set{p:Sq}{D:TJ}{i:Nat}{a:Cl}(h:D[i]?=some a):(shN p D i).set i (shC p a)=shN p D (i+1):=by
 have hlt:=aM h
 unfold shN
 rw[qb1 _ _ (by rw[qaF,qaI];omega),qaF,qaI,qa8 (by omega),qbC,qby,h,qbL]
 have e:D.drop i=a :: D.drop (i+1):=by
  rw[qaY hlt]
  rw[qai hlt]at h
  rw[qae h]
 rw[e]
 simp
def bes_sh(p c:Sq)(h:Nat):bes (c.1+p.1,c.2+p.2) h=((bes c h).1+p.1,(bes c h).2+p.2):=by
 match h with
 |0=>simp only[bes];congr 1;omega
 |1=>simp only[bes];congr 1;omega
 |2=>simp only[bes];congr 1;omega
 |h+3=>simp only[bes];congr 1;omega
def ve(p:Sq):∀(ws:TA) (laid:Bool) (c:Sq) (h:Nat),aD ws laid (c.1+p.1,c.2+p.2) h=(aD ws laid c h).map (shC p)
 | [],laid,c,h=>by
  unfold aD
  split
  ·simp[bp,qc,shC]
  ·rfl
 |z :: ws,laid,c,h=>by
  have ih:=ve p ws
  have hq:∀t,(bp t).map (qc (c.1+p.1,c.2+p.2) h)=((bp t).map (qc c h)).map (shC p):=λt=>by
   rw[qcC];rfl
  unfold aD
  rw[qbL,hq,bes_sh]
  congr 1
  ·split<;>rfl
  ·split
   ·exact ih _ _ _
   ·split
    ·exact ih _ _ _
    ·split<;>exact ih _ _ _
def qi(p:Sq)(ws:TA):aD ws true p 0=(aD ws true (0,0) 0).map (shC p):=by
 have:=ve p ws true (0,0) 0
 simp only[qdo]at this
 exact this
def sh:∀(ws:TA) (laid:Bool) (c:Sq) (h:Nat) (n:Int),(-n<=c.1/\c.1<=n)/\(-n<=c.2/\c.2<=n)->∀a∈aD ws laid c h,(-(n+ws.length)<=a.1/\a.1<=n+ws.length)/\(-(n+ws.length)<=a.2.1/\a.2.1<=n+ws.length)
 | [],laid,c,h,n,hc,a,ha=>by
  unfold aD at ha
  split at ha
  ·obtain⟨q,_,rfl⟩:=qaM.1 ha
   simp only[qc,qbG];omega
  ·cases ha
 |z :: ws,laid,c,h,n,hc,a,ha=>by
  have ih:=sh ws
  unfold aD at ha
  rw[qaG]
  rcases qao.1 ha with ha|ha
  ·split at ha
   ·obtain⟨q,_,rfl⟩:=qaM.1 ha
    simp only[qc];omega
   ·cases ha
  ·have hb:(-(n+1)<=(bes c h).1/\(bes c h).1<=n+1)/\(-(n+1)<=(bes c h).2/\(bes c h).2<=n+1):=by
    match h with
    |0=>simp only[bes];omega
    |1=>simp only[bes];omega
    |2=>simp only[bes];omega
    |h+3=>simp only[bes];omega
   have hc':(-(n+1)<=c.1/\c.1<=n+1)/\(-(n+1)<=c.2/\c.2<=n+1):=by omega
   have:(-(n+1+ws.length)<=a.1/\a.1<=n+1+ws.length)/\(-(n+1+ws.length)<=a.2.1/\a.2.1<=n+1+ws.length):=by
    split at ha
    ·exact ih _ _ _ _ hb a ha
    ·split at ha
     ·exact ih _ _ _ _ hc' a ha
     ·split at ha<;>exact ih _ _ _ _ hc' a ha
   omega
def covers_c{H:HL}{x y:Value}{L:List Sq}{D:List K3}{ws:TA}{p:Sq}(hl:LsH H x 3 cc3 D)(hD:Go.Am.SetOf L D)(h0:0<L.length)(hn:L.length<=200)(hnd:L.Nodup)(hcon:Con L)(hb:∀c∈L,(-100<=c.1/\c.1<=100)/\-100<=c.2/\c.2<=100)(hp:p∈L)
  (hw:LsH H y 1 encS ws) (hok:∀z∈ws,1<=z/\z<=4) (h3:Ok3 ws) (hwn:ws.length<=250) (hw2:nmv ws<=59) :
  ∃h' b,aK cc ab 8 [.v x,.v y,.i p.1,.i p.2,.i 0] (absH aa H) [.b b,.i 0] (absH aa h')/\(b=true↔∀a,a∈aD ws true p 0↔a∈D)/\Low H.length H h'/\H.length<=h'.length:=by
 obtain⟨h1,hcall1,hlow1,hle1⟩:=Go.Am.check_c hl hD h0 hn hnd hcon hb
 obtain⟨h2,v,E,hcall2,ho2,hE,hlow2,hle2⟩:=cover_c (hw.low hlow1) hok h3 hwn hw2
 have hpb:=hb p hp
 have hlowH2:Low H.length H h2:=λi o hi hoo=>hlow2 i o (aM (hlow1 i o hi hoo)) (hlow1 i o hi hoo)
 have hpm:sqC p∈D:=hD.mem.2 ⟨hp,by show 0<4;omega⟩
 have hDl:=hD.len
 have hhas:=hasS_c (hl.low hlowH2) (by omega) (sqC p) (p:=p.1) (q:=p.2) (r:=0) ⟨rfl,rfl,rfl⟩
 rw[qdx hpm]at hhas
 have hEm:∀a,a∈E↔a∈aD ws true (0,0) 0:=λa=>(hE.2 a).trans (im_cells hok h3 a)
 have hrng:∀a∈E,(-1000<=a.1/\a.1<=1000)/\-1000<=a.2.1/\a.2.1<=1000:=λa ha=>by
  have:=sh ws true (0,0) 0 0 ⟨by simp,by simp⟩ a ((hEm a).1 ha)
  omega
 have hEl:E.length<=100000:=by
  have hnd:E.Nodup:=hE.1.imp λh e=>by subst e;exact mY h
  have h1:=cW hnd λa ha=>(hE.2 a).1 ha
  have h2:=fU ws 0 0 0 0 hok
  unfold imW at h1
  rw[qaF,qde]at h1
  omega
 obtain⟨rs,h',e1,b,rfl,e2⟩:=x8 (ls:=[.v x,.v y,.i p.1,.i p.2,.i 0]) (H:=H) (K:=λrs h'=>∃b,rs=[.b b,.i 0]/\(b=true↔∀a,a∈aD ws true p 0↔a∈D)/\Low H.length H h'/\H.length<=h'.length) (glsV hl.good (glsV hw.good (glsI (glsI (glsI gls0))))) (by
  unfold f8;simp only[qxh]
  refine p_x ?_
  refine am hcall1 ?_
  refine p_x ?_
  refine am hcall2 ?_
  refine p_x ?_
  refine am hhas ?_
  simp(disch:=omega)only[↓qXX,qaE]
  refine bc ho2.ls ?_
  refine cF (σ:=HL) E.length (λj _=>[.i (Int.ofNat j)]) (λ_ s=>s) (λj s=>OwnP H.length s v (shN p E j)/\Low H.length H s/\H.length<=s.length) (j0:=0) (s0:=h2) rfl rfl (qaX _) ⟨by unfold shN;simpa using ho2.le hle1,hlowH2,qbj hle1 hle2⟩ ?_
  rintro j h hj ⟨ho,hlow,hle⟩ self hself
  refine p_x ?_
  by_cases hlt:j<E.length
  case pos=>
   rw[aR hlt]
   refine p_x ?_
   obtain⟨a,ha⟩:=aY hlt
   have hab:=hrng a (qab ha)
   have hblk:∀ {h':HL},(∀(j:Nat) o,h[j]?=some o->Sx.blk v≠some j->h'[j]?=some o)->Low H.length H h':=λhk i o hi hoo=>hk i o (hlow i o hi hoo) λe=>by
    have:=ho.blk e
    omega
   refine tz (o:=0) (k:=1) (a:=a) (i:=j) ho.ls rfl (shN_get ha) rfl (by omega) ?_
   simp only[aF,qa1,qa7,qbB]
   simp(disch:=omega)only[↓qXX]
   try rw[p_add (by omega) (by omega)]
   refine r_setP (o:=0) (i:=j) (a:=a) (a':=(a.1+p.1,a.2.1,a.2.2)) ho rfl (shN_get ha) (by simp) rfl λh3 ho3 hk3 hl3=>?_
   try simp(disch:=omega)only[↓qXX]
   have ha3:((shN p E j).set j (a.1+p.1,a.2.1,a.2.2))[j]?=some (a.1+p.1,a.2.1,a.2.2):=qaJ (by rw[shN_len];exact hlt)
   refine tz (o:=1) (k:=1) (a:=(a.1+p.1,a.2.1,a.2.2)) (i:=j) ho3.ls rfl ha3 rfl (by omega) ?_
   simp only[aF,qbK,qa1,qa7,qbB]
   simp(disch:=omega)only[↓qXX]
   try rw[p_add (by omega) (by omega)]
   refine r_setP (o:=1) (i:=j) (a:=(a.1+p.1,a.2.1,a.2.2)) (a':=shC p a) ho3 rfl ha3 (by simp) rfl λh4 ho4 hk4 hl4=>?_
   try simp(disch:=omega)only[↓qXX]
   rw[aU (by omega)]
   refine hself h4 hlt ⟨?_,λi o hi hoo=>hk4 i o (hblk hk3 i o hi hoo) λe=>?_,by omega⟩
   ·rw[List.set_set,shN_set ha]at ho4
    exact ho4
   ·have:=ho.blk e
    omega
  obtain rfl:j=E.length:=by omega
  rw[bi (qaf _)]
  refine p_x ?_
  have hfin:shN p E E.length=E.map (shC p):=by unfold shN;simp
  rw[hfin]at ho
  refine am (same_c ho.ls (hl.keep λi o hi hbk=>hlow i o (hl.blkLt hbk) hi) (by rw[qaF];exact hEl)) ?_
  refine p_x ?_
  refine⟨_,rfl,?_,hlow,hle⟩
  rw[qdv]
  have hmm:∀a,a∈E.map (shC p)↔a∈aD ws true p 0:=λa=>by
   rw[qi,qaM,qaM]
   exact exists_congr λb=>and_congr_left λ_=>hEm b
  constructor
  ·intro e a
   rw[←hmm,e]
  ·intro e
   refine SetOf.eq (I:=[]) ?_ ?_ λc=>(hmm c).trans (e c)
   ·refine qcy.2 (hE.1.imp λ{a b} h=>?_)
    unfold ltL at h ⊢
    simp only[shC]
    omega
   ·refine qb0.2 λi j hi hj hij=>?_
    exact hD.srt i j _ _ hij (qai hi) (qai hj))
 exact⟨h',b,e1,e2⟩
end St
def vB{h:HL}{l:List Int}{j n cx:Nat}{a:Int}(ha:l[j]?=some a)(hn:n=l.length):idS 1 (.slice (some ⟨h.length,0,some 11⟩) n cx) (Int.ofNat j)=some (.pointer (some ⟨h.length,0+j*1,none⟩))/\Ptr (h++[HO.o (.cells (l.map (Value.int .i64)) 1 true)]) (.pointer (some ⟨h.length,0+j*1,none⟩)) [.int .i64 a]:=by
 subst hn
 have hj:=aM ha
 refine⟨?_,h.length,0+j*1,_,1,true,rfl,aH,?_⟩
 ·rw[sL]
  have hh:0<=Int.ofNat j/\Int.ofNat j<(l.length:Int):=⟨qav j,by show(j:Int)<l.length;omega⟩
  simp only[qdy hh]
  rfl
 ·rw[Sx.cut_some]
  have hj':j<(l.map (Value.int .i64)).length:=by rw[qaF];exact hj
  refine⟨by simp;omega,?_⟩
  rw[show 0+j*1=j by omega,qaY hj']
  have e:(l.map (Value.int .i64))[j] = .int .i64 a:=by
   rw[List.getElem_map]
   rw[qai hj]at ha
   rw[qae ha]
  rw[e]
  rfl
def bes_lit(c:Sq){j:Nat}(hj:j<4):∃a b:Int,([1,0,-1,0]:List Int)[j]?=some a/\([0,1,0,-1]:List Int)[j]?=some b/\(bes c j).1=c.1+a/\(bes c j).2=c.2+b/\(-1<=a/\a<=1)/\-1<=b/\b<=1:=by
 have:j=0∨j=1∨j=2∨j=3:=by omega
 rcases this with rfl|rfl|rfl|rfl
 ·exact⟨1,0,rfl,rfl,rfl,by simp[bes],by omega,by omega⟩
 ·exact⟨0,1,rfl,rfl,by simp[bes],rfl,by omega,by omega⟩
 ·exact⟨-1,0,rfl,rfl,by simp[bes];omega,by simp[bes],by omega,by omega⟩
 ·exact⟨0,-1,rfl,rfl,by simp[bes],by simp[bes];omega,by omega,by omega⟩
namespace St
def cL(ws:TA)(i:Nat):Bool:=decide (i=0∨(ws[i - 1]?).getD 0<3)
def fz(z:Nat):Nat:=if z=3 then 1 else if z=4 then 2 else 0
def nxC(z:Nat)(c:Sq)(hd:Nat):Sq:=if z=1 then bes c hd else c
def nxH(z hd:Nat):Nat:=if z=1 then hd else if z=2 then(hd+2)%4 else if z=3 then(hd+1)%4 else(hd+3)%4
def wS{ws:TA}{i z:Nat}{laid:Bool}{c:Sq}{hd:Nat}(hz:ws[i]?=some z)(h4:1<=z/\z<=4)(a:K3) :
  a∈aD (ws.drop i) laid c hd↔(laid=true/\∃q,q∈bp (fz z)/\a=qc c hd q)∨a∈aD (ws.drop (i+1)) (cL ws (i+1)) (nxC z c hd) (nxH z hd):=by
 have e:ws.drop i=z :: ws.drop (i+1):=by
  have hlt:=aM hz
  rw[qaY hlt]
  rw[qai hlt]at hz
  rw[qae hz]
 have hl:cL ws (i+1)=decide (z<3):=by
  unfold cL
  rw[qcs,hz]
  simp
 have hq:∀t,a∈(bp t).map (qc c hd)↔∃q,q∈bp t/\a=qc c hd q:=λt=>by
  rw[qaM]
  exact exists_congr λq=>and_congr_right λ_=>eq_comm
 have z4:z=1∨z=2∨z=3∨z=4:=by omega
 rw[e,hl]
 rw[aD,qao]
 refine or_congr ?_ ?_
 ·cases laid with
  |true=>rw[qdy rfl];exact(hq _).trans ⟨λh=>⟨rfl,h⟩,λh=>h.2⟩
  |false=>rw[qdz (by simp)];simp
 ·rcases z4 with rfl|rfl|rfl|rfl<;>exact Iff.rfl
def cells_end{ws:TA}{laid:Bool}{c:Sq}{hd:Nat}(a:K3):a∈aD (ws.drop ws.length) laid c hd↔laid=true/\∃q,q∈bp 0/\a=qc c hd q:=by
 rw[List.drop_length]
 unfold aD
 cases laid with
 |true=>
  rw[qdy rfl,qaM]
  constructor
  ·rintro⟨q,h1,h2⟩
   exact⟨rfl,q,h1,h2.symm⟩
  ·rintro⟨_,q,h1,h2⟩
   exact⟨q,h1,h2.symm⟩
 |false=>rw[qdz (by simp)];simp
def tw{t q:Nat}(h:q∈bp t):q<4:=by
 match t with
 |0=>simp[bp]at h;omega
 |1=>simp[bp]at h;omega
 |t+2=>simp[bp]at h;omega
def mF(z:Nat):Tl:=[.int .i64 (Int.ofNat z)]
def sy(z:Nat):(mF z).length=1:=rfl
def jk{h:HL}{i cx n:Nat}{l:TA}(hi:h[i]?=some (.o (.cells (l.flatMap mF) 1 true)))(hn:n=l.length):LsH h (.slice (some ⟨i,0,some 11⟩) n cx) 1 mF l:=by
 subst hn
 have hl:=aG (e:=1) (enc:=mF) (l:=l) λa _=>sy a
 exact⟨λa _=>sy a,hl,.inr ⟨i,0,cx,_,true,rfl,hi,Sx.cut_all hl⟩⟩
structure CvI(H:HL)(D:List K3)(ws:TA)(p0:Sq)(n:Int)(i:Nat)(s:Value×HL×List K3×Sq×Nat):Prop where
 ow:OwnL H.length s.2.1 s.1 3 cc3 s.2.2.1
 nd:s.2.2.1.Nodup
 sb:∀a∈s.2.2.1,a∈D
 hd:s.2.2.2.2<4
 bx:(-(n+i)<=s.2.2.2.1.1/\s.2.2.2.1.1<=n+i)/\(-(n+i)<=s.2.2.2.1.2/\s.2.2.2.1.2<=n+i)
 ce:∀a,a∈aD ws true p0 0↔a∈s.2.2.1∨a∈aD (ws.drop i) (cL ws i) s.2.2.2.1 s.2.2.2.2
 lo:Low H.length H s.2.1
 le:H.length<=s.2.1.length
structure CvQ(H:HL)(D out:List K3)(c:Sq)(hd t:Nat)(hq:HL)(qv:Value)(k:Nat)(v:Value)(h:HL)(o:List K3):Prop where
 ow:OwnL H.length h v 3 cc3 o
 nd:o.Nodup
 sb:∀a∈o,a∈D
 mm:∀a,a∈o↔a∈out∨∃q,q∈(bp t).take k/\a=qc c hd q
 lo:Low H.length H h
 le:H.length<=h.length
 qs:LsH h qv 1 mF (bp t)
 ne:∀j,Sx.blk qv=some j->Sx.blk v≠some j
def CvQ.skip{H:HL}{D out:List K3}{c:Sq}{hd t:Nat}{hq:HL}{qv:Value}{k:Nat}{v:Value}{h:HL}{o:List K3}(hI:CvQ H D out c hd t hq qv k v h o){q:Nat}(h1:(bp t)[k]?=some q)(hm:qc c hd q∈o):CvQ H D out c hd t hq qv (k+1) v h o:=
 ⟨hI.ow,hI.nd,hI.sb,λa=>by
  rw[hI.mm,qby,h1]
  simp only[qcL,qao,qap]
  constructor
  ·rintro(h|⟨q',h2,h3⟩)
   ·exact .inl h
   ·exact .inr ⟨q',.inl h2,h3⟩
  ·rintro(h|⟨q',h2|rfl,h3⟩)
   ·exact .inl h
   ·exact .inr ⟨q',h2,h3⟩
   ·rw[h3]
    exact(hI.mm _).1 hm,hI.lo,hI.le,hI.qs,hI.ne⟩
def CvQ.add{H:HL}{D out:List K3}{c:Sq}{hd t:Nat}{hq:HL}{qv:Value}{k:Nat}{v:Value}{h:HL}{o:List K3}(hI:CvQ H D out c hd t hq qv k v h o){q:Nat}(h1:(bp t)[k]?=some q)(hm:qc c hd q∉o)(hD:qc c hd q∈D){v':Value}{h':HL}
  (b1:OwnL H.length h' v' 3 cc3 (o++[qc c hd q])) (b3:∀(j:Nat) o,h[j]?=some o->Sx.blk v≠some j->h'[j]?=some o) (b4:h.length<=h'.length) (b5:Sx.blk v'=Sx.blk v∨∃j,Sx.blk v'=some j/\h.length<=j):CvQ H D out c hd t hq qv (k+1) v' h' (o++[qc c hd q]):=by
 refine⟨b1,?_,λa ha=>?_,λa=>?_,λj x hj hx=>b3 j x (hI.lo j x hj hx) λe=>?_,qbj hI.le b4,hI.qs.keep λj x hx hb=>b3 j x hx (hI.ne j hb),λj hj e=>?_⟩
 ·rw[qbZ]
  refine⟨hI.nd,by simp,λa ha b hb=>?_⟩
  rw[qap]at hb
  subst hb
  exact λe=>hm (e▸ha)
 ·rcases qao.1 ha with ha|ha
  ·exact hI.sb a ha
  ·rw[qap]at ha
   exact ha▸hD
 ·rw[qao,hI.mm,qby,h1,or_assoc]
  refine or_congr_right ?_
  simp only[qcL,qao,qap]
  constructor
  ·rintro(⟨q',h2,h3⟩|rfl)
   ·exact⟨q',.inl h2,h3⟩
   ·exact⟨q,.inr rfl,rfl⟩
  ·rintro⟨q',h2|rfl,h3⟩
   ·exact .inl ⟨q',h2,h3⟩
   ·exact .inr h3
 ·have:=(hI.ow.blk e).1
  omega
 ·rcases b5 with b5|⟨i,b5,b6⟩
  ·exact hI.ne j hj (b5▸e)
  ·rw[b5]at e
   cases e
   have:=hI.qs.blkLt hj
   omega
def covered_c{H:HL}{x y:Value}{D:List K3}{ws:TA}{p:Sq}(hx:LsH H x 3 cc3 D)(hDn:D.length<=1000)(hp:(-1000<=p.1/\p.1<=1000)/\-1000<=p.2/\p.2<=1000)
  (hw:LsH H y 1 encS ws) (hok:∀z∈ws,1<=z/\z<=4) (hwn:ws.length<=1000) :
  ∃h' v b out,aK cc ab 11 [.v y,.i p.1,.i p.2,.i 0,.v x] (absH aa H) [.v v,.b b] (absH aa h')/\LsH h' v 3 cc3 out/\(b=true↔∀a∈aD ws true p 0,a∈D)/\(b=true->out.Nodup/\∀a,a∈out↔a∈aD ws true p 0)/\Low H.length H h'/\H.length<=h'.length:=by
 obtain⟨rs,h',e1,v,b,out,rfl,e2⟩:=x11 (ls:=[.v y,.i p.1,.i p.2,.i 0,.v x]) (H:=H) (K:=λrs h'=>∃v b out,rs=[.v v,.b b]/\LsH h' v 3 cc3 out/\(b=true↔∀a∈aD ws true p 0,a∈D)/\(b=true->out.Nodup/\∀a,a∈out↔a∈aD ws true p 0)/\Low H.length H h'/\H.length<=h'.length) (glsV hw.good (glsI (glsI (glsI (glsV hx.good gls0))))) (by
  unfold f11;simp only[qxh]
  refine p_x ?_
  refine cF (σ:=Value×HL×List K3×Sq×Nat) ws.length (λi s=>[.v s.1,.i s.2.2.2.1.1,.i s.2.2.2.1.2,.i (Int.ofNat s.2.2.2.2),.i (Int.ofNat i)]) (λ_ s=>s.2.1) (λi s=>CvI H D ws p 1000 i s) (j0:=0) (s0:=(.slice none 0 0,H,[],p,0)) rfl rfl (qaX _) ⟨OwnL.nil _ _ _ _,qcN,(λa ha=>by cases ha),by show 0<4;omega,by simp only;omega,λa=>by simp[cL],Low.refl _,qaf _⟩ ?_
  rintro i ⟨v,h,out,c,hd⟩ hi ⟨how,hnd,hsb,hhd,hbx,hce,hlow,hle⟩ self hself
  simp only at how hnd hsb hhd hbx hce hlow hle hself
  have hw':∀h',Low H.length H h'->LsH h' y 1 encS ws:=λh' hl=>hw.keep λj o ho hb=>hl j o (hw.blkLt hb) ho
  have hx':∀h',Low H.length H h'->LsH h' x 3 cc3 D:=λh' hl=>hx.keep λj o ho hb=>hl j o (hx.blkLt hb) ho
  refine p_x ?_
  refine bc (hw' _ hlow) ?_
  rw[p_leq_t (by show(i:Int)<=(ws.length:Int);omega)]
  refine p_x ?_
  have lc:i=0∨(0<i/\∃a,ws[i - 1]?=some a/\(a<3∨3<=a)):=by
   by_cases h0:i=0
   ·exact .inl h0
   ·obtain⟨a,ha⟩:=aY (l:=ws) (i:=i - 1) (by omega)
    exact .inr ⟨by omega,a,ha,by omega⟩
  have zc:i=ws.length∨∃z,ws[i]?=some z/\(z=1∨z=2∨z=3∨z=4):=by
   by_cases e:i=ws.length
   ·exact .inl e
   ·obtain⟨z,hz⟩:=aY (l:=ws) (i:=i) (by omega)
    have:=hok z (qab hz)
    exact .inr ⟨z,hz,by omega⟩
  have hfail:∀h',Low H.length H h'->H.length<=h'.length->(∃a,a∈aD ws true p 0/\a∉D)->∃v b out,([.v (.slice none 0 0),.b false]:TD)=[.v v,.b b]/\LsH h' v 3 cc3 out/\(b=true↔∀a∈aD ws true p 0,a∈D)/\(b=true->out.Nodup/\∀a,a∈out↔a∈aD ws true p 0)/\Low H.length H h'/\H.length<=h'.length:=by
   rintro h' q1 q2 ⟨a,q3,q4⟩
   refine⟨_,_,[],rfl,LsH.nil _ 3 cc3,⟨λe=>(by cases e),λe=>absurd (e a q3) q4⟩,λe=>(by cases e),q1,q2⟩
  have hd4:∀q:Nat,q<4->(-9223372036854775808:Int)<=(hd:Int)+(q:Int)/\(hd:Int)+(q:Int)<=9223372036854775807:=λq hq=>by omega
  have inn:∀(t:Nat) (hq:HL) (qv:Value) (F:(TD->HL->Prop)->TD->HL->Prop),LsH hq qv 1 mF (bp t)->(∀j,Sx.blk qv=some j->h.length<=j)->Low h.length h hq->h.length<=hq.length->
    (∀k v' h' o',k<=(bp t).length->CvQ H D out c hd t hq qv k v' h' o'->∀self:TD->HL->Prop,(∀v'' h'' o'',k<(bp t).length->CvQ H D out c hd t hq qv (k+1) v'' h'' o''->self [.v v'',.i (Int.ofNat (k+1))] h'')->F self [.v v',.i (Int.ofNat k)] h')->
    P1.loop (@hid _ ⟨F⟩) [.v v,.i 0] hq:=by
   intro t hq qv F g1 g2 g3 g4 step
   refine cF (σ:=Value×HL×List K3) (bp t).length (λk s=>[.v s.1,.i (Int.ofNat k)]) (λ_ s=>s.2.1) (λk s=>CvQ H D out c hd t hq qv k s.1 s.2.1 s.2.2) (j0:=0) (s0:=(v,hq,out)) rfl rfl (qaX _) ?_ ?_
   ·exact⟨how.keep λj o ho hb=>g3 j o (aM ho) ho,hnd,hsb,λa=>by simp,λj o hj hoo=>g3 j o (aM (hlow j o hj hoo)) (hlow j o hj hoo),by show H.length<=hq.length;omega,g1,λj hj e=>by
     have:=g2 j hj
     have:=(how.blk e).2
     omega⟩
   ·rintro k ⟨v',h',o'⟩ hk hi self hs
    exact step k v' h' o' hk hi self λv'' h'' o'' a b=>hs (v'',h'',o'') a b
  have hlen:∀ {t k hq qv v' h' o'},CvQ H D out c hd t hq qv k v' h' o'->o'.length<=1000:=λhI=>qbj (cW hI.nd hI.sb) hDn
  have bQ:∀(m:Nat),h.length<=m->∀n cx j,Sx.blk (.slice (some ⟨m,0,some 11⟩) n cx)=some j->h.length<=j:=λm hm n cx j e=>by
   cases e
   exact hm
  rcases zc with e|⟨z,hz,hz4⟩
  ·subst e
   have hce':=λa=>(hce a).trans (or_congr_right (cells_end (c:=c) (hd:=hd) (laid:=cL ws ws.length) a))
   have hend:∀v' h' o',OwnL H.length h' v' 3 cc3 o'->o'.Nodup->(∀a∈o',a∈D)->(∀a,a∈o'↔a∈out∨(cL ws ws.length=true/\∃q,q∈bp 0/\a=qc c hd q))->Low H.length H h'->H.length<=h'.length->∃v b out,([.v v',.b true]:TD)=[.v v,.b b]/\LsH h' v 3 cc3 out/\(b=true↔∀a∈aD ws true p 0,a∈D)/\(b=true->out.Nodup/\∀a,a∈out↔a∈aD ws true p 0)/\Low H.length H h'/\H.length<=h'.length:=by
    intro v' h' o' q1 q2 q3 q4 q5 q6
    have q7:∀a,a∈o'↔a∈aD ws true p 0:=λa=>(q4 a).trans (hce' a).symm
    exact⟨_,_,o',rfl,q1.ls bM,⟨λ_ a ha=>q3 a ((q7 a).2 ha),λ_=>rfl⟩,λ_=>⟨q2,q7⟩,q5,q6⟩
   rcases lc with h0|⟨h0,a,ha,hlt|hge⟩
   rotate_left 2
   ·have hL:cL ws ws.length=false:=by
     unfold cL
     rw[qdw]
     rw[ha]
     simp only[qa9]
     omega
    rw[p_eql_f (by show((ws.length:Nat):Int)≠0;omega)]
    simp(disch:=omega)only[↓qXX]
    try rw[fP (by omega) (by omega)]
    try simp(disch:=omega)only[↓qXX]
    refine aV (hw' _ hlow) rfl ha ?_
    unfold encS
    refine p_x ?_
    rw[p_lss_f (by show(3:Int)<=(a:Int);omega)]
    refine p_x ?_
    refine bc hw ?_
    rw[p_eql_t (by rfl)]
    refine p_x ?_
    exact hend v h out how hnd hsb (λa=>by rw[hL];simp) hlow hle
   all_goals
    have hL:cL ws ws.length=true:=by
     unfold cL
     rw[qdx]
     first
      |exact .inl h0
      |refine .inr ?_
       rw[ha]
       exact hlt
    first
     |rw[p_eql_t (by show((ws.length:Nat):Int)=0;omega)]
      simp(disch:=omega)only[↓qXX]
     |rw[p_eql_f (by show((ws.length:Nat):Int)≠0;omega)]
      simp(disch:=omega)only[↓qXX]
      try rw[fP (by omega) (by omega)]
      try simp(disch:=omega)only[↓qXX]
      refine aV (hw' _ hlow) rfl ha ?_
      unfold encS
      refine p_x ?_
      rw[p_lss_t (by show(a:Int)<3;omega)]
      simp(disch:=omega)only[↓qXX]
    refine bc hw ?_
    rw[bi (qaf _)]
    refine p_x ?_
    refine bc hw ?_
    rw[bi (qaf _)]
    refine p_x ?_
    have hsub:∀q,q∈bp 0->cL ws ws.length=true->qc c hd q∈aD ws true p 0:=λq hq hl=>(hce' _).2 (.inr ⟨hl,q,hq,rfl⟩)
    refine inn 0 _ _ _ (jk (cx:=5) (l:=bp 0) aH rfl) (bQ _ (qaf _) _ _) ((Low.refl h).app _) (by simp) ?_
    ·intro k v' h' o' hk hI self hs
     refine p_x ?_
     refine bc hI.qs ?_
     have hol:=hlen hI
     by_cases hlt:k<(bp 0).length
     case pos=>
      rw[aR hlt]
      refine p_x ?_
      obtain⟨q,hq⟩:=aY hlt
      have hq4:=tw (qab hq)
      have hk4:k<4:=qbV hlt (by decide)
      refine aV hI.qs rfl hq ?_
      unfold mF
      refine p_x ?_
      have hqq:=hd4 q hq4
      first
       |rw[p_add (show(-9223372036854775808:Int)<=Int.ofNat hd+Int.ofNat q from hqq.1) hqq.2]
       |skip
      rw[show Int.ofNat hd+Int.ofNat q=Int.ofNat (hd+q)from rfl,aU (by omega),show Int.ofNat (hd+q)+1=Int.ofNat (hd+q+1)from rfl,rem4,p_conv8 (by show(0:Int)<=(((hd+q+1)%4:Nat):Int);omega) (by show(((hd+q+1)%4:Nat):Int)<=255;omega)]
      refine am (Go.Am.has_c (hx' _ hI.lo) (by omega) (qc c hd q) ⟨rfl,rfl,rfl⟩) ?_
      refine p_x ?_
      by_cases hDm:qc c hd q∈D
      case neg=>
       rw[qdw hDm]
       simp(disch:=omega)only[↓qXX,qba]
       exact hfail h' hI.lo hI.le ⟨_,hsub q (qab hq) hL,hDm⟩
      rw[qdx hDm]
      simp(disch:=omega)only[↓qXX,qaE]
      refine am (Go.Am.has_c (hI.ow.ls bM) (by omega) (qc c hd q) ⟨rfl,rfl,rfl⟩) ?_
      refine p_x ?_
      by_cases hm:qc c hd q∈o'
      ·rw[qdx hm]
       simp(disch:=omega)only[↓qXX,qaE]
       rw[aU (by omega)]
       exact hs v' h' o' hlt (hI.skip hq hm)
      ·rw[qdw hm]
       simp(disch:=omega)only[↓qXX,qba]
       refine hI.ow.ap1 (a:=qc c hd q) bM hI.le rfl rfl rfl (uN (by omega)) λv'' h'' b1 b2 b3 b4 b5=>?_
       refine p_x ?_
       refine aq b2 ?_
       refine p_x ?_
       rw[aU (by omega)]
       exact hs v'' h'' _ hlt (hI.add hq hm hDm b1 b3 b4 b5)
     have hk':k=(bp 0).length:=by omega
     rw[hk']at hI ⊢
     rw[bi (qaf _)]
     refine p_x ?_
     have hmm:∀a,a∈o'↔a∈out∨(cL ws ws.length=true/\∃q,q∈bp 0/\a=qc c hd q):=λa=>(hI.mm a).trans (or_congr_right (by rw[qbh,hL];simp))
     refine bc hw ?_
     rw[p_eql_t (by rfl)]
     refine p_x ?_
     exact hend v' h' o' hI.ow hI.nd hI.sb hmm hI.lo hI.le
  ·have hlt0:=aM hz
   have hce':=λa=>(hce a).trans (or_congr_right (wS (c:=c) (hd:=hd) (laid:=cL ws i) hz (by omega) a))
   have hsub:∀q,q∈bp (fz z)->cL ws i=true->qc c hd q∈aD ws true p 0:=λq hq hl=>(hce' _).2 (.inr (.inl ⟨hl,q,hq,rfl⟩))
   obtain⟨da,db,d1,d2,d3,d4,d5,d6⟩:=bes_lit c hhd
   have hgo:∀v' h' o',OwnL H.length h' v' 3 cc3 o'->o'.Nodup->(∀a∈o',a∈D)->(∀a,a∈o'↔a∈out∨(cL ws i=true/\∃q,q∈bp (fz z)/\a=qc c hd q))->Low H.length H h'->H.length<=h'.length->self [.v v',.i (nxC z c hd).1,.i (nxC z c hd).2,.i (Int.ofNat (nxH z hd)),.i (Int.ofNat i+1)] h':=by
    intro v' h' o' q1 q2 q3 q4 q5 q6
    refine hself (v',h',o',nxC z c hd,nxH z hd) hlt0 ⟨q1,q2,q3,?_,?_,λa=>?_,q5,q6⟩
    ·show nxH z hd<4
     unfold nxH
     repeat' split
     all_goals omega
    ·show(-(1000+((i+1:Nat):Int))<=(nxC z c hd).1/\(nxC z c hd).1<=1000+((i+1:Nat):Int))/\(-(1000+((i+1:Nat):Int))<=(nxC z c hd).2/\(nxC z c hd).2<=1000+((i+1:Nat):Int))
     unfold nxC
     split<;>omega
    ·show _↔a∈o'∨a∈aD (ws.drop (i+1)) (cL ws (i+1)) (nxC z c hd) (nxH z hd)
     rw[hce',q4,or_assoc]
   rcases hz4 with rfl|rfl|rfl|rfl
   ·rcases lc with h0|⟨h0,a,ha,hlt|hge⟩
    rotate_left 2
    ·have hL:cL ws i=false:=by
      unfold cL
      rw[qdw]
      rw[ha]
      simp only[qa9]
      omega
     rw[p_eql_f (by show(i:Int)≠0;omega)]
     simp(disch:=omega)only[↓qXX]
     try rw[fP (by omega) (by omega)]
     try simp(disch:=omega)only[↓qXX]
     refine aV (hw' _ hlow) rfl ha ?_
     unfold encS
     refine p_x ?_
     rw[p_lss_f (by show(3:Int)<=(a:Int);omega)]
     refine p_x ?_
     refine bc (hw) ?_
     rw[p_eql_f (by show(i:Int)≠(ws.length:Int);omega)]
     refine p_x ?_
     refine aV (hw' _ hlow) rfl hz ?_
     unfold encS
     refine p_x ?_
     rw[p_eql_t (by rfl)]
     refine p_x ?_
     obtain⟨i1,i2⟩:=vB (h:=h) (cx:=5) (n:=4) d1 rfl
     refine af i1 ?_
     refine cP i2 rfl ?_
     simp(disch:=omega)only[↓qXX]
     try rw[p_add (by omega) (by omega)]
     try simp(disch:=omega)only[↓qXX]
     obtain⟨i3,i4⟩:=vB (h:=h++[HO.o (.cells [.int .i64 1,.int .i64 0,.int .i64 (-1),.int .i64 0] 1 true)]) (cx:=5) (n:=4) d2 rfl
     refine af i3 ?_
     refine cP i4 rfl ?_
     simp(disch:=omega)only[↓qXX]
     try rw[p_add (by omega) (by omega)]
     try simp(disch:=omega)only[↓qXX]
     rw[←d3,←d4]
     rw[aU (by omega)]
     exact hgo _ _ _ (how.app _ |>.app _) hnd hsb (λa=>by rw[hL];simp) (hlow.app _ |>.app _) (by simp;have:=hle;omega)
    all_goals
     have hL:cL ws i=true:=by
      unfold cL
      rw[qdx]
      first
       |exact .inl h0
       |refine .inr ?_
        rw[ha]
        exact hlt
     first
      |rw[p_eql_t (by show((i:Nat):Int)=0;omega)]
       simp(disch:=omega)only[↓qXX]
      |rw[p_eql_f (by show((i:Nat):Int)≠0;omega)]
       simp(disch:=omega)only[↓qXX]
       try rw[fP (by omega) (by omega)]
       try simp(disch:=omega)only[↓qXX]
       refine aV (hw' _ hlow) rfl ha ?_
       unfold encS
       refine p_x ?_
       rw[p_lss_t (by show(a:Int)<3;omega)]
       simp(disch:=omega)only[↓qXX]
     refine bc hw ?_
     rw[aR hlt0]
     refine p_x ?_
     refine aV (hw' _ (hlow.app _)) rfl hz ?_
     unfold encS
     refine p_x ?_
     rw[p_eql_f (by decide)]
     refine p_x ?_
     refine bc hw ?_
     rw[aR hlt0]
     refine p_x ?_
     refine aV (hw' _ (hlow.app _)) rfl hz ?_
     unfold encS
     refine p_x ?_
     rw[p_eql_f (by decide)]
     refine p_x ?_
     refine inn 0 _ _ _ (jk (cx:=5) (l:=bp 0) aH rfl) (bQ _ (qaf _) _ _) ((Low.refl h).app _) (by simp) ?_
     ·intro k v' h' o' hk hI self hs
      refine p_x ?_
      refine bc hI.qs ?_
      have hol:=hlen hI
      by_cases hlt:k<(bp 0).length
      case pos=>
       rw[aR hlt]
       refine p_x ?_
       obtain⟨q,hq⟩:=aY hlt
       have hq4:=tw (qab hq)
       have hk4:k<4:=qbV hlt (by decide)
       refine aV hI.qs rfl hq ?_
       unfold mF
       refine p_x ?_
       have hqq:=hd4 q hq4
       first
        |rw[p_add (show(-9223372036854775808:Int)<=Int.ofNat hd+Int.ofNat q from hqq.1) hqq.2]
        |skip
       rw[show Int.ofNat hd+Int.ofNat q=Int.ofNat (hd+q)from rfl,aU (by omega),show Int.ofNat (hd+q)+1=Int.ofNat (hd+q+1)from rfl,rem4,p_conv8 (by show(0:Int)<=(((hd+q+1)%4:Nat):Int);omega) (by show(((hd+q+1)%4:Nat):Int)<=255;omega)]
       refine am (Go.Am.has_c (hx' _ hI.lo) (by omega) (qc c hd q) ⟨rfl,rfl,rfl⟩) ?_
       refine p_x ?_
       by_cases hDm:qc c hd q∈D
       case neg=>
        rw[qdw hDm]
        simp(disch:=omega)only[↓qXX,qba]
        exact hfail h' hI.lo hI.le ⟨_,hsub q (qab hq) hL,hDm⟩
       rw[qdx hDm]
       simp(disch:=omega)only[↓qXX,qaE]
       refine am (Go.Am.has_c (hI.ow.ls bM) (by omega) (qc c hd q) ⟨rfl,rfl,rfl⟩) ?_
       refine p_x ?_
       by_cases hm:qc c hd q∈o'
       ·rw[qdx hm]
        simp(disch:=omega)only[↓qXX,qaE]
        rw[aU (by omega)]
        exact hs v' h' o' hlt (hI.skip hq hm)
       ·rw[qdw hm]
        simp(disch:=omega)only[↓qXX,qba]
        refine hI.ow.ap1 (a:=qc c hd q) bM hI.le rfl rfl rfl (uN (by omega)) λv'' h'' b1 b2 b3 b4 b5=>?_
        refine p_x ?_
        refine aq b2 ?_
        refine p_x ?_
        rw[aU (by omega)]
        exact hs v'' h'' _ hlt (hI.add hq hm hDm b1 b3 b4 b5)
      have hk':k=(bp 0).length:=by omega
      rw[hk']at hI ⊢
      rw[bi (qaf _)]
      refine p_x ?_
      have hmm:∀a,a∈o'↔a∈out∨(cL ws i=true/\∃q,q∈bp 0/\a=qc c hd q):=λa=>(hI.mm a).trans (or_congr_right (by rw[qbh,hL];simp))
      refine bc (hw) ?_
      rw[p_eql_f (by show(i:Int)≠(ws.length:Int);omega)]
      refine p_x ?_
      refine aV (hw' _ hI.lo) rfl hz ?_
      unfold encS
      refine p_x ?_
      rw[p_eql_t (by rfl)]
      refine p_x ?_
      obtain⟨i1,i2⟩:=vB (h:=h') (cx:=5) (n:=4) d1 rfl
      refine af i1 ?_
      refine cP i2 rfl ?_
      simp(disch:=omega)only[↓qXX]
      try rw[p_add (by omega) (by omega)]
      try simp(disch:=omega)only[↓qXX]
      obtain⟨i3,i4⟩:=vB (h:=h'++[HO.o (.cells [.int .i64 1,.int .i64 0,.int .i64 (-1),.int .i64 0] 1 true)]) (cx:=5) (n:=4) d2 rfl
      refine af i3 ?_
      refine cP i4 rfl ?_
      simp(disch:=omega)only[↓qXX]
      try rw[p_add (by omega) (by omega)]
      try simp(disch:=omega)only[↓qXX]
      rw[←d3,←d4]
      rw[aU (by omega)]
      exact hgo _ _ _ (hI.ow.app _ |>.app _) hI.nd hI.sb hmm (hI.lo.app _ |>.app _) (by simp;have:=hI.le;omega)
   ·rcases lc with h0|⟨h0,a,ha,hlt|hge⟩
    rotate_left 2
    ·have hL:cL ws i=false:=by
      unfold cL
      rw[qdw]
      rw[ha]
      simp only[qa9]
      omega
     rw[p_eql_f (by show(i:Int)≠0;omega)]
     simp(disch:=omega)only[↓qXX]
     try rw[fP (by omega) (by omega)]
     try simp(disch:=omega)only[↓qXX]
     refine aV (hw' _ hlow) rfl ha ?_
     unfold encS
     refine p_x ?_
     rw[p_lss_f (by show(3:Int)<=(a:Int);omega)]
     refine p_x ?_
     refine bc (hw) ?_
     rw[p_eql_f (by show(i:Int)≠(ws.length:Int);omega)]
     refine p_x ?_
     refine aV (hw' _ hlow) rfl hz ?_
     unfold encS
     refine p_x ?_
     rw[p_eql_f (by decide)]
     refine p_x ?_
     rw[p_eql_t (by rfl)]
     simp(disch:=omega)only[↓qXX]
     try rw[p_add (show(-9223372036854775808:Int)<=Int.ofNat hd+2 from(hd4 2 (by omega)).1) (hd4 2 (by omega)).2]
     rw[show Int.ofNat hd+2=Int.ofNat (hd+2)from rfl,rem4]
     refine p_x ?_
     rw[aU (by omega)]
     exact hgo _ _ _ how hnd hsb (λa=>by rw[hL];simp) hlow hle
    all_goals
     have hL:cL ws i=true:=by
      unfold cL
      rw[qdx]
      first
       |exact .inl h0
       |refine .inr ?_
        rw[ha]
        exact hlt
     first
      |rw[p_eql_t (by show((i:Nat):Int)=0;omega)]
       simp(disch:=omega)only[↓qXX]
      |rw[p_eql_f (by show((i:Nat):Int)≠0;omega)]
       simp(disch:=omega)only[↓qXX]
       try rw[fP (by omega) (by omega)]
       try simp(disch:=omega)only[↓qXX]
       refine aV (hw' _ hlow) rfl ha ?_
       unfold encS
       refine p_x ?_
       rw[p_lss_t (by show(a:Int)<3;omega)]
       simp(disch:=omega)only[↓qXX]
     refine bc hw ?_
     rw[aR hlt0]
     refine p_x ?_
     refine aV (hw' _ (hlow.app _)) rfl hz ?_
     unfold encS
     refine p_x ?_
     rw[p_eql_f (by decide)]
     refine p_x ?_
     refine bc hw ?_
     rw[aR hlt0]
     refine p_x ?_
     refine aV (hw' _ (hlow.app _)) rfl hz ?_
     unfold encS
     refine p_x ?_
     rw[p_eql_f (by decide)]
     refine p_x ?_
     refine inn 0 _ _ _ (jk (cx:=5) (l:=bp 0) aH rfl) (bQ _ (qaf _) _ _) ((Low.refl h).app _) (by simp) ?_
     ·intro k v' h' o' hk hI self hs
      refine p_x ?_
      refine bc hI.qs ?_
      have hol:=hlen hI
      by_cases hlt:k<(bp 0).length
      case pos=>
       rw[aR hlt]
       refine p_x ?_
       obtain⟨q,hq⟩:=aY hlt
       have hq4:=tw (qab hq)
       have hk4:k<4:=qbV hlt (by decide)
       refine aV hI.qs rfl hq ?_
       unfold mF
       refine p_x ?_
       have hqq:=hd4 q hq4
       first
        |rw[p_add (show(-9223372036854775808:Int)<=Int.ofNat hd+Int.ofNat q from hqq.1) hqq.2]
        |skip
       rw[show Int.ofNat hd+Int.ofNat q=Int.ofNat (hd+q)from rfl,aU (by omega),show Int.ofNat (hd+q)+1=Int.ofNat (hd+q+1)from rfl,rem4,p_conv8 (by show(0:Int)<=(((hd+q+1)%4:Nat):Int);omega) (by show(((hd+q+1)%4:Nat):Int)<=255;omega)]
       refine am (Go.Am.has_c (hx' _ hI.lo) (by omega) (qc c hd q) ⟨rfl,rfl,rfl⟩) ?_
       refine p_x ?_
       by_cases hDm:qc c hd q∈D
       case neg=>
        rw[qdw hDm]
        simp(disch:=omega)only[↓qXX,qba]
        exact hfail h' hI.lo hI.le ⟨_,hsub q (qab hq) hL,hDm⟩
       rw[qdx hDm]
       simp(disch:=omega)only[↓qXX,qaE]
       refine am (Go.Am.has_c (hI.ow.ls bM) (by omega) (qc c hd q) ⟨rfl,rfl,rfl⟩) ?_
       refine p_x ?_
       by_cases hm:qc c hd q∈o'
       ·rw[qdx hm]
        simp(disch:=omega)only[↓qXX,qaE]
        rw[aU (by omega)]
        exact hs v' h' o' hlt (hI.skip hq hm)
       ·rw[qdw hm]
        simp(disch:=omega)only[↓qXX,qba]
        refine hI.ow.ap1 (a:=qc c hd q) bM hI.le rfl rfl rfl (uN (by omega)) λv'' h'' b1 b2 b3 b4 b5=>?_
        refine p_x ?_
        refine aq b2 ?_
        refine p_x ?_
        rw[aU (by omega)]
        exact hs v'' h'' _ hlt (hI.add hq hm hDm b1 b3 b4 b5)
      have hk':k=(bp 0).length:=by omega
      rw[hk']at hI ⊢
      rw[bi (qaf _)]
      refine p_x ?_
      have hmm:∀a,a∈o'↔a∈out∨(cL ws i=true/\∃q,q∈bp 0/\a=qc c hd q):=λa=>(hI.mm a).trans (or_congr_right (by rw[qbh,hL];simp))
      refine bc (hw) ?_
      rw[p_eql_f (by show(i:Int)≠(ws.length:Int);omega)]
      refine p_x ?_
      refine aV (hw' _ hI.lo) rfl hz ?_
      unfold encS
      refine p_x ?_
      rw[p_eql_f (by decide)]
      refine p_x ?_
      rw[p_eql_t (by rfl)]
      simp(disch:=omega)only[↓qXX]
      try rw[p_add (show(-9223372036854775808:Int)<=Int.ofNat hd+2 from(hd4 2 (by omega)).1) (hd4 2 (by omega)).2]
      rw[show Int.ofNat hd+2=Int.ofNat (hd+2)from rfl,rem4]
      refine p_x ?_
      rw[aU (by omega)]
      exact hgo _ _ _ hI.ow hI.nd hI.sb hmm hI.lo hI.le
   ·rcases lc with h0|⟨h0,a,ha,hlt|hge⟩
    rotate_left 2
    ·have hL:cL ws i=false:=by
      unfold cL
      rw[qdw]
      rw[ha]
      simp only[qa9]
      omega
     rw[p_eql_f (by show(i:Int)≠0;omega)]
     simp(disch:=omega)only[↓qXX]
     try rw[fP (by omega) (by omega)]
     try simp(disch:=omega)only[↓qXX]
     refine aV (hw' _ hlow) rfl ha ?_
     unfold encS
     refine p_x ?_
     rw[p_lss_f (by show(3:Int)<=(a:Int);omega)]
     refine p_x ?_
     refine bc (hw) ?_
     rw[p_eql_f (by show(i:Int)≠(ws.length:Int);omega)]
     refine p_x ?_
     refine aV (hw' _ hlow) rfl hz ?_
     unfold encS
     refine p_x ?_
     rw[p_eql_f (by decide)]
     refine p_x ?_
     rw[p_eql_f (by decide)]
     refine p_x ?_
     rw[p_eql_t (by rfl)]
     simp(disch:=omega)only[↓qXX]
     try rw[p_add (show(-9223372036854775808:Int)<=Int.ofNat hd+1 from(hd4 1 (by omega)).1) (hd4 1 (by omega)).2]
     rw[show Int.ofNat hd+1=Int.ofNat (hd+1)from rfl,rem4]
     refine p_x ?_
     rw[aU (by omega)]
     exact hgo _ _ _ how hnd hsb (λa=>by rw[hL];simp) hlow hle
    all_goals
     have hL:cL ws i=true:=by
      unfold cL
      rw[qdx]
      first
       |exact .inl h0
       |refine .inr ?_
        rw[ha]
        exact hlt
     first
      |rw[p_eql_t (by show((i:Nat):Int)=0;omega)]
       simp(disch:=omega)only[↓qXX]
      |rw[p_eql_f (by show((i:Nat):Int)≠0;omega)]
       simp(disch:=omega)only[↓qXX]
       try rw[fP (by omega) (by omega)]
       try simp(disch:=omega)only[↓qXX]
       refine aV (hw' _ hlow) rfl ha ?_
       unfold encS
       refine p_x ?_
       rw[p_lss_t (by show(a:Int)<3;omega)]
       simp(disch:=omega)only[↓qXX]
     refine bc hw ?_
     rw[aR hlt0]
     refine p_x ?_
     refine aV (hw' _ (hlow.app _)) rfl hz ?_
     unfold encS
     refine p_x ?_
     rw[p_eql_t (by rfl)]
     refine p_x ?_
     refine bc hw ?_
     rw[aR hlt0]
     refine p_x ?_
     refine aV (hw' _ ((hlow.app _).app _)) rfl hz ?_
     unfold encS
     refine p_x ?_
     rw[p_eql_f (by decide)]
     refine p_x ?_
     refine inn 1 _ _ _ (jk (cx:=3) (l:=bp 1) aH rfl) (bQ _ (by simp) _ _) (((Low.refl h).app _).app _) (by simp) ?_
     ·intro k v' h' o' hk hI self hs
      refine p_x ?_
      refine bc hI.qs ?_
      have hol:=hlen hI
      by_cases hlt:k<(bp 1).length
      case pos=>
       rw[aR hlt]
       refine p_x ?_
       obtain⟨q,hq⟩:=aY hlt
       have hq4:=tw (qab hq)
       have hk4:k<4:=qbV hlt (by decide)
       refine aV hI.qs rfl hq ?_
       unfold mF
       refine p_x ?_
       have hqq:=hd4 q hq4
       first
        |rw[p_add (show(-9223372036854775808:Int)<=Int.ofNat hd+Int.ofNat q from hqq.1) hqq.2]
        |skip
       rw[show Int.ofNat hd+Int.ofNat q=Int.ofNat (hd+q)from rfl,aU (by omega),show Int.ofNat (hd+q)+1=Int.ofNat (hd+q+1)from rfl,rem4,p_conv8 (by show(0:Int)<=(((hd+q+1)%4:Nat):Int);omega) (by show(((hd+q+1)%4:Nat):Int)<=255;omega)]
       refine am (Go.Am.has_c (hx' _ hI.lo) (by omega) (qc c hd q) ⟨rfl,rfl,rfl⟩) ?_
       refine p_x ?_
       by_cases hDm:qc c hd q∈D
       case neg=>
        rw[qdw hDm]
        simp(disch:=omega)only[↓qXX,qba]
        exact hfail h' hI.lo hI.le ⟨_,hsub q (qab hq) hL,hDm⟩
       rw[qdx hDm]
       simp(disch:=omega)only[↓qXX,qaE]
       refine am (Go.Am.has_c (hI.ow.ls bM) (by omega) (qc c hd q) ⟨rfl,rfl,rfl⟩) ?_
       refine p_x ?_
       by_cases hm:qc c hd q∈o'
       ·rw[qdx hm]
        simp(disch:=omega)only[↓qXX,qaE]
        rw[aU (by omega)]
        exact hs v' h' o' hlt (hI.skip hq hm)
       ·rw[qdw hm]
        simp(disch:=omega)only[↓qXX,qba]
        refine hI.ow.ap1 (a:=qc c hd q) bM hI.le rfl rfl rfl (uN (by omega)) λv'' h'' b1 b2 b3 b4 b5=>?_
        refine p_x ?_
        refine aq b2 ?_
        refine p_x ?_
        rw[aU (by omega)]
        exact hs v'' h'' _ hlt (hI.add hq hm hDm b1 b3 b4 b5)
      have hk':k=(bp 1).length:=by omega
      rw[hk']at hI ⊢
      rw[bi (qaf _)]
      refine p_x ?_
      have hmm:∀a,a∈o'↔a∈out∨(cL ws i=true/\∃q,q∈bp 1/\a=qc c hd q):=λa=>(hI.mm a).trans (or_congr_right (by rw[qbh,hL];simp))
      refine bc (hw) ?_
      rw[p_eql_f (by show(i:Int)≠(ws.length:Int);omega)]
      refine p_x ?_
      refine aV (hw' _ hI.lo) rfl hz ?_
      unfold encS
      refine p_x ?_
      rw[p_eql_f (by decide)]
      refine p_x ?_
      rw[p_eql_f (by decide)]
      refine p_x ?_
      rw[p_eql_t (by rfl)]
      simp(disch:=omega)only[↓qXX]
      try rw[p_add (show(-9223372036854775808:Int)<=Int.ofNat hd+1 from(hd4 1 (by omega)).1) (hd4 1 (by omega)).2]
      rw[show Int.ofNat hd+1=Int.ofNat (hd+1)from rfl,rem4]
      refine p_x ?_
      rw[aU (by omega)]
      exact hgo _ _ _ hI.ow hI.nd hI.sb hmm hI.lo hI.le
   ·rcases lc with h0|⟨h0,a,ha,hlt|hge⟩
    rotate_left 2
    ·have hL:cL ws i=false:=by
      unfold cL
      rw[qdw]
      rw[ha]
      simp only[qa9]
      omega
     rw[p_eql_f (by show(i:Int)≠0;omega)]
     simp(disch:=omega)only[↓qXX]
     try rw[fP (by omega) (by omega)]
     try simp(disch:=omega)only[↓qXX]
     refine aV (hw' _ hlow) rfl ha ?_
     unfold encS
     refine p_x ?_
     rw[p_lss_f (by show(3:Int)<=(a:Int);omega)]
     refine p_x ?_
     refine bc (hw) ?_
     rw[p_eql_f (by show(i:Int)≠(ws.length:Int);omega)]
     refine p_x ?_
     refine aV (hw' _ hlow) rfl hz ?_
     unfold encS
     refine p_x ?_
     rw[p_eql_f (by decide)]
     refine p_x ?_
     rw[p_eql_f (by decide)]
     refine p_x ?_
     rw[p_eql_f (by decide)]
     simp(disch:=omega)only[↓qXX]
     try rw[p_add (show(-9223372036854775808:Int)<=Int.ofNat hd+3 from(hd4 3 (by omega)).1) (hd4 3 (by omega)).2]
     rw[show Int.ofNat hd+3=Int.ofNat (hd+3)from rfl,rem4]
     refine p_x ?_
     rw[aU (by omega)]
     exact hgo _ _ _ how hnd hsb (λa=>by rw[hL];simp) hlow hle
    all_goals
     have hL:cL ws i=true:=by
      unfold cL
      rw[qdx]
      first
       |exact .inl h0
       |refine .inr ?_
        rw[ha]
        exact hlt
     first
      |rw[p_eql_t (by show((i:Nat):Int)=0;omega)]
       simp(disch:=omega)only[↓qXX]
      |rw[p_eql_f (by show((i:Nat):Int)≠0;omega)]
       simp(disch:=omega)only[↓qXX]
       try rw[fP (by omega) (by omega)]
       try simp(disch:=omega)only[↓qXX]
       refine aV (hw' _ hlow) rfl ha ?_
       unfold encS
       refine p_x ?_
       rw[p_lss_t (by show(a:Int)<3;omega)]
       simp(disch:=omega)only[↓qXX]
     refine bc hw ?_
     rw[aR hlt0]
     refine p_x ?_
     refine aV (hw' _ (hlow.app _)) rfl hz ?_
     unfold encS
     refine p_x ?_
     rw[p_eql_f (by decide)]
     refine p_x ?_
     refine bc hw ?_
     rw[aR hlt0]
     refine p_x ?_
     refine aV (hw' _ (hlow.app _)) rfl hz ?_
     unfold encS
     refine p_x ?_
     rw[p_eql_t (by rfl)]
     refine p_x ?_
     refine inn 2 _ _ _ (jk (cx:=3) (l:=bp 2) aH rfl) (bQ _ (by simp) _ _) (((Low.refl h).app _).app _) (by simp) ?_
     ·intro k v' h' o' hk hI self hs
      refine p_x ?_
      refine bc hI.qs ?_
      have hol:=hlen hI
      by_cases hlt:k<(bp 2).length
      case pos=>
       rw[aR hlt]
       refine p_x ?_
       obtain⟨q,hq⟩:=aY hlt
       have hq4:=tw (qab hq)
       have hk4:k<4:=qbV hlt (by decide)
       refine aV hI.qs rfl hq ?_
       unfold mF
       refine p_x ?_
       have hqq:=hd4 q hq4
       first
        |rw[p_add (show(-9223372036854775808:Int)<=Int.ofNat hd+Int.ofNat q from hqq.1) hqq.2]
        |skip
       rw[show Int.ofNat hd+Int.ofNat q=Int.ofNat (hd+q)from rfl,aU (by omega),show Int.ofNat (hd+q)+1=Int.ofNat (hd+q+1)from rfl,rem4,p_conv8 (by show(0:Int)<=(((hd+q+1)%4:Nat):Int);omega) (by show(((hd+q+1)%4:Nat):Int)<=255;omega)]
       refine am (Go.Am.has_c (hx' _ hI.lo) (by omega) (qc c hd q) ⟨rfl,rfl,rfl⟩) ?_
       refine p_x ?_
       by_cases hDm:qc c hd q∈D
       case neg=>
        rw[qdw hDm]
        simp(disch:=omega)only[↓qXX,qba]
        exact hfail h' hI.lo hI.le ⟨_,hsub q (qab hq) hL,hDm⟩
       rw[qdx hDm]
       simp(disch:=omega)only[↓qXX,qaE]
       refine am (Go.Am.has_c (hI.ow.ls bM) (by omega) (qc c hd q) ⟨rfl,rfl,rfl⟩) ?_
       refine p_x ?_
       by_cases hm:qc c hd q∈o'
       ·rw[qdx hm]
        simp(disch:=omega)only[↓qXX,qaE]
        rw[aU (by omega)]
        exact hs v' h' o' hlt (hI.skip hq hm)
       ·rw[qdw hm]
        simp(disch:=omega)only[↓qXX,qba]
        refine hI.ow.ap1 (a:=qc c hd q) bM hI.le rfl rfl rfl (uN (by omega)) λv'' h'' b1 b2 b3 b4 b5=>?_
        refine p_x ?_
        refine aq b2 ?_
        refine p_x ?_
        rw[aU (by omega)]
        exact hs v'' h'' _ hlt (hI.add hq hm hDm b1 b3 b4 b5)
      have hk':k=(bp 2).length:=by omega
      rw[hk']at hI ⊢
      rw[bi (qaf _)]
      refine p_x ?_
      have hmm:∀a,a∈o'↔a∈out∨(cL ws i=true/\∃q,q∈bp 2/\a=qc c hd q):=λa=>(hI.mm a).trans (or_congr_right (by rw[qbh,hL];simp))
      refine bc (hw) ?_
      rw[p_eql_f (by show(i:Int)≠(ws.length:Int);omega)]
      refine p_x ?_
      refine aV (hw' _ hI.lo) rfl hz ?_
      unfold encS
      refine p_x ?_
      rw[p_eql_f (by decide)]
      refine p_x ?_
      rw[p_eql_f (by decide)]
      refine p_x ?_
      rw[p_eql_f (by decide)]
      simp(disch:=omega)only[↓qXX]
      try rw[p_add (show(-9223372036854775808:Int)<=Int.ofNat hd+3 from(hd4 3 (by omega)).1) (hd4 3 (by omega)).2]
      rw[show Int.ofNat hd+3=Int.ofNat (hd+3)from rfl,rem4]
      refine p_x ?_
      rw[aU (by omega)]
      exact hgo _ _ _ hI.ow hI.nd hI.sb hmm hI.lo hI.le)
 exact⟨h',v,b,out,e1,e2⟩
end St
end Go.Am
namespace Go.Am
open Sx Tw
namespace St
def endR:TA->Bool->Sq->Nat->Sq×Nat×Bool
 | [],laid,p,h=>(p,h,laid)
 |z :: ws,_,p,h=>if z=1 then endR ws true (bes p h) h else if z=2 then endR ws true p ((h+2)%4)else if z=3 then endR ws false p ((h+1)%4)else endR ws false p ((h+3)%4)
def end_app:∀(ws us:TA) (l:Bool) (p:Sq) (h:Nat),endR (ws++us) l p h=endR us (endR ws l p h).2.2 (endR ws l p h).1 (endR ws l p h).2.1
 | [],us,l,p,h=>rfl
 |z :: ws,us,l,p,h=>by
  have ih:=end_app ws us
  show(if z=1 then endR (ws++us) true (bes p h) h else if z=2 then endR (ws++us) true p ((h+2)%4)else if z=3 then endR (ws++us) false p ((h+1)%4)else endR (ws++us) false p ((h+3)%4))=_
  simp only[ih]
  by_cases h1:z=1
  ·simp only[qdy h1,endR]
  ·by_cases h2:z=2
   ·simp only[qdz h1,qdy h2,endR]
   ·by_cases h3:z=3
    ·simp only[qdz h1,qdz h2,qdy h3,endR]
    ·simp only[qdz h1,qdz h2,qdz h3,endR]
def se:∀(ws us:TA) (l:Bool) (p:Sq) (h:Nat),(∀z,us.head? = some z->z<3)->∀a,a∈aD (ws++us) l p h↔a∈aD ws l p h∨a∈aD us (endR ws l p h).2.2 (endR ws l p h).1 (endR ws l p h).2.1
 | [],us,l,p,h,hu,a=>by
  rw[qaS]
  refine⟨.inr,λe=>?_⟩
  rcases e with e|e
  rotate_left
  ·exact e
  match us,hu with
  | [],_=>exact e
  |z :: us,hu=>
   have hz:z<3:=hu z rfl
   unfold aD
   rw[qao]
   left
   rw[qdz (show z≠3 by omega),qdz (show z≠4 by omega)]
   exact e
 |z :: ws,us,l,p,h,hu,a=>by
  rw[qa2]
  have ih:=λl p h=>se ws us l p h hu a
  rw[aD,aD,qao,qao,or_assoc]
  refine or_congr_right ?_
  by_cases h1:z=1
  ·simp only[qdy h1,endR];exact ih _ _ _
  ·by_cases h2:z=2
   ·simp only[qdz h1,qdy h2,endR];exact ih _ _ _
   ·by_cases h3:z=3
    ·simp only[qdz h1,qdz h2,qdy h3,endR];exact ih _ _ _
    ·simp only[qdz h1,qdz h2,qdz h3,endR];exact ih _ _ _
def iR{p:Sq}{h:Nat}{a:K3}:a∈(bp 0).map (qc p h)↔qd p a:=by
 have:=congrFun (cv0 (p:=p) (head:=h) (cov:=λ_=>False)) a
 have h2:Cv p h 0 (λ_=>False) a↔(False∨qd p a):=by rw[this]
 unfold Cv at h2
 simp only[false_or]at h2
 rw[←h2,qaM]
 exact exists_congr λq=>and_congr_right λ_=>eq_comm
def wj{p:Sq}{h t:Nat}{a:K3}(ha:a∈(bp t).map (qc p h)):qd p a:=by
 obtain⟨q,_,rfl⟩:=qaM.1 ha
 exact⟨rfl,qbz _ (by omega)⟩
def way_head(d:Nat):∀z,(wayN d).head? = some z->z<3:=by
 intro z hz
 match d with
 |0=>cases hz;omega
 |1=>cases hz;omega
 |2=>cases hz;omega
 |d+3=>cases hz;omega
def way_cov{p:Sq}{k head:Nat}(hk:k<4)(hh:head<4):endR (wayN ((k+4 - head)%4)) true p head=(bes p k,k,true)/\∀a,a∈aD (wayN ((k+4 - head)%4)) true p head↔qd p a∨qd (bes p k) a:=by
 have hd:(k+4 - head)%4=0∨(k+4 - head)%4=1∨(k+4 - head)%4=2∨(k+4 - head)%4=3:=by omega
 have c1:∀(q:Sq) (h:Nat) (a:K3),a∈aD [] true q h↔qd q a:=λq h a=>iR
 rcases hd with e|e|e|e<;>rw[e]
 ·obtain rfl:head=k:=by omega
  refine⟨rfl,λa=>?_⟩
  show a∈(bp 0).map (qc p head)++aD [] true (bes p head) head↔_
  rw[qao,iR,c1]
 ·have e1:((head+2)%4+3)%4=k:=by omega
  refine⟨by show endR [] true (bes p (((head+2)%4+3)%4)) (((head+2)%4+3)%4)=_;rw[e1];rfl,λa=>?_⟩
  show a∈(bp 0).map (qc p head)++((bp 2).map (qc p ((head+2)%4))++([]++aD [] true (bes p (((head+2)%4+3)%4)) (((head+2)%4+3)%4)))↔_
  rw[e1,qao,qao,qaS,iR,c1]
  constructor
  ·rintro(h|h|h)
   ·exact .inl h
   ·exact .inl (wj h)
   ·exact .inr h
  ·rintro(h|h)
   ·exact .inl h
   ·exact .inr (.inr h)
 ·have e1:(head+2)%4=k:=by omega
  refine⟨by show endR [] true (bes p ((head+2)%4)) ((head+2)%4)=_;rw[e1];rfl,λa=>?_⟩
  show a∈(bp 0).map (qc p head)++((bp 0).map (qc p ((head+2)%4))++aD [] true (bes p ((head+2)%4)) ((head+2)%4))↔_
  rw[e1,qao,qao,iR,iR,c1]
  constructor
  ·rintro(h|h|h)
   ·exact .inl h
   ·exact .inl h
   ·exact .inr h
  ·rintro(h|h)
   ·exact .inl h
   ·exact .inr (.inr h)
 ·have e1:((head+2)%4+1)%4=k:=by omega
  refine⟨by show endR [] true (bes p (((head+2)%4+1)%4)) (((head+2)%4+1)%4)=_;rw[e1];rfl,λa=>?_⟩
  show a∈(bp 0).map (qc p head)++((bp 1).map (qc p ((head+2)%4))++([]++aD [] true (bes p (((head+2)%4+1)%4)) (((head+2)%4+1)%4)))↔_
  rw[e1,qao,qao,qaS,iR,c1]
  constructor
  ·rintro(h|h|h)
   ·exact .inl h
   ·exact .inl (wj h)
   ·exact .inr h
  ·rintro(h|h)
   ·exact .inl h
   ·exact .inr (.inr h)
structure Cvr(c0:Sq)(s:TS)(p:Sq):Prop where
 en:endR s.steps true c0 0=(p,s.head,true)
 cv:∀a,a∈aD s.steps true c0 0↔∃b,(b∈s.been∨b=p)/\qd b a
def CvL(c0:Sq)(s:TS):Prop:=∀a,a∈aD (s.steps.take s.last) true c0 0↔∃b,b∈s.been/\qd b a
def cvr_go{c0 p:Sq}{s:TS}{k:Nat}(hk:k<4)(hh:s.head<4)(hp:p∈s.been)(h:Cvr c0 s p):Cvr c0 (goT s k) (bes p k):=by
 obtain⟨w1,w2⟩:=way_cov (p:=p) hk hh
 refine⟨?_,λa=>?_⟩
 ·show endR (s.steps++wayN _) true c0 0=(bes p k,k,true)
  rw[end_app,h.en,w1]
 ·show a∈aD (s.steps++wayN _) true c0 0↔_
  rw[se _ _ _ _ _ (way_head _),h.en,w2,h.cv]
  constructor
  ·rintro(⟨b,hb,hq⟩|h|h)
   ·refine⟨b,.inl ?_,hq⟩
    rcases hb with hb|rfl
    ·exact hb
    ·exact hp
   ·exact⟨p,.inl hp,h⟩
   ·exact⟨_,.inr rfl,h⟩
  ·rintro⟨b,hb|rfl,hq⟩
   ·exact .inl ⟨b,.inl hb,hq⟩
   ·exact .inr (.inr hq)
def cvl_go{c0:Sq}{s:TS}{k:Nat}(hl:s.last<=s.steps.length)(h:CvL c0 s):CvL c0 (goT s k):=by
 intro a
 show a∈aD ((s.steps++wayN _).take s.last) true c0 0↔_
 rw[qb4 hl]
 exact h a
def cvr_in{c0 d:Sq}{s:TS}(h:Cvr c0 s d):Cvr c0 (inT s d) d/\CvL c0 (inT s d):=by
 have hb:∀a,(∃b,(b∈s.been∨b=d)/\qd b a)↔∃b,b∈s.been++[d]/\qd b a:=λa=>exists_congr λb=>by
  rw[qao,qap]
 refine⟨⟨h.en,λa=>?_⟩,λa=>?_⟩
 ·refine(h.cv a).trans ((hb a).trans (exists_congr λb=>and_congr_left λ_=>⟨.inl,λe=>?_⟩))
  rcases e with e|rfl
  ·exact e
  ·show b∈s.been++[b]
   simp
 ·show a∈aD (s.steps.take s.steps.length) true c0 0↔_
  rw[qbh]
  exact(h.cv a).trans (hb a)
def VCov(L:List Sq)(c0:Sq)(n:Nat)(v:Sq->TS->TS):Prop:=∀d t,Ev L t t->d∈L->d∉t.been->free L t.been<=n->Cvr c0 t d->Cvr c0 (v d t) d/\CvL c0 (v d t)/\d∈(v d t).been/\nmv (v d t).steps+4*t.been.length+4<=nmv t.steps+4*(v d t).been.length
def nmv_way(d:Nat):nmv (wayN d)<=2:=by
 match d with
 |0=>decide
 |1=>decide
 |2=>decide
 |d+3=>show nmv [2,3,1]<=2;decide
def nmv_go{s:TS}{k:Nat}:nmv (goT s k).steps<=nmv s.steps+2:=by
 show nmv (s.steps++wayN _)<=_
 rw[nmv_app]
 have:=nmv_way ((k+4 - s.head)%4)
 omega
def vis_cov(L:List Sq)(c0:Sq):∀n,VCov L c0 n (visT L n)
 |0=>λd t _ hd hn hf _=>by
  have:=jV (L:=L) (b:=t.been) (b':=t.been++[d]) (λx hx=>qaH _ hx) hd hn (qaK _ (by simp))
  omega
 |n+1=>λd t ht hd hn hf hc=>by
  have h1:=in_ev ht hd hn
  have h2:=qJ (s:=t) hd hn
  obtain⟨i1,i2⟩:=cvr_in hc
  have key:∀j,j<=4->Cvr c0 (rnds (visT L n) L d (inT t d) j) d/\CvL c0 (rnds (visT L n) L d (inT t d) j)/\nmv (rnds (visT L n) L d (inT t d) j).steps+4*(inT t d).been.length<=nmv (inT t d).steps+4*(rnds (visT L n) L d (inT t d) j).been.length:=by
   intro j
   induction j with
   |zero=>exact λ_=>⟨i1,i2,qaf _⟩
   |succ j ih=>
    intro hj
    obtain⟨j1,j2,j3⟩:=ih (by omega)
    have e1:=iS (ge L n) (c:=d) h1 (by omega) j (by omega)
    show Cvr c0 (rndT (visT L n) L d (rnds (visT L n) L d (inT t d) j) j) d/\CvL c0 (rndT (visT L n) L d (rnds (visT L n) L d (inT t d) j) j)/\nmv (rndT (visT L n) L d (rnds (visT L n) L d (inT t d) j) j).steps+4*(inT t d).been.length<=nmv (inT t d).steps+4*(rndT (visT L n) L d (rnds (visT L n) L d (inT t d) j) j).been.length
    have hf:free L (rnds (visT L n) L d (inT t d) j).been<=n:=qbj (fo λy hy=>e1.mem hy) (by omega)
    have hdm:d∈(rnds (visT L n) L d (inT t d) j).been:=e1.mem (qaK _ (by simp))
    generalize rnds (visT L n) L d (inT t d) j=u at *
    unfold rndT
    split
    next hc=>
     have e2:=e1.self
     have hj4:j<4:=by omega
     obtain⟨g1,g2,g3,g4,g5,g6⟩:=go_ev e2 hj4
     have hev:Ev L (goT u j) (goT u j):=⟨⟨[],by simp⟩,e2.nd,e2.sub,g6,g3,g4,g5,qaf _⟩
     have hv:=ge L n (bes d j) (goT u j) hev hc.1 hc.2 hf
     obtain⟨v1,v2,v3,v4⟩:=vis_cov L c0 n (bes d j) (goT u j) hev hc.1 hc.2 hf (cvr_go hj4 e2.hd hdm j1)
     have hb:=qb d hj4
     have m1:=nmv_go (s:=u) (k:=j)
     have m2:=nmv_go (s:=visT L n (bes d j) (goT u j)) (k:=(j+2)%4)
     refine⟨?_,cvl_go hv.1.la v2,?_⟩
     ·have:=cvr_go (k:=(j+2)%4) (qbz _ (by omega)) hv.1.hd v3 v1
      rw[hb]at this
      exact this
     ·have e3:(goT (visT L n (bes d j) (goT u j)) ((j+2)%4)).been.length=(visT L n (bes d j) (goT u j)).been.length:=rfl
      have e4:(goT u j).been.length=u.been.length:=rfl
      rw[e3]
      rw[e4]at v4
      omega
    ·exact⟨j1,j2,j3⟩
  obtain⟨k1,k2,k3⟩:=key 4 (by omega)
  have e3:=iS (ge L n) (c:=d) h1 (by omega) 4 (by omega)
  have hb:(inT t d).been.length=t.been.length+1:=by show(t.been++[d]).length=_;simp
  have hs:(inT t d).steps=t.steps:=rfl
  rw[hb,hs]at k3
  refine⟨k1,k2,e3.mem (qaK _ (by simp)),?_⟩
  show nmv (rnds (visT L n) L d (inT t d) 4).steps+4*t.been.length+4<=nmv t.steps+4*(rnds (visT L n) L d (inT t d) 4).been.length
  omega
def top_cov{L:List Sq}{c:Sq}(hc:c∈L)(hL:Con L):(∀a,a∈aD ((topT L c).steps.take (topT L c).last) true c 0↔(a.1,a.2.1)∈L/\a.2.2<4)/\nmv ((topT L c).steps.take (topT L c).last)+4<=4*L.length:=by
 obtain⟨h1,h2,h3,h4⟩:=vis_cov L c (free L []) c ⟨[],[],0,0⟩ ev0 hc (by simp) (qaf _) ⟨rfl,λa=>by
  show a∈aD [] true c 0↔_
  rw[show aD [] true c 0=(bp 0).map (qc c 0)from rfl,iR]
  exact⟨λh=>⟨c,.inr rfl,h⟩,λ⟨b,hb,hq⟩=>by
   rcases hb with hb|rfl
   ·cases hb
   ·exact hq⟩⟩
 have hev:=(ge L (free L []) c ⟨[],[],0,0⟩ ev0 hc (by simp) (qaf _)).1
 have hall:=(top_all hc hL).1
 have hsm:=hev.small
 refine⟨λa=>?_,?_⟩
 ·refine(h2 a).trans ⟨?_,λ⟨q1,q2⟩=>⟨_,hall _ q1,rfl,q2⟩⟩
  rintro⟨b,hb,rfl,hq⟩
  exact⟨hev.sub _ hb,hq⟩
 ·change nmv (topT L c).steps+4*0+4<=0+4*(topT L c).been.length at h4
  change (topT L c).been.length<=L.length at hsm
  have:nmv ((topT L c).steps.take (topT L c).last)<=nmv (topT L c).steps:=((List.take_sublist _ _).filter _).length_le
  omega
end St
end Go.Am
namespace Go.Am
open Sx Go.Proofs
def eqOn(a b:Tp):Bool:=match a,b with
 |none,none=>true
 |some a,some b=>Nat.beq a b
 |_,_=>false
def eqOn_ok{a b:Tp}(h:eqOn a b=true):a=b:=by
 cases a<;>cases b<;>first|rfl|(cases h;done)|exact congrArg some (qad h)
def eqVs(x y:Value):Bool:=match x,y with
 | .slice (some a) n c,.slice (some b) m d=>Nat.beq a.block b.block&&(Nat.beq a.off b.off&&(eqOn a.spot b.spot&&(Nat.beq n m&&Nat.beq c d)))
 | .slice none 0 0,.slice none 0 0=>true
 |_,_=>false
def eqVs_ok{x y:Value}(h:eqVs x y=true):x=y:=by
 unfold eqVs at h
 split at h
 next a n c b m d=>
  simp only[qaa]at h
  obtain⟨h1,h2,h3,h4,h5⟩:=h
  have h1:=qad h1
  have h2:=qad h2
  have h3:=eqOn_ok h3
  have h4:=qad h4
  have h5:=qad h5
  have e:a=b:=by
   cases a;cases b
   simp only at *
   simp_all
  rw[e,h4,h5]
 ·rfl
 ·cases h
def eqLg(x y:Lf):Bool:=match x,y with
 | .v x,.v y=>eqVs x y
 |x,y=>eqLf x y
def eqLg_ok{x y:Lf}(h:eqLg x y=true):x=y:=by
 unfold eqLg at h
 split at h
 ·rw[eqVs_ok h]
 ·exact oI h
def eqLgs:TD->TD->Bool
 | [],[]=>true
 |x :: l,y :: m=>eqLg x y&&eqLgs l m
 |_,_=>false
def vp:∀ {l m:TD},eqLgs l m=true->l=m
 | [],[],_=>rfl
 |x :: l,y :: m,h=>by
  simp only[eqLgs,qaa]at h
  rw[eqLg_ok h.1,vp h.2]
 | [],_ :: _,h=>by cases h
 |_ :: _,[],h=>by cases h
abbrev Bls:=List (Nat×List Value)
def blH(bl:Bls):Ts:=bl.map λb=>.cells b.2 b.1 false
def isBl:Bls->HTr->Nat->Bool
 | [],h,i=>Nat.beq h.n i
 |b :: bl,h,i=>(match h.at i with
  |some (.t n e false c)=>Nat.beq n b.2.length&&(Nat.beq e b.1&&qt c b.2 0)
  |_=>false)&&isBl bl h (i+1)
def isBl_ok:∀ {bl:Bls} {h:HTr} {i:Nat},isBl bl h i=true->h.n=i+bl.length/\∀j (hj:j<bl.length),(toL h)[i+j]?=some (.o (.cells bl[j].2 bl[j].1 false))/\bl[j].2.all flat=true
 | [],h,i,hb=>⟨(qad hb),λj hj=>by simp at hj⟩
 |b :: bl,h,i,hb=>by
  simp only[isBl,qaa]at hb
  obtain⟨h1,h2⟩:=hb
  obtain⟨h3,h4⟩:=isBl_ok h2
  refine⟨by rw[h3];simp;omega,λj hj=>?_⟩
  cases j with
  |succ j=>
   have:=h4 j (by simpa using hj)
   rw[show i+(j+1)=i+1+j by omega]
   simpa using this
  |zero=>
   split at h1
   next n e c hat=>
    simp only[qaa]at h1
    obtain⟨q1,q2,q3⟩:=h1
    have q1:=qad q1
    have q2:=qad q2
    obtain⟨q4,q5⟩:=oG q3
    refine⟨?_,q5⟩
    rw[qcb,iW,hat]
    show some (HO.o (.cells (bT c n) e false))=some (HO.o (.cells b.2 b.1 false))
    subst q1 q2
    have hc:bT c b.2.length=b.2:=by
     apply List.ext_getElem
     ·rw[bf]
     ·intro k hk hk'
      have:=dD c (i:=k) (n:=b.2.length) hk'
      rw[qai hk]at this
      rw[qae this,←q4 k hk',qaL]
    rw[hc]
   ·cases h1
def isBl_abs{T:Tt}{bl:Bls}{h:HTr}(hb:isBl bl h 0=true):absH T (toL h)=blH bl/\h.n=bl.length:=by
 obtain⟨h1,h2⟩:=isBl_ok hb
 refine⟨?_,by rw[h1];omega⟩
 apply qaZ
 intro j
 unfold absH blH
 rw[qax,qax]
 by_cases hj:j<bl.length
 ·have:=(h2 j hj).1
  rw[qaL]at this
  rw[this,qai hj];rfl
 ·rw[qaj (by rw[cU];omega),qaj (by omega)];rfl
structure KR1 where
 f:Nat
 ls:List Lf
 bl:Bls
 rs:List Lf
def qR(l:List KR1)(f:Nat)(ls:TD)(h:HTr):Option (TD):=match l with
 | []=>none
 |p :: l=>match Nat.beq p.f f with
  |false=>qR l f ls h
  |true=>match eqLgs p.ls ls with
   |false=>qR l f ls h
   |true=>match isBl p.bl h 0 with
    |false=>qR l f ls h
    |true=>some p.rs
def sX{f:Nat}{ls rs:TD}{h:HTr}:∀ {l:List KR1},qR l f ls h=some rs->∃p∈l,p.f=f/\p.ls=ls/\isBl p.bl h 0=true/\p.rs=rs
 | [],hh=>by cases hh
 |p :: l,hh=>by
  have rec_:qR l f ls h=some rs->∃p'∈p :: l,p'.f=f/\p'.ls=ls/\isBl p'.bl h 0=true/\p'.rs=rs:=λh1=>by
   obtain⟨q,q1,q2⟩:=sX h1
   exact⟨q,qan _ q1,q2⟩
  unfold qR at hh
  split at hh
  ·exact rec_ hh
  next e1=>
   split at hh
   ·exact rec_ hh
   next e2=>
    split at hh
    ·exact rec_ hh
    next e3=>
     cases hh
     exact⟨p,qaB,qad e1,vp e2,e3,rfl⟩
def hasR(l:List KR1)(f:Nat):Bool:=match l with
 | []=>false
 |p :: l=>match Nat.beq p.f f with
  |true=>true
  |false=>hasR l f
def runKR(l:List KR1)(c:ac):ac:=λck=>match ck with
 | .f f=>match hasR l f with
  |false=>c (.f f)
  |true=>λls h K=>ext h (c (.f f) ls h K) ls .empty λls0 h0=>@Option.rec _ (λ_=>RT) (c (.f f) ls h K) (λrs=>K rs h) (qR l f ls0 h0)
 | .y κ vs i=>c (.y κ vs i)
def KROk(p:KR1):Prop:=∃sg H',ab p.f=some sg/\sg.rs.all SK.plain=true/\neuN p.f=none/\aK cc ab p.f p.ls (blH p.bl) p.rs H'
def AllR(l:List KR1):Prop:=∀p∈l,KROk p
def AllR.nil:AllR []:=λ_ h=>by cases h
def AllR.cons{p:KR1}{l:List KR1}(h:KROk p)(hl:AllR l):AllR (p :: l):=λq hq=>by
 rcases qal.1 hq with rfl|hq
 ·exact h
 ·exact hl q hq
def AllR.app{l m:List KR1}(h:AllR l)(hm:AllR m):AllR (l++m):=λp hp=>by
 rcases qao.1 hp with hp|hp
 ·exact h p hp
 ·exact hm p hp
def runKR_ok{l:List KR1}{c:ac}(hc:Cok c)(hl:AllR l):Cok (runKR l c):=by
 refine⟨λf ls h K w hls hk=>?_,λκ vs i ls h K w st pd xs e hy hk=>hc.y κ vs i ls h K w st pd xs e hy hk⟩
 have hk:(match hasR l f with
  |false=>c (.f f)
  |true=>λls h K=>ext h (c (.f f) ls h K) ls .empty λls0 h0=>@Option.rec _ (λ_=>RT) (c (.f f) ls h K) (λrs=>K rs h) (qR l f ls0 h0)) ls h K=some w:=hk
 cases ef:hasR l f with
 |false=>rw[ef]at hk;exact hc.f f ls h K w hls hk
 |true=>
  rw[ef]at hk
  rcases mL (T:=aa) ls .empty _ id (λj o hj=>by cases hj) hk with h1|⟨ls0,h1,σ,a1,_,_,a4,a5,a6⟩
  ·exact hc.f f ls h K w hls h1
  ·cases e:qR l f ls0 h1 with
   |none=>rw[e]at a1;exact hc.f f ls h K w hls a1
   |some rs=>
    rw[e]at a1
    obtain⟨p,hp,rfl,rfl,q3,rfl⟩:=sX e
    obtain⟨sg,H',s1,s2,s3,s4⟩:=hl p hp
    obtain⟨q4,q5⟩:=isBl_abs (T:=aa) q3
    rw[←q4]at s4
    have key:=tW (N:=neuN) mixed gH s1 s2 s3 (H:=absH aa (toL h)) σ s4 a4 (λx hx=>by
     have:=a6 x hx
     rw[dt,cU]
     exact this)
    rw[a5]at key
    exact⟨_,h,key,a1⟩
def mkBl(bl:Bls):HTr->(HTr->RT)->RT:=@List.rec _ (λ_=>HTr->(HTr->RT)->RT) (λh k=>k h) (λb _ ih h k=>od (.cells b.2 b.1 false) λx=>gN h x λh=>ih h k) bl
def mkBl_ok:∀(bl:Bls) (h:HTr) (k:HTr->RT),∃h',mkBl bl h k=k h'/\absH aa (toL h')=absH aa (toL h)++blH bl
 | [],h,k=>⟨h,rfl,by simp[blH]⟩
 |b :: bl,h,k=>by
  have e:mkBl (b :: bl) h k=od (.cells b.2 b.1 false) λx=>gN h x λh=>mkBl bl h k:=rfl
  obtain⟨x,x1,x2⟩:=gY (o:=.cells b.2 b.1 false) (k:=λx=>gN h x λh=>mkBl bl h k)
  obtain⟨h',a1,a2⟩:=mkBl_ok bl (h.push x) k
  refine⟨h',by rw[e,x2,eX,a1],?_⟩
  rw[a2,eZ,x1]
  simp[absH,absO,blH]
def mW{p:KR1}{g:FB}(hc:Ent p.f g){sg:Sig}(h1:ab p.f=some sg)(h2:sg.rs.all SK.plain=true)(h3:neuN p.f=none)(h4:dj p.ls)(h:(mkBl p.bl .empty λh=>@Option.rec _ (λ_=>RT) none (λrs=>ans (eqLs rs p.rs)) (g p.ls h tell))=yes):KROk p:=by
 obtain⟨h',a1,a2⟩:=mkBl_ok p.bl .empty λh=>@Option.rec _ (λ_=>RT) none (λrs=>ans (eqLs rs p.rs)) (g p.ls h tell)
 rw[a1]at h
 cases e:g p.ls h' tell with
 |none=>rw[e]at h;cases h
 |some rs=>
  rw[e]at h
  have h:ans (eqLs rs p.rs)=yes:=h
  have h:=gV (ans_yes h)
  subst h
  obtain⟨rs',h'',b1,b2⟩:=hc p.ls h' tell _ h4 e
  rw[kN]at b2
  cases b2
  have e0:absH aa (toL HTr.empty)=[]:=rfl
  rw[e0,qaS]at a2
  rw[a2]at b1
  exact⟨sg,_,h1,h2,h3,b1⟩
def known_c{g:Nat}{w:FB}(hc:Ent g w){ls rs:TD}{sg:Sig}(hs:ab g=some sg)(hp:sg.plain=true)(hg:gI ls=true)(h:isAns rs (w ls .empty tell)=true):∀H,aK cc ab g ls H rs H:=by
 cases e:w ls .empty tell with
 |none=>rw[e]at h;cases h
 |some rs'=>
  rw[e]at h
  have h:eqLs rs' rs=true:=h
  rw[gV h]at e
  obtain⟨rs'',h',a1,a2⟩:=hc ls .empty tell _ (cI hg) e
  rw[kN]at a2
  cases a2
  exact rl g sg ls _ _ hs hp a1
end Go.Am
end
